/- Roots of lists, and their peaks: a plain law; no program is named here. -/
import Derived.Test.YtdjmebfjanophaaDoorBase
namespace Go.Proofs.YtdjmebfjanophaaDoor.Root

/-- The greatest power of two that n reaches. -/
def hi (n : Nat) : Nat := 2 ^ n.log2
theorem hi_pos (n : Nat) : 0 < hi n := Nat.pow_pos (by omega)
theorem hi_le (n : Nat) (h : n ≠ 0) : hi n ≤ n := Nat.log2_self_le h
theorem hi_lt (n : Nat) : n < 2 * hi n := by
  have := @Nat.lt_log2_self n
  unfold hi; rw [Nat.pow_succ] at this; omega
/-- The greatest power of two below n. -/
def top (n : Nat) : Nat := hi (n - 1)
theorem hi_unique (n p : Nat) (h1 : 2 ^ p ≤ n) (h2 : n < 2 ^ (p + 1)) : hi n = 2 ^ p := by
  have hn : n ≠ 0 := by have := Nat.pow_pos (n := p) (show 0 < 2 by omega); omega
  unfold hi
  congr 1
  have a1 : p ≤ n.log2 := (Nat.le_log2 hn).2 h1
  have a2 : n.log2 < p + 1 := (Nat.log2_lt hn).2 h2
  omega

section
variable {α : Type} (node : α → α → α) (e : α)
/-- The root over a list. -/
def rootF : Nat → List α → α
  | _, [] => e
  | _, [x] => x
  | 0, x :: _ => x
  | f + 1, l => node (rootF f (l.take (top l.length))) (rootF f (l.drop (top l.length)))
def rootL (l : List α) : α := rootF node e l.length l

theorem rootF_more : ∀ (f g : Nat) (l : List α), l.length ≤ f → l.length ≤ g → rootF node e f l = rootF node e g l
  | 0, g, l, h, _ => by
    have : l = [] := List.eq_nil_of_length_eq_zero (by omega)
    subst this; cases g <;> rfl
  | f + 1, 0, l, _, h => by
    have : l = [] := List.eq_nil_of_length_eq_zero (by omega)
    subst this; rfl
  | f + 1, g + 1, [], _, _ => rfl
  | f + 1, g + 1, [x], _, _ => rfl
  | f + 1, g + 1, x :: y :: l, h1, h2 => by
    have ht : 0 < top (x :: y :: l).length := hi_pos _
    have hl : top (x :: y :: l).length < (x :: y :: l).length := by
      have := hi_le ((x :: y :: l).length - 1) (by simp)
      unfold top; simp at this ⊢; omega
    simp only [rootF]
    generalize top (x :: y :: l).length = t at *
    simp only [List.length_cons] at h1 h2 hl
    rw [rootF_more f g (List.take t _) (by simp only [List.length_take, List.length_cons]; omega) (by simp only [List.length_take, List.length_cons]; omega), rootF_more f g (List.drop t _) (by simp only [List.length_drop, List.length_cons]; omega) (by simp only [List.length_drop, List.length_cons]; omega)]
theorem rootL_nil : rootL node e [] = e := rfl
theorem rootL_one (x : α) : rootL node e [x] = x := rfl
theorem rootL_node (l : List α) (h : 2 ≤ l.length) : rootL node e l = node (rootL node e (l.take (top l.length))) (rootL node e (l.drop (top l.length))) := by
  match l, h with
  | x :: y :: r, h =>
    have ht : 0 < top (x :: y :: r).length := hi_pos _
    have hl : top (x :: y :: r).length < (x :: y :: r).length := by
      have := hi_le ((x :: y :: r).length - 1) (by simp)
      unfold top; simp at this ⊢; omega
    have e1 : rootL node e (x :: y :: r) = node (rootF node e (r.length + 1) ((x :: y :: r).take (top (x :: y :: r).length))) (rootF node e (r.length + 1) ((x :: y :: r).drop (top (x :: y :: r).length))) := rfl
    rw [e1]
    unfold rootL
    generalize top (x :: y :: r).length = t at *
    simp only [List.length_cons] at hl
    rw [rootF_more node e (r.length + 1) _ (List.take t _) (by simp only [List.length_take, List.length_cons]; omega) (Nat.le_refl _), rootF_more node e (r.length + 1) _ (List.drop t _) (by simp only [List.length_drop, List.length_cons]; omega) (Nat.le_refl _)]

/-- The peaks of a list. -/
def pkF : Nat → List α → List α
  | 0, _ => []
  | _, [] => []
  | f + 1, l => rootL node e (l.take (hi l.length)) :: pkF f (l.drop (hi l.length))
def pk (l : List α) : List α := pkF node e l.length l
theorem pkF_more : ∀ (f g : Nat) (l : List α), l.length ≤ f → l.length ≤ g → pkF node e f l = pkF node e g l
  | 0, g, l, h, _ => by
    have : l = [] := List.eq_nil_of_length_eq_zero (by omega)
    subst this; cases g <;> rfl
  | f + 1, 0, l, _, h => by
    have : l = [] := List.eq_nil_of_length_eq_zero (by omega)
    subst this; rfl
  | f + 1, g + 1, [], _, _ => rfl
  | f + 1, g + 1, x :: l, h1, h2 => by
    have ht : 0 < hi (x :: l).length := hi_pos _
    simp only [pkF]
    generalize hi (x :: l).length = t at *
    simp only [List.length_cons] at h1 h2
    rw [pkF_more f g (List.drop t _) (by simp only [List.length_drop, List.length_cons]; omega) (by simp only [List.length_drop, List.length_cons]; omega)]
theorem pk_nil : pk node e [] = [] := rfl
theorem pk_cons (l : List α) (h : 0 < l.length) : pk node e l = rootL node e (l.take (hi l.length)) :: pk node e (l.drop (hi l.length)) := by
  match l, h with
  | x :: r, h =>
    have ht : 0 < hi (x :: r).length := hi_pos _
    have e1 : pk node e (x :: r) = rootL node e ((x :: r).take (hi (x :: r).length)) :: pkF node e r.length ((x :: r).drop (hi (x :: r).length)) := rfl
    rw [e1]
    congr 1
    unfold pk
    generalize hi (x :: r).length = t at *
    exact pkF_more node e _ _ _ (by simp only [List.length_drop, List.length_cons]; omega) (Nat.le_refl _)

/-- The peaks folded from behind. -/
def overL : List α → α
  | [] => e
  | [x] => x
  | x :: r => node x (overL r)
theorem overL_cons (x : α) (r : List α) (h : r ≠ []) : overL node e (x :: r) = node x (overL node e r) := by
  cases r with
  | nil => exact absurd rfl h
  | cons y r => rfl
theorem pk_ne (l : List α) (h : 0 < l.length) : pk node e l ≠ [] := by rw [pk_cons node e l h]; simp
theorem pk_full (l : List α) (h : hi l.length = l.length) : pk node e l = [rootL node e l] := by
  have h0 : 0 < l.length := by rw [← h]; exact hi_pos _
  rw [pk_cons node e l h0, h, List.take_of_length_le (Nat.le_refl _), List.drop_of_length_le (Nat.le_refl _), pk_nil]
theorem top_eq (n : Nat) (h : hi n ≠ n) (h0 : n ≠ 0) : top n = hi n := by
  have h1 := hi_le n h0
  have h2 := hi_lt n
  exact hi_unique (n - 1) n.log2 (by unfold hi at h h1; omega) (by rw [Nat.pow_succ]; unfold hi at h2; omega)
theorem over_pk : ∀ (k : Nat) (l : List α), l.length ≤ k → overL node e (pk node e l) = rootL node e l
  | 0, l, h => by
    have : l = [] := List.eq_nil_of_length_eq_zero (by omega)
    subst this; rfl
  | k + 1, l, h => by
    by_cases hf : hi l.length = l.length
    · rw [pk_full node e l hf]; rfl
    · by_cases h0 : l.length = 0
      · have : l = [] := List.eq_nil_of_length_eq_zero h0
        subst this; rfl
      · have h1 := hi_le l.length h0
        have hp := hi_pos l.length
        rw [pk_cons node e l (by omega), overL_cons node e _ _ (pk_ne node e _ (by simp; omega)), over_pk k _ (by simp; omega), rootL_node node e l (by omega), top_eq _ hf h0]

/-- The last two are put together. -/
def merge1 : List α → List α
  | [] => []
  | [x] => [x]
  | [x, y] => [node x y]
  | x :: y :: z :: r => x :: merge1 (y :: z :: r)
theorem merge1_cons (x : α) (r : List α) (h : 2 ≤ r.length) : merge1 node (x :: r) = x :: merge1 node r := by
  match r, h with
  | y :: z :: r, _ => rfl
theorem merge1_length : ∀ (l : List α), 2 ≤ l.length → (merge1 node l).length = l.length - 1
  | [], h => by simp at h
  | [x], h => by simp at h
  | [x, y], _ => rfl
  | x :: y :: z :: r, _ => by
    have := merge1_length (y :: z :: r) (by simp)
    simp [merge1, this]
def foldT : Nat → List α → List α
  | 0, l => l
  | t + 1, l => foldT t (merge1 node l)
theorem foldT_next : ∀ (t : Nat) (l : List α), foldT node (t + 1) l = merge1 node (foldT node t l)
  | 0, _ => rfl
  | t + 1, l => by rw [foldT, foldT_next t]; rfl
theorem foldT_cons (x : α) : ∀ (t : Nat) (r : List α), t < r.length → foldT node t (x :: r) = x :: foldT node t r
  | 0, _, _ => rfl
  | t + 1, r, h => by
    rw [foldT, merge1_cons node x r (by omega), foldT_cons x t _ (by rw [merge1_length node r (by omega)]; omega)]; rfl
theorem foldT_length : ∀ (t : Nat) (l : List α), t < l.length → (foldT node t l).length = l.length - t
  | 0, _, _ => rfl
  | t + 1, l, h => by rw [foldT, foldT_length t _ (by rw [merge1_length node l (by omega)]; omega), merge1_length node l (by omega)]; omega
end

/-- How many ones a number ends in. -/
def tz1F : Nat → Nat → Nat
  | 0, _ => 0
  | f + 1, n => if n % 2 = 1 then 1 + tz1F f (n / 2) else 0
def tz1 (n : Nat) : Nat := tz1F n n
theorem tz1F_more : ∀ (f g n : Nat), n ≤ f → n ≤ g → tz1F f n = tz1F g n
  | 0, 0, _, _, _ => rfl
  | 0, g + 1, n, h, _ => by
    have : n = 0 := by omega
    subst this; rfl
  | f + 1, 0, n, _, h => by
    have : n = 0 := by omega
    subst this; rfl
  | f + 1, g + 1, n, h1, h2 => by
    simp only [tz1F]
    split
    · rw [tz1F_more f g (n / 2) (by omega) (by omega)]
    · rfl
theorem tz1_odd (n : Nat) (h : n % 2 = 1) : tz1 n = 1 + tz1 (n / 2) := by
  obtain ⟨m, rfl⟩ : ∃ m, n = m + 1 := ⟨n - 1, by omega⟩
  unfold tz1
  rw [tz1F, if_pos h, tz1F_more m ((m + 1) / 2) _ (by omega) (Nat.le_refl _)]
theorem tz1_even (n : Nat) (h : n % 2 = 0) : tz1 n = 0 := by
  unfold tz1
  cases n with
  | zero => rfl
  | succ n => rw [tz1F, if_neg (by omega)]
theorem tz1_add : ∀ (p m : Nat), m + 1 < 2 ^ p → tz1 (2 ^ p + m) = tz1 m
  | 0, m, h => by simp at h
  | p + 1, m, h => by
    rw [Nat.pow_succ] at h ⊢
    rcases Nat.mod_two_eq_zero_or_one m with h0 | h1
    · rw [tz1_even _ (by omega), tz1_even _ h0]
    · rw [tz1_odd _ (by omega), tz1_odd _ h1, show (2 ^ p * 2 + m) / 2 = 2 ^ p + m / 2 by omega, tz1_add p (m / 2) (by omega)]
theorem tz1_full : ∀ p : Nat, tz1 (2 ^ p - 1) = p
  | 0 => rfl
  | p + 1 => by
    have := Nat.pow_pos (n := p) (show 0 < 2 by omega)
    rw [Nat.pow_succ, tz1_odd _ (by omega), show (2 ^ p * 2 - 1) / 2 = 2 ^ p - 1 by omega, tz1_full p]; omega

section
variable {α : Type} (node : α → α → α) (e : α)
theorem push_pk (x : α) : ∀ (k : Nat) (l : List α), l.length ≤ k → foldT node (tz1 l.length) (pk node e l ++ [x]) = pk node e (l ++ [x]) ∧ tz1 l.length ≤ (pk node e l).length
  | 0, l, h => by
    have : l = [] := List.eq_nil_of_length_eq_zero (by omega)
    subst this; exact ⟨rfl, by simp [tz1, tz1F]⟩
  | k + 1, l, h => by
    by_cases h0 : l.length = 0
    · have : l = [] := List.eq_nil_of_length_eq_zero h0
      subst this; exact ⟨rfl, by simp [tz1, tz1F]⟩
    have h1 := hi_le l.length h0
    have h2 := hi_lt l.length
    have hp := hi_pos l.length
    obtain ⟨K, hK⟩ : ∃ K, K = hi l.length := ⟨_, rfl⟩
    obtain ⟨p, hp2⟩ : ∃ p, K = 2 ^ p := ⟨_, hK⟩
    have hpk := pk_cons node e l (by omega)
    rw [← hK] at h1 h2 hp hpk
    have hBl : (l.drop K).length = l.length - K := by simp
    obtain ⟨ih1, ih2⟩ := push_pk x k (l.drop K) (by omega)
    rw [hBl] at ih1 ih2
    have hAl : (l ++ [x]).take K = l.take K := List.take_append_of_le_length h1
    have hDl : (l ++ [x]).drop K = l.drop K ++ [x] := List.drop_append_of_le_length h1
    rw [hpk]
    by_cases hm : l.length - K + 1 < K
    · have hh : hi (l ++ [x]).length = K := by
        rw [hp2]; exact hi_unique _ p (by rw [← hp2]; simp; omega) (by rw [Nat.pow_succ, ← hp2]; simp; omega)
      have ht : tz1 l.length = tz1 (l.length - K) := by
        have := tz1_add p (l.length - K) (by rw [← hp2]; exact hm)
        rw [← hp2, show K + (l.length - K) = l.length by omega] at this
        exact this
      rw [ht, pk_cons node e (l ++ [x]) (by simp), hh, hAl, hDl, ← ih1]
      refine ⟨?_, by simp; omega⟩
      rw [List.cons_append, foldT_cons node _ _ _ (by simp; omega)]
    · have hmK : l.length - K + 1 = K := by omega
      have hln : l.length + 1 = 2 * K := by omega
      have ht : tz1 (l.length - K) = p := by rw [show l.length - K = 2 ^ p - 1 by omega]; exact tz1_full p
      have ht2 : tz1 l.length = p + 1 := by rw [show l.length = 2 ^ (p + 1) - 1 by rw [Nat.pow_succ]; omega]; exact tz1_full (p + 1)
      have hhB : hi (l.drop K ++ [x]).length = (l.drop K ++ [x]).length := by
        have : (l.drop K ++ [x]).length = 2 ^ p := by simp; omega
        rw [this]; exact hi_unique _ p (Nat.le_refl _) (by rw [Nat.pow_succ]; omega)
      have hhl : hi (l ++ [x]).length = (l ++ [x]).length := by
        have : (l ++ [x]).length = 2 ^ (p + 1) := by rw [Nat.pow_succ]; simp; omega
        rw [this]; exact hi_unique _ (p + 1) (Nat.le_refl _) (by rw [Nat.pow_succ, Nat.pow_succ]; have := Nat.pow_pos (n := p) (show 0 < 2 by omega); omega)
      rw [ht] at ih1 ih2
      rw [pk_full node e _ hhB] at ih1
      refine ⟨?_, by simp; omega⟩
      rw [ht2, foldT_next, List.cons_append, foldT_cons node _ _ _ (by simp; omega), ih1, pk_full node e _ hhl]
      have htop : top (l ++ [x]).length = K := by
        have e1 : (l ++ [x]).length - 1 = l.length := by simp
        unfold top
        rw [e1, ← hK]
      rw [rootL_node node e (l ++ [x]) (by simp; omega), htop, hAl, hDl]
      rfl
end
end Go.Proofs.YtdjmebfjanophaaDoor.Root
