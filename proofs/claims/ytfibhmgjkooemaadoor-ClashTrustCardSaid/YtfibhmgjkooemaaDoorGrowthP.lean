/- Roots of lists, and their peaks: a plain law; no program is named here. · How many ones a number has, reckoned by halves: a plain law; no program is named here. · Ways through a tree: sizes, climbs, proofs: a plain law; no program is named here. · Ways through a tree: what the steps of a climb by halves rest on: a plain law; no program is named here. · Proofs that one tree is the beginning of another: a plain law; no program is named here. -/
import Derived.Test.YtfibhmgjkooemaaDoorBase
namespace Go.Proofs.YtfibhmgjkooemaaDoor.Root

/-- The greatest power of two that n reaches. -/
def hi (n : Nat) : Nat := 2 ^ n.log2
theorem hi_pos (n : Nat) : 0 < hi n := Nat.pow_pos (by omega)
theorem hi_le (n : Nat) (h : n ≠ 0) : hi n ≤ n := Nat.log2_self_le h
theorem hi_lt (n : Nat) : n < 2 * hi n := by
  have := @Nat.lt_log2_self n
  unfold hi; rw [Nat.pow_succ] at this; omega
/-- The greatest power of two below n. -/
def top (n : Nat) : Nat := hi (n - 1)
theorem hi_unique (n p : Nat) (h1 : 2 ^ p ≤ n) (h2 : n < 2 ^ (p + 1)) : hi n = 2 ^ p := by
  have hn : n ≠ 0 := by have := Nat.pow_pos (n := p) (show 0 < 2 by omega); omega
  unfold hi
  congr 1
  have a1 : p ≤ n.log2 := (Nat.le_log2 hn).2 h1
  have a2 : n.log2 < p + 1 := (Nat.log2_lt hn).2 h2
  omega

section
variable {α : Type} (node : α → α → α) (e : α)
/-- The root over a list. -/
def rootF : Nat → List α → α
  | _, [] => e
  | _, [x] => x
  | 0, x :: _ => x
  | f + 1, l => node (rootF f (l.take (top l.length))) (rootF f (l.drop (top l.length)))
def rootL (l : List α) : α := rootF node e l.length l

theorem rootF_more : ∀ (f g : Nat) (l : List α), l.length ≤ f → l.length ≤ g → rootF node e f l = rootF node e g l
  | 0, g, l, h, _ => by
    have : l = [] := List.eq_nil_of_length_eq_zero (by omega)
    subst this; cases g <;> rfl
  | f + 1, 0, l, _, h => by
    have : l = [] := List.eq_nil_of_length_eq_zero (by omega)
    subst this; rfl
  | f + 1, g + 1, [], _, _ => rfl
  | f + 1, g + 1, [x], _, _ => rfl
  | f + 1, g + 1, x :: y :: l, h1, h2 => by
    have ht : 0 < top (x :: y :: l).length := hi_pos _
    have hl : top (x :: y :: l).length < (x :: y :: l).length := by
      have := hi_le ((x :: y :: l).length - 1) (by simp)
      unfold top; simp at this ⊢; omega
    simp only [rootF]
    generalize top (x :: y :: l).length = t at *
    simp only [List.length_cons] at h1 h2 hl
    rw [rootF_more f g (List.take t _) (by simp only [List.length_take, List.length_cons]; omega) (by simp only [List.length_take, List.length_cons]; omega), rootF_more f g (List.drop t _) (by simp only [List.length_drop, List.length_cons]; omega) (by simp only [List.length_drop, List.length_cons]; omega)]
theorem rootL_node (l : List α) (h : 2 ≤ l.length) : rootL node e l = node (rootL node e (l.take (top l.length))) (rootL node e (l.drop (top l.length))) := by
  match l, h with
  | x :: y :: r, h =>
    have ht : 0 < top (x :: y :: r).length := hi_pos _
    have hl : top (x :: y :: r).length < (x :: y :: r).length := by
      have := hi_le ((x :: y :: r).length - 1) (by simp)
      unfold top; simp at this ⊢; omega
    have e1 : rootL node e (x :: y :: r) = node (rootF node e (r.length + 1) ((x :: y :: r).take (top (x :: y :: r).length))) (rootF node e (r.length + 1) ((x :: y :: r).drop (top (x :: y :: r).length))) := rfl
    rw [e1]
    unfold rootL
    generalize top (x :: y :: r).length = t at *
    simp only [List.length_cons] at hl
    rw [rootF_more node e (r.length + 1) _ (List.take t _) (by simp only [List.length_take, List.length_cons]; omega) (Nat.le_refl _), rootF_more node e (r.length + 1) _ (List.drop t _) (by simp only [List.length_drop, List.length_cons]; omega) (Nat.le_refl _)]

/-- The peaks of a list. -/
def pkF : Nat → List α → List α
  | 0, _ => []
  | _, [] => []
  | f + 1, l => rootL node e (l.take (hi l.length)) :: pkF f (l.drop (hi l.length))
def pk (l : List α) : List α := pkF node e l.length l
theorem pkF_more : ∀ (f g : Nat) (l : List α), l.length ≤ f → l.length ≤ g → pkF node e f l = pkF node e g l
  | 0, g, l, h, _ => by
    have : l = [] := List.eq_nil_of_length_eq_zero (by omega)
    subst this; cases g <;> rfl
  | f + 1, 0, l, _, h => by
    have : l = [] := List.eq_nil_of_length_eq_zero (by omega)
    subst this; rfl
  | f + 1, g + 1, [], _, _ => rfl
  | f + 1, g + 1, x :: l, h1, h2 => by
    have ht : 0 < hi (x :: l).length := hi_pos _
    simp only [pkF]
    generalize hi (x :: l).length = t at *
    simp only [List.length_cons] at h1 h2
    rw [pkF_more f g (List.drop t _) (by simp only [List.length_drop, List.length_cons]; omega) (by simp only [List.length_drop, List.length_cons]; omega)]
theorem pk_nil : pk node e [] = [] := rfl
theorem pk_cons (l : List α) (h : 0 < l.length) : pk node e l = rootL node e (l.take (hi l.length)) :: pk node e (l.drop (hi l.length)) := by
  match l, h with
  | x :: r, h =>
    have ht : 0 < hi (x :: r).length := hi_pos _
    have e1 : pk node e (x :: r) = rootL node e ((x :: r).take (hi (x :: r).length)) :: pkF node e r.length ((x :: r).drop (hi (x :: r).length)) := rfl
    rw [e1]
    congr 1
    unfold pk
    generalize hi (x :: r).length = t at *
    exact pkF_more node e _ _ _ (by simp only [List.length_drop, List.length_cons]; omega) (Nat.le_refl _)

/-- The peaks folded from behind. -/
def overL : List α → α
  | [] => e
  | [x] => x
  | x :: r => node x (overL r)
theorem overL_cons (x : α) (r : List α) (h : r ≠ []) : overL node e (x :: r) = node x (overL node e r) := by
  cases r with
  | nil => exact absurd rfl h
  | cons y r => rfl
theorem pk_ne (l : List α) (h : 0 < l.length) : pk node e l ≠ [] := by rw [pk_cons node e l h]; simp
theorem pk_full (l : List α) (h : hi l.length = l.length) : pk node e l = [rootL node e l] := by
  have h0 : 0 < l.length := by rw [← h]; exact hi_pos _
  rw [pk_cons node e l h0, h, List.take_of_length_le (Nat.le_refl _), List.drop_of_length_le (Nat.le_refl _), pk_nil]
theorem top_eq (n : Nat) (h : hi n ≠ n) (h0 : n ≠ 0) : top n = hi n := by
  have h1 := hi_le n h0
  have h2 := hi_lt n
  exact hi_unique (n - 1) n.log2 (by unfold hi at h h1; omega) (by rw [Nat.pow_succ]; unfold hi at h2; omega)
theorem over_pk : ∀ (k : Nat) (l : List α), l.length ≤ k → overL node e (pk node e l) = rootL node e l
  | 0, l, h => by
    have : l = [] := List.eq_nil_of_length_eq_zero (by omega)
    subst this; rfl
  | k + 1, l, h => by
    by_cases hf : hi l.length = l.length
    · rw [pk_full node e l hf]; rfl
    · by_cases h0 : l.length = 0
      · have : l = [] := List.eq_nil_of_length_eq_zero h0
        subst this; rfl
      · have h1 := hi_le l.length h0
        have hp := hi_pos l.length
        rw [pk_cons node e l (by omega), overL_cons node e _ _ (pk_ne node e _ (by simp; omega)), over_pk k _ (by simp; omega), rootL_node node e l (by omega), top_eq _ hf h0]

/-- The last two are put together. -/
def merge1 : List α → List α
  | [] => []
  | [x] => [x]
  | [x, y] => [node x y]
  | x :: y :: z :: r => x :: merge1 (y :: z :: r)
theorem merge1_cons (x : α) (r : List α) (h : 2 ≤ r.length) : merge1 node (x :: r) = x :: merge1 node r := by
  match r, h with
  | y :: z :: r, _ => rfl
theorem merge1_length : ∀ (l : List α), 2 ≤ l.length → (merge1 node l).length = l.length - 1
  | [], h => by simp at h
  | [x], h => by simp at h
  | [x, y], _ => rfl
  | x :: y :: z :: r, _ => by
    have := merge1_length (y :: z :: r) (by simp)
    simp [merge1, this]
def foldT : Nat → List α → List α
  | 0, l => l
  | t + 1, l => foldT t (merge1 node l)
theorem foldT_next : ∀ (t : Nat) (l : List α), foldT node (t + 1) l = merge1 node (foldT node t l)
  | 0, _ => rfl
  | t + 1, l => by rw [foldT, foldT_next t]; rfl
theorem foldT_cons (x : α) : ∀ (t : Nat) (r : List α), t < r.length → foldT node t (x :: r) = x :: foldT node t r
  | 0, _, _ => rfl
  | t + 1, r, h => by
    rw [foldT, merge1_cons node x r (by omega), foldT_cons x t _ (by rw [merge1_length node r (by omega)]; omega)]; rfl
theorem foldT_length : ∀ (t : Nat) (l : List α), t < l.length → (foldT node t l).length = l.length - t
  | 0, _, _ => rfl
  | t + 1, l, h => by rw [foldT, foldT_length t _ (by rw [merge1_length node l (by omega)]; omega), merge1_length node l (by omega)]; omega
end

/-- How many ones a number ends in. -/
def tz1F : Nat → Nat → Nat
  | 0, _ => 0
  | f + 1, n => if n % 2 = 1 then 1 + tz1F f (n / 2) else 0
def tz1 (n : Nat) : Nat := tz1F n n
theorem tz1F_more : ∀ (f g n : Nat), n ≤ f → n ≤ g → tz1F f n = tz1F g n
  | 0, 0, _, _, _ => rfl
  | 0, g + 1, n, h, _ => by
    have : n = 0 := by omega
    subst this; rfl
  | f + 1, 0, n, _, h => by
    have : n = 0 := by omega
    subst this; rfl
  | f + 1, g + 1, n, h1, h2 => by
    simp only [tz1F]
    split
    · rw [tz1F_more f g (n / 2) (by omega) (by omega)]
    · rfl
theorem tz1_odd (n : Nat) (h : n % 2 = 1) : tz1 n = 1 + tz1 (n / 2) := by
  obtain ⟨m, rfl⟩ : ∃ m, n = m + 1 := ⟨n - 1, by omega⟩
  unfold tz1
  rw [tz1F, if_pos h, tz1F_more m ((m + 1) / 2) _ (by omega) (Nat.le_refl _)]
theorem tz1_even (n : Nat) (h : n % 2 = 0) : tz1 n = 0 := by
  unfold tz1
  cases n with
  | zero => rfl
  | succ n => rw [tz1F, if_neg (by omega)]
theorem tz1_add : ∀ (p m : Nat), m + 1 < 2 ^ p → tz1 (2 ^ p + m) = tz1 m
  | 0, m, h => by simp at h
  | p + 1, m, h => by
    rw [Nat.pow_succ] at h ⊢
    rcases Nat.mod_two_eq_zero_or_one m with h0 | h1
    · rw [tz1_even _ (by omega), tz1_even _ h0]
    · rw [tz1_odd _ (by omega), tz1_odd _ h1, show (2 ^ p * 2 + m) / 2 = 2 ^ p + m / 2 by omega, tz1_add p (m / 2) (by omega)]
theorem tz1_full : ∀ p : Nat, tz1 (2 ^ p - 1) = p
  | 0 => rfl
  | p + 1 => by
    have := Nat.pow_pos (n := p) (show 0 < 2 by omega)
    rw [Nat.pow_succ, tz1_odd _ (by omega), show (2 ^ p * 2 - 1) / 2 = 2 ^ p - 1 by omega, tz1_full p]; omega

section
variable {α : Type} (node : α → α → α) (e : α)
theorem push_pk (x : α) : ∀ (k : Nat) (l : List α), l.length ≤ k → foldT node (tz1 l.length) (pk node e l ++ [x]) = pk node e (l ++ [x]) ∧ tz1 l.length ≤ (pk node e l).length
  | 0, l, h => by
    have : l = [] := List.eq_nil_of_length_eq_zero (by omega)
    subst this; exact ⟨rfl, by simp [tz1, tz1F]⟩
  | k + 1, l, h => by
    by_cases h0 : l.length = 0
    · have : l = [] := List.eq_nil_of_length_eq_zero h0
      subst this; exact ⟨rfl, by simp [tz1, tz1F]⟩
    have h1 := hi_le l.length h0
    have h2 := hi_lt l.length
    have hp := hi_pos l.length
    obtain ⟨K, hK⟩ : ∃ K, K = hi l.length := ⟨_, rfl⟩
    obtain ⟨p, hp2⟩ : ∃ p, K = 2 ^ p := ⟨_, hK⟩
    have hpk := pk_cons node e l (by omega)
    rw [← hK] at h1 h2 hp hpk
    have hBl : (l.drop K).length = l.length - K := by simp
    obtain ⟨ih1, ih2⟩ := push_pk x k (l.drop K) (by omega)
    rw [hBl] at ih1 ih2
    have hAl : (l ++ [x]).take K = l.take K := List.take_append_of_le_length h1
    have hDl : (l ++ [x]).drop K = l.drop K ++ [x] := List.drop_append_of_le_length h1
    rw [hpk]
    by_cases hm : l.length - K + 1 < K
    · have hh : hi (l ++ [x]).length = K := by
        rw [hp2]; exact hi_unique _ p (by rw [← hp2]; simp; omega) (by rw [Nat.pow_succ, ← hp2]; simp; omega)
      have ht : tz1 l.length = tz1 (l.length - K) := by
        have := tz1_add p (l.length - K) (by rw [← hp2]; exact hm)
        rw [← hp2, show K + (l.length - K) = l.length by omega] at this
        exact this
      rw [ht, pk_cons node e (l ++ [x]) (by simp), hh, hAl, hDl, ← ih1]
      refine ⟨?_, by simp; omega⟩
      rw [List.cons_append, foldT_cons node _ _ _ (by simp; omega)]
    · have hmK : l.length - K + 1 = K := by omega
      have hln : l.length + 1 = 2 * K := by omega
      have ht : tz1 (l.length - K) = p := by rw [show l.length - K = 2 ^ p - 1 by omega]; exact tz1_full p
      have ht2 : tz1 l.length = p + 1 := by rw [show l.length = 2 ^ (p + 1) - 1 by rw [Nat.pow_succ]; omega]; exact tz1_full (p + 1)
      have hhB : hi (l.drop K ++ [x]).length = (l.drop K ++ [x]).length := by
        have : (l.drop K ++ [x]).length = 2 ^ p := by simp; omega
        rw [this]; exact hi_unique _ p (Nat.le_refl _) (by rw [Nat.pow_succ]; omega)
      have hhl : hi (l ++ [x]).length = (l ++ [x]).length := by
        have : (l ++ [x]).length = 2 ^ (p + 1) := by rw [Nat.pow_succ]; simp; omega
        rw [this]; exact hi_unique _ (p + 1) (Nat.le_refl _) (by rw [Nat.pow_succ, Nat.pow_succ]; have := Nat.pow_pos (n := p) (show 0 < 2 by omega); omega)
      rw [ht] at ih1 ih2
      rw [pk_full node e _ hhB] at ih1
      refine ⟨?_, by simp; omega⟩
      rw [ht2, foldT_next, List.cons_append, foldT_cons node _ _ _ (by simp; omega), ih1, pk_full node e _ hhl]
      have htop : top (l ++ [x]).length = K := by
        have e1 : (l ++ [x]).length - 1 = l.length := by simp
        unfold top
        rw [e1, ← hK]
      rw [rootL_node node e (l ++ [x]) (by simp; omega), htop, hAl, hDl]
      rfl
end
end Go.Proofs.YtfibhmgjkooemaaDoor.Root
namespace Go.Proofs.YtfibhmgjkooemaaDoor.Ones

/-- How many ones. -/
def pop : Nat → Nat → Nat
  | 0, _ => 0
  | f + 1, n => n % 2 + pop f (n / 2)
def val : List Nat → Nat
  | [] => 0
  | b :: r => b + 256 * val r
def rep (m : Nat) : Nat → Nat
  | 0 => 0
  | k + 1 => m + 256 * rep m k
theorem and_digit (a b m n : Nat) (hb : b < 256) (hn : n < 256) : (b + 256 * a) &&& (n + 256 * m) = (b &&& n) + 256 * (a &&& m) := by
  apply Nat.eq_of_testBit_eq
  intro i
  have hbn : b &&& n < 2 ^ 8 := Nat.and_lt_two_pow _ hn
  rw [Nat.testBit_and, show b + 256 * a = 2 ^ 8 * a + b by omega, show n + 256 * m = 2 ^ 8 * m + n by omega, show (b &&& n) + 256 * (a &&& m) = 2 ^ 8 * (a &&& m) + (b &&& n) by omega,
    Nat.testBit_two_pow_mul_add _ (show b < 2 ^ 8 from hb), Nat.testBit_two_pow_mul_add _ (show n < 2 ^ 8 from hn), Nat.testBit_two_pow_mul_add _ hbn]
  by_cases h : i < 8
  · simp [h, Nat.testBit_and]
  · simp [h, Nat.testBit_and]
def f1 (b : Nat) : Nat := ((b / 2) &&& 85) + (b &&& 85)
def f2 (b : Nat) : Nat := ((b / 4) &&& 51) + (b &&& 51)
def f3 (b : Nat) : Nat := (b / 16 + b) &&& 15
def p8 (b : Nat) : Nat := b % 2 + (b / 2 % 2 + (b / 4 % 2 + (b / 8 % 2 + (b / 16 % 2 + (b / 32 % 2 + (b / 64 % 2 + b / 128 % 2))))))
theorem c1 : ∀ b : Fin 256, ∀ c : Fin 2, (b.1 / 2 + 128 * c.1) &&& 85 = (b.1 / 2) &&& 85 := by decide +kernel
theorem c2 : ∀ b : Fin 256, ∀ c : Fin 4, (b.1 / 4 + 64 * c.1) &&& 51 = (b.1 / 4) &&& 51 := by decide +kernel
theorem c3 : ∀ b : Fin 256, ∀ c : Fin 5, b.1 % 16 ≤ 4 → b.1 / 16 ≤ 4 → (b.1 / 16 + 16 * c.1 + b.1) &&& 15 = (b.1 / 16 + b.1) &&& 15 := by decide +kernel
theorem l1 : ∀ b : Fin 256, f1 b.1 < 256 ∧ f2 (f1 b.1) < 256 ∧ f2 (f1 b.1) % 16 ≤ 4 ∧ f2 (f1 b.1) / 16 ≤ 4 ∧ f3 (f2 (f1 b.1)) = p8 b.1 ∧ p8 b.1 ≤ 8 := by decide +kernel
theorem step1 : ∀ bs : List Nat, (∀ b ∈ bs, b < 256) → (val bs / 2 &&& rep 85 bs.length) + (val bs &&& rep 85 bs.length) = val (bs.map f1)
  | [], _ => rfl
  | b :: r, h => by
    have hb := h b (by simp)
    have ih := step1 r (fun q hq => h q (by simp [hq]))
    have e1 : (b + 256 * val r) / 2 = (b / 2 + 128 * (val r % 2)) + 256 * (val r / 2) := by omega
    show ((b + 256 * val r) / 2 &&& (85 + 256 * rep 85 r.length)) + ((b + 256 * val r) &&& (85 + 256 * rep 85 r.length)) = f1 b + 256 * val (r.map f1)
    rw [e1, and_digit _ _ _ _ (by omega) (by omega), and_digit _ _ _ _ hb (by omega), show (b / 2 + 128 * (val r % 2)) &&& 85 = (b / 2) &&& 85 from c1 ⟨b, hb⟩ ⟨val r % 2, by omega⟩, ← ih]
    unfold f1; omega
theorem step2 : ∀ bs : List Nat, (∀ b ∈ bs, b < 256) → (val bs / 4 &&& rep 51 bs.length) + (val bs &&& rep 51 bs.length) = val (bs.map f2)
  | [], _ => rfl
  | b :: r, h => by
    have hb := h b (by simp)
    have ih := step2 r (fun q hq => h q (by simp [hq]))
    have e1 : (b + 256 * val r) / 4 = (b / 4 + 64 * (val r % 4)) + 256 * (val r / 4) := by omega
    show ((b + 256 * val r) / 4 &&& (51 + 256 * rep 51 r.length)) + ((b + 256 * val r) &&& (51 + 256 * rep 51 r.length)) = f2 b + 256 * val (r.map f2)
    rw [e1, and_digit _ _ _ _ (by omega) (by omega), and_digit _ _ _ _ hb (by omega), show (b / 4 + 64 * (val r % 4)) &&& 51 = (b / 4) &&& 51 from c2 ⟨b, hb⟩ ⟨val r % 4, by omega⟩, ← ih]
    unfold f2; omega
theorem val_lt : ∀ bs : List Nat, (∀ b ∈ bs, b < 256) → val bs < 256 ^ bs.length
  | [], _ => by simp [val]
  | b :: r, h => by
    have hb := h b (by simp)
    have ih := val_lt r (fun q hq => h q (by simp [hq]))
    rw [List.length_cons, Nat.pow_succ]
    unfold val
    generalize 256 ^ r.length = P at *
    omega
theorem val_half : ∀ bs : List Nat, (∀ b ∈ bs, b < 128) → 2 * val bs < 256 ^ bs.length
  | [], _ => by simp [val]
  | b :: r, h => by
    have hb := h b (by simp)
    have ih := val_half r (fun q hq => h q (by simp [hq]))
    rw [List.length_cons, Nat.pow_succ]
    unfold val
    generalize 256 ^ r.length = P at *
    omega
theorem low4 (r : List Nat) (h : ∀ b ∈ r, b % 16 ≤ 4) : val r % 16 ≤ 4 := by
  cases r with
  | nil => simp [val]
  | cons b r => have := h b (by simp); unfold val; omega
theorem step3 : ∀ bs : List Nat, (∀ b ∈ bs, b < 256 ∧ b % 16 ≤ 4 ∧ b / 16 ≤ 4) → (val bs / 16 + val bs) &&& rep 15 bs.length = val (bs.map f3)
  | [], _ => rfl
  | b :: r, h => by
    obtain ⟨hb, h1, h2⟩ := h b (by simp)
    have ih := step3 r (fun q hq => h q (by simp [hq]))
    have hv := low4 r (fun q hq => (h q (by simp [hq])).2.1)
    have e1 : (b + 256 * val r) / 16 + (b + 256 * val r) = (b / 16 + 16 * (val r % 16) + b) + 256 * (val r / 16 + val r) := by omega
    show ((b + 256 * val r) / 16 + (b + 256 * val r)) &&& (15 + 256 * rep 15 r.length) = f3 b + 256 * val (r.map f3)
    rw [e1, and_digit _ _ _ _ (by omega) (by omega), show (b / 16 + 16 * (val r % 16) + b) &&& 15 = (b / 16 + b) &&& 15 from c3 ⟨b, hb⟩ ⟨val r % 16, by omega⟩ h1 h2, ih]
    rfl
theorem pop8 (f x : Nat) : pop (f + 8) x = p8 (x % 256) + pop f (x / 256) := by
  simp only [pop, p8]
  rw [show x / 2 / 2 / 2 / 2 / 2 / 2 / 2 / 2 = x / 256 by omega]
  generalize pop f (x / 256) = q
  omega

theorem fin8 (c0 c1 c2 c3 c4 c5 c6 c7 T1 T2 T3 T4 T5 T6 A B C : Nat) (h0 : c0 ≤ 8) (h1 : c1 ≤ 8) (h2 : c2 ≤ 8) (h3 : c3 ≤ 8) (h4 : c4 ≤ 8) (h5 : c5 ≤ 8) (h6 : c6 ≤ 8) (h7 : c7 ≤ 8)
    (t6 : T6 = c6 + 256 * c7) (t5 : T5 = c5 + 256 * T6) (t4 : T4 = c4 + 256 * T5) (t3 : T3 = c3 + 256 * T4) (t2 : T2 = c2 + 256 * T3) (t1 : T1 = c1 + 256 * T2) (hA : A = c0 + 256 * T1)
    (hB : B = A + A / 256) (hC : C = B + B / 65536) :
    A < 18446744073709551616 ∧ B < 18446744073709551616 ∧ C < 18446744073709551616 ∧ C + C / 4294967296 < 9223372036854775808 ∧ (C + C / 4294967296) % 128 = c0 + (c1 + (c2 + (c3 + (c4 + (c5 + (c6 + c7)))))) := by
  have b6 : T6 ≤ 2056 := by omega
  have b5 : T5 ≤ 526344 := by omega
  have b4 : T4 ≤ 134744072 := by omega
  have b3 : T3 ≤ 34494482440 := by omega
  have b2 : T2 ≤ 8830587504648 := by omega
  have b1 : T1 ≤ 2260630401189896 := by omega
  have bA : A ≤ 578721382704613384 := by omega
  have d1 : A / 256 = T1 := by clear hB hC t6 t5 t4 t3 t2 t1; omega
  rw [d1] at hB
  have d2 : B / 65536 = T2 + T3 := by clear hC t6 t5 t4 t3 b6 b5 b4 bA d1; subst hB hA t1; subst t2; omega
  rw [d2] at hC
  have e1 : C = (c0 + c1 + c2 + c3) + 256 * (c1 + c2 + c3 + c4) + 65536 * (c2 + c3 + c4 + c5) + 16777216 * (c3 + c4 + c5 + c6) + 4294967296 * (T4 + T5 + T6 + c7) := by
    clear d1 d2 b6 b5 b4 b3 b2 b1 bA h0 h1 h2 h3 h4 h5 h6 h7
    omega
  have d3 : C / 4294967296 = T4 + T5 + T6 + c7 := by
    clear d1 d2 hC hB hA t1 t2 t3 t4 t5 t6 b6 b5 b4 b3 b2 b1 bA; omega
  rw [d3]
  refine ⟨by omega, by omega, ?_, ?_, ?_⟩
  · clear d1 d2 d3 e1 t1 t2 t3 t4 t5 t6; omega
  · clear d1 d2 d3 e1 t1 t2 t3 t4 t5 t6; omega
  · clear d1 d2 d3 hC hB hA t1 t2 t3 b6 b5 b4 b3 b2 b1 bA; omega
/-- The number's ones, step by step. -/
theorem ones64 (x : Nat) (hx : x < 18446744073709551616) : ∃ X1 X2 X3 X4 X5 X6 : Nat,
    (x / 2 &&& 6148914691236517205) + (x &&& 6148914691236517205) = X1 ∧ X1 < 18446744073709551616 ∧
    (X1 / 4 &&& 3689348814741910323) + (X1 &&& 3689348814741910323) = X2 ∧ X2 < 18446744073709551616 ∧
    X2 / 16 + X2 < 18446744073709551616 ∧ ((X2 / 16 + X2) &&& 1085102592571150095) = X3 ∧ X3 + X3 / 256 = X4 ∧ X4 + X4 / 65536 = X5 ∧ X5 + X5 / 4294967296 = X6 ∧ X6 < 9223372036854775808 ∧
    X3 < 18446744073709551616 ∧ X4 < 18446744073709551616 ∧ X5 < 18446744073709551616 ∧ X6 % 128 = pop 64 x := by
  obtain ⟨b0, h0⟩ : ∃ b, b = x % 256 := ⟨_, rfl⟩
  obtain ⟨b1, h1⟩ : ∃ b, b = x / 256 % 256 := ⟨_, rfl⟩
  obtain ⟨b2, h2⟩ : ∃ b, b = x / 65536 % 256 := ⟨_, rfl⟩
  obtain ⟨b3, h3⟩ : ∃ b, b = x / 16777216 % 256 := ⟨_, rfl⟩
  obtain ⟨b4, h4⟩ : ∃ b, b = x / 4294967296 % 256 := ⟨_, rfl⟩
  obtain ⟨b5, h5⟩ : ∃ b, b = x / 1099511627776 % 256 := ⟨_, rfl⟩
  obtain ⟨b6, h6⟩ : ∃ b, b = x / 281474976710656 % 256 := ⟨_, rfl⟩
  obtain ⟨b7, h7⟩ : ∃ b, b = x / 72057594037927936 := ⟨_, rfl⟩
  have hv : x = val [b0, b1, b2, b3, b4, b5, b6, b7] := by simp only [val]; omega
  have hl : ∀ b ∈ [b0, b1, b2, b3, b4, b5, b6, b7], b < 256 := by
    intro b hb
    simp only [List.mem_cons, List.not_mem_nil, or_false] at hb
    rcases hb with rfl | rfl | rfl | rfl | rfl | rfl | rfl | rfl <;> omega
  have hp : pop 64 x = p8 b0 + (p8 b1 + (p8 b2 + (p8 b3 + (p8 b4 + (p8 b5 + (p8 b6 + p8 b7)))))) := by
    rw [show (64 : Nat) = 56 + 8 from rfl, pop8, show (56 : Nat) = 48 + 8 from rfl, pop8, show (48 : Nat) = 40 + 8 from rfl, pop8, show (40 : Nat) = 32 + 8 from rfl, pop8, show (32 : Nat) = 24 + 8 from rfl, pop8, show (24 : Nat) = 16 + 8 from rfl, pop8, show (16 : Nat) = 8 + 8 from rfl, pop8, show (8 : Nat) = 0 + 8 from rfl, pop8]
    rw [show x / 256 / 256 = x / 65536 by omega, show x / 65536 / 256 = x / 16777216 by omega, show x / 16777216 / 256 = x / 4294967296 by omega, show x / 4294967296 / 256 = x / 1099511627776 by omega, show x / 1099511627776 / 256 = x / 281474976710656 by omega, show x / 281474976710656 / 256 = x / 72057594037927936 by omega, show x / 72057594037927936 % 256 = x / 72057594037927936 by omega, ← h0, ← h1, ← h2, ← h3, ← h4, ← h5, ← h6, ← h7]
    simp [pop]
  have s1 := step1 _ hl
  have s2 := step2 ([b0, b1, b2, b3, b4, b5, b6, b7].map f1) (by
    intro b hb
    obtain ⟨q, hq, rfl⟩ := List.mem_map.1 hb
    exact (l1 ⟨q, hl q hq⟩).1)
  have s3 := step3 (([b0, b1, b2, b3, b4, b5, b6, b7].map f1).map f2) (by
    intro b hb
    obtain ⟨q, hq, rfl⟩ := List.mem_map.1 hb
    obtain ⟨q', hq', rfl⟩ := List.mem_map.1 hq
    exact ⟨(l1 ⟨q', hl q' hq'⟩).2.1, (l1 ⟨q', hl q' hq'⟩).2.2.1, (l1 ⟨q', hl q' hq'⟩).2.2.2.1⟩)
  have hc : ((([b0, b1, b2, b3, b4, b5, b6, b7].map f1).map f2).map f3) = [p8 b0, p8 b1, p8 b2, p8 b3, p8 b4, p8 b5, p8 b6, p8 b7] := by
    have e : ∀ b ∈ [b0, b1, b2, b3, b4, b5, b6, b7], f3 (f2 (f1 b)) = p8 b := fun b hb => (l1 ⟨b, hl b hb⟩).2.2.2.2.1
    simp only [List.map_cons, List.map_nil]
    rw [e b0 (by simp), e b1 (by simp), e b2 (by simp), e b3 (by simp), e b4 (by simp), e b5 (by simp), e b6 (by simp), e b7 (by simp)]
  have hle : ∀ b ∈ [b0, b1, b2, b3, b4, b5, b6, b7], p8 b ≤ 8 := fun b hb => (l1 ⟨b, hl b hb⟩).2.2.2.2.2
  have t1 : ∀ b ∈ [b0, b1, b2, b3, b4, b5, b6, b7], f1 b < 256 ∧ f2 (f1 b) < 256 ∧ f2 (f1 b) % 16 ≤ 4 ∧ f2 (f1 b) / 16 ≤ 4 := fun b hb => ⟨(l1 ⟨b, hl b hb⟩).1, (l1 ⟨b, hl b hb⟩).2.1, (l1 ⟨b, hl b hb⟩).2.2.1, (l1 ⟨b, hl b hb⟩).2.2.2.1⟩
  rw [hc] at s3
  rw [← hv] at s1
  have r1 : rep 85 8 = 6148914691236517205 := rfl
  have r2 : rep 51 8 = 3689348814741910323 := rfl
  have r3 : rep 15 8 = 1085102592571150095 := rfl
  simp only [List.length_map, List.length_cons, List.length_nil, Nat.zero_add, Nat.reduceAdd] at s1 s2 s3
  rw [r1] at s1
  rw [r2] at s2
  rw [r3] at s3
  have q0 := hle b0 (by simp)
  have q1 := hle b1 (by simp)
  have q2 := hle b2 (by simp)
  have q3 := hle b3 (by simp)
  have q4 := hle b4 (by simp)
  have q5 := hle b5 (by simp)
  have q6 := hle b6 (by simp)
  have q7 := hle b7 (by simp)
  rw [hp]
  clear hle hc hl hp hv h0 h1 h2 h3 h4 h5 h6 h7 r1 r2 r3
  have w1 := val_lt ([b0, b1, b2, b3, b4, b5, b6, b7].map f1) (fun b hb => by
    obtain ⟨q, hq, rfl⟩ := List.mem_map.1 hb
    exact (t1 q hq).1)
  have w2 := val_half (([b0, b1, b2, b3, b4, b5, b6, b7].map f1).map f2) (fun b hb => by
    obtain ⟨q, hq, rfl⟩ := List.mem_map.1 hb
    obtain ⟨q', hq', rfl⟩ := List.mem_map.1 hq
    have := t1 q' hq'
    omega)
  have w0 : (256 : Nat) ^ 8 = 18446744073709551616 := rfl
  simp only [List.length_map, List.length_cons, List.length_nil, Nat.zero_add, Nat.reduceAdd] at w1 w2
  rw [w0] at w1 w2
  have hf := fin8 (p8 b0) (p8 b1) (p8 b2) (p8 b3) (p8 b4) (p8 b5) (p8 b6) (p8 b7) _ _ _ _ _ _ _ _ _ q0 q1 q2 q3 q4 q5 q6 q7 rfl rfl rfl rfl rfl rfl rfl rfl rfl
  obtain ⟨k3, k4, k5, k6, k7⟩ := hf
  have e3 : val [p8 b0, p8 b1, p8 b2, p8 b3, p8 b4, p8 b5, p8 b6, p8 b7] = p8 b0 + 256 * (p8 b1 + 256 * (p8 b2 + 256 * (p8 b3 + 256 * (p8 b4 + 256 * (p8 b5 + 256 * (p8 b6 + 256 * p8 b7)))))) := rfl
  rw [e3] at s3
  clear q0 q1 q2 q3 q4 q5 q6 q7 e3
  refine ⟨_, _, _, _, _, _, s1, ?_, s2, ?_, ?_, s3, rfl, rfl, rfl, k6, k3, k4, k5, k7⟩
  · exact w1
  · omega
  · omega
end Go.Proofs.YtfibhmgjkooemaaDoor.Ones
namespace Go.Proofs.YtfibhmgjkooemaaDoor.Path
open Root Ones

/-- Up to where two ways are apart. -/
def lw : Nat → Nat → Nat → Nat
  | 0, _, _ => 0
  | f + 1, a, b => if a = b then 0 else 1 + lw f (a / 2) (b / 2)
/-- How long a proof is, of leaf a where b is the last one. -/
def sz : Nat → Nat → Nat → Nat
  | 0, _, _ => 0
  | f + 1, a, b => if a = b then pop (f + 1) a else 1 + sz f (a / 2) (b / 2)

theorem popLt : ∀ f n : Nat, n < 2 ^ f → pop (f + 1) n = pop f n
  | 0, n, h => by
    have : n = 0 := by omega
    subst this; rfl
  | f + 1, n, h => by
    have := popLt f (n / 2) (by rw [Nat.pow_succ] at h; omega)
    rw [pop, this, pop]
theorem popZ : ∀ f : Nat, pop f 0 = 0
  | 0 => rfl
  | f + 1 => by rw [pop, show (0 : Nat) / 2 = 0 from rfl, popZ f]
theorem popLe : ∀ f n : Nat, pop f n ≤ f
  | 0, _ => Nat.le_refl _
  | f + 1, n => by have := popLe f (n / 2); rw [pop]; omega
theorem popFull : ∀ (t f : Nat), t ≤ f → pop f (2 ^ t - 1) = t
  | 0, f, _ => popZ f
  | t + 1, 0, h => by omega
  | t + 1, f + 1, h => by
    have h1 := popFull t f (by omega)
    have h2 := Nat.pow_pos (n := t) (show 0 < 2 by omega)
    rw [pop, Nat.pow_succ, show (2 ^ t * 2 - 1) / 2 = 2 ^ t - 1 by omega, h1]
    omega
theorem popAdd : ∀ (t f m : Nat), t < f → m < 2 ^ t → pop f (2 ^ t + m) = pop f m + 1
  | 0, f + 1, m, _, h => by
    have : m = 0 := by omega
    subst this
    rw [pop, pop, show (2 ^ 0 + 0) / 2 = 0 from rfl, show (2 ^ 0 + 0) % 2 = 1 from rfl]
    omega
  | t + 1, f + 1, m, hf, h => by
    rw [Nat.pow_succ] at h
    have h1 := popAdd t f (m / 2) (by omega) (by omega)
    rw [pop, pop, Nat.pow_succ, show (2 ^ t * 2 + m) / 2 = 2 ^ t + m / 2 by omega, h1]
    omega

theorem lw_eq : ∀ (f a : Nat), lw f a a = 0
  | 0, _ => rfl
  | f + 1, a => by rw [lw, if_pos rfl]
theorem lw_xor : ∀ (f a b : Nat), Lib.bitLenAux f (a ^^^ b) = lw f a b
  | 0, _, _ => rfl
  | f + 1, a, b => by
    rw [Lib.bitLenAux, lw]
    by_cases h : a = b
    · rw [if_pos h, if_pos (by rw [h]; exact Nat.xor_self b)]
    · rw [if_neg h, if_neg (fun e => h (by
        have := congrArg (fun x => x ^^^ b) e
        simpa [Nat.xor_assoc] using this))]
      have : (a ^^^ b) / 2 = a / 2 ^^^ b / 2 := by
        have := Nat.xor_div_two_pow (a := a) (b := b) (n := 1)
        simpa using this
      rw [this, lw_xor f]
theorem sz_lw : ∀ (f a b : Nat), a < 2 ^ f → sz f a b = lw f a b + pop f (a / 2 ^ lw f a b)
  | 0, _, _, _ => rfl
  | f + 1, a, b, h => by
    rw [sz, lw]
    by_cases e : a = b
    · rw [if_pos e, if_pos e, Nat.pow_zero, Nat.div_one, Nat.zero_add]
    · rw [if_neg e, if_neg e, sz_lw f (a / 2) (b / 2) (by rw [Nat.pow_succ] at h; omega), Nat.add_comm 1 (lw f _ _), Nat.pow_succ, Nat.mul_comm, ← Nat.div_div_eq_div_mul]
      rw [popLt f]
      · omega
      · rw [Nat.pow_succ] at h
        exact Nat.lt_of_le_of_lt (Nat.div_le_self _ _) (by omega)
theorem sz_le : ∀ (f a b : Nat), sz f a b ≤ f
  | 0, _, _ => Nat.le_refl _
  | f + 1, a, b => by
    rw [sz]
    split
    · exact popLe _ _
    · have := sz_le f (a / 2) (b / 2); omega
theorem sz_eq (f a : Nat) : sz f a a = pop f a := by
  cases f with
  | zero => rfl
  | succ f => rw [sz, if_pos rfl]
theorem sz_full (f a t : Nat) (_hf : t + 1 ≤ f) (_ha : a < 2 ^ (t + 1)) (f' : Nat) (hf' : f = f' + 1) : sz f a (2 ^ (t + 1) - 1) = 1 + sz f' (a / 2) (2 ^ t - 1) := by
  subst hf'
  have h2 := Nat.pow_pos (n := t) (show 0 < 2 by omega)
  rw [sz]
  by_cases e : a = 2 ^ (t + 1) - 1
  · rw [if_pos e]
    subst e
    rw [popFull _ _ (by omega), Nat.pow_succ, show (2 ^ t * 2 - 1) / 2 = 2 ^ t - 1 by omega, sz_eq, popFull _ _ (by omega)]
    omega
  · rw [if_neg e, Nat.pow_succ, show (2 ^ t * 2 - 1) / 2 = 2 ^ t - 1 by omega]

section
variable {α : Type} (node : α → α → α) (e : α)
/-- A climb. -/
def cl : Nat → Nat → Nat → α → List α → α
  | 0, _, _, h, ps => ps.foldl (fun h p => node p h) h
  | _ + 1, _, _, h, [] => h
  | f + 1, a, b, h, p :: r => if a = b then (p :: r).foldl (fun h p => node p h) h else cl f (a / 2) (b / 2) (if a % 2 = 0 then node h p else node p h) r
theorem cl_nil (f a b : Nat) (h : α) : cl node f a b h [] = h := by
  cases f <;> rfl
theorem cl_eq (f a : Nat) (h : α) (ps : List α) : cl node f a a h ps = ps.foldl (fun h p => node p h) h := by
  cases f with
  | zero => rfl
  | succ f =>
    cases ps with
    | nil => rfl
    | cons p r => rw [cl, if_pos rfl]
theorem cl_ne (f a b : Nat) (h p : α) (r : List α) (hn : a ≠ b) : cl node (f + 1) a b h (p :: r) = cl node f (a / 2) (b / 2) (if a % 2 = 0 then node h p else node p h) r := by
  rw [cl, if_neg hn]

/-- The last hash of a proof, where the leaf lies to the left. -/
theorem sz_left : ∀ (t f a b : Nat), t + 1 ≤ f → a < 2 ^ t → 2 ^ t ≤ b → b < 2 ^ (t + 1) → sz f a b = sz f a (2 ^ t - 1) + 1
  | 0, f + 1, a, b, _, ha, hb, hb2 => by
    have : a = 0 := by omega
    have : b = 1 := by omega
    subst a b
    rw [sz, if_neg (by omega)]
    show 1 + sz f 0 0 = sz (f + 1) 0 0 + 1
    rw [sz_eq, popZ, sz_eq, popZ]
  | t + 1, f + 1, a, b, hf, ha, hb, hb2 => by
    have h1 := sz_left t f (a / 2) (b / 2) (by omega) (by rw [Nat.pow_succ] at ha; omega) (by rw [Nat.pow_succ] at hb; omega) (by rw [Nat.pow_succ] at hb2 ⊢; omega)
    rw [sz, if_neg (by omega), h1, sz_full (f + 1) a t (by omega) ha f rfl]
    omega
theorem cl_left : ∀ (t f a b : Nat) (h p : α) (q : List α), t + 1 ≤ f → a < 2 ^ t → 2 ^ t ≤ b → b < 2 ^ (t + 1) → q.length = sz f a (2 ^ t - 1) →
    cl node f a b h (q ++ [p]) = node (cl node f a (2 ^ t - 1) h q) p
  | 0, f + 1, a, b, h, p, q, _, ha, hb, hb2, hq => by
    have : a = 0 := by omega
    have : b = 1 := by omega
    subst a b
    rw [show 2 ^ 0 - 1 = 0 from rfl, sz_eq, popZ] at hq
    have : q = [] := List.eq_nil_of_length_eq_zero hq
    subst this
    rw [List.nil_append, cl_ne _ _ _ _ _ _ _ (by omega), cl_nil, cl_nil, if_pos rfl]
  | t + 1, f + 1, a, b, h, p, q, hf, ha, hb, hb2, hq => by
    rw [sz_full (f + 1) a t (by omega) ha f rfl] at hq
    match q, hq with
    | [], hq => simp at hq; omega
    | x :: q, hq =>
      have h2 := Nat.pow_pos (n := t) (show 0 < 2 by omega)
      have ih := cl_left t f (a / 2) (b / 2) (if a % 2 = 0 then node h x else node x h) p q (by omega) (by rw [Nat.pow_succ] at ha; omega) (by rw [Nat.pow_succ] at hb; omega) (by rw [Nat.pow_succ] at hb2 ⊢; omega) (by rw [List.length_cons] at hq; omega)
      rw [List.cons_append, cl_ne _ _ _ _ _ _ _ (by omega), ih]
      congr 1
      by_cases e : a = 2 ^ (t + 1) - 1
      · rw [e, cl_eq, Nat.pow_succ, show (2 ^ t * 2 - 1) / 2 = 2 ^ t - 1 by omega, cl_eq, if_neg (by omega)]
        rfl
      · rw [cl_ne _ _ _ _ _ _ _ e]
        congr 1
        rw [Nat.pow_succ]; omega
/-- The last hash of a proof, where the leaf lies to the right. -/
theorem sz_right : ∀ (t f a b : Nat), t + 1 ≤ f → a < 2 ^ t → b < 2 ^ t → sz f (2 ^ t + a) (2 ^ t + b) = sz f a b + 1
  | 0, f + 1, a, b, _, ha, hb => by
    have : a = 0 := by omega
    have : b = 0 := by omega
    subst a b
    rw [sz_eq, sz_eq, popAdd 0 _ _ (by omega) (by omega)]
  | t + 1, f + 1, a, b, hf, ha, hb => by
    by_cases e : a = b
    · rw [e, sz_eq, sz_eq, popAdd _ _ _ (by omega) hb]
    · have h1 := sz_right t f (a / 2) (b / 2) (by omega) (by rw [Nat.pow_succ] at ha; omega) (by rw [Nat.pow_succ] at hb; omega)
      rw [sz, if_neg (by omega), Nat.pow_succ, show (2 ^ t * 2 + a) / 2 = 2 ^ t + a / 2 by omega, show (2 ^ t * 2 + b) / 2 = 2 ^ t + b / 2 by omega, h1, sz, if_neg e]
      omega
theorem cl_right : ∀ (t f a b : Nat) (h p : α) (q : List α), t + 1 ≤ f → a < 2 ^ t → b < 2 ^ t → q.length = sz f a b →
    cl node f (2 ^ t + a) (2 ^ t + b) h (q ++ [p]) = node p (cl node f a b h q)
  | 0, f + 1, a, b, h, p, q, _, ha, hb, hq => by
    have : a = 0 := by omega
    have : b = 0 := by omega
    subst a b
    rw [cl_eq, cl_eq, List.foldl_append]
    rfl
  | t + 1, f + 1, a, b, h, p, q, hf, ha, hb, hq => by
    by_cases e : a = b
    · rw [e, cl_eq, cl_eq, List.foldl_append]
      rfl
    · rw [sz, if_neg e] at hq
      match q, hq with
      | [], hq => simp at hq; omega
      | x :: q, hq =>
        have ih := cl_right t f (a / 2) (b / 2) (if a % 2 = 0 then node h x else node x h) p q (by omega) (by rw [Nat.pow_succ] at ha; omega) (by rw [Nat.pow_succ] at hb; omega) (by rw [List.length_cons] at hq; omega)
        rw [List.cons_append, cl_ne _ _ _ _ _ _ _ (by omega), cl_ne _ _ _ _ _ _ _ e, ← ih]
        rw [Nat.pow_succ, show (2 ^ t * 2 + a) / 2 = 2 ^ t + a / 2 by omega, show (2 ^ t * 2 + b) / 2 = 2 ^ t + b / 2 by omega, show (2 ^ t * 2 + a) % 2 = a % 2 by omega]

/-- The climb by index. -/
def clI (low a : Nat) : Nat → α → List α → α
  | _, h, [] => h
  | k, h, p :: r => clI low a (k + 1) (if k < low ∧ a / 2 ^ k % 2 = 0 then node h p else node p h) r
theorem clI_zero (a : Nat) : ∀ (r : List α) (k : Nat) (h : α), clI node 0 a k h r = r.foldl (fun h p => node p h) h
  | [], _, _ => rfl
  | p :: r, k, h => by rw [clI, if_neg (by omega), clI_zero a r]; rfl
theorem clI_next (low a : Nat) : ∀ (r : List α) (k : Nat) (h : α), clI node (1 + low) a (k + 1) h r = clI node low (a / 2) k h r
  | [], _, _ => rfl
  | p :: r, k, h => by
    rw [clI, clI, clI_next low a r]
    have : (k + 1 < 1 + low ∧ a / 2 ^ (k + 1) % 2 = 0) ↔ (k < low ∧ a / 2 / 2 ^ k % 2 = 0) := by
      rw [Nat.div_div_eq_div_mul, Nat.pow_succ, Nat.mul_comm 2]
      constructor <;> rintro ⟨h1, h2⟩ <;> exact ⟨by omega, h2⟩
    simp only [this]
theorem clI_cl : ∀ (f a b : Nat) (h : α) (ps : List α), clI node (lw f a b) a 0 h ps = cl node f a b h ps
  | 0, a, b, h, ps => clI_zero node a ps 0 h
  | f + 1, a, b, h, ps => by
    by_cases e : a = b
    · rw [e, cl_eq, lw_eq, clI_zero]
    · match ps with
      | [] => rfl
      | p :: r =>
        rw [cl_ne _ _ _ _ _ _ _ e, ← clI_cl f, clI, lw, if_neg e, clI_next]
        simp only [Nat.pow_zero, Nat.div_one]
        have : (0 < 1 + lw f (a / 2) (b / 2) ∧ a % 2 = 0) ↔ (a % 2 = 0) := ⟨fun h => h.2, fun h => ⟨by omega, h⟩⟩
        simp only [this]

/-- One level up. -/
def lvl : List α → List α
  | x :: y :: r => node x y :: lvl r
  | l => l

theorem top_pos (n : Nat) : 0 < top n := hi_pos _
theorem top_lt (n : Nat) (h : 2 ≤ n) : top n < n := by
  have := hi_le (n - 1) (by omega)
  unfold top; omega
theorem top_le2 (n : Nat) : n ≤ 2 * top n := by
  have := hi_lt (n - 1)
  unfold top; omega

end
end Go.Proofs.YtfibhmgjkooemaaDoor.Path
namespace Go.Proofs.YtfibhmgjkooemaaDoor.Path
open Root Ones

theorem sz_zero (f : Nat) : sz f 0 0 = 0 := by rw [sz_eq, popZ]
/-- Size: as the code reckons it. -/
theorem sz_code (a b : Nat) (ha : a < 18446744073709551616) : sz 64 a b = Lib.bitLen (a ^^^ b) + pop 64 (a / 2 ^ Lib.bitLen (a ^^^ b)) := by
  rw [show Lib.bitLen (a ^^^ b) = lw 64 a b from lw_xor 64 a b, sz_lw 64 a b ha]
theorem cl_code {α : Type} (node : α → α → α) (a b : Nat) (h : α) (ps : List α) : cl node 64 a b h ps = clI node (Lib.bitLen (a ^^^ b)) a 0 h ps := by
  rw [show Lib.bitLen (a ^^^ b) = lw 64 a b from lw_xor 64 a b, clI_cl]
theorem top_pow (n : Nat) : ∃ t, top n = 2 ^ t := ⟨_, rfl⟩
theorem top_t (n : Nat) (h2 : 2 ≤ n) (hn : n ≤ 18446744073709551616) : ∃ t, top n = 2 ^ t ∧ t + 1 ≤ 64 := by
  obtain ⟨t, ht⟩ := top_pow n
  refine ⟨t, ht, Nat.lt_of_not_le fun hc => ?_⟩
  have := Nat.pow_le_pow_right (show 0 < 2 by omega) hc
  have := top_lt n h2
  omega
/-- By the greatest power of two below. -/
theorem sz_top (i n : Nat) (h2 : 2 ≤ n) (hn : n ≤ 18446744073709551616) (hi : i < n) :
    sz 64 i (n - 1) = (if i < top n then sz 64 i (top n - 1) else sz 64 (i - top n) (n - top n - 1)) + 1 := by
  obtain ⟨t, ht, hf⟩ := top_t n h2 hn
  have hl := top_lt n h2
  have hle2 := top_le2 n
  by_cases h : i < top n
  · rw [if_pos h, ht]
    exact sz_left t 64 i (n - 1) hf (by omega) (by omega) (by rw [Nat.pow_succ]; omega)
  · rw [if_neg h]
    have hs := sz_right t 64 (i - 2 ^ t) (n - 1 - 2 ^ t) hf (by omega) (by omega)
    rw [show 2 ^ t + (i - 2 ^ t) = i by omega, show 2 ^ t + (n - 1 - 2 ^ t) = n - 1 by omega] at hs
    rw [hs, ht, show n - 2 ^ t - 1 = n - 1 - 2 ^ t by omega]
theorem cl_top {α : Type} (node : α → α → α) (i n : Nat) (h p : α) (q : List α) (h2 : 2 ≤ n) (hn : n ≤ 18446744073709551616) (hi : i < n) (hq : q.length + 1 = sz 64 i (n - 1)) :
    cl node 64 i (n - 1) h (q ++ [p]) = if i < top n then node (cl node 64 i (top n - 1) h q) p else node p (cl node 64 (i - top n) (n - top n - 1) h q) := by
  have hs := sz_top i n h2 hn hi
  obtain ⟨t, ht, hf⟩ := top_t n h2 hn
  have hl := top_lt n h2
  have hle2 := top_le2 n
  by_cases hc : i < top n
  · rw [if_pos hc] at hs ⊢
    rw [ht] at hs ⊢
    exact cl_left node t 64 i (n - 1) h p q hf (by omega) (by omega) (by rw [Nat.pow_succ]; omega) (by omega)
  · rw [if_neg hc] at hs ⊢
    rw [ht, show n - 2 ^ t - 1 = n - 1 - 2 ^ t by omega] at hs ⊢
    have := cl_right node t 64 (i - 2 ^ t) (n - 1 - 2 ^ t) h p q hf (by omega) (by omega) (by omega)
    rw [show 2 ^ t + (i - 2 ^ t) = i by omega, show 2 ^ t + (n - 1 - 2 ^ t) = n - 1 by omega] at this
    exact this
end Go.Proofs.YtfibhmgjkooemaaDoor.Path
namespace Go.Proofs.YtfibhmgjkooemaaDoor.Growth
open Root Path

/-- The turns, from below: true: to the others, behind the first ones. -/
def wayF : Nat → Nat → Nat → List Bool
  | 0, _, _ => []
  | f + 1, m, n => if m = n then [] else if m ≤ top n then wayF f m (top n) ++ [false] else wayF f (m - top n) (n - top n) ++ [true]
def way (m n : Nat) : List Bool := wayF n m n
theorem wayF_more : ∀ (f g m n : Nat), 1 ≤ m → m ≤ n → n ≤ f → n ≤ g → wayF f m n = wayF g m n
  | 0, _, m, n, _, _, _, _ => by omega
  | _ + 1, 0, m, n, _, _, _, _ => by omega
  | f + 1, g + 1, m, n, h1, h2, h3, h4 => by
    rw [wayF, wayF]
    by_cases e : m = n
    · rw [if_pos e, if_pos e]
    · have hl := top_lt n (by omega)
      have hp := top_pos n
      rw [if_neg e, if_neg e]
      by_cases h : m ≤ top n
      · rw [if_pos h, if_pos h, wayF_more f g m (top n) h1 h (by omega) (by omega)]
      · rw [if_neg h, if_neg h, wayF_more f g (m - top n) (n - top n) (by omega) (by omega) (by omega) (by omega)]
theorem way_same (n : Nat) : way n n = [] := by
  unfold way
  cases n with
  | zero => rfl
  | succ n => rw [wayF, if_pos rfl]
theorem way_left (m n : Nat) (h1 : 1 ≤ m) (hn : m < n) (h : m ≤ top n) : way m n = way m (top n) ++ [false] := by
  have hl := top_lt n (by omega)
  unfold way
  obtain ⟨k, hk⟩ : ∃ k, n = k + 1 := ⟨n - 1, by omega⟩
  have e1 : wayF n m n = wayF (k + 1) m n := by rw [hk]
  rw [e1, wayF, if_neg (by omega), if_pos h, wayF_more k (top n) m (top n) h1 h (by omega) (by omega)]
theorem way_right (m n : Nat) (hn : m < n) (h : top n < m) : way m n = way (m - top n) (n - top n) ++ [true] := by
  have hl := top_lt n (by omega)
  have hp := top_pos n
  unfold way
  obtain ⟨k, hk⟩ : ∃ k, n = k + 1 := ⟨n - 1, by omega⟩
  have e1 : wayF n m n = wayF (k + 1) m n := by rw [hk]
  rw [e1, wayF, if_neg (by omega), if_neg (by omega), wayF_more k (n - top n) (m - top n) (n - top n) (by omega) (by omega) (by omega) (by omega)]
theorem way_length : ∀ (k m n t : Nat), n ≤ k → 1 ≤ m → m ≤ n → n ≤ 2 ^ t → (way m n).length ≤ t
  | 0, m, n, t, _, _, _, _ => by omega
  | k + 1, m, n, t, h, h1, h2, ht => by
    by_cases e : m = n
    · rw [e, way_same]; simp
    · have hl := top_lt n (by omega)
      have hp := top_pos n
      have hle2 := top_le2 n
      cases t with
      | zero => omega
      | succ t =>
        have htop : top n ≤ 2 ^ t := by
          obtain ⟨q, hq⟩ := top_pow n
          rw [hq] at hl ⊢
          apply Nat.pow_le_pow_right (by omega)
          apply Nat.le_of_not_lt
          intro hc
          have := Nat.pow_le_pow_right (show 0 < 2 by omega) hc
          omega
        by_cases hm : m ≤ top n
        · have := way_length k m (top n) t (by omega) h1 hm htop
          rw [way_left m n h1 (by omega) hm, List.length_append, List.length_singleton]; omega
        · have := way_length k (m - top n) (n - top n) t (by omega) (by omega) (by omega) (by omega)
          rw [way_right m n (by omega) (by omega), List.length_append, List.length_singleton]; omega
/-- Is the old tree met whole? -/
def whole (m n : Nat) : Bool := !(way m n).contains true
theorem whole_same (n : Nat) : whole n n = true := by rw [whole, way_same]; rfl
theorem whole_left (m n : Nat) (h1 : 1 ≤ m) (hn : m < n) (h : m ≤ top n) : whole m n = whole m (top n) := by
  rw [whole, way_left m n h1 hn h, whole]; simp
theorem whole_right (m n : Nat) (hn : m < n) (h : top n < m) : whole m n = false := by
  rw [whole, way_right m n hn h]; simp
/-- How many hashes the part of m in n has. -/
def szG (m n : Nat) (old : Bool) : Nat := (way m n).length + if (old && whole m n) = true then 0 else 1
theorem szG_same (n : Nat) (old : Bool) : szG n n old = if old = true then 0 else 1 := by
  rw [szG, way_same, whole_same]; simp
theorem szG_left (m n : Nat) (old : Bool) (h1 : 1 ≤ m) (hn : m < n) (h : m ≤ top n) : szG m n old = szG m (top n) old + 1 := by
  rw [szG, szG, way_left m n h1 hn h, whole_left m n h1 hn h, List.length_append, List.length_singleton]; omega
theorem szG_right (m n : Nat) (old : Bool) (hn : m < n) (h : top n < m) : szG m n old = szG (m - top n) (n - top n) false + 1 := by
  rw [szG, szG, way_right m n hn h, whole_right m n hn h, List.length_append, List.length_singleton]; simp
theorem szG_le (m n : Nat) (old : Bool) (h1 : 1 ≤ m) (h2 : m ≤ n) (hn : n ≤ 18446744073709551616) : szG m n old ≤ 65 := by
  have := way_length n m n 64 (Nat.le_refl _) h1 h2 hn
  unfold szG; split <;> omega

section
variable {α : Type} (node : α → α → α) (e : α)
/-- The part of m in a list of leaves. -/
def partF : Nat → List α → Nat → Bool → List α
  | 0, _, _, _ => []
  | f + 1, l, m, old => if m = l.length then (if old = true then [] else [rootL node e l]) else
    if m ≤ top l.length then partF f (l.take (top l.length)) m old ++ [rootL node e (l.drop (top l.length))] else partF f (l.drop (top l.length)) (m - top l.length) false ++ [rootL node e (l.take (top l.length))]
def part (l : List α) (m : Nat) (old : Bool) : List α := partF node e l.length l m old

/-- What is shown by turns from below. -/
def runW : List Bool → List α → α × α → α × α
  | [], _, s => s
  | _ :: _, [], s => s
  | true :: w, p :: r, (a, b) => runW w r (node p a, node p b)
  | false :: w, p :: r, (a, b) => runW w r (a, node b p)
theorem runW_snoc : ∀ (w : List Bool) (r : List α) (s : α × α) (t : Bool) (p : α), w.length = r.length → runW node (w ++ [t]) (r ++ [p]) s = if t = true then (node p (runW node w r s).1, node p (runW node w r s).2) else ((runW node w r s).1, node (runW node w r s).2 p)
  | [], [], (a, b), t, p, _ => by cases t <;> rfl
  | true :: w, x :: r, (a, b), t, p, h => by
    simp only [List.length_cons, Nat.add_right_cancel_iff] at h
    simp only [List.cons_append, runW]
    exact runW_snoc w r _ t p h
  | false :: w, x :: r, (a, b), t, p, h => by
    simp only [List.length_cons, Nat.add_right_cancel_iff] at h
    simp only [List.cons_append, runW]
    exact runW_snoc w r _ t p h
  | [], _ :: _, _, _, _, h => by simp at h
  | _ :: _, [], _, _, _, h => by simp at h
/-- What a part of the right length shows. -/
def showG (m n : Nat) (root : α) (old : Bool) (ps : List α) : α × α :=
  if (old && whole m n) = true then runW node (way m n) ps (root, root) else runW node (way m n) (ps.drop 1) (ps.headD root, ps.headD root)
theorem show_same (n : Nat) (root : α) (old : Bool) (ps : List α) : showG node n n root old ps = if old = true then (root, root) else (ps.headD root, ps.headD root) := by
  rw [showG, way_same, whole_same]
  cases old <;> rfl
theorem show_left (m n : Nat) (root : α) (old : Bool) (q : List α) (p : α) (h1 : 1 ≤ m) (hn : m < n) (h : m ≤ top n) (hq : q.length + 1 = szG m n old) :
    showG node m n root old (q ++ [p]) = ((showG node m (top n) root old q).1, node (showG node m (top n) root old q).2 p) := by
  rw [szG_left m n old h1 hn h, szG] at hq
  rw [showG, showG, whole_left m n h1 hn h, way_left m n h1 hn h]
  by_cases hc : (old && whole m (top n)) = true
  · rw [if_pos hc, if_pos hc]
    rw [if_pos hc] at hq
    rw [runW_snoc node _ _ _ _ _ (by omega)]; rfl
  · rw [if_neg hc, if_neg hc]
    rw [if_neg hc] at hq
    match q, hq with
    | [], hq => simp at hq
    | x :: q, hq =>
      simp only [List.length_cons] at hq
      simp only [List.cons_append, List.drop_succ_cons, List.drop_zero, List.headD_cons]
      rw [runW_snoc node _ _ _ _ _ (by omega)]; rfl
theorem show_right (m n : Nat) (root : α) (old : Bool) (q : List α) (p : α) (hn : m < n) (h : top n < m) (hq : q.length + 1 = szG m n old) :
    showG node m n root old (q ++ [p]) = (node p (showG node (m - top n) (n - top n) root false q).1, node p (showG node (m - top n) (n - top n) root false q).2) := by
  rw [szG_right m n old hn h, szG] at hq
  rw [showG, showG, whole_right m n hn h, way_right m n hn h]
  simp only [Bool.and_false, Bool.false_and, Bool.false_eq_true, if_false] at hq ⊢
  match q, hq with
  | [], hq => simp at hq
  | x :: q, hq =>
    simp only [List.length_cons] at hq
    simp only [List.cons_append, List.drop_succ_cons, List.drop_zero, List.headD_cons]
    rw [runW_snoc node _ _ _ _ _ (by omega)]; rfl
theorem top_between (m k n : Nat) (hk : ∃ t, k = 2 ^ t) (h1 : k < m) (h2 : m ≤ n) (h3 : n ≤ 2 * k) : top m = k ∧ top n = k := by
  obtain ⟨t, rfl⟩ := hk
  unfold top
  exact ⟨hi_unique _ t (by omega) (by rw [Nat.pow_succ]; omega), hi_unique _ t (by omega) (by rw [Nat.pow_succ]; omega)⟩
end
end Go.Proofs.YtfibhmgjkooemaaDoor.Growth
