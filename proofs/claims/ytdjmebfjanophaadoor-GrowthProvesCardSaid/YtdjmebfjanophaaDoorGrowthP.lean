/- Proofs that one tree is the beginning of another: a plain law; no program is named here. -/
import Derived.Test.YtdjmebfjanophaaDoorPathQ
namespace Go.Proofs.YtdjmebfjanophaaDoor.Growth
open Root Path

/-- The turns, from below: true: to the others, behind the first ones. -/
def wayF : Nat → Nat → Nat → List Bool
  | 0, _, _ => []
  | f + 1, m, n => if m = n then [] else if m ≤ top n then wayF f m (top n) ++ [false] else wayF f (m - top n) (n - top n) ++ [true]
def way (m n : Nat) : List Bool := wayF n m n
theorem wayF_more : ∀ (f g m n : Nat), 1 ≤ m → m ≤ n → n ≤ f → n ≤ g → wayF f m n = wayF g m n
  | 0, _, m, n, _, _, _, _ => by omega
  | _ + 1, 0, m, n, _, _, _, _ => by omega
  | f + 1, g + 1, m, n, h1, h2, h3, h4 => by
    rw [wayF, wayF]
    by_cases e : m = n
    · rw [if_pos e, if_pos e]
    · have hl := top_lt n (by omega)
      have hp := top_pos n
      rw [if_neg e, if_neg e]
      by_cases h : m ≤ top n
      · rw [if_pos h, if_pos h, wayF_more f g m (top n) h1 h (by omega) (by omega)]
      · rw [if_neg h, if_neg h, wayF_more f g (m - top n) (n - top n) (by omega) (by omega) (by omega) (by omega)]
theorem way_same (n : Nat) : way n n = [] := by
  unfold way
  cases n with
  | zero => rfl
  | succ n => rw [wayF, if_pos rfl]
theorem way_left (m n : Nat) (h1 : 1 ≤ m) (hn : m < n) (h : m ≤ top n) : way m n = way m (top n) ++ [false] := by
  have hl := top_lt n (by omega)
  unfold way
  obtain ⟨k, hk⟩ : ∃ k, n = k + 1 := ⟨n - 1, by omega⟩
  have e1 : wayF n m n = wayF (k + 1) m n := by rw [hk]
  rw [e1, wayF, if_neg (by omega), if_pos h, wayF_more k (top n) m (top n) h1 h (by omega) (by omega)]
theorem way_right (m n : Nat) (hn : m < n) (h : top n < m) : way m n = way (m - top n) (n - top n) ++ [true] := by
  have hl := top_lt n (by omega)
  have hp := top_pos n
  unfold way
  obtain ⟨k, hk⟩ : ∃ k, n = k + 1 := ⟨n - 1, by omega⟩
  have e1 : wayF n m n = wayF (k + 1) m n := by rw [hk]
  rw [e1, wayF, if_neg (by omega), if_neg (by omega), wayF_more k (n - top n) (m - top n) (n - top n) (by omega) (by omega) (by omega) (by omega)]
theorem way_length : ∀ (k m n t : Nat), n ≤ k → 1 ≤ m → m ≤ n → n ≤ 2 ^ t → (way m n).length ≤ t
  | 0, m, n, t, _, _, _, _ => by omega
  | k + 1, m, n, t, h, h1, h2, ht => by
    by_cases e : m = n
    · rw [e, way_same]; simp
    · have hl := top_lt n (by omega)
      have hp := top_pos n
      have hle2 := top_le2 n
      cases t with
      | zero => omega
      | succ t =>
        have htop : top n ≤ 2 ^ t := by
          obtain ⟨q, hq⟩ := top_pow n
          rw [hq] at hl ⊢
          apply Nat.pow_le_pow_right (by omega)
          apply Nat.le_of_not_lt
          intro hc
          have := Nat.pow_le_pow_right (show 0 < 2 by omega) hc
          omega
        by_cases hm : m ≤ top n
        · have := way_length k m (top n) t (by omega) h1 hm htop
          rw [way_left m n h1 (by omega) hm, List.length_append, List.length_singleton]; omega
        · have := way_length k (m - top n) (n - top n) t (by omega) (by omega) (by omega) (by omega)
          rw [way_right m n (by omega) (by omega), List.length_append, List.length_singleton]; omega
/-- Is the old tree met whole? -/
def whole (m n : Nat) : Bool := !(way m n).contains true
theorem whole_same (n : Nat) : whole n n = true := by rw [whole, way_same]; rfl
theorem whole_left (m n : Nat) (h1 : 1 ≤ m) (hn : m < n) (h : m ≤ top n) : whole m n = whole m (top n) := by
  rw [whole, way_left m n h1 hn h, whole]; simp
theorem whole_right (m n : Nat) (hn : m < n) (h : top n < m) : whole m n = false := by
  rw [whole, way_right m n hn h]; simp
/-- How many hashes the part of m in n has. -/
def szG (m n : Nat) (old : Bool) : Nat := (way m n).length + if (old && whole m n) = true then 0 else 1
theorem szG_same (n : Nat) (old : Bool) : szG n n old = if old = true then 0 else 1 := by
  rw [szG, way_same, whole_same]; simp
theorem szG_left (m n : Nat) (old : Bool) (h1 : 1 ≤ m) (hn : m < n) (h : m ≤ top n) : szG m n old = szG m (top n) old + 1 := by
  rw [szG, szG, way_left m n h1 hn h, whole_left m n h1 hn h, List.length_append, List.length_singleton]; omega
theorem szG_right (m n : Nat) (old : Bool) (hn : m < n) (h : top n < m) : szG m n old = szG (m - top n) (n - top n) false + 1 := by
  rw [szG, szG, way_right m n hn h, whole_right m n hn h, List.length_append, List.length_singleton]; simp
theorem szG_le (m n : Nat) (old : Bool) (h1 : 1 ≤ m) (h2 : m ≤ n) (hn : n ≤ 18446744073709551616) : szG m n old ≤ 65 := by
  have := way_length n m n 64 (Nat.le_refl _) h1 h2 hn
  unfold szG; split <;> omega

section
variable {α : Type} (node : α → α → α) (e : α)
/-- The part of m in a list of leaves. -/
def partF : Nat → List α → Nat → Bool → List α
  | 0, _, _, _ => []
  | f + 1, l, m, old => if m = l.length then (if old = true then [] else [rootL node e l]) else
    if m ≤ top l.length then partF f (l.take (top l.length)) m old ++ [rootL node e (l.drop (top l.length))] else partF f (l.drop (top l.length)) (m - top l.length) false ++ [rootL node e (l.take (top l.length))]
def part (l : List α) (m : Nat) (old : Bool) : List α := partF node e l.length l m old
theorem partF_more : ∀ (f g : Nat) (l : List α) (m : Nat) (old : Bool), 1 ≤ m → m ≤ l.length → l.length ≤ f → l.length ≤ g → partF node e f l m old = partF node e g l m old
  | 0, _, l, m, _, _, _, _, _ => by omega
  | _ + 1, 0, l, m, _, _, _, _, _ => by omega
  | f + 1, g + 1, l, m, old, h1, h2, h3, h4 => by
    rw [partF, partF]
    by_cases e1 : m = l.length
    · rw [if_pos e1, if_pos e1]
    · have hl := top_lt l.length (by omega)
      have hp := top_pos l.length
      rw [if_neg e1, if_neg e1]
      by_cases h : m ≤ top l.length
      · rw [if_pos h, if_pos h, partF_more f g _ m old h1 (by rw [List.length_take]; omega) (by rw [List.length_take]; omega) (by rw [List.length_take]; omega)]
      · rw [if_neg h, if_neg h, partF_more f g _ _ false (by omega) (by rw [List.length_drop]; omega) (by rw [List.length_drop]; omega) (by rw [List.length_drop]; omega)]
theorem part_same (l : List α) (old : Bool) (h1 : 1 ≤ l.length) : part node e l l.length old = if old = true then [] else [rootL node e l] := by
  unfold part
  obtain ⟨k, hk⟩ : ∃ k, l.length = k + 1 := ⟨l.length - 1, by omega⟩
  have e1 : partF node e l.length l l.length old = partF node e (k + 1) l l.length old := by rw [hk]
  rw [e1, partF, if_pos rfl]
theorem part_left (l : List α) (m : Nat) (old : Bool) (h1 : 1 ≤ m) (hn : m < l.length) (h : m ≤ top l.length) :
    part node e l m old = part node e (l.take (top l.length)) m old ++ [rootL node e (l.drop (top l.length))] := by
  have hl := top_lt l.length (by omega)
  unfold part
  obtain ⟨k, hk⟩ : ∃ k, l.length = k + 1 := ⟨l.length - 1, by omega⟩
  have e1 : partF node e l.length l m old = partF node e (k + 1) l m old := by rw [hk]
  rw [e1, partF, if_neg (by omega), if_pos h, partF_more node e k (l.take (top l.length)).length _ m old h1 (by rw [List.length_take]; omega) (by rw [List.length_take]; omega) (Nat.le_refl _)]
theorem part_right (l : List α) (m : Nat) (old : Bool) (hn : m < l.length) (h : top l.length < m) :
    part node e l m old = part node e (l.drop (top l.length)) (m - top l.length) false ++ [rootL node e (l.take (top l.length))] := by
  have hl := top_lt l.length (by omega)
  have hp := top_pos l.length
  unfold part
  obtain ⟨k, hk⟩ : ∃ k, l.length = k + 1 := ⟨l.length - 1, by omega⟩
  have e1 : partF node e l.length l m old = partF node e (k + 1) l m old := by rw [hk]
  rw [e1, partF, if_neg (by omega), if_neg (by omega), partF_more node e k (l.drop (top l.length)).length _ _ false (by omega) (by rw [List.length_drop]; omega) (by rw [List.length_drop]; omega) (Nat.le_refl _)]
theorem part_length : ∀ (k : Nat) (l : List α) (m : Nat) (old : Bool), l.length ≤ k → 1 ≤ m → m ≤ l.length → (part node e l m old).length = szG m l.length old
  | 0, l, m, _, _, _, _ => by omega
  | k + 1, l, m, old, h, h1, h2 => by
    by_cases e1 : m = l.length
    · subst e1
      rw [part_same node e l old h1, szG_same]; split <;> rfl
    · have hl := top_lt l.length (by omega)
      have hp := top_pos l.length
      by_cases hm : m ≤ top l.length
      · rw [part_left node e l m old h1 (by omega) hm, szG_left m _ old h1 (by omega) hm, List.length_append, part_length k _ m old (by rw [List.length_take]; omega) h1 (by rw [List.length_take]; omega), List.length_take, Nat.min_eq_left (by omega)]
        rfl
      · rw [part_right node e l m old (by omega) (by omega), szG_right m _ old (by omega) (by omega), List.length_append, part_length k _ _ false (by rw [List.length_drop]; omega) (by omega) (by rw [List.length_drop]; omega), List.length_drop]
        rfl

/-- What is shown by turns from below. -/
def runW : List Bool → List α → α × α → α × α
  | [], _, s => s
  | _ :: _, [], s => s
  | true :: w, p :: r, (a, b) => runW w r (node p a, node p b)
  | false :: w, p :: r, (a, b) => runW w r (a, node b p)
theorem runW_snoc : ∀ (w : List Bool) (r : List α) (s : α × α) (t : Bool) (p : α), w.length = r.length → runW node (w ++ [t]) (r ++ [p]) s = if t = true then (node p (runW node w r s).1, node p (runW node w r s).2) else ((runW node w r s).1, node (runW node w r s).2 p)
  | [], [], (a, b), t, p, _ => by cases t <;> rfl
  | true :: w, x :: r, (a, b), t, p, h => by
    simp only [List.length_cons, Nat.add_right_cancel_iff] at h
    simp only [List.cons_append, runW]
    exact runW_snoc w r _ t p h
  | false :: w, x :: r, (a, b), t, p, h => by
    simp only [List.length_cons, Nat.add_right_cancel_iff] at h
    simp only [List.cons_append, runW]
    exact runW_snoc w r _ t p h
  | [], _ :: _, _, _, _, h => by simp at h
  | _ :: _, [], _, _, _, h => by simp at h
/-- What a part of the right length shows. -/
def showG (m n : Nat) (root : α) (old : Bool) (ps : List α) : α × α :=
  if (old && whole m n) = true then runW node (way m n) ps (root, root) else runW node (way m n) (ps.drop 1) (ps.headD root, ps.headD root)
theorem show_same (n : Nat) (root : α) (old : Bool) (ps : List α) : showG node n n root old ps = if old = true then (root, root) else (ps.headD root, ps.headD root) := by
  rw [showG, way_same, whole_same]
  cases old <;> rfl
theorem show_left (m n : Nat) (root : α) (old : Bool) (q : List α) (p : α) (h1 : 1 ≤ m) (hn : m < n) (h : m ≤ top n) (hq : q.length + 1 = szG m n old) :
    showG node m n root old (q ++ [p]) = ((showG node m (top n) root old q).1, node (showG node m (top n) root old q).2 p) := by
  rw [szG_left m n old h1 hn h, szG] at hq
  rw [showG, showG, whole_left m n h1 hn h, way_left m n h1 hn h]
  by_cases hc : (old && whole m (top n)) = true
  · rw [if_pos hc, if_pos hc]
    rw [if_pos hc] at hq
    rw [runW_snoc node _ _ _ _ _ (by omega)]; rfl
  · rw [if_neg hc, if_neg hc]
    rw [if_neg hc] at hq
    match q, hq with
    | [], hq => simp at hq
    | x :: q, hq =>
      simp only [List.length_cons] at hq
      simp only [List.cons_append, List.drop_succ_cons, List.drop_zero, List.headD_cons]
      rw [runW_snoc node _ _ _ _ _ (by omega)]; rfl
theorem show_right (m n : Nat) (root : α) (old : Bool) (q : List α) (p : α) (hn : m < n) (h : top n < m) (hq : q.length + 1 = szG m n old) :
    showG node m n root old (q ++ [p]) = (node p (showG node (m - top n) (n - top n) root false q).1, node p (showG node (m - top n) (n - top n) root false q).2) := by
  rw [szG_right m n old hn h, szG] at hq
  rw [showG, showG, whole_right m n hn h, way_right m n hn h]
  simp only [Bool.and_false, Bool.false_and, Bool.false_eq_true, if_false] at hq ⊢
  match q, hq with
  | [], hq => simp at hq
  | x :: q, hq =>
    simp only [List.length_cons] at hq
    simp only [List.cons_append, List.drop_succ_cons, List.drop_zero, List.headD_cons]
    rw [runW_snoc node _ _ _ _ _ (by omega)]; rfl
theorem top_between (m k n : Nat) (hk : ∃ t, k = 2 ^ t) (h1 : k < m) (h2 : m ≤ n) (h3 : n ≤ 2 * k) : top m = k ∧ top n = k := by
  obtain ⟨t, rfl⟩ := hk
  unfold top
  exact ⟨hi_unique _ t (by omega) (by rw [Nat.pow_succ]; omega), hi_unique _ t (by omega) (by rw [Nat.pow_succ]; omega)⟩
/-- A proof shows the two roots. -/
theorem show_part : ∀ (k : Nat) (l : List α) (m : Nat) (old : Bool) (root : α), l.length ≤ k → 1 ≤ m → m ≤ l.length → (old = true → root = rootL node e (l.take m)) →
    showG node m l.length root old (part node e l m old) = (rootL node e (l.take m), rootL node e l)
  | 0, l, m, _, _, _, _, _, _ => by omega
  | k + 1, l, m, old, root, h, h1, h2, hr => by
    by_cases e1 : m = l.length
    · subst e1
      rw [part_same node e l old h1, show_same, List.take_length]
      rw [List.take_length] at hr
      cases old with
      | true => rw [hr rfl]; rfl
      | false => rfl
    · have hl := top_lt l.length (by omega)
      have hp := top_pos l.length
      have hle2 := top_le2 l.length
      have hlen := part_length node e l.length l m old (Nat.le_refl _) h1 h2
      by_cases hm : m ≤ top l.length
      · have htl : (l.take (top l.length)).length = top l.length := by rw [List.length_take]; omega
        have htt : (l.take (top l.length)).take m = l.take m := by rw [List.take_take, Nat.min_eq_left hm]
        have ih := show_part k (l.take (top l.length)) m old root (by omega) h1 (by omega) (by rw [htt]; exact hr)
        rw [htl, htt] at ih
        rw [part_left node e l m old h1 (by omega) hm] at hlen ⊢
        rw [show_left node m l.length root old _ _ h1 (by omega) hm (by rw [List.length_append] at hlen; exact hlen), ih, ← rootL_node node e l (by omega)]
      · have hdl : (l.drop (top l.length)).length = l.length - top l.length := List.length_drop
        have ih := show_part k (l.drop (top l.length)) (m - top l.length) false root (by omega) (by omega) (by omega) (fun h => by cases h)
        rw [hdl] at ih
        rw [part_right node e l m old (by omega) (by omega)] at hlen ⊢
        rw [show_right node m l.length root old _ _ (by omega) (by omega) (by rw [List.length_append] at hlen; exact hlen), ih, ← rootL_node node e l (by omega)]
        have htm : (l.take m).length = m := by rw [List.length_take]; omega
        have hb := (top_between m (top l.length) l.length (top_pow _) (by omega) (by omega) (by omega)).1
        rw [rootL_node node e (l.take m) (by omega), htm, hb, List.take_take, Nat.min_eq_left (by omega), List.drop_take]
end
end Go.Proofs.YtdjmebfjanophaaDoor.Growth
