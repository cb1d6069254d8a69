/- Where two trees over lists of texts differ: a plain law; no program is named here. -/
import Derived.Test.YtfibhmgjkooemaaDoorGrowthP
namespace Go.Proofs.YtfibhmgjkooemaaDoor.Clash
open Root Path Growth

section
variable (H : List UInt8 → List UInt8)
def nd (l r : List UInt8) : List UInt8 := H (1 :: (l ++ r))
def lf (x : List UInt8) : List UInt8 := H (0 :: x)
/-- The root over texts. -/
def rt (l : List (List UInt8)) : List UInt8 := rootL (nd H) (H []) (l.map (lf H))
def txN (l : List (List UInt8)) : List UInt8 := 1 :: (rt H (l.take (top l.length)) ++ rt H (l.drop (top l.length)))
/-- What was hashed for the root over texts. -/
def tx (l : List (List UInt8)) : List UInt8 := if l.length = 1 then 0 :: l.headD [] else txN H l
theorem tx_one (x : List UInt8) : tx H [x] = 0 :: x := rfl
theorem tx_more (l : List (List UInt8)) (h : 2 ≤ l.length) : tx H l = txN H l := if_neg (by omega)
theorem rt_one (x : List UInt8) : rt H [x] = H (0 :: x) := rfl
theorem rt_more (l : List (List UInt8)) (h : 2 ≤ l.length) : rt H l = nd H (rt H (l.take (top l.length))) (rt H (l.drop (top l.length))) := by
  unfold rt
  rw [rootL_node _ _ _ (by simpa using h), List.length_map, ← List.map_take, ← List.map_drop]
theorem rt_tx (l : List (List UInt8)) (h : 0 < l.length) : rt H l = H (tx H l) := by
  match l, h with
  | [x], _ => rfl
  | x :: y :: r, _ => rw [tx_more _ _ (by simp), rt_more _ _ (by simp)]; rfl
theorem rt_32 (hH : ∀ t, (H t).length = 32) (l : List (List UInt8)) : (rt H l).length = 32 := by
  cases l with
  | nil => exact hH _
  | cons x r => rw [rt_tx _ _ (by simp)]; exact hH _
theorem tx_length (hH : ∀ t, (H t).length = 32) (l : List (List UInt8)) (h : 2 ≤ l.length) : (tx H l).length = 65 := by
  rw [tx_more _ _ h, txN]; simp [rt_32 H hH]

/-- The first place on the way down where two trees are unlike. -/
def meetF : Nat → List (List UInt8) → List (List UInt8) → Option (List UInt8 × List UInt8)
  | 0, _, _ => none
  | f + 1, a, b => if a.length = 0 then none else if tx H a ≠ tx H b then some (tx H a, tx H b) else if a.length = 1 then none else
    match meetF f (a.take (top a.length)) (b.take (top b.length)) with
    | some p => some p
    | none => meetF f (a.drop (top a.length)) (b.drop (top b.length))
theorem meet_nil (f : Nat) (b : List (List UInt8)) : meetF H f [] b = none := by cases f <;> rfl
theorem meet_at (f : Nat) (a b : List (List UInt8)) (h0 : 0 < a.length) (h : tx H a ≠ tx H b) : meetF H (f + 1) a b = some (tx H a, tx H b) := by
  rw [meetF, if_neg (by omega), if_pos h]
theorem meet_one (f : Nat) (a b : List (List UInt8)) (h0 : a.length = 1) (h : tx H a = tx H b) : meetF H (f + 1) a b = none := by
  rw [meetF, if_neg (by omega), if_neg (by simp [h]), if_pos h0]
theorem meet_left (f : Nat) (a b : List (List UInt8)) (h0 : 2 ≤ a.length) (h : tx H a = tx H b) (p : List UInt8 × List UInt8) (hp : meetF H f (a.take (top a.length)) (b.take (top b.length)) = some p) : meetF H (f + 1) a b = some p := by
  rw [meetF, if_neg (by omega), if_neg (by simp [h]), if_neg (by omega), hp]
theorem meet_right (f : Nat) (a b : List (List UInt8)) (h0 : 2 ≤ a.length) (h : tx H a = tx H b) (hp : meetF H f (a.take (top a.length)) (b.take (top b.length)) = none) : meetF H (f + 1) a b = meetF H f (a.drop (top a.length)) (b.drop (top b.length)) := by
  rw [meetF, if_neg (by omega), if_neg (by simp [h]), if_neg (by omega), hp]

/-- The turns from the root of n leaves down to leaf i: true: to the right. -/
def wdF : Nat → Nat → Nat → List Bool
  | 0, _, _ => []
  | f + 1, i, n => if n ≤ 1 then [] else if i < top n then false :: wdF f i (top n) else true :: wdF f (i - top n) (n - top n)
theorem wd_end (f i n : Nat) (h : n ≤ 1) : wdF f i n = [] := by cases f <;> simp [wdF, h]
theorem wd_left (f i n : Nat) (h : 2 ≤ n) (hi : i < top n) : wdF (f + 1) i n = false :: wdF f i (top n) := by rw [wdF, if_neg (by omega), if_pos hi]
theorem wd_right (f i n : Nat) (h : 2 ≤ n) (hi : ¬ i < top n) : wdF (f + 1) i n = true :: wdF f (i - top n) (n - top n) := by rw [wdF, if_neg (by omega), if_neg hi]
theorem wd_length : ∀ (f i n : Nat), n ≤ f → n ≤ 18446744073709551616 → i < n → (wdF f i n).length = sz 64 i (n - 1)
  | 0, i, n, h, _, hi => by omega
  | f + 1, i, n, h, hn, hi => by
    by_cases h1 : n ≤ 1
    · rw [wd_end _ _ _ h1, show i = 0 by omega, show n - 1 = 0 by omega, sz_zero]; rfl
    · have hl := top_lt n (by omega)
      have hp := top_pos n
      rw [sz_top i n (by omega) hn hi]
      by_cases hc : i < top n
      · rw [wd_left f i n (by omega) hc, if_pos hc, List.length_cons, wd_length f i (top n) (by omega) (by omega) hc]
      · rw [wd_right f i n (by omega) hc, if_neg hc, List.length_cons, wd_length f (i - top n) (n - top n) (by omega) (by omega) (by omega)]
/-- What is hashed at a step of a climb. -/
def stp (r : Bool) (h p : List UInt8) : List UInt8 := if r = true then 1 :: (p ++ h) else 1 :: (h ++ p)
/-- The climb by turns from the leaf up; what is hashed on it. -/
def clW : List Bool → List (List UInt8) → List UInt8 → List UInt8
  | r :: w, p :: q, h => clW w q (H (stp r h p))
  | _, _, h => h
def tolds : List Bool → List (List UInt8) → List UInt8 → List (List UInt8)
  | r :: w, p :: q, h => stp r h p :: tolds w q (H (stp r h p))
  | _, _, _ => []
theorem tolds_length : ∀ (w : List Bool) (q : List (List UInt8)) (h : List UInt8), w.length = q.length → (tolds H w q h).length = w.length
  | [], [], _, _ => rfl
  | r :: w, p :: q, h, e => by simp only [tolds, List.length_cons]; rw [tolds_length w q _ (by simpa using e)]
  | [], _ :: _, _, e => by simp at e
  | _ :: _, [], _, e => by simp at e
theorem clW_snoc : ∀ (w : List Bool) (q : List (List UInt8)) (h p : List UInt8) (r : Bool), w.length = q.length → clW H (w ++ [r]) (q ++ [p]) h = H (stp r (clW H w q h) p)
  | [], [], _, _, _, _ => rfl
  | x :: w, y :: q, h, p, r, e => by simp only [List.cons_append, clW]; exact clW_snoc w q _ p r (by simpa using e)
  | [], _ :: _, _, _, _, e => by simp at e
  | _ :: _, [], _, _, _, e => by simp at e
theorem tolds_snoc : ∀ (w : List Bool) (q : List (List UInt8)) (h p : List UInt8) (r : Bool), w.length = q.length → tolds H (w ++ [r]) (q ++ [p]) h = tolds H w q h ++ [stp r (clW H w q h) p]
  | [], [], _, _, _, _ => rfl
  | x :: w, y :: q, h, p, r, e => by simp only [List.cons_append, clW, tolds]; rw [tolds_snoc w q _ p r (by simpa using e)]
  | [], _ :: _, _, _, _, e => by simp at e
  | _ :: _, [], _, _, _, e => by simp at e
theorem snoc_of {α : Type} (l : List α) (k : Nat) (h : l.length = k + 1) : ∃ q p, l = q ++ [p] ∧ q.length = k := by
  refine ⟨l.dropLast, l.getLast (fun e => by simp [e] at h), (List.dropLast_concat_getLast _).symm, by simp; omega⟩
theorem clW_cl : ∀ (f i n : Nat) (h : List UInt8) (ps : List (List UInt8)), n ≤ f → n ≤ 18446744073709551616 → i < n → ps.length = sz 64 i (n - 1) → clW H (wdF f i n).reverse ps h = cl (nd H) 64 i (n - 1) h ps
  | 0, i, n, _, _, h, _, hi, _ => by omega
  | f + 1, i, n, h, ps, hf, hn, hi, hps => by
    by_cases h1 : n ≤ 1
    · rw [show i = 0 by omega, show n - 1 = 0 by omega, sz_zero] at hps
      have : ps = [] := List.eq_nil_of_length_eq_zero hps
      subst this
      rw [wd_end _ _ _ h1, cl_nil]; rfl
    · have hl := top_lt n (by omega)
      have hp := top_pos n
      have hs := sz_top i n (by omega) hn hi
      obtain ⟨q, p, rfl, hq⟩ := snoc_of ps _ (hps.trans hs)
      rw [cl_top (nd H) i n h p q (by omega) hn hi (by rw [← hps]; simp)]
      by_cases hc : i < top n
      · rw [if_pos hc] at hq ⊢
        rw [wd_left f i n (by omega) hc, List.reverse_cons, clW_snoc H _ _ _ _ _ (by rw [List.length_reverse, wd_length f i _ (by omega) (by omega) hc, hq]), clW_cl f i (top n) h q (by omega) (by omega) hc hq]
        rfl
      · rw [if_neg hc] at hq ⊢
        rw [wd_right f i n (by omega) hc, List.reverse_cons, clW_snoc H _ _ _ _ _ (by rw [List.length_reverse, wd_length f _ _ (by omega) (by omega) (by omega), hq]), clW_cl f (i - top n) (n - top n) h q (by omega) (by omega) (by omega) hq]
        rfl

/-- The first place on the way down to a leaf where a tree and a climb are unlike. -/
def pathF : Nat → List (List UInt8) → Nat → List (List UInt8) → List UInt8 → List UInt8 × List UInt8
  | 0, l, _, _, x => (tx H l, 0 :: x)
  | f + 1, l, i, ps, x => if l.length ≤ 1 then (tx H l, 0 :: x) else
    if i < top l.length then
      if 1 :: (cl (nd H) 64 i (top l.length - 1) (lf H x) ps.dropLast ++ ps.getLastD []) ≠ tx H l then (tx H l, 1 :: (cl (nd H) 64 i (top l.length - 1) (lf H x) ps.dropLast ++ ps.getLastD []))
      else pathF f (l.take (top l.length)) i ps.dropLast x
    else
      if 1 :: (ps.getLastD [] ++ cl (nd H) 64 (i - top l.length) (l.length - top l.length - 1) (lf H x) ps.dropLast) ≠ tx H l then (tx H l, 1 :: (ps.getLastD [] ++ cl (nd H) 64 (i - top l.length) (l.length - top l.length - 1) (lf H x) ps.dropLast))
      else pathF f (l.drop (top l.length)) (i - top l.length) ps.dropLast x
theorem path_end (f : Nat) (l : List (List UInt8)) (i : Nat) (ps : List (List UInt8)) (x : List UInt8) (h : l.length ≤ 1) : pathF H f l i ps x = (tx H l, 0 :: x) := by
  cases f with
  | zero => rfl
  | succ f => rw [pathF, if_pos h]
theorem path_left (f : Nat) (l : List (List UInt8)) (i : Nat) (q : List (List UInt8)) (p x : List UInt8) (h : 2 ≤ l.length) (hi : i < top l.length) :
    pathF H (f + 1) l i (q ++ [p]) x = if 1 :: (cl (nd H) 64 i (top l.length - 1) (lf H x) q ++ p) ≠ tx H l then (tx H l, 1 :: (cl (nd H) 64 i (top l.length - 1) (lf H x) q ++ p)) else pathF H f (l.take (top l.length)) i q x := by
  rw [pathF, if_neg (by omega), if_pos hi]; simp
theorem path_right (f : Nat) (l : List (List UInt8)) (i : Nat) (q : List (List UInt8)) (p x : List UInt8) (h : 2 ≤ l.length) (hi : ¬ i < top l.length) :
    pathF H (f + 1) l i (q ++ [p]) x = if 1 :: (p ++ cl (nd H) 64 (i - top l.length) (l.length - top l.length - 1) (lf H x) q) ≠ tx H l then (tx H l, 1 :: (p ++ cl (nd H) 64 (i - top l.length) (l.length - top l.length - 1) (lf H x) q)) else pathF H f (l.drop (top l.length)) (i - top l.length) q x := by
  rw [pathF, if_neg (by omega), if_neg hi]; simp
theorem path_clash (hH : ∀ t, (H t).length = 32) : ∀ (f : Nat) (l : List (List UInt8)) (i : Nat) (ps : List (List UInt8)) (x y : List UInt8), l.length ≤ f → l.length ≤ 18446744073709551616 → l[i]? = some y → x ≠ y → (∀ p ∈ ps, p.length = 32) → ps.length = sz 64 i (l.length - 1) →
    cl (nd H) 64 i (l.length - 1) (lf H x) ps = rt H l → (pathF H f l i ps x).1 ≠ (pathF H f l i ps x).2 ∧ H (pathF H f l i ps x).1 = H (pathF H f l i ps x).2
  | 0, l, i, ps, x, y, hf, _, hy, _, _, _, _ => by
    have := (List.getElem?_eq_some_iff.1 hy).1
    omega
  | f + 1, l, i, ps, x, y, hf, hn, hy, hxy, h32, hps, hr => by
    have hi := (List.getElem?_eq_some_iff.1 hy).1
    by_cases h1 : l.length ≤ 1
    · rw [path_end _ _ _ _ _ _ h1]
      match l, h1, hi, hy with
      | [z], _, hi, hy =>
        have i0 : i = 0 := by simpa using hi
        subst i0
        simp only [List.length_singleton, Nat.sub_self, sz_zero] at hps hr
        have : ps = [] := List.eq_nil_of_length_eq_zero hps
        subst this
        rw [cl_nil] at hr
        rw [tx_one]
        simp only [List.getElem?_cons_zero, Option.some.injEq] at hy
        subst hy
        exact ⟨fun e => hxy (List.cons.inj e).2.symm, hr.symm⟩
    · have hl := top_lt l.length (by omega)
      have hp := top_pos l.length
      have hs := sz_top i l.length (by omega) hn hi
      obtain ⟨q, p, rfl, hq⟩ := snoc_of ps _ (hps.trans hs)
      rw [cl_top (nd H) i l.length _ p q (by omega) hn hi (by rw [← hps]; simp)] at hr
      have hp32 : p.length = 32 := h32 p (by simp)
      have htl : (l.take (top l.length)).length = top l.length := by rw [List.length_take]; omega
      have hdl : (l.drop (top l.length)).length = l.length - top l.length := List.length_drop
      rw [rt_tx H l (by omega)] at hr
      by_cases hc : i < top l.length
      · rw [if_pos hc] at hq hr
        rw [path_left _ _ _ _ _ _ _ (by omega) hc]
        by_cases ht : 1 :: (cl (nd H) 64 i (top l.length - 1) (lf H x) q ++ p) = tx H l
        · rw [if_neg (by simp [ht])]
          rw [tx_more _ _ (by omega), txN] at ht
          have hk := (List.cons.inj ht).2
          have hkl := congrArg List.length hk
          rw [List.length_append, List.length_append, hp32, rt_32 H hH, rt_32 H hH] at hkl
          have hj := (List.append_inj hk (by rw [rt_32 H hH]; omega)).1
          refine path_clash hH f _ i q x y (by omega) (by omega) (by rw [List.getElem?_take_of_lt hc]; exact hy) hxy (fun z hz => h32 z (by simp [hz])) (by rw [htl]; exact hq) (by rw [htl]; exact hj)
        · rw [if_pos ht]
          exact ⟨fun e => ht e.symm, hr.symm⟩
      · rw [if_neg hc] at hq hr
        rw [path_right _ _ _ _ _ _ _ (by omega) hc]
        by_cases ht : 1 :: (p ++ cl (nd H) 64 (i - top l.length) (l.length - top l.length - 1) (lf H x) q) = tx H l
        · rw [if_neg (by simp [ht])]
          rw [tx_more _ _ (by omega), txN] at ht
          have hj := (List.append_inj (List.cons.inj ht).2 (by rw [rt_32 H hH]; omega)).2
          refine path_clash hH f _ (i - top l.length) q x y (by omega) (by omega) (by rw [List.getElem?_drop, show top l.length + (i - top l.length) = i by omega]; exact hy) hxy (fun z hz => h32 z (by simp [hz])) (by rw [hdl]; exact hq) (by rw [hdl]; exact hj)
        · rw [if_pos ht]
          exact ⟨fun e => ht e.symm, hr.symm⟩

/-- The first place on the way down to where the first m end, where a tree and what a proof shows are unlike. -/
def growF : Nat → List (List UInt8) → Nat → List UInt8 → List (List UInt8) → Bool → Option (List UInt8 × List UInt8)
  | 0, _, _, _, _, _ => none
  | f + 1, l, m, old, ps, wh => if m = l.length then none else
    if m ≤ top l.length then
      if 1 :: ((showG (nd H) m (top l.length) old wh ps.dropLast).2 ++ ps.getLastD []) ≠ tx H l then some (tx H l, 1 :: ((showG (nd H) m (top l.length) old wh ps.dropLast).2 ++ ps.getLastD []))
      else growF f (l.take (top l.length)) m old ps.dropLast wh
    else
      if 1 :: (ps.getLastD [] ++ (showG (nd H) (m - top l.length) (l.length - top l.length) old false ps.dropLast).2) ≠ tx H l then some (tx H l, 1 :: (ps.getLastD [] ++ (showG (nd H) (m - top l.length) (l.length - top l.length) old false ps.dropLast).2))
      else growF f (l.drop (top l.length)) (m - top l.length) old ps.dropLast false
theorem grow_end (f : Nat) (l : List (List UInt8)) (old : List UInt8) (ps : List (List UInt8)) (wh : Bool) : growF H f l l.length old ps wh = none := by
  cases f with
  | zero => rfl
  | succ f => rw [growF, if_pos rfl]
theorem grow_left (f : Nat) (l : List (List UInt8)) (m : Nat) (old : List UInt8) (q : List (List UInt8)) (p : List UInt8) (wh : Bool) (h : m < l.length) (hm : m ≤ top l.length) :
    growF H (f + 1) l m old (q ++ [p]) wh = if 1 :: ((showG (nd H) m (top l.length) old wh q).2 ++ p) ≠ tx H l then some (tx H l, 1 :: ((showG (nd H) m (top l.length) old wh q).2 ++ p)) else growF H f (l.take (top l.length)) m old q wh := by
  rw [growF, if_neg (by omega), if_pos hm]; simp
theorem grow_right (f : Nat) (l : List (List UInt8)) (m : Nat) (old : List UInt8) (q : List (List UInt8)) (p : List UInt8) (wh : Bool) (h : m < l.length) (hm : ¬ m ≤ top l.length) :
    growF H (f + 1) l m old (q ++ [p]) wh = if 1 :: (p ++ (showG (nd H) (m - top l.length) (l.length - top l.length) old false q).2) ≠ tx H l then some (tx H l, 1 :: (p ++ (showG (nd H) (m - top l.length) (l.length - top l.length) old false q).2)) else growF H f (l.drop (top l.length)) (m - top l.length) old q false := by
  rw [growF, if_neg (by omega), if_neg hm]; simp
/-- What is told is a clash; where nothing is told, the old root is that of the first m. -/
theorem grow_tells (hH : ∀ t, (H t).length = 32) : ∀ (f : Nat) (l : List (List UInt8)) (m : Nat) (old : List UInt8) (ps : List (List UInt8)) (wh : Bool), l.length ≤ f → 1 ≤ m → m ≤ l.length → (∀ p ∈ ps, p.length = 32) → ps.length = szG m l.length wh →
    (showG (nd H) m l.length old wh ps).2 = rt H l → (∀ p, growF H f l m old ps wh = some p → p.1 ≠ p.2 ∧ H p.1 = H p.2) ∧ (growF H f l m old ps wh = none → (showG (nd H) m l.length old wh ps).1 = rt H (l.take m))
  | 0, l, m, old, ps, wh, hf, h1, h2, _, _, _ => by omega
  | f + 1, l, m, old, ps, wh, hf, h1, h2, h32, hps, hr => by
    by_cases e1 : m = l.length
    · subst e1
      rw [grow_end, List.take_length]
      refine ⟨fun p hp => by simp at hp, fun _ => ?_⟩
      rw [show_same] at hr ⊢
      cases wh with
      | true => rw [if_pos rfl] at hr ⊢; exact hr
      | false => rw [if_neg (by simp)] at hr ⊢; exact hr
    · have hl := top_lt l.length (by omega)
      have hp := top_pos l.length
      have hle2 := top_le2 l.length
      have htl : (l.take (top l.length)).length = top l.length := by rw [List.length_take]; omega
      have hdl : (l.drop (top l.length)).length = l.length - top l.length := List.length_drop
      rw [rt_tx H l (by omega)] at hr
      by_cases hm : m ≤ top l.length
      · obtain ⟨q, p, rfl, hq⟩ := snoc_of ps _ (hps.trans (szG_left m _ wh h1 (by omega) hm))
        have hp32 : p.length = 32 := h32 p (by simp)
        rw [show_left (nd H) m l.length old wh q p h1 (by omega) hm (by rw [← hps]; simp)] at hr ⊢
        rw [grow_left H f l m old q p wh (by omega) hm]
        by_cases ht : 1 :: ((showG (nd H) m (top l.length) old wh q).2 ++ p) = tx H l
        · rw [if_neg (by simp [ht])]
          rw [tx_more _ _ (by omega), txN] at ht
          have hk := (List.cons.inj ht).2
          have hkl := congrArg List.length hk
          rw [List.length_append, List.length_append, hp32, rt_32 H hH, rt_32 H hH] at hkl
          have hj := (List.append_inj hk (by rw [rt_32 H hH]; omega)).1
          have ih := grow_tells hH f (l.take (top l.length)) m old q wh (by omega) h1 (by omega) (fun z hz => h32 z (by simp [hz])) (by rw [htl]; exact hq) (by rw [htl]; exact hj)
          rw [htl, List.take_take, Nat.min_eq_left hm] at ih
          exact ih
        · rw [if_pos ht]
          refine ⟨fun z hz => ?_, fun h => by simp at h⟩
          obtain rfl := Option.some.inj hz
          exact ⟨fun e => ht e.symm, hr.symm⟩
      · obtain ⟨q, p, rfl, hq⟩ := snoc_of ps _ (hps.trans (szG_right m _ wh (by omega) (by omega)))
        have hp32 : p.length = 32 := h32 p (by simp)
        rw [show_right (nd H) m l.length old wh q p (by omega) (by omega) (by rw [← hps]; simp)] at hr ⊢
        rw [grow_right H f l m old q p wh (by omega) hm]
        by_cases ht : 1 :: (p ++ (showG (nd H) (m - top l.length) (l.length - top l.length) old false q).2) = tx H l
        · rw [if_neg (by simp [ht])]
          rw [tx_more _ _ (by omega), txN] at ht
          have hj := List.append_inj (List.cons.inj ht).2 (by rw [rt_32 H hH]; omega)
          have ih := grow_tells hH f (l.drop (top l.length)) (m - top l.length) old q false (by omega) (by omega) (by omega) (fun z hz => h32 z (by simp [hz])) (by rw [hdl]; exact hq) (by rw [hdl]; exact hj.2)
          rw [hdl] at ih
          refine ⟨ih.1, fun h => ?_⟩
          have h3 := ih.2 h
          have htm : (l.take m).length = m := by rw [List.length_take]; omega
          have hb := (top_between m (top l.length) l.length (top_pow _) (by omega) (by omega) (by omega)).1
          rw [rt_more H (l.take m) (by omega), htm, hb, List.take_take, Nat.min_eq_left (by omega), List.drop_take]
          show nd H p _ = _
          rw [h3, hj.1]
        · rw [if_pos ht]
          refine ⟨fun z hz => ?_, fun h => by simp at h⟩
          obtain rfl := Option.some.inj hz
          exact ⟨fun e => ht e.symm, hr.symm⟩
end
end Go.Proofs.YtfibhmgjkooemaaDoor.Clash
