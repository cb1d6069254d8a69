/- What Path answers; its plain laws. -/
import Derived.Test.YtfibhmgjkooemaaDoorClG
import Derived.Test.YtfibhmgjkooemaaDoorPathB
namespace Go.Proofs.YtfibhmgjkooemaaDoor
open Go.RowKit Sha Root Ones Path Clash

/-- What Path answers. -/
def ansP (W : Int) (l : List (List UInt8)) (i : Nat) (x : List UInt8) (ps : List (List UInt8)) : Int × List UInt8 × List UInt8 := if climbE i l.length ps.length ≠ 0 then (climbE i l.length ps.length, [], []) else
  if climbH W (leafH W x) i l.length ps ≠ rt (hw W) l then (3, [], []) else if x = l[i]?.getD [] then (8, [], []) else (0, (pathF (hw W) l.length l i ps x).1, (pathF (hw W) l.length l i ps x).2)
theorem climbE_zero (i n L : Nat) (h : climbE i n L = 0) : i < n ∧ L = sz 64 i (n - 1) := by
  rw [climbE] at h
  split at h
  · simp at h
  · have hs : sizeN i n = sz 64 i (n - 1) := by rw [sizeN, if_pos (by omega)]
    split at h
    · simp at h
    · split at h
      · simp at h
      · omega
theorem ansP_tells (W : Int) (l : List (List UInt8)) (i : Nat) (x : List UInt8) (ps : List (List UInt8)) (hl : l.length ≤ 18446744073709551616) (h32 : ∀ p ∈ ps, p.length = 32) : ((ansP W l i x ps).1 == 0) = clB W (ansP W l i x ps).2.1 (ansP W l i x ps).2.2 := by
  unfold ansP
  by_cases h1 : climbE i l.length ps.length ≠ 0
  · rw [if_pos h1]
    show (climbE i l.length ps.length == 0) = clB W [] []
    rw [beq_eq_false_iff_ne.2 h1]; rfl
  · rw [if_neg h1]
    by_cases h2 : climbH W (leafH W x) i l.length ps ≠ rt (hw W) l
    · rw [if_pos h2]; rfl
    · rw [if_neg h2]
      by_cases h3 : x = l[i]?.getD []
      · rw [if_pos h3]; rfl
      · rw [if_neg h3]
        have h0 : climbE i l.length ps.length = 0 := by simpa using h1
        obtain ⟨k1, k2⟩ := climbE_zero _ _ _ h0
        have h4 : cl (nd (hw W)) 64 i (l.length - 1) (lf (hw W) x) ps = rt (hw W) l := by
          have := Classical.not_not.1 h2
          rwa [climbH, if_pos h0] at this
        have hy : l[i]? = some (l[i]?.getD []) := by rw [List.getElem?_eq_getElem k1]; rfl
        have hc := path_clash (hw W) (hw32 W) l.length l i ps x _ (Nat.le_refl _) hl hy h3 h32 k2 h4
        simp only [clB]
        rw [show ((pathF (hw W) l.length l i ps x).1 == (pathF (hw W) l.length l i ps x).2) = false from beq_eq_false_iff_ne.2 hc.1, show (hw W (pathF (hw W) l.length l i ps x).1 == hw W (pathF (hw W) l.length l i ps x).2) = true from beq_iff_eq.2 hc.2]
        rfl
theorem path_len (W : Int) : ∀ (f : Nat) (l : List (List UInt8)) (i : Nat) (ps : List (List UInt8)) (x : List UInt8), l.length ≤ f → l.length ≤ 18446744073709551616 → i < l.length → (∀ t ∈ l, t.length ≤ 4000) → x.length ≤ 4000 → (∀ p ∈ ps, p.length = 32) → ps.length = sz 64 i (l.length - 1) → (pathF (hw W) f l i ps x).1.length ≤ 4001 ∧ (pathF (hw W) f l i ps x).2.length ≤ 4001
  | 0, l, i, ps, x, hf, _, hi, _, _, _, _ => by omega
  | f + 1, l, i, ps, x, hf, hn, hi, ht, hx, h32, hps => by
    by_cases h1 : l.length ≤ 1
    · rw [path_end _ _ _ _ _ _ h1]
      exact ⟨tx_len W l (by omega) ht, by simp; omega⟩
    · have hl := top_lt l.length (by omega)
      have hp := top_pos l.length
      have hs := sz_top i l.length (by omega) hn hi
      have htl : (l.take (top l.length)).length = top l.length := by rw [List.length_take]; omega
      have hdl : (l.drop (top l.length)).length = l.length - top l.length := List.length_drop
      obtain ⟨q, p, rfl, hq⟩ := snoc_of ps _ (hps.trans hs)
      have hp32 := h32 p (by simp)
      have hq32 : ∀ y ∈ q, y.length = 32 := fun y hy => h32 y (by simp [hy])
      by_cases hc : i < top l.length
      · rw [if_pos hc] at hq
        rw [path_left _ _ _ _ _ _ _ (by omega) hc]
        split
        · have := cl_32 W 64 i (top l.length - 1) (lf (hw W) x) q (hw32 W _)
          rw [nodeH_nd] at this
          exact ⟨by rw [tx_length _ (hw32 W) l (by omega)]; omega, by simp [this, hp32]⟩
        · exact path_len W f _ i q x (by omega) (by omega) (by omega) (fun t h => ht t (List.mem_of_mem_take h)) hx hq32 (by rw [htl]; exact hq)
      · rw [if_neg hc] at hq
        rw [path_right _ _ _ _ _ _ _ (by omega) hc]
        split
        · have := cl_32 W 64 (i - top l.length) (l.length - top l.length - 1) (lf (hw W) x) q (hw32 W _)
          rw [nodeH_nd] at this
          exact ⟨by rw [tx_length _ (hw32 W) l (by omega)]; omega, by simp [this, hp32]⟩
        · exact path_len W f _ (i - top l.length) q x (by omega) (by omega) (by omega) (fun t h => ht t (List.mem_of_mem_drop h)) hx hq32 (by rw [hdl]; exact hq)
theorem ansP_len (W : Int) (l : List (List UInt8)) (i : Nat) (x : List UInt8) (ps : List (List UInt8)) (hl : l.length ≤ 18446744073709551616) (ht : ∀ t ∈ l, t.length ≤ 4000) (hx : x.length ≤ 4000) (h32 : ∀ p ∈ ps, p.length = 32) : (ansP W l i x ps).2.1.length ≤ 4001 ∧ (ansP W l i x ps).2.2.length ≤ 4001 := by
  unfold ansP
  by_cases h1 : climbE i l.length ps.length ≠ 0
  · rw [if_pos h1]; simp
  · rw [if_neg h1]
    split
    · simp
    · split
      · simp
      · obtain ⟨k1, k2⟩ := climbE_zero _ _ _ (by simpa using h1)
        exact path_len W l.length l i ps x (Nat.le_refl _) hl k1 ht hx h32 k2
/-- What is told at a step. -/
theorem tolds_get (H : List UInt8 → List UInt8) : ∀ (w : List Bool) (q : List (List UInt8)) (h : List UInt8) (j : Nat) (r : Bool) (p : List UInt8), w[j]? = some r → q[j]? = some p → (tolds H w q h)[j]? = some (stp r (clW H (w.take j) (q.take j) h) p)
  | [], _, _, _, _, _, h, _ => by simp at h
  | _ :: _, [], _, _, _, _, _, h => by simp at h
  | a :: w, b :: q, h, 0, r, p, hr, hp => by
    obtain rfl := Option.some.inj hr
    obtain rfl := Option.some.inj hp
    rfl
  | a :: w, b :: q, h, j + 1, r, p, hr, hp => by
    simp only [List.getElem?_cons_succ] at hr hp
    simp only [tolds, List.getElem?_cons_succ, List.take_succ_cons, clW]
    exact tolds_get H w q _ j r p hr hp
theorem clW_next (H : List UInt8 → List UInt8) (w : List Bool) (q : List (List UInt8)) (h : List UInt8) (j : Nat) (r : Bool) (p : List UInt8) (hr : w[j]? = some r) (hp : q[j]? = some p) : clW H (w.take (j + 1)) (q.take (j + 1)) h = H (stp r (clW H (w.take j) (q.take j) h) p) := by
  have h1 : w.take (j + 1) = w.take j ++ [r] := by rw [List.take_add_one, hr]; rfl
  have h2 : q.take (j + 1) = q.take j ++ [p] := by rw [List.take_add_one, hp]; rfl
  have hl1 := (List.getElem?_eq_some_iff.1 hr).1
  have hl2 := (List.getElem?_eq_some_iff.1 hp).1
  rw [h1, h2, clW_snoc H _ _ _ _ _ (by rw [List.length_take, List.length_take]; omega)]
theorem tolds_next (H : List UInt8 → List UInt8) (w : List Bool) (q : List (List UInt8)) (h : List UInt8) (j : Nat) (r : Bool) (p : List UInt8) (hr : w[j]? = some r) (hp : q[j]? = some p) : tolds H (w.take (j + 1)) (q.take (j + 1)) h = tolds H (w.take j) (q.take j) h ++ [stp r (clW H (w.take j) (q.take j) h) p] := by
  have h1 : w.take (j + 1) = w.take j ++ [r] := by rw [List.take_add_one, hr]; rfl
  have h2 : q.take (j + 1) = q.take j ++ [p] := by rw [List.take_add_one, hp]; rfl
  have hl1 := (List.getElem?_eq_some_iff.1 hr).1
  have hl2 := (List.getElem?_eq_some_iff.1 hp).1
  rw [h1, h2, tolds_snoc H _ _ _ _ _ (by rw [List.length_take, List.length_take]; omega)]
theorem range_keepS {w w' : World} {b o : Nat} {cs : List Value} (h : w.rangeAt b o cs) (hb : Below w.heap.size w w') : w'.rangeAt b o cs := fun j v hv => (hb.cell (World.block_lt_of_cell? w _ (h j v hv))).trans (h j v hv)
theorem clW_32 (W : Int) : ∀ (w : List Bool) (q : List (List UInt8)) (h : List UInt8), h.length = 32 → (clW (hw W) w q h).length = 32
  | [], _, h, hh => by simpa [clW] using hh
  | _ :: _, [], h, hh => by simpa [clW] using hh
  | r :: w, p :: q, h, _ => by rw [clW]; exact clW_32 W w q _ (hw_length W _)
end Go.Proofs.YtfibhmgjkooemaaDoor
