/- Cut out of XEdgeBytes. -/
import Derived.Test.YtdociiogddihfaaEdgeRef
import Derived.Deep.DeepCutAuto
import Derived.Test.YtdociiogddihfaaTw
namespace Go.Proofs.Ytdociiogddihfaa
open Go.ChangeShapes Go.WideShapes Go.ChangeAt Go.RowKit


theorem new_rd (w : World) (l : List UInt8) (e : TypeId) (h : l.length = 8) : Rd (w.alloc (.cells (bv l).toArray e)) 1 (.slice (some ⟨w.heap.size, 0, none⟩) 8 8) l.length (bv l) := by
  have := own_rd (own_new w e 1 8 0 (bv l) (by simp [bv_length, h]) (by omega) (by omega)) (bv_one l)
  rw [h]; exact this
theorem canB_ok (x : Nat) : fnan (canB x) = false ∨ canB x = 9221120237041090560 := by
  unfold canB
  cases h : fnan x with
  | true => exact .inr rfl
  | false => exact .inl h
theorem canB_of (x : Nat) (h : fnan x = false ∨ x = 9221120237041090560) : canB x = x := by
  unfold canB
  rcases h with h | rfl
  · rw [h]; rfl
  · rfl
theorem getP_cases (l : List UInt8) : ((getP l).2 ≠ 0 ∧ (getP l).1 = 0) ∨ ((getP l).2 = 0 ∧ canB (getP l).1 = (getP l).1 ∧ be 8 (getP l).1 = l) := by
  unfold getP
  by_cases h1 : l.length < 8
  · rw [if_pos h1]; exact .inl ⟨by decide, rfl⟩
  · rw [if_neg h1]
    by_cases h2 : 8 < l.length
    · rw [if_pos h2]; exact .inl ⟨by decide, rfl⟩
    · rw [if_neg h2]
      by_cases h3 : fnan (vl l) = false ∨ vl l = 9221120237041090560
      · rw [if_pos h3]
        refine .inr ⟨rfl, canB_of _ h3, ?_⟩
        have := be_vl l
        rw [show l.length = 8 by omega] at this
        exact this
      · rw [if_neg h3]; exact .inl ⟨by decide, rfl⟩
theorem getP_be (c : Nat) (hc : c < 18446744073709551616) (h : fnan c = false ∨ c = 9221120237041090560) : getP (be 8 c) = (c, 0) := by
  rw [getP_eight _ (be_length _ _), vl_be, Nat.mod_eq_of_lt (by exact hc), if_pos h]

end Go.Proofs.Ytdociiogddihfaa
