import Derived.Test.YtfibhmgjkooemaaDoorGrH
import Derived.Test.YtfibhmgjkooemaaDoorPathB
import Derived.Test.YtfibhmgjkooemaaDoorLeafRA
import Derived.Test.YtfibhmgjkooemaaDoorRegV
import Derived.Test.YtfibhmgjkooemaaDoorGrG
import Derived.Test.YtfibhmgjkooemaaDoorGrA
import Derived.Test.YtfibhmgjkooemaaDoorPathA
/- The reference's show. (printed by gen/grj.py) -/
namespace Go.Proofs.YtfibhmgjkooemaaDoor
open Go.RowKit Sha Root Path Growth

theorem showG_32 (W : Int) (m n : Nat) (root : List UInt8) (old : Bool) (ps : List (List UInt8)) (ho : root.length = 32) (h32 : ∀ p ∈ ps, p.length = 32) : (showG (nodeH W) m n root old ps).1.length = 32 ∧ (showG (nodeH W) m n root old ps).2.length = 32 := by
  have hh : (ps.headD root).length = 32 := by
    cases ps with
    | nil => exact ho
    | cons x r => exact h32 x (by simp)
  unfold showG
  split
  · exact runW_32 W _ _ _ ho ho
  · exact runW_32 W _ _ _ hh hh
end Go.Proofs.YtfibhmgjkooemaaDoor

/- growth.Climb, the reference's; growth.Check, the reference's. (printed by gen/grk.py) -/
namespace Go.Proofs.YtfibhmgjkooemaaDoor
open Go.RowKit Sha Root Path Growth

theorem gClimb_any (W : Int) (m n : Nat) (old : List UInt8) (ps : List (List UInt8)) (a : Option Addr) (c : Nat) (w : World) (hW : -9223372036854775808 ≤ W ∧ W ≤ 9223372036854775807) (ho : old.length = 32) (hm : m < 18446744073709551616) (hn : n < 18446744073709551616)
    (h32 : ∀ p ∈ ps, p.length = 32) (hl : ps.length ≤ 140737488355328) (hr : Rd w 32 (.slice a ps.length c) ps.length (ps.flatMap bv)) (hT : Tabs w) :
    Calls Tryd.prog 31 #[.int .i64 W, .int .u64 m, .int .u64 n, .agg (bv old).toArray, .slice a ps.length c] w fun e w' => e = .returned (.tuple #[.agg (bv (gS W m n old ps).1).toArray, .agg (bv (gS W m n old ps).2).toArray, .int .i64 (gE m n ps.length)]) ∧ Below w.heap.size w w' := by
  by_cases hE : gE m n ps.length = 0
  · rw [gS, if_pos hE, hE]
    cases hw : whole m n with
    | true => exact gClimb_whole W m n old ps a c w hW ho hm hn h32 hl hr hT hE hw
    | false =>
      cases ps with
      | nil =>
        exfalso
        have h0 : ¬ (m = 0 ∨ n < m) := fun h => by rw [gE, if_pos h] at hE; exact absurd hE (by decide)
        have h2 : ¬ [].length (α := List UInt8) < szG m n true := fun h => by rw [gE, if_neg h0, if_pos h] at hE; exact absurd hE (by decide)
        rw [szG, hw, if_neg (by decide)] at h2
        simp at h2
      | cons p0 q => exact gClimb_part W m n old p0 q a c w hW ho hm hn h32 hl hr hT hE hw
  · rw [gS, if_neg hE]
    exact gClimb_bad W m n old a ps.length c w hE hm hn hl

end Go.Proofs.YtfibhmgjkooemaaDoor
