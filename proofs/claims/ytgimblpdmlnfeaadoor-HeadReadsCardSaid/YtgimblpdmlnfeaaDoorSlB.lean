/- Contracts of the package slices at []uint8. -/
import Derived.Test.YtgimblpdmlnfeaaDoorBase
import Derived.Test.YtgimblpdmlnfeaaDoorProg
import Derived.Lib.AppendZeros
namespace Go.Proofs.YtgimblpdmlnfeaaDoor
open Go.RowKit

theorem infoB8 : (Tryd.prog.info? 5).map (fun i => (i.zero, i.size, i.bytes)) = some (some (.int .u8 0), 1, 1) := by kernel_rfl

set_option maxHeartbeats 1000000 in
theorem CloneB8_any (v : Value) (n : Nat) (xs : List Value) (w : World) (hr : Rd w 1 v n xs) (hn : n * 1 ≤ 140737488355328) :
    Calls Tryd.prog 103 #[v] w fun e w' => ∃ v', e = .returned v' ∧ w'.ownsRow w.heap.size 5 1 v' n xs ∧ Below w.heap.size w w' := by
  have hl := hr.1
  have hr0 := hr
  obtain ⟨_, h1, ⟨rfl, rfl⟩ | ⟨ad, c, rfl, hc, hcell⟩⟩ := hr
  · obtain rfl : xs = [] := List.eq_nil_of_length_eq_zero (by simpa using hl)
    have hq : ∀ w : World, (binOp .eql 25 (.slice none 0 0) (.slice none 0 0)).run Tryd.prog w = .ok (.bool true) w := fun _ => by kernel_rfl
    go_enter Tryd.func103, Tryd.ntmps103
    go_wp2_with fail
    go_ret
    exact ⟨_, rfl, World.ownsRow_nil _ _ _ _, Below.refl _ _⟩
  · have hq : ∀ w : World, (binOp .eql 25 (.slice (some ad) n c) (.slice none 0 0)).run Tryd.prog w = .ok (.bool false) w := fun _ => by kernel_rfl
    go_enter Tryd.func103, Tryd.ntmps103
    have hown := own_new w 5 1 0 w.heap.size [] (by simp) (by omega) (Nat.le_refl _)
    have hb : Below w.heap.size w (w.alloc (.cells #[] 5)) := (Below.refl _ _).alloc (Nat.le_refl _) _
    go_wp2_with (at_builtin; refine wpList_app Tryd.underlying25 infoB8 rfl (by decide) rfl _ _ rfl rfl rfl hown (hr0.alloc _) (by omega) (by omega) (by simp) ?_)
    intro v' w' hown' hg _
    have hb2 := hg.below (by simp) (own_block hown)
    go_wp2_with fail
    go_ret
    exact ⟨_, rfl, hown', hb.trans hb2⟩
end Go.Proofs.YtgimblpdmlnfeaaDoor
