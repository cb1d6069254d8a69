/- Contracts of the package slices at []uint64. -/
import Derived.Test.YtckpnihpobfggaaDoorBase
import Derived.Test.YtckpnihpobfggaaDoorProg
import Derived.Lib.AppendZeros
namespace Go.Proofs.YtckpnihpobfggaaDoor
open Go.RowKit

theorem infoU : (Tryd.prog.info? 25).map (fun i => (i.zero, i.size, i.bytes)) = some (some (.int .u64 0), 1, 8) := by kernel_rfl

set_option maxHeartbeats 1000000 in
theorem CloneU_any (v : Value) (n : Nat) (xs : List Value) (w : World) (hr : Rd w 1 v n xs) (hn : n * 8 ≤ 140737488355328) :
    Calls Tryd.prog 28 #[v] w fun e w' => ∃ v', e = .returned v' ∧ w'.ownsRow w.heap.size 25 1 v' n xs ∧ Below w.heap.size w w' := by
  have hl := hr.1
  have hr0 := hr
  obtain ⟨_, h1, ⟨rfl, rfl⟩ | ⟨ad, c, rfl, hc, hcell⟩⟩ := hr
  · obtain rfl : xs = [] := List.eq_nil_of_length_eq_zero (by simpa using hl)
    have hq : ∀ w : World, (binOp .eql 22 (.slice none 0 0) (.slice none 0 0)).run Tryd.prog w = .ok (.bool true) w := fun _ => by kernel_rfl
    go_enter Tryd.func28, Tryd.ntmps28
    go_wp2_with fail
    go_ret
    exact ⟨_, rfl, World.ownsRow_nil _ _ _ _, Below.refl _ _⟩
  · have hq : ∀ w : World, (binOp .eql 22 (.slice (some ad) n c) (.slice none 0 0)).run Tryd.prog w = .ok (.bool false) w := fun _ => by kernel_rfl
    go_enter Tryd.func28, Tryd.ntmps28
    have hown := own_new w 25 1 0 w.heap.size [] (by simp) (by omega) (Nat.le_refl _)
    have hb : Below w.heap.size w (w.alloc (.cells #[] 25)) := (Below.refl _ _).alloc (Nat.le_refl _) _
    go_wp2_with (at_builtin; refine wpList_app Tryd.underlying22 infoU rfl (by decide) rfl _ _ rfl rfl rfl hown (hr0.alloc _) (by omega) (by omega) (by simp) ?_)
    intro v' w' hown' hg _
    have hb2 := hg.below (by simp) (own_block hown)
    go_wp2_with fail
    go_ret
    exact ⟨_, rfl, hown', hb.trans hb2⟩
end Go.Proofs.YtckpnihpobfggaaDoor
