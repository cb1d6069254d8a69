/- Contracts of the package slices at []api.Hash. -/
import Derived.Test.YtgimblpdmlnfeaaDoorLeafI
import Derived.Test.YtgimblpdmlnfeaaDoorProg
import Derived.Lib.AppendZeros
namespace Go.Proofs.YtgimblpdmlnfeaaDoor
open Go.RowKit Sha

theorem infoHash : (Tryd.prog.info? 35).map (fun i => (i.zero, i.size, i.bytes)) = some (some (.agg (bv (zs 32)).toArray), 32, 32) := by kernel_rfl

set_option maxHeartbeats 1000000 in
theorem CloneHash_any (v : Value) (n : Nat) (xs : List Value) (w : World) (hr : Rd w 32 v n xs) (hn : n * 32 ≤ 140737488355328) :
    Calls Tryd.prog 93 #[v] w fun e w' => ∃ v', e = .returned v' ∧ w'.ownsRow w.heap.size 35 32 v' n xs ∧ Below w.heap.size w w' := by
  have hl := hr.1
  have hr0 := hr
  obtain ⟨_, h1, ⟨rfl, rfl⟩ | ⟨ad, c, rfl, hc, hcell⟩⟩ := hr
  · obtain rfl : xs = [] := List.eq_nil_of_length_eq_zero (by simpa using hl)
    have hq : ∀ w : World, (binOp .eql 44 (.slice none 0 0) (.slice none 0 0)).run Tryd.prog w = .ok (.bool true) w := fun _ => by kernel_rfl
    go_enter Tryd.func93, Tryd.ntmps93
    go_wp2_with fail
    go_ret
    exact ⟨_, rfl, World.ownsRow_nil _ _ _ _, Below.refl _ _⟩
  · have hq : ∀ w : World, (binOp .eql 44 (.slice (some ad) n c) (.slice none 0 0)).run Tryd.prog w = .ok (.bool false) w := fun _ => by kernel_rfl
    go_enter Tryd.func93, Tryd.ntmps93
    have hown := own_new w 35 32 0 w.heap.size [] (by simp) (by omega) (Nat.le_refl _)
    have hb : Below w.heap.size w (w.alloc (.cells #[] 35)) := (Below.refl _ _).alloc (Nat.le_refl _) _
    go_wp2_with (at_builtin; refine wpList_app Tryd.underlying44 infoHash rfl (by decide) rfl _ _ rfl rfl rfl hown (hr0.alloc _) (by omega) (by omega) (by simp) ?_)
    intro v' w' hown' hg _
    have hb2 := hg.below (by simp) (own_block hown)
    go_wp2_with fail
    go_ret
    exact ⟨_, rfl, hown', hb.trans hb2⟩
end Go.Proofs.YtgimblpdmlnfeaaDoor
