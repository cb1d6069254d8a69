/- The law BallotOnce: whatever a voter is asked, hears of, and stands for, its term never falls, and in one term it votes for one alone. -/
import Derived.Test.YthghhjilbaiahaaBallot
namespace Go.Proofs.Ythghhjilbaiahaa
open Go.RowKit

theorem awake22_any (w : World) : Calls Try.prog 5 #[] w fun e w' => e = .returned (.bool true) ∧ Below w.heap.size w w' := by
  go_enter Try.func5, Try.ntmps5
  go_wp2_with fail
  refine (Grant_any 3 0 0 0 (.slice none 0 0) 0 1 2 0 3 0 0 0 0 false (.slice none 0 0) (.slice none 0 0) (.slice none 0 0) w (by omega) (.inl ⟨rfl, rfl⟩)).mono ?_
  rintro e w1 ⟨⟨b, rfl, hb⟩, hb1⟩
  obtain rfl := hb rfl rfl rfl rfl rfl
  have hg : grantS 3 0 2 3 true = ((3, 2), true) := by decide
  rw [hg]
  clear hb hg
  go_wp2_with go_in
  go_ret
  refine ⟨rfl, hb1.alloc hb1.size _⟩
end Go.Proofs.Ythghhjilbaiahaa
