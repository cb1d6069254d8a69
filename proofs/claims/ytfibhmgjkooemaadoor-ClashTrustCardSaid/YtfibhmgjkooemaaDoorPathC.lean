/- Appends in place; levels of a tree; xor with one. -/
import Derived.Test.YtfibhmgjkooemaaDoorLeafRA
import Derived.Test.YtfibhmgjkooemaaDoorGrowthP
namespace Go.Proofs.YtfibhmgjkooemaaDoor
open Go.RowKit Sha Root Path

/-- An operation writes block g; all others leave alone what there was. -/
def kSt (q g : Nat) (j : Nat) (w w' : World) : Prop := if j = q then w.grownBy w' (some g) else Below w.heap.size w w'
theorem kSt_refl (q g j : Nat) (w : World) : kSt q g j w w := by
  unfold kSt; split
  · exact World.grownBy.refl _ _
  · exact Below.refl _ _
theorem kSt_G {q g j : Nat} {w0 w w' : World} (h : w0.grownBy w (some g)) (k : kSt q g j w w') : w0.grownBy w' (some g) := by
  unfold kSt at k; split at k
  · exact grown_trans h k (fun _ hj => .inl hj)
  · exact grown_trans h (below_grown k none) (fun _ hj => by cases hj)
theorem kSt_below {q g j : Nat} {w w' : World} (hj : j ≠ q) (h : kSt q g j w w') : Below w.heap.size w w' := by
  unfold kSt at h; rwa [if_neg hj] at h
theorem kSt_at {q g : Nat} {w w' : World} (h : w.grownBy w' (some g)) : kSt q g q w w' := by
  unfold kSt; rwa [if_pos rfl]
theorem kSt_of {q g j : Nat} {w w' : World} (hj : (j == q) = false) (h : Below w.heap.size w w') : kSt q g j w w' := by
  unfold kSt; rwa [if_neg (by simpa using hj)]

/-- A row on whose first places the next level stands. -/
def mix {α : Type} (node : α → α → α) (row : List α) (j : Nat) : List α := (lvl node row).take j ++ row.drop j
end Go.Proofs.YtfibhmgjkooemaaDoor
