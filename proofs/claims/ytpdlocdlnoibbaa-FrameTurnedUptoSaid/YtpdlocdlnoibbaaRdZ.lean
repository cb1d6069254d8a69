/- bin's Reader that isn't there. -/
import Derived.Test.YtpdlocdlnoibbaaRdc
import Derived.Test.YtpdlocdlnoibbaaRdA
namespace Go.Proofs.Ytpdlocdlnoibbaa
open Go.RowKit

set_option maxHeartbeats 1000000 in
theorem byte_none (w : World) : Calls Try.prog 19 #[.pointer none] w fun e w' => e = .returned (.tuple #[.int .u8 0, .int .i64 2]) ∧ Below w.heap.size w w' := by
  go_enter_defers Try.func19, Try.ntmps19
  go_wp2_with fail
  have hb : Below w.heap.size w ((w.alloc (Obj.cells #[Value.pointer none] 24)).alloc (Obj.cells #[Value.int IntKind.i64 2] 27)) := ((Below.refl _ _).alloc (Nat.le_refl _) _).alloc (by simp) _
  have hr := heap_alloc_new (w.alloc (Obj.cells #[Value.pointer none] 24)) (Obj.cells #[Value.int IntKind.i64 2] 27)
  rw [show (w.alloc (Obj.cells #[Value.pointer none] 24)).heap.size = w.heap.size + 1 by simp] at hr
  have hcf := cell_of_row (v := .int .i64 2) (i := 0) hr rfl
  clear hr
  obtain ⟨W, hW⟩ : ∃ W, W = ((w.alloc (Obj.cells #[Value.pointer none] 24)).alloc (Obj.cells #[Value.int IntKind.i64 2] 27)) := ⟨_, rfl⟩
  rw [← hW] at hb hcf ⊢
  simp [bodyPostD, Leaves, settle, results, Try.results19, go_sem, hcf]
  exact hb
set_option maxHeartbeats 1000000 in
theorem num_none (w : World) : Calls Try.prog 13 #[.pointer none] w fun e w' => e = .returned (.tuple #[.int .u64 0, .int .i64 2]) ∧ Below w.heap.size w w' := by
  go_enter_defers Try.func13, Try.ntmps13
  go_wp2_with fail
  have hb : Below w.heap.size w ((w.alloc (Obj.cells #[Value.pointer none] 24)).alloc (Obj.cells #[Value.int IntKind.i64 2] 27)) := ((Below.refl _ _).alloc (Nat.le_refl _) _).alloc (by simp) _
  have hr := heap_alloc_new (w.alloc (Obj.cells #[Value.pointer none] 24)) (Obj.cells #[Value.int IntKind.i64 2] 27)
  rw [show (w.alloc (Obj.cells #[Value.pointer none] 24)).heap.size = w.heap.size + 1 by simp] at hr
  have hcf := cell_of_row (v := .int .i64 2) (i := 0) hr rfl
  clear hr
  obtain ⟨W, hW⟩ : ∃ W, W = ((w.alloc (Obj.cells #[Value.pointer none] 24)).alloc (Obj.cells #[Value.int IntKind.i64 2] 27)) := ⟨_, rfl⟩
  rw [← hW] at hb hcf ⊢
  simp [bodyPostD, Leaves, settle, results, Try.results13, go_sem, hcf]
  exact hb
set_option maxHeartbeats 1000000 in
theorem raw_none (w : World) (m : Int) : Calls Try.prog 18 #[.pointer none, .int .i64 m] w fun e w' => e = .returned (.tuple #[.slice none 0 0, .int .i64 2]) ∧ Below w.heap.size w w' := by
  go_enter_defers Try.func18, Try.ntmps18
  go_wp2_with fail
  have hb : Below w.heap.size w ((w.alloc (Obj.cells #[Value.pointer none] 24)).alloc (Obj.cells #[Value.int IntKind.i64 2] 27)) := ((Below.refl _ _).alloc (Nat.le_refl _) _).alloc (by simp) _
  have hr := heap_alloc_new (w.alloc (Obj.cells #[Value.pointer none] 24)) (Obj.cells #[Value.int IntKind.i64 2] 27)
  rw [show (w.alloc (Obj.cells #[Value.pointer none] 24)).heap.size = w.heap.size + 1 by simp] at hr
  have hcf := cell_of_row (v := .int .i64 2) (i := 0) hr rfl
  clear hr
  obtain ⟨W, hW⟩ : ∃ W, W = ((w.alloc (Obj.cells #[Value.pointer none] 24)).alloc (Obj.cells #[Value.int IntKind.i64 2] 27)) := ⟨_, rfl⟩
  rw [← hW] at hb hcf ⊢
  simp [bodyPostD, Leaves, settle, results, Try.results18, go_sem, hcf]
  exact hb
theorem end_none (w : World) : Calls Try.prog 14 #[.pointer none] w fun e w' => e = .returned (.int .i64 0) ∧ w' = w := by
  go_enter Try.func14, Try.ntmps14
  go_wp2_with fail
  go_ret
  exact ⟨rfl, rfl⟩
theorem left_none (w : World) : Calls Try.prog 15 #[.pointer none] w fun e w' => e = .returned (.int .i64 0) ∧ w' = w := by
  go_enter Try.func15, Try.ntmps15
  go_wp2_with fail
  go_ret
  exact ⟨rfl, rfl⟩
end Go.Proofs.Ytpdlocdlnoibbaa
