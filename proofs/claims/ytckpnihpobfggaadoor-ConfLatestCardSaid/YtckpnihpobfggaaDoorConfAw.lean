/- awake (law 20). -/
import Derived.Test.YtckpnihpobfggaaDoorConfP
import Derived.LoopN
namespace Go.Proofs.YtckpnihpobfggaaDoor
open Go.RowKit Ones

theorem rd_lit (w : World) (l : List Nat) (cs : Array Value) (e : TypeId) (h : cs = (uv l).toArray) (hl : l.length ≤ 140737488355328) : Rd (w.alloc (.cells cs e)) 1 (.slice (some ⟨w.heap.size, 0, none⟩) l.length l.length) l.length (uv l) := by
  rw [h]
  exact own_rd (own_new w e 1 l.length w.heap.size (uv l) (by rw [uv_length]; omega) hl (Nat.le_refl _)) (uv_one _)

theorem rd_lit2 (w : World) (l : List Nat) (cs : Array Value) (e : TypeId) (o : Obj) (h : cs = (uv l).toArray) (hl : l.length ≤ 140737488355328) : Rd ((w.alloc o).alloc (.cells cs e)) 1 (.slice (some ⟨w.heap.size + 1, 0, none⟩) l.length l.length) l.length (uv l) := by
  have := rd_lit (w.alloc o) l cs e h hl
  simpa using this
theorem below2 (w : World) (o p : Obj) : Below w.heap.size w ((w.alloc o).alloc p) := ((Below.refl _ _).alloc (Nat.le_refl _) _).alloc (by simp) _

theorem infoLL : (Tryd.prog.info? 22).map (fun i => (i.zero, i.size, i.bytes)) = some (some (.slice none 0 0), 1, 24) := by kernel_rfl

set_option maxHeartbeats 4000000 in
theorem Steps_awake (v u : Value) (w : World) (hr : Rd w 1 v 2 (uv [1, 2])) (hu : Rd w 1 u 2 (uv [2, 3])) (hT : TabD w) :
    Calls Tryd.prog 20 #[v, u] w fun e w' => (∃ a c, e = .returned (.slice a 2 c)) ∧ Below w.heap.size w w' := by
  have hA := set_any v [1, 2] w (by decide) hr
  have hB := fun w1 (h : Below w.heap.size w w1) => set_any u [2, 3] w1 (by decide) (hu.keep h)
  rw [show setP [1, 2] = 6 by decide] at hA
  rw [show setP [2, 3] = 12 by decide] at hB
  have hL := fun (s : Nat) (hs : s < 4294967296) w1 (h : Below w.heap.size w w1) => list_any s hs w1 (hT.keepB h)
  have a1 : bits .andNot .u64 12 6 = 8 := by decide
  have a2 : bits .andNot .u64 6 12 = 2 := by decide
  have i0 : ∀ w, (Instr.index 47 (.agg #[.int .u64 8, .int .u64 2]) (.int .i64 0)).run Tryd.prog w = .ok (.int .u64 8) w := fun _ => by kernel_rfl
  have i1 : ∀ w, (Instr.index 47 (.agg #[.int .u64 8, .int .u64 2]) (.int .i64 1)).run Tryd.prog w = .ok (.int .u64 2) w := fun _ => by kernel_rfl
  have n8 : IntKind.u64.wrap (-8) = 18446744073709551608 := by decide
  have n2 : IntKind.u64.wrap (-2) = 18446744073709551614 := by decide
  have b8 : bits .and .u64 8 18446744073709551608 = 8 := by decide
  have b2 : bits .and .u64 2 18446744073709551614 = 2 := by decide
  have x8 : bits .xor .u64 6 8 = 14 := by decide
  have x2 : bits .xor .u64 14 2 = 12 := by decide
  have c8 : bits .and .u64 8 7 = 0 := by decide
  have c2 : bits .and .u64 2 1 = 0 := by decide
  clear hr hu hT
  go_enter Tryd.func20, Tryd.ntmps20
  go_wp2_with fail
  refine hA.mono ?_
  rintro e w1 ⟨rfl, hb1⟩
  go_wp2_with fail
  refine (hB w1 hb1).mono ?_
  rintro e w2 ⟨rfl, hb2⟩
  have hb := hb1.trans (hb2.mono hb1.size)
  clear hA hB hb1 hb2
  go_wp2_with fail
  refine wp_loop_rounds 3 ?_
  rw [rounds_succ]
  go_wp2_with fail
  refine wp_loop_rounds 2 ?_
  rw [rounds_succ]
  go_wp2_with fail
  refine (hL 14 (by decide) w2 hb).mono ?_
  rintro e w3 ⟨⟨la, ln, lc, rfl⟩, hb3⟩
  have hb3 := hb.trans (hb3.mono hb.size)
  have HB3 := Lib.hid hb3
  have ho3 : w3.ownsRow w.heap.size 22 1 (.slice none 0 0) 0 [] := World.ownsRow_nil _ _ _ _
  have HO3 := Lib.hid ho3
  clear hb ho3 hb3
  go_wp2_with (at_builtin; refine wpList_app (o := ⟨some 45, _, _, _, _, _⟩) Tryd.underlying37 infoLL rfl (by decide) rfl _ _ rfl rfl rfl (own_keep HO3.out ((Below.refl _ _).alloc (Nat.le_refl _) _)) (Rd.one w3 (.slice la ln lc) 22 rfl) (by omega) (by omega) (by have := HB3.out.size; simp; omega) ?_; intro v4 w4 ho4 hg4 _)
  obtain ⟨ra, rc, rfl⟩ := own_form ho4
  have hb4 : Below w.heap.size w w4 := HB3.out.trans (hg4.alloc.below HB3.out.size (own_block HO3.out))
  have HO4 := Lib.hid ho4
  clear ho4 hg4 HO3 HB3
  go_wp2_with fail
  rw [rounds_succ]
  go_wp2_with fail
  rw [rounds_succ]
  go_wp2_with fail
  refine wp_loop_rounds 2 ?_
  rw [rounds_succ]
  go_wp2_with fail
  refine (hL 12 (by decide) w4 hb4).mono ?_
  rintro e w5 ⟨⟨la2, ln2, lc2, rfl⟩, hb5⟩
  have ho5 := own_keep HO4.out hb5
  have hb5 := hb4.trans (hb5.mono hb4.size)
  have HB5 := Lib.hid hb5
  have HO5 := Lib.hid ho5
  clear hb4 hb5 ho5 HO4
  go_wp2_with (at_builtin; refine wpList_app (o := ⟨some 45, _, _, _, _, _⟩) Tryd.underlying37 infoLL rfl (by decide) rfl _ _ rfl rfl rfl (own_keep HO5.out ((Below.refl _ _).alloc (Nat.le_refl _) _)) (Rd.one w5 (.slice la2 ln2 lc2) 22 rfl) (by omega) (by omega) (by have := HB5.out.size; simp; omega) ?_; intro v6 w6 ho6 hg6 _)
  obtain ⟨ra2, rc2, rfl⟩ := own_form ho6
  have hb6 : Below w.heap.size w w6 := HB5.out.trans (hg6.alloc.below HB5.out.size (own_block HO5.out))
  clear ho6 hg6 HO5 HB5
  go_wp2_with fail
  rw [rounds_succ]
  go_wp2_with fail
  rw [rounds_succ]
  go_wp2_with fail
  go_ret
  exact ⟨⟨_, _, rfl⟩, hb6⟩

set_option maxHeartbeats 4000000 in
theorem awake20_any (w : World) (hT : TabD w) :
    Calls Tryd.prog 7 #[] w fun e w' => e = .returned (.bool true) ∧ Below w.heap.size w w' := by
  go_enter Tryd.func7, Tryd.ntmps7
  go_wp2_with fail
  refine (Majority_any _ [1, 2, 3, 4] _ (by decide) (rd_lit w [1, 2, 3, 4] _ _ rfl (by decide))).mono ?_
  rintro e w1 ⟨rfl, hb1⟩
  have hb1 : Below w.heap.size w w1 := ((Below.refl _ _).alloc (Nat.le_refl _) _).trans (hb1.mono (by simp))
  rw [show (([1, 2, 3, 4] : List Nat).length / 2 + 1 : Nat) = 3 from rfl]
  go_wp2_with fail
  refine (Has_any _ [2] 2 _ (by decide) (rd_lit w1 [2] _ _ rfl (by decide))).mono ?_
  rintro e w2 ⟨rfl, hb2⟩
  have hb2 : Below w.heap.size w w2 := hb1.trans ((((Below.refl _ _).alloc (Nat.le_refl _) _).trans (hb2.mono (by simp))).mono hb1.size)
  rw [show decide (2 ∈ ([2] : List Nat)) = true from rfl]
  clear hb1
  go_wp2_with fail
  refine (May_any _ _ [1, 2] [1] _ (by decide) (by decide) ((rd_lit w2 [1, 2] _ _ rfl (by decide)).alloc _) (rd_lit2 w2 [1] _ _ _ rfl (by decide))).mono ?_
  rintro e w3 ⟨rfl, hb3⟩
  have hb3 : Below w.heap.size w w3 := hb2.trans (((below2 w2 _ _).trans (hb3.mono (by simp; omega))).mono hb2.size)
  rw [show mayP [1, 2] [1] = true by decide]
  clear hb2
  go_wp2_with fail
  refine (Steps_awake _ _ _ ((rd_lit w3 [1, 2] _ _ rfl (by decide)).alloc _) (rd_lit2 w3 [2, 3] _ _ _ rfl (by decide)) (hT.keepB (hb3.trans ((below2 w3 _ _).mono hb3.size)))).mono ?_
  rintro e w4 ⟨⟨a, c, rfl⟩, hb4⟩
  have hb4 : Below w.heap.size w w4 := hb3.trans (((below2 w3 _ _).trans (hb4.mono (by simp; omega))).mono hb3.size)
  clear hb3
  go_wp2_with fail
  go_ret
  exact ⟨rfl, hb4⟩
end Go.Proofs.YtckpnihpobfggaaDoor
