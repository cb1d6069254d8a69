/- The law RowsAsks: its walk. -/
import Derived.Test.YteflpphpbecciaaRowsSl
import Derived.Test.YteflpphpbecciaaEntOpen
import Derived.Test.YteflpphpbecciaaRowsLawO
namespace Go.Proofs.Yteflpphpbecciaa
open Go.ChangeShapes Go.WideShapes Go.ChangeAt Go.RowKit

theorem sliceP_mem (b : Nat) (es : List EE) (fr : Nat) (most : Int) : ∀ e ∈ sliceP b es fr most, e ∈ es := by
  unfold sliceP
  split
  · intro e he; cases he
  · intro e he; exact List.mem_of_mem_drop (List.mem_of_mem_take he)

/-- What each operation hands on. -/
def raF (b bt : Nat) (es : List EE) (a : Option Addr) (c : Nat) (a2 : Option Addr) (c2 : Nat) (i t : Nat) (most : Int) : Nat → Value → World → Prop
  | 0, v, _ => v = .agg #[.int .u64 b, .int .u64 bt, .slice a2 es.length c2]
  | 1, v, _ => v = .int .u64 ((b + es.length : Nat) : Int)
  | 2, v, _ => v = .agg #[.int .u64 b, .int .u64 bt, .slice a es.length c]
  | 3, v, _ => v = .int .u64 ((b + es.length : Nat) : Int)
  | 4, v, _ => v = .bool true
  | 5, v, _ => v = .bool true
  | 6, v, _ => v = .int .u64 (termP b bt es i).1
  | 7, v, _ => v = .int .u64 (termP b bt es i).1
  | 8, v, _ => v = .bool true
  | 9, v, _ => v = .bool true
  | 10, v, _ => v = .bool true
  | 11, v, _ => v = .bool (termP b bt es i).2
  | 12, v, _ => v = .bool (termP b bt es i).2
  | 13, v, _ => v = .bool true
  | 14, v, _ => v = .bool true
  | 15, v, _ => v = .bool true
  | 16, v, _ => v = .agg #[.int .u64 b, .int .u64 bt, .slice a2 es.length c2]
  | 17, v, _ => v = .int .u64 i
  | 18, v, _ => v = .int .u64 t
  | 19, v, _ => v = .bool (newerP b bt es i t)
  | 20, v, _ => v = .agg #[.int .u64 b, .int .u64 bt, .slice a es.length c]
  | 21, v, _ => v = .int .u64 i
  | 22, v, _ => v = .int .u64 t
  | 23, v, _ => v = .bool (newerP b bt es i t)
  | 24, v, _ => v = .bool true
  | 25, v, _ => v = .bool true
  | 26, v, _ => v = .bool true
  | 27, v, _ => v = .agg #[.int .u64 b, .int .u64 bt, .slice a2 es.length c2]
  | 28, v, _ => v = .int .u64 i
  | 29, v, _ => v = .int .i64 most
  | 30, v, w => Rd w 6 v (sliceP b es i most).length (ecells (sliceP b es i most))
  | 31, v, _ => v = .agg #[.int .u64 b, .int .u64 bt, .slice a es.length c]
  | 32, v, _ => v = .int .u64 i
  | 33, v, _ => v = .int .i64 most
  | 34, v, w => Rd w 6 v (sliceP b es i most).length (ecells (sliceP b es i most))
  | 35, v, _ => v = .bool true
  | 36, v, _ => v = .bool true
  | 37, v, _ => v = .bool true
  | 38, v, _ => v = .agg #[.int .u64 b, .int .u64 bt, .slice a2 es.length c2]
  | 39, v, _ => v = .agg #[.int .u64 b, .int .u64 bt, .slice a es.length c]
  | 40, v, _ => v = .bool true
  | 41, v, _ => v = .bool true
  | 42, v, _ => v = .bool true
  | _, _, _ => True

set_option maxHeartbeats 4000000 in
set_option maxRecDepth 100000 in
theorem rowsAsks_walk (b bt : Nat) (v : Value) (es : List EE) (i t : Nat) (most : Int) (w : World) (hi64 : i < 18446744073709551616) (hm0 : -9223372036854775808 ≤ most) (hm1 : most ≤ 9223372036854775807) (hr : Rd w 6 v es.length (ecells es)) (hok : ESok w es) (hsum : es.length * 80 ≤ 140737488355328) :
    Calls Try.prog 6 #[.agg #[.int .u64 b, .int .u64 bt, v], .int .u64 i, .int .u64 t, .int .i64 most] w fun e w' => e = .returned (.bool true) ∧ Below w.heap.size w w' := by
  obtain ⟨a, c, rfl⟩ := hr.form
  have hb0 : Below w.heap.size w (w.alloc (.cells #[.int .u64 b, .int .u64 bt, .slice a es.length c] 25)) := (Below.refl _ _).alloc (Nat.le_refl _) _
  have hC0 := C3.new w (.int .u64 b) (.int .u64 bt) (.slice a es.length c) 25
  go_enter Try.func6, Try.ntmps6
  go_wp2_with fail
  refine (awake21_any _).mono ?_
  rintro e w1 ⟨rfl, hb1⟩
  have hbl := hb0.trans (hb1.mono hb0.size)
  replace hC0 := hC0.keep hb1
  have HC0 := Lib.hid hC0
  obtain ⟨z0, p0, p1, p2⟩ := hC0
  clear hb0 hb1
  by_cases h1 : b ≤ 4611686018427387904
  · have x1 : decide ((4611686018427387904 : Int) < (b : Int)) = false := by simp; omega
    have HB1 := Lib.hid hbl
    have hcp := copied_any b bt (.slice a es.length c) es w1 (hr.keep hbl) hsum
    have HCP := Lib.hid hcp
    clear hcp hbl
    go_wp2_with fail
    refine HCP.out.mono ?_
    rintro e w2 ⟨v2, rfl, hr2, hb2⟩
    have HB2 := Lib.hid (HB1.out.trans (hb2.mono HB1.out.size))
    have HC2 := Lib.hid (HC0.out.keep hb2)
    clear z0 p0 p1 p2 HCP HC0 hb2 HB1
    have hba : Below w2.heap.size w2 (w2.alloc (.cells #[.int .u64 b, .int .u64 bt, v2] 25)) := (Below.refl _ _).alloc (Nat.le_refl _) _
    have hC9 := C3.new w2 (.int .u64 b) (.int .u64 bt) v2 25
    obtain ⟨a2, c2, rfl⟩ := hr2.form
    go_upto_region 6 with fail
    obtain ⟨w3, hw3⟩ : ∃ x : World, x = w2.alloc (.cells #[.int .u64 b, .int .u64 bt, .slice a2 es.length c2] 25) := ⟨_, rfl⟩
    rw [← hw3] at hba hC9 ⊢
    obtain ⟨G9, hG9⟩ : ∃ G9, G9 = w2.heap.size := ⟨_, rfl⟩
    rw [← hG9] at hC9 ⊢
    have HB3 := Lib.hid (HB2.out.trans (hba.mono HB2.out.size))
    have HC3 := Lib.hid (HC2.out.keep hba)
    have HC93 := Lib.hid hC9
    have HR3 := Lib.hid (hr2.keep hba)
    clear hba hr2 HB2 HC2 hw3 hG9
    obtain ⟨k0, k1, k2, k3⟩ := hC9
    obtain ⟨z0, p0, p1, p2⟩ := HC3.out
    go_wp2_with fail
    refine (Term_any b bt _ es i w3 h1 hi64 (by omega) HR3.out).mono ?_
    rintro e w4 ⟨rfl, hb4⟩
    have HB4 := Lib.hid (HB3.out.trans (hb4.mono HB3.out.size))
    have HC4 := Lib.hid (HC3.out.keep hb4)
    have HC94 := Lib.hid (HC93.out.keep hb4)
    have HR4 := Lib.hid (HR3.out.keep hb4)
    clear k0 k1 k2 k3 z0 p0 p1 p2 HB3 HC3 HC93 HR3 hb4
    obtain ⟨z0, p0, p1, p2⟩ := HC4.out
    go_wp2_with fail
    refine (RTerm_any b bt _ es i w4 h1 hi64 (by omega) (hr.keep HB4.out)).mono ?_
    rintro e wq ⟨rfl, hbq⟩
    have HB := Lib.hid (HB4.out.trans (hbq.mono HB4.out.size))
    have HC0 := Lib.hid (HC4.out.keep hbq)
    have HC9 := Lib.hid (HC94.out.keep hbq)
    have HRO := Lib.hid (HR4.out.keep hbq)
    clear z0 p0 p1 p2 HB4 HC4 HC94 HR4 hbq
    go_wp2_with fail
    refine wp_region_steps [some 33, some 34, some 35, some 36, some 37, some 38, some 39, some 40, some 41, some 42, some 43, some 44, some 45, some 46, some 47, some 48, some 49, some 50, some 51, some 52, some 53, some 54, some 55, some 56, some 57, some 58, some 59, some 60, some 61, some 62, some 63, some 64, some 65, some 66, some 67, some 68, some 69, some 70, some 71, some 72, some 73, some 74, some 8] [] (raF b bt es a c a2 c2 i t most) (fun _ wx wy => Below wx.heap.size wx wy) (fun wx => Below wq.heap.size wq wx) (by kernel_rfl) (by kernel_rfl) rfl (by kernel_rfl) (Below.refl _ _).drew (fun _ wx => Below.refl _ _) (fun _ wx wy h k => h.trans (k.mono h.size)) ?hF ?hstep ?hend
    case hF =>
      exact ⟨fun _ _ _ _ _ _ h => h, ⟨fun _ _ _ _ _ _ h => h, ⟨fun _ _ _ _ _ _ h => h, ⟨fun _ _ _ _ _ _ h => h, ⟨fun _ _ _ _ _ _ h => h, ⟨fun _ _ _ _ _ _ h => h, ⟨fun _ _ _ _ _ _ h => h, ⟨fun _ _ _ _ _ _ h => h, ⟨fun _ _ _ _ _ _ h => h, ⟨fun _ _ _ _ _ _ h => h, ⟨fun _ _ _ _ _ _ h => h, ⟨fun _ _ _ _ _ _ h => h, ⟨fun _ _ _ _ _ _ h => h, ⟨fun _ _ _ _ _ _ h => h, ⟨fun _ _ _ _ _ _ h => h, ⟨fun _ _ _ _ _ _ h => h, ⟨fun _ _ _ _ _ _ h => h, ⟨fun _ _ _ _ _ _ h => h, ⟨fun _ _ _ _ _ _ h => h, ⟨fun _ _ _ _ _ _ h => h, ⟨fun _ _ _ _ _ _ h => h, ⟨fun _ _ _ _ _ _ h => h, ⟨fun _ _ _ _ _ _ h => h, ⟨fun _ _ _ _ _ _ h => h, ⟨fun _ _ _ _ _ _ h => h, ⟨fun _ _ _ _ _ _ h => h, ⟨fun _ _ _ _ _ _ h => h, ⟨fun _ _ _ _ _ _ h => h, ⟨fun _ _ _ _ _ _ h => h, ⟨fun _ _ _ _ _ _ h => h, ⟨fun _ _ _ _ _ k h => Rd.keep h k, ⟨fun _ _ _ _ _ _ h => h, ⟨fun _ _ _ _ _ _ h => h, ⟨fun _ _ _ _ _ _ h => h, ⟨fun _ _ _ _ _ k h => Rd.keep h k, ⟨fun _ _ _ _ _ _ h => h, ⟨fun _ _ _ _ _ _ h => h, ⟨fun _ _ _ _ _ _ h => h, ⟨fun _ _ _ _ _ _ h => h, ⟨fun _ _ _ _ _ _ h => h, ⟨fun _ _ _ _ _ _ h => h, ⟨fun _ _ _ _ _ _ h => h, ⟨fun _ _ _ _ _ _ h => h, trivial⟩⟩⟩⟩⟩⟩⟩⟩⟩⟩⟩⟩⟩⟩⟩⟩⟩⟩⟩⟩⟩⟩⟩⟩⟩⟩⟩⟩⟩⟩⟩⟩⟩⟩⟩⟩⟩⟩⟩⟩⟩⟩⟩
    case hstep =>
      -- operation 0: Op.load 25 (tmp 9)
      refine ⟨fun r wx hG hs hq hf => ?_, ?_⟩
      · have e9 : r 9 = .pointer (some ⟨G9, 0, none⟩) := hs 9 rfl
        refine (if_pos rfl).symm ▸ ?_
        clear hs hq hf
        unfold gives
        have k := (HC9.out.keep hG)
        obtain ⟨k0, k1, k2, k3⟩ := k
        go_simp
        exact ⟨Below.refl _ _, rfl⟩
      -- operation 1: Op.call ( callee := Callee.value (func 14), args := #[tmp 33], argTypes := #[25] )
      refine ⟨fun r wx hG hs hq hf => ?_, ?_⟩
      · have h0 : r 33 = .agg #[.int .u64 b, .int .u64 bt, .slice a2 es.length c2] := hf.1
        refine (if_pos rfl).symm ▸ ?_
        clear hs hq hf
        unfold gives
        go_simp
        refine (Last_any b bt es.length c2 a2 wx h1 (by omega)).mono ?_
        rintro e wy ⟨rfl, hb1⟩
        exact ⟨_, rfl, hb1, rfl⟩
      -- operation 2: Op.load 25 (tmp 4)
      refine ⟨fun r wx hG hs hq hf => ?_, ?_⟩
      · have e4 : r 4 = .pointer (some ⟨w.heap.size, 0, none⟩) := hs 4 rfl
        refine (if_pos rfl).symm ▸ ?_
        clear hs hq hf
        unfold gives
        have k := (HC0.out.keep hG)
        obtain ⟨k0, k1, k2, k3⟩ := k
        go_simp
        exact ⟨Below.refl _ _, rfl⟩
      -- operation 3: Op.call ( callee := Callee.value (func 18), args := #[tmp 35], argTypes := #[25] )
      refine ⟨fun r wx hG hs hq hf => ?_, ?_⟩
      · have h2 : r 35 = .agg #[.int .u64 b, .int .u64 bt, .slice a es.length c] := hf.1
        refine (if_pos rfl).symm ▸ ?_
        clear hs hq hf
        unfold gives
        go_simp
        refine (RLast_any b bt es.length c a wx h1 (by omega)).mono ?_
        rintro e wy ⟨rfl, hb1⟩
        exact ⟨_, rfl, hb1, rfl⟩
      -- operation 4: Op.binOp BinOp.eql 22 (tmp 34) (tmp 36) 22
      refine ⟨fun r wx hG hs hq hf => ?_, ?_⟩
      · have h1 : r 34 = .int .u64 ((b + es.length : Nat) : Int) := hf.1
        have h3 : r 36 = .int .u64 ((b + es.length : Nat) : Int) := hf.2.1
        refine (if_pos rfl).symm ▸ ?_
        clear hs hq hf
        unfold gives
        go_simp
        exact ⟨Below.refl _ _, rfl⟩
      -- operation 5: Op.move (tmp 37)
      refine ⟨fun r wx hG hs hq hf => ?_, ?_⟩
      · have h4 : r 37 = .bool true := hf.1
        refine (if_pos rfl).symm ▸ ?_
        clear hs hq hf
        unfold gives
        go_simp
        exact ⟨Below.refl _ _, rfl⟩
      -- operation 6: Op.move (tmp 10)
      refine ⟨fun r wx hG hs hq hf => ?_, ?_⟩
      · have e10 : r 10 = .int .u64 (termP b bt es i).1 := hs 10 rfl
        have h5 : r 38 = .bool true := hf.1
        have hy : ydD [some 33, some 34, some 35, some 36, some 37, some 38, some 39, some 40, some 41, some 42, some 43, some 44, some 45, some 46, some 47, some 48, some 49, some 50, some 51, some 52, some 53, some 54, some 55, some 56, some 57, some 58, some 59, some 60, some 61, some 62, some 63, some 64, some 65, some 66, some 67, some 68, some 69, some 70, some 71, some 72, some 73, some 74, some 8] r 5 = some true := by show (match r 38 with | .bool b => some b | _ => none) = some true; rw [h5]
        simp only [Region.wanted, hy, beq_self_eq_true, if_true]
        clear hs hq hf hy
        unfold gives
        go_simp
        exact ⟨Below.refl _ _, rfl⟩
      -- operation 7: Op.move (tmp 12)
      refine ⟨fun r wx hG hs hq hf => ?_, ?_⟩
      · have e12 : r 12 = .int .u64 (termP b bt es i).1 := hs 12 rfl
        have h5 : r 38 = .bool true := hf.1
        have hy : ydD [some 33, some 34, some 35, some 36, some 37, some 38, some 39, some 40, some 41, some 42, some 43, some 44, some 45, some 46, some 47, some 48, some 49, some 50, some 51, some 52, some 53, some 54, some 55, some 56, some 57, some 58, some 59, some 60, some 61, some 62, some 63, some 64, some 65, some 66, some 67, some 68, some 69, some 70, some 71, some 72, some 73, some 74, some 8] r 5 = some true := by show (match r 38 with | .bool b => some b | _ => none) = some true; rw [h5]
        simp only [Region.wanted, hy, beq_self_eq_true, if_true]
        clear hs hq hf hy
        unfold gives
        go_simp
        exact ⟨Below.refl _ _, rfl⟩
      -- operation 8: Op.binOp BinOp.eql 22 (tmp 39) (tmp 40) 22
      refine ⟨fun r wx hG hs hq hf => ?_, ?_⟩
      · have h6 : r 39 = .int .u64 (termP b bt es i).1 := hf.1
        have h7 : r 40 = .int .u64 (termP b bt es i).1 := hf.2.1
        have h5 : r 38 = .bool true := hf.2.2.1
        have hy : ydD [some 33, some 34, some 35, some 36, some 37, some 38, some 39, some 40, some 41, some 42, some 43, some 44, some 45, some 46, some 47, some 48, some 49, some 50, some 51, some 52, some 53, some 54, some 55, some 56, some 57, some 58, some 59, some 60, some 61, some 62, some 63, some 64, some 65, some 66, some 67, some 68, some 69, some 70, some 71, some 72, some 73, some 74, some 8] r 5 = some true := by show (match r 38 with | .bool b => some b | _ => none) = some true; rw [h5]
        simp only [Region.wanted, hy, beq_self_eq_true, if_true]
        clear hs hq hf hy
        unfold gives
        go_simp
        exact ⟨Below.refl _ _, by simp [raF]⟩
      -- operation 9: Op.pick (tmp 38) (tmp 41) (const (Value.bool false))
      refine ⟨fun r wx hG hs hq hf => ?_, ?_⟩
      · have h5 : r 38 = .bool true := hf.1
        have h8 : r 41 = .bool true := hf.2.1
        refine (if_pos rfl).symm ▸ ?_
        clear hs hq hf
        unfold gives
        go_simp
        exact ⟨Below.refl _ _, rfl⟩
      -- operation 10: Op.move (tmp 42)
      refine ⟨fun r wx hG hs hq hf => ?_, ?_⟩
      · have h9 : r 42 = .bool true := hf.1
        refine (if_pos rfl).symm ▸ ?_
        clear hs hq hf
        unfold gives
        go_simp
        exact ⟨Below.refl _ _, rfl⟩
      -- operation 11: Op.move (tmp 11)
      refine ⟨fun r wx hG hs hq hf => ?_, ?_⟩
      · have e11 : r 11 = .bool (termP b bt es i).2 := hs 11 rfl
        have h10 : r 43 = .bool true := hf.1
        have hy : ydD [some 33, some 34, some 35, some 36, some 37, some 38, some 39, some 40, some 41, some 42, some 43, some 44, some 45, some 46, some 47, some 48, some 49, some 50, some 51, some 52, some 53, some 54, some 55, some 56, some 57, some 58, some 59, some 60, some 61, some 62, some 63, some 64, some 65, some 66, some 67, some 68, some 69, some 70, some 71, some 72, some 73, some 74, some 8] r 10 = some true := by show (match r 43 with | .bool b => some b | _ => none) = some true; rw [h10]
        simp only [Region.wanted, hy, beq_self_eq_true, if_true]
        clear hs hq hf hy
        unfold gives
        go_simp
        exact ⟨Below.refl _ _, rfl⟩
      -- operation 12: Op.move (tmp 13)
      refine ⟨fun r wx hG hs hq hf => ?_, ?_⟩
      · have e13 : r 13 = .bool (termP b bt es i).2 := hs 13 rfl
        have h10 : r 43 = .bool true := hf.1
        have hy : ydD [some 33, some 34, some 35, some 36, some 37, some 38, some 39, some 40, some 41, some 42, some 43, some 44, some 45, some 46, some 47, some 48, some 49, some 50, some 51, some 52, some 53, some 54, some 55, some 56, some 57, some 58, some 59, some 60, some 61, some 62, some 63, some 64, some 65, some 66, some 67, some 68, some 69, some 70, some 71, some 72, some 73, some 74, some 8] r 10 = some true := by show (match r 43 with | .bool b => some b | _ => none) = some true; rw [h10]
        simp only [Region.wanted, hy, beq_self_eq_true, if_true]
        clear hs hq hf hy
        unfold gives
        go_simp
        exact ⟨Below.refl _ _, rfl⟩
      -- operation 13: Op.binOp BinOp.eql 4 (tmp 44) (tmp 45) 4
      refine ⟨fun r wx hG hs hq hf => ?_, ?_⟩
      · have h11 : r 44 = .bool (termP b bt es i).2 := hf.1
        have h12 : r 45 = .bool (termP b bt es i).2 := hf.2.1
        have h10 : r 43 = .bool true := hf.2.2.1
        have hy : ydD [some 33, some 34, some 35, some 36, some 37, some 38, some 39, some 40, some 41, some 42, some 43, some 44, some 45, some 46, some 47, some 48, some 49, some 50, some 51, some 52, some 53, some 54, some 55, some 56, some 57, some 58, some 59, some 60, some 61, some 62, some 63, some 64, some 65, some 66, some 67, some 68, some 69, some 70, some 71, some 72, some 73, some 74, some 8] r 10 = some true := by show (match r 43 with | .bool b => some b | _ => none) = some true; rw [h10]
        simp only [Region.wanted, hy, beq_self_eq_true, if_true]
        clear hs hq hf hy
        unfold gives
        go_simp
        exact ⟨Below.refl _ _, by simp [raF]⟩
      -- operation 14: Op.pick (tmp 43) (tmp 46) (const (Value.bool false))
      refine ⟨fun r wx hG hs hq hf => ?_, ?_⟩
      · have h10 : r 43 = .bool true := hf.1
        have h13 : r 46 = .bool true := hf.2.1
        refine (if_pos rfl).symm ▸ ?_
        clear hs hq hf
        unfold gives
        go_simp
        exact ⟨Below.refl _ _, rfl⟩
      -- operation 15: Op.move (tmp 47)
      refine ⟨fun r wx hG hs hq hf => ?_, ?_⟩
      · have h14 : r 47 = .bool true := hf.1
        refine (if_pos rfl).symm ▸ ?_
        clear hs hq hf
        unfold gives
        go_simp
        exact ⟨Below.refl _ _, rfl⟩
      -- operation 16: Op.load 25 (tmp 9)
      refine ⟨fun r wx hG hs hq hf => ?_, ?_⟩
      · have e9 : r 9 = .pointer (some ⟨G9, 0, none⟩) := hs 9 rfl
        have h15 : r 48 = .bool true := hf.1
        have hy : ydD [some 33, some 34, some 35, some 36, some 37, some 38, some 39, some 40, some 41, some 42, some 43, some 44, some 45, some 46, some 47, some 48, some 49, some 50, some 51, some 52, some 53, some 54, some 55, some 56, some 57, some 58, some 59, some 60, some 61, some 62, some 63, some 64, some 65, some 66, some 67, some 68, some 69, some 70, some 71, some 72, some 73, some 74, some 8] r 15 = some true := by show (match r 48 with | .bool b => some b | _ => none) = some true; rw [h15]
        simp only [Region.wanted, hy, beq_self_eq_true, if_true]
        clear hs hq hf hy
        unfold gives
        have k := (HC9.out.keep hG)
        obtain ⟨k0, k1, k2, k3⟩ := k
        go_simp
        exact ⟨Below.refl _ _, rfl⟩
      -- operation 17: Op.move (tmp 1)
      refine ⟨fun r wx hG hs hq hf => ?_, ?_⟩
      · have e1 : r 1 = .int .u64 i := hs 1 rfl
        have h15 : r 48 = .bool true := hf.1
        have hy : ydD [some 33, some 34, some 35, some 36, some 37, some 38, some 39, some 40, some 41, some 42, some 43, some 44, some 45, some 46, some 47, some 48, some 49, some 50, some 51, some 52, some 53, some 54, some 55, some 56, some 57, some 58, some 59, some 60, some 61, some 62, some 63, some 64, some 65, some 66, some 67, some 68, some 69, some 70, some 71, some 72, some 73, some 74, some 8] r 15 = some true := by show (match r 48 with | .bool b => some b | _ => none) = some true; rw [h15]
        simp only [Region.wanted, hy, beq_self_eq_true, if_true]
        clear hs hq hf hy
        unfold gives
        go_simp
        exact ⟨Below.refl _ _, rfl⟩
      -- operation 18: Op.move (tmp 2)
      refine ⟨fun r wx hG hs hq hf => ?_, ?_⟩
      · have e2 : r 2 = .int .u64 t := hs 2 rfl
        have h15 : r 48 = .bool true := hf.1
        have hy : ydD [some 33, some 34, some 35, some 36, some 37, some 38, some 39, some 40, some 41, some 42, some 43, some 44, some 45, some 46, some 47, some 48, some 49, some 50, some 51, some 52, some 53, some 54, some 55, some 56, some 57, some 58, some 59, some 60, some 61, some 62, some 63, some 64, some 65, some 66, some 67, some 68, some 69, some 70, some 71, some 72, some 73, some 74, some 8] r 15 = some true := by show (match r 48 with | .bool b => some b | _ => none) = some true; rw [h15]
        simp only [Region.wanted, hy, beq_self_eq_true, if_true]
        clear hs hq hf hy
        unfold gives
        go_simp
        exact ⟨Below.refl _ _, rfl⟩
      -- operation 19: Op.call ( callee := Callee.value (func 19), args := #[tmp 49, tmp 50, tmp 51], argTypes := #[25, 22, 22] )
      refine ⟨fun r wx hG hs hq hf => ?_, ?_⟩
      · have h16 : r 49 = .agg #[.int .u64 b, .int .u64 bt, .slice a2 es.length c2] := hf.1
        have h17 : r 50 = .int .u64 i := hf.2.1
        have h18 : r 51 = .int .u64 t := hf.2.2.1
        have h15 : r 48 = .bool true := hf.2.2.2.1
        have hy : ydD [some 33, some 34, some 35, some 36, some 37, some 38, some 39, some 40, some 41, some 42, some 43, some 44, some 45, some 46, some 47, some 48, some 49, some 50, some 51, some 52, some 53, some 54, some 55, some 56, some 57, some 58, some 59, some 60, some 61, some 62, some 63, some 64, some 65, some 66, some 67, some 68, some 69, some 70, some 71, some 72, some 73, some 74, some 8] r 15 = some true := by show (match r 48 with | .bool b => some b | _ => none) = some true; rw [h15]
        simp only [Region.wanted, hy, beq_self_eq_true, if_true]
        clear hs hq hf hy
        unfold gives
        go_simp
        refine (Newer_any b bt _ es i t wx h1 (by omega) ((HRO.out).keep hG)).mono ?_
        rintro e wy ⟨rfl, hb1⟩
        exact ⟨_, rfl, hb1, rfl⟩
      -- operation 20: Op.load 25 (tmp 4)
      refine ⟨fun r wx hG hs hq hf => ?_, ?_⟩
      · have e4 : r 4 = .pointer (some ⟨w.heap.size, 0, none⟩) := hs 4 rfl
        have h15 : r 48 = .bool true := hf.1
        have hy : ydD [some 33, some 34, some 35, some 36, some 37, some 38, some 39, some 40, some 41, some 42, some 43, some 44, some 45, some 46, some 47, some 48, some 49, some 50, some 51, some 52, some 53, some 54, some 55, some 56, some 57, some 58, some 59, some 60, some 61, some 62, some 63, some 64, some 65, some 66, some 67, some 68, some 69, some 70, some 71, some 72, some 73, some 74, some 8] r 15 = some true := by show (match r 48 with | .bool b => some b | _ => none) = some true; rw [h15]
        simp only [Region.wanted, hy, beq_self_eq_true, if_true]
        clear hs hq hf hy
        unfold gives
        have k := (HC0.out.keep hG)
        obtain ⟨k0, k1, k2, k3⟩ := k
        go_simp
        exact ⟨Below.refl _ _, rfl⟩
      -- operation 21: Op.move (tmp 1)
      refine ⟨fun r wx hG hs hq hf => ?_, ?_⟩
      · have e1 : r 1 = .int .u64 i := hs 1 rfl
        have h15 : r 48 = .bool true := hf.1
        have hy : ydD [some 33, some 34, some 35, some 36, some 37, some 38, some 39, some 40, some 41, some 42, some 43, some 44, some 45, some 46, some 47, some 48, some 49, some 50, some 51, some 52, some 53, some 54, some 55, some 56, some 57, some 58, some 59, some 60, some 61, some 62, some 63, some 64, some 65, some 66, some 67, some 68, some 69, some 70, some 71, some 72, some 73, some 74, some 8] r 15 = some true := by show (match r 48 with | .bool b => some b | _ => none) = some true; rw [h15]
        simp only [Region.wanted, hy, beq_self_eq_true, if_true]
        clear hs hq hf hy
        unfold gives
        go_simp
        exact ⟨Below.refl _ _, rfl⟩
      -- operation 22: Op.move (tmp 2)
      refine ⟨fun r wx hG hs hq hf => ?_, ?_⟩
      · have e2 : r 2 = .int .u64 t := hs 2 rfl
        have h15 : r 48 = .bool true := hf.1
        have hy : ydD [some 33, some 34, some 35, some 36, some 37, some 38, some 39, some 40, some 41, some 42, some 43, some 44, some 45, some 46, some 47, some 48, some 49, some 50, some 51, some 52, some 53, some 54, some 55, some 56, some 57, some 58, some 59, some 60, some 61, some 62, some 63, some 64, some 65, some 66, some 67, some 68, some 69, some 70, some 71, some 72, some 73, some 74, some 8] r 15 = some true := by show (match r 48 with | .bool b => some b | _ => none) = some true; rw [h15]
        simp only [Region.wanted, hy, beq_self_eq_true, if_true]
        clear hs hq hf hy
        unfold gives
        go_simp
        exact ⟨Below.refl _ _, rfl⟩
      -- operation 23: Op.call ( callee := Callee.value (func 20), args := #[tmp 53, tmp 54, tmp 55], argTypes := #[25, 22, 22] )
      refine ⟨fun r wx hG hs hq hf => ?_, ?_⟩
      · have h20 : r 53 = .agg #[.int .u64 b, .int .u64 bt, .slice a es.length c] := hf.1
        have h21 : r 54 = .int .u64 i := hf.2.1
        have h22 : r 55 = .int .u64 t := hf.2.2.1
        have h15 : r 48 = .bool true := hf.2.2.2.2.1
        have hy : ydD [some 33, some 34, some 35, some 36, some 37, some 38, some 39, some 40, some 41, some 42, some 43, some 44, some 45, some 46, some 47, some 48, some 49, some 50, some 51, some 52, some 53, some 54, some 55, some 56, some 57, some 58, some 59, some 60, some 61, some 62, some 63, some 64, some 65, some 66, some 67, some 68, some 69, some 70, some 71, some 72, some 73, some 74, some 8] r 15 = some true := by show (match r 48 with | .bool b => some b | _ => none) = some true; rw [h15]
        simp only [Region.wanted, hy, beq_self_eq_true, if_true]
        clear hs hq hf hy
        unfold gives
        go_simp
        refine (RNewer_any b bt _ es i t wx h1 (by omega) (hr.keep (HB.out.trans (hG.mono HB.out.size)))).mono ?_
        rintro e wy ⟨rfl, hb1⟩
        exact ⟨_, rfl, hb1, rfl⟩
      -- operation 24: Op.binOp BinOp.eql 4 (tmp 52) (tmp 56) 4
      refine ⟨fun r wx hG hs hq hf => ?_, ?_⟩
      · have h19 : r 52 = .bool (newerP b bt es i t) := hf.1
        have h23 : r 56 = .bool (newerP b bt es i t) := hf.2.1
        have h15 : r 48 = .bool true := hf.2.2.1
        have hy : ydD [some 33, some 34, some 35, some 36, some 37, some 38, some 39, some 40, some 41, some 42, some 43, some 44, some 45, some 46, some 47, some 48, some 49, some 50, some 51, some 52, some 53, some 54, some 55, some 56, some 57, some 58, some 59, some 60, some 61, some 62, some 63, some 64, some 65, some 66, some 67, some 68, some 69, some 70, some 71, some 72, some 73, some 74, some 8] r 15 = some true := by show (match r 48 with | .bool b => some b | _ => none) = some true; rw [h15]
        simp only [Region.wanted, hy, beq_self_eq_true, if_true]
        clear hs hq hf hy
        unfold gives
        go_simp
        exact ⟨Below.refl _ _, by simp [raF]⟩
      -- operation 25: Op.pick (tmp 48) (tmp 57) (const (Value.bool false))
      refine ⟨fun r wx hG hs hq hf => ?_, ?_⟩
      · have h15 : r 48 = .bool true := hf.1
        have h24 : r 57 = .bool true := hf.2.1
        refine (if_pos rfl).symm ▸ ?_
        clear hs hq hf
        unfold gives
        go_simp
        exact ⟨Below.refl _ _, rfl⟩
      -- operation 26: Op.move (tmp 58)
      refine ⟨fun r wx hG hs hq hf => ?_, ?_⟩
      · have h25 : r 58 = .bool true := hf.1
        refine (if_pos rfl).symm ▸ ?_
        clear hs hq hf
        unfold gives
        go_simp
        exact ⟨Below.refl _ _, rfl⟩
      -- operation 27: Op.load 25 (tmp 9)
      refine ⟨fun r wx hG hs hq hf => ?_, ?_⟩
      · have e9 : r 9 = .pointer (some ⟨G9, 0, none⟩) := hs 9 rfl
        have h26 : r 59 = .bool true := hf.1
        have hy : ydD [some 33, some 34, some 35, some 36, some 37, some 38, some 39, some 40, some 41, some 42, some 43, some 44, some 45, some 46, some 47, some 48, some 49, some 50, some 51, some 52, some 53, some 54, some 55, some 56, some 57, some 58, some 59, some 60, some 61, some 62, some 63, some 64, some 65, some 66, some 67, some 68, some 69, some 70, some 71, some 72, some 73, some 74, some 8] r 26 = some true := by show (match r 59 with | .bool b => some b | _ => none) = some true; rw [h26]
        simp only [Region.wanted, hy, beq_self_eq_true, if_true]
        clear hs hq hf hy
        unfold gives
        have k := (HC9.out.keep hG)
        obtain ⟨k0, k1, k2, k3⟩ := k
        go_simp
        exact ⟨Below.refl _ _, rfl⟩
      -- operation 28: Op.move (tmp 1)
      refine ⟨fun r wx hG hs hq hf => ?_, ?_⟩
      · have e1 : r 1 = .int .u64 i := hs 1 rfl
        have h26 : r 59 = .bool true := hf.1
        have hy : ydD [some 33, some 34, some 35, some 36, some 37, some 38, some 39, some 40, some 41, some 42, some 43, some 44, some 45, some 46, some 47, some 48, some 49, some 50, some 51, some 52, some 53, some 54, some 55, some 56, some 57, some 58, some 59, some 60, some 61, some 62, some 63, some 64, some 65, some 66, some 67, some 68, some 69, some 70, some 71, some 72, some 73, some 74, some 8] r 26 = some true := by show (match r 59 with | .bool b => some b | _ => none) = some true; rw [h26]
        simp only [Region.wanted, hy, beq_self_eq_true, if_true]
        clear hs hq hf hy
        unfold gives
        go_simp
        exact ⟨Below.refl _ _, rfl⟩
      -- operation 29: Op.move (tmp 3)
      refine ⟨fun r wx hG hs hq hf => ?_, ?_⟩
      · have e3 : r 3 = .int .i64 most := hs 3 rfl
        have h26 : r 59 = .bool true := hf.1
        have hy : ydD [some 33, some 34, some 35, some 36, some 37, some 38, some 39, some 40, some 41, some 42, some 43, some 44, some 45, some 46, some 47, some 48, some 49, some 50, some 51, some 52, some 53, some 54, some 55, some 56, some 57, some 58, some 59, some 60, some 61, some 62, some 63, some 64, some 65, some 66, some 67, some 68, some 69, some 70, some 71, some 72, some 73, some 74, some 8] r 26 = some true := by show (match r 59 with | .bool b => some b | _ => none) = some true; rw [h26]
        simp only [Region.wanted, hy, beq_self_eq_true, if_true]
        clear hs hq hf hy
        unfold gives
        go_simp
        exact ⟨Below.refl _ _, rfl⟩
      -- operation 30: Op.call ( callee := Callee.value (func 21), args := #[tmp 60, tmp 61, tmp 62], argTypes := #[25, 22, 3] )
      refine ⟨fun r wx hG hs hq hf => ?_, ?_⟩
      · have h27 : r 60 = .agg #[.int .u64 b, .int .u64 bt, .slice a2 es.length c2] := hf.1
        have h28 : r 61 = .int .u64 i := hf.2.1
        have h29 : r 62 = .int .i64 most := hf.2.2.1
        have h26 : r 59 = .bool true := hf.2.2.2.1
        have hy : ydD [some 33, some 34, some 35, some 36, some 37, some 38, some 39, some 40, some 41, some 42, some 43, some 44, some 45, some 46, some 47, some 48, some 49, some 50, some 51, some 52, some 53, some 54, some 55, some 56, some 57, some 58, some 59, some 60, some 61, some 62, some 63, some 64, some 65, some 66, some 67, some 68, some 69, some 70, some 71, some 72, some 73, some 74, some 8] r 26 = some true := by show (match r 59 with | .bool b => some b | _ => none) = some true; rw [h26]
        simp only [Region.wanted, hy, beq_self_eq_true, if_true]
        clear hs hq hf hy
        unfold gives
        go_simp
        refine (Slice_any b bt _ es i most wx h1 hi64 hm0 hm1 ((HRO.out).keep hG) hsum).mono ?_
        rintro e wy ⟨v, rfl, hr1, hb1⟩
        exact ⟨v, rfl, hb1, hr1⟩
      -- operation 31: Op.load 25 (tmp 4)
      refine ⟨fun r wx hG hs hq hf => ?_, ?_⟩
      · have e4 : r 4 = .pointer (some ⟨w.heap.size, 0, none⟩) := hs 4 rfl
        have h26 : r 59 = .bool true := hf.1
        have hy : ydD [some 33, some 34, some 35, some 36, some 37, some 38, some 39, some 40, some 41, some 42, some 43, some 44, some 45, some 46, some 47, some 48, some 49, some 50, some 51, some 52, some 53, some 54, some 55, some 56, some 57, some 58, some 59, some 60, some 61, some 62, some 63, some 64, some 65, some 66, some 67, some 68, some 69, some 70, some 71, some 72, some 73, some 74, some 8] r 26 = some true := by show (match r 59 with | .bool b => some b | _ => none) = some true; rw [h26]
        simp only [Region.wanted, hy, beq_self_eq_true, if_true]
        clear hs hq hf hy
        unfold gives
        have k := (HC0.out.keep hG)
        obtain ⟨k0, k1, k2, k3⟩ := k
        go_simp
        exact ⟨Below.refl _ _, rfl⟩
      -- operation 32: Op.move (tmp 1)
      refine ⟨fun r wx hG hs hq hf => ?_, ?_⟩
      · have e1 : r 1 = .int .u64 i := hs 1 rfl
        have h26 : r 59 = .bool true := hf.1
        have hy : ydD [some 33, some 34, some 35, some 36, some 37, some 38, some 39, some 40, some 41, some 42, some 43, some 44, some 45, some 46, some 47, some 48, some 49, some 50, some 51, some 52, some 53, some 54, some 55, some 56, some 57, some 58, some 59, some 60, some 61, some 62, some 63, some 64, some 65, some 66, some 67, some 68, some 69, some 70, some 71, some 72, some 73, some 74, some 8] r 26 = some true := by show (match r 59 with | .bool b => some b | _ => none) = some true; rw [h26]
        simp only [Region.wanted, hy, beq_self_eq_true, if_true]
        clear hs hq hf hy
        unfold gives
        go_simp
        exact ⟨Below.refl _ _, rfl⟩
      -- operation 33: Op.move (tmp 3)
      refine ⟨fun r wx hG hs hq hf => ?_, ?_⟩
      · have e3 : r 3 = .int .i64 most := hs 3 rfl
        have h26 : r 59 = .bool true := hf.1
        have hy : ydD [some 33, some 34, some 35, some 36, some 37, some 38, some 39, some 40, some 41, some 42, some 43, some 44, some 45, some 46, some 47, some 48, some 49, some 50, some 51, some 52, some 53, some 54, some 55, some 56, some 57, some 58, some 59, some 60, some 61, some 62, some 63, some 64, some 65, some 66, some 67, some 68, some 69, some 70, some 71, some 72, some 73, some 74, some 8] r 26 = some true := by show (match r 59 with | .bool b => some b | _ => none) = some true; rw [h26]
        simp only [Region.wanted, hy, beq_self_eq_true, if_true]
        clear hs hq hf hy
        unfold gives
        go_simp
        exact ⟨Below.refl _ _, rfl⟩
      -- operation 34: Op.call ( callee := Callee.value (func 22), args := #[tmp 64, tmp 65, tmp 66], argTypes := #[25, 22, 3] )
      refine ⟨fun r wx hG hs hq hf => ?_, ?_⟩
      · have h31 : r 64 = .agg #[.int .u64 b, .int .u64 bt, .slice a es.length c] := hf.1
        have h32 : r 65 = .int .u64 i := hf.2.1
        have h33 : r 66 = .int .i64 most := hf.2.2.1
        have h30 : Rd wx 6 (r 63) (sliceP b es i most).length (ecells (sliceP b es i most)) := hf.2.2.2.1
        have h26 : r 59 = .bool true := hf.2.2.2.2.1
        have hy : ydD [some 33, some 34, some 35, some 36, some 37, some 38, some 39, some 40, some 41, some 42, some 43, some 44, some 45, some 46, some 47, some 48, some 49, some 50, some 51, some 52, some 53, some 54, some 55, some 56, some 57, some 58, some 59, some 60, some 61, some 62, some 63, some 64, some 65, some 66, some 67, some 68, some 69, some 70, some 71, some 72, some 73, some 74, some 8] r 26 = some true := by show (match r 59 with | .bool b => some b | _ => none) = some true; rw [h26]
        simp only [Region.wanted, hy, beq_self_eq_true, if_true]
        clear hs hq hf hy
        unfold gives
        go_simp
        refine (RSlice_any b bt _ es i most wx h1 hi64 hm0 hm1 (hr.keep (HB.out.trans (hG.mono HB.out.size))) hsum).mono ?_
        rintro e wy ⟨v, rfl, hr1, hb1⟩
        exact ⟨v, rfl, hb1, hr1⟩
      -- operation 35: Op.call ( callee := Callee.value (func 12), args := #[tmp 63, tmp 67], argTypes := #[23, 23] )
      refine ⟨fun r wx hG hs hq hf => ?_, ?_⟩
      · have h30 : Rd wx 6 (r 63) (sliceP b es i most).length (ecells (sliceP b es i most)) := hf.1
        have h34 : Rd wx 6 (r 67) (sliceP b es i most).length (ecells (sliceP b es i most)) := hf.2.1
        have h26 : r 59 = .bool true := hf.2.2.2.1
        have hy : ydD [some 33, some 34, some 35, some 36, some 37, some 38, some 39, some 40, some 41, some 42, some 43, some 44, some 45, some 46, some 47, some 48, some 49, some 50, some 51, some 52, some 53, some 54, some 55, some 56, some 57, some 58, some 59, some 60, some 61, some 62, some 63, some 64, some 65, some 66, some 67, some 68, some 69, some 70, some 71, some 72, some 73, some 74, some 8] r 26 = some true := by show (match r 59 with | .bool b => some b | _ => none) = some true; rw [h26]
        simp only [Region.wanted, hy, beq_self_eq_true, if_true]
        clear hs hq hf hy
        unfold gives
        have hspl : (sliceP b es i most).length ≤ es.length := by unfold sliceP; split <;> simp <;> omega
        go_simp
        refine (SameList_self _ _ (sliceP b es i most) wx (by omega) h30 h34 (fun e he => ((hok e (sliceP_mem _ _ _ _ e he)).keep (HB.out.trans (hG.mono HB.out.size))))).mono ?_
        rintro e wy ⟨rfl, hb1⟩
        exact ⟨_, rfl, hb1, rfl⟩
      -- operation 36: Op.pick (tmp 59) (tmp 68) (const (Value.bool false))
      refine ⟨fun r wx hG hs hq hf => ?_, ?_⟩
      · have h26 : r 59 = .bool true := hf.1
        have h35 : r 68 = .bool true := hf.2.1
        refine (if_pos rfl).symm ▸ ?_
        clear hs hq hf
        unfold gives
        go_simp
        exact ⟨Below.refl _ _, rfl⟩
      -- operation 37: Op.move (tmp 69)
      refine ⟨fun r wx hG hs hq hf => ?_, ?_⟩
      · have h36 : r 69 = .bool true := hf.1
        refine (if_pos rfl).symm ▸ ?_
        clear hs hq hf
        unfold gives
        go_simp
        exact ⟨Below.refl _ _, rfl⟩
      -- operation 38: Op.load 25 (tmp 9)
      refine ⟨fun r wx hG hs hq hf => ?_, ?_⟩
      · have e9 : r 9 = .pointer (some ⟨G9, 0, none⟩) := hs 9 rfl
        have h37 : r 70 = .bool true := hf.1
        have hy : ydD [some 33, some 34, some 35, some 36, some 37, some 38, some 39, some 40, some 41, some 42, some 43, some 44, some 45, some 46, some 47, some 48, some 49, some 50, some 51, some 52, some 53, some 54, some 55, some 56, some 57, some 58, some 59, some 60, some 61, some 62, some 63, some 64, some 65, some 66, some 67, some 68, some 69, some 70, some 71, some 72, some 73, some 74, some 8] r 37 = some true := by show (match r 70 with | .bool b => some b | _ => none) = some true; rw [h37]
        simp only [Region.wanted, hy, beq_self_eq_true, if_true]
        clear hs hq hf hy
        unfold gives
        have k := (HC9.out.keep hG)
        obtain ⟨k0, k1, k2, k3⟩ := k
        go_simp
        exact ⟨Below.refl _ _, rfl⟩
      -- operation 39: Op.load 25 (tmp 4)
      refine ⟨fun r wx hG hs hq hf => ?_, ?_⟩
      · have e4 : r 4 = .pointer (some ⟨w.heap.size, 0, none⟩) := hs 4 rfl
        have h37 : r 70 = .bool true := hf.1
        have hy : ydD [some 33, some 34, some 35, some 36, some 37, some 38, some 39, some 40, some 41, some 42, some 43, some 44, some 45, some 46, some 47, some 48, some 49, some 50, some 51, some 52, some 53, some 54, some 55, some 56, some 57, some 58, some 59, some 60, some 61, some 62, some 63, some 64, some 65, some 66, some 67, some 68, some 69, some 70, some 71, some 72, some 73, some 74, some 8] r 37 = some true := by show (match r 70 with | .bool b => some b | _ => none) = some true; rw [h37]
        simp only [Region.wanted, hy, beq_self_eq_true, if_true]
        clear hs hq hf hy
        unfold gives
        have k := (HC0.out.keep hG)
        obtain ⟨k0, k1, k2, k3⟩ := k
        go_simp
        exact ⟨Below.refl _ _, rfl⟩
      -- operation 40: Op.call ( callee := Callee.value (func 11), args := #[tmp 71, tmp 72], argTypes := #[25, 25] )
      refine ⟨fun r wx hG hs hq hf => ?_, ?_⟩
      · have h38 : r 71 = .agg #[.int .u64 b, .int .u64 bt, .slice a2 es.length c2] := hf.1
        have h39 : r 72 = .agg #[.int .u64 b, .int .u64 bt, .slice a es.length c] := hf.2.1
        have h37 : r 70 = .bool true := hf.2.2.1
        have hy : ydD [some 33, some 34, some 35, some 36, some 37, some 38, some 39, some 40, some 41, some 42, some 43, some 44, some 45, some 46, some 47, some 48, some 49, some 50, some 51, some 52, some 53, some 54, some 55, some 56, some 57, some 58, some 59, some 60, some 61, some 62, some 63, some 64, some 65, some 66, some 67, some 68, some 69, some 70, some 71, some 72, some 73, some 74, some 8] r 37 = some true := by show (match r 70 with | .bool b => some b | _ => none) = some true; rw [h37]
        simp only [Region.wanted, hy, beq_self_eq_true, if_true]
        clear hs hq hf hy
        unfold gives
        go_simp
        refine (SameLog_self b bt _ _ es wx (by omega) ((HRO.out).keep hG) (hr.keep (HB.out.trans (hG.mono HB.out.size))) (hok.keep (HB.out.trans (hG.mono HB.out.size)))).mono ?_
        rintro e wy ⟨rfl, hb1⟩
        exact ⟨_, rfl, hb1, rfl⟩
      -- operation 41: Op.pick (tmp 70) (tmp 73) (const (Value.bool false))
      refine ⟨fun r wx hG hs hq hf => ?_, ?_⟩
      · have h37 : r 70 = .bool true := hf.1
        have h40 : r 73 = .bool true := hf.2.1
        refine (if_pos rfl).symm ▸ ?_
        clear hs hq hf
        unfold gives
        go_simp
        exact ⟨Below.refl _ _, rfl⟩
      -- operation 42: Op.assign (tmp 74)
      refine ⟨fun r wx hG hs hq hf => ?_, ?_⟩
      · have h41 : r 74 = .bool true := hf.1
        refine (if_pos rfl).symm ▸ ?_
        clear hs hq hf
        unfold gives
        go_simp
        exact ⟨Below.refl _ _, rfl⟩
      exact trivial
    case hend =>
      intro u wz hG hfin
      have z42 : u 42 = .bool true := hfin 42 (by decide) (by kernel_rfl)
      clear hfin
      simp only [fill]
      go_simp
      go_wp2_with fail
      go_ret
      exact ⟨rfl, HB.out.trans (hG.mono HB.out.size)⟩
  · have x1 : decide ((4611686018427387904 : Int) < (b : Int)) = true := by simp; omega
    clear hr hok
    go_wp2_with fail
    go_ret
    exact ⟨rfl, hbl⟩

theorem rowsAsks.law (H : Type) (enc : TypeId × Value → H) (W : World) (base : Nat)
    (v0 : Value) (d0 : DataW H) (p0 : List MemPlace) (g0 : Value.okWide Try.prog W .any base 25 v0) (h0 : DataW.Trod enc Try.prog W 0 (fun _ => true) true 25 v0 d0 p0)
    (v1 : Value) (d1 : DataW H) (p1 : List MemPlace) (g1 : Value.okWide Try.prog W .any base 22 v1) (h1 : DataW.Trod enc Try.prog W 0 (fun _ => true) true 22 v1 d1 p1)
    (v2 : Value) (d2 : DataW H) (p2 : List MemPlace) (g2 : Value.okWide Try.prog W .any base 22 v2) (h2 : DataW.Trod enc Try.prog W 0 (fun _ => true) true 22 v2 d2 p2)
    (v3 : Value) (d3 : DataW H) (p3 : List MemPlace) (g3 : Value.okWide Try.prog W .any base 3 v3) (h3 : DataW.Trod enc Try.prog W 0 (fun _ => true) true 3 v3 d3 p3)
    {ts : List TypeId} {es : List (DataW H)} (hsz : (DataW.weightsEach Try.prog ([25, 22, 22, 3] ++ ts) ([d0, d1, d2, d3] ++ es)).all (· ≤ reachBytes) = true) :
    Calls Try.prog 6 #[v0, v1, v2, v3] W fun e W' => e = .returned (.bool true) ∧ Below W.heap.size W W' := by
  obtain ⟨b, bt, x, es, rfl, _, _, r1, l1, hq⟩ := open_logV hsz (j := 0) g0 h0 rfl rfl
  obtain ⟨i, rfl, _, _, wi⟩ := open_int Try.underlying22 g1 h1
  obtain ⟨i, rfl, hi⟩ := u64_nat wi
  obtain ⟨t, rfl, _, _, wt⟩ := open_int Try.underlying22 g2 h2
  obtain ⟨t, rfl, ht⟩ := u64_nat wt
  obtain ⟨m, rfl, _, _, wm⟩ := open_int Try.underlying3 g3 h3
  have hm := bounds_i64 wm
  exact rowsAsks_walk b bt x es i t m W hi (by omega) (by omega) r1 (fun e he => (hq e he).1) (by omega)
end Go.Proofs.Yteflpphpbecciaa
