/- The law EdgeBytes: its walk. -/
import Derived.Test.YtnkjhibjlfojjaaEdgeRef
import Derived.Test.YtnkjhibjlfojjaaEdgeLaw
import Derived.Test.YtnkjhibjlfojjaaReg
import Derived.Deep.DeepCutAuto
namespace Go.Proofs.Ytnkjhibjlfojjaa
open Go.ChangeShapes Go.WideShapes Go.ChangeAt Go.RowKit

theorem new_rd (w : World) (l : List UInt8) (e : TypeId) (h : l.length = 8) : Rd (w.alloc (.cells (bv l).toArray e)) 1 (.slice (some ⟨w.heap.size, 0, none⟩) 8 8) l.length (bv l) := by
  have := own_rd (own_new w e 1 8 0 (bv l) (by simp [bv_length, h]) (by omega) (by omega)) (bv_one l)
  rw [h]; exact this
theorem PutA_any (x : Nat) (w : World) (hx : x < 18446744073709551616) : Calls Try.prog 21 #[.float .f64 x] w fun e w' =>
    ∃ g, e = .returned (.slice (some ⟨g, 0, none⟩) 8 8) ∧ Rd w' 1 (.slice (some ⟨g, 0, none⟩) 8 8) (be 8 (canB x)).length (bv (be 8 (canB x))) ∧ Below w.heap.size w w' := by
  refine (Put_any x w hx).mono ?_
  rintro e w' ⟨rfl, rfl⟩
  exact ⟨_, rfl, new_rd w _ _ (be_length _ _), (Below.refl _ _).alloc (Nat.le_refl _) _⟩
theorem canB_ok (x : Nat) : fnan (canB x) = false ∨ canB x = 9221120237041090560 := by
  unfold canB
  cases h : fnan x with
  | true => exact .inr rfl
  | false => exact .inl h
theorem canB_of (x : Nat) (h : fnan x = false ∨ x = 9221120237041090560) : canB x = x := by
  unfold canB
  rcases h with h | rfl
  · rw [h]; rfl
  · rfl
theorem getP_cases (l : List UInt8) : ((getP l).2 ≠ 0 ∧ (getP l).1 = 0) ∨ ((getP l).2 = 0 ∧ canB (getP l).1 = (getP l).1 ∧ be 8 (getP l).1 = l) := by
  unfold getP
  by_cases h1 : l.length < 8
  · rw [if_pos h1]; exact .inl ⟨by decide, rfl⟩
  · rw [if_neg h1]
    by_cases h2 : 8 < l.length
    · rw [if_pos h2]; exact .inl ⟨by decide, rfl⟩
    · rw [if_neg h2]
      by_cases h3 : fnan (vl l) = false ∨ vl l = 9221120237041090560
      · rw [if_pos h3]
        refine .inr ⟨rfl, canB_of _ h3, ?_⟩
        have := be_vl l
        rw [show l.length = 8 by omega] at this
        exact this
      · rw [if_neg h3]; exact .inl ⟨by decide, rfl⟩
theorem getP_be (c : Nat) (hc : c < 18446744073709551616) (h : fnan c = false ∨ c = 9221120237041090560) : getP (be 8 c) = (c, 0) := by
  rw [getP_eight _ (be_length _ _), vl_be, Nat.mod_eq_of_lt (by exact hc), if_pos h]

/-- What each operation hands on. -/
def ebF (a c f : Nat) (er : Int) (g : Nat) : Nat → Value → World → Prop
  | 0, v, _ => v = .slice (some ⟨g, 0, none⟩) 8 8
  | 1, v, _ => v = .string ⟨(be 8 c).toArray⟩
  | 2, v, _ => v = .float .f64 a
  | 3, v, w => Rd w 1 v (be 8 c).length (bv (be 8 c))
  | 4, v, _ => v = .string ⟨(be 8 c).toArray⟩
  | 5, v, _ => v = .bool false
  | 6, v, _ => v = .bool false
  | 7, v, _ => v = .float .f64 f
  | 8, v, _ => v = .float .f64 f
  | 9, v, _ => v = .bool true
  | 10, v, _ => v = .bool false
  | 11, v, _ => v = .bool false
  | 12, v, _ => v = .bool false
  | 13, v, _ => v = .int .i64 er
  | 14, v, _ => v = .int .i64 er
  | 15, v, _ => v = .bool false
  | 16, v, _ => v = .bool false
  | _, _, _ => True


/-- What each operation hands on. -/
def ebGT (a c f : Nat) (er : Int) (vb : Value) : Nat → Value → World → Prop
  | 0, v, _ => v = .int .i64 0
  | 1, v, _ => v = .bool true
  | 2, v, _ => v = .bool true
  | 3, v, _ => v = .float .f64 c
  | 4, v, _ => v = .float .f64 a
  | 5, v, _ => v = .bool true
  | 6, v, _ => v = .bool true
  | 7, v, _ => v = .bool true
  | 8, v, _ => v = .int .i64 er
  | 9, v, _ => v = .bool true
  | 10, v, _ => v = .bool true
  | 11, v, _ => v = undef
  | 12, v, _ => v = undef
  | 13, v, _ => v = undef
  | 14, v, _ => v = undef
  | 15, v, _ => v = undef
  | 16, v, _ => v = undef
  | 17, v, _ => v = .bool true
  | 18, v, _ => v = .bool true
  | 19, v, _ => v = .bool true
  | _, _, _ => True


/-- What each operation hands on. -/
def ebGF (a c f : Nat) (er : Int) (vb : Value) : Nat → Value → World → Prop
  | 0, v, _ => v = .int .i64 0
  | 1, v, _ => v = .bool true
  | 2, v, _ => v = .bool true
  | 3, v, _ => v = .float .f64 c
  | 4, v, _ => v = .float .f64 a
  | 5, v, _ => v = .bool true
  | 6, v, _ => v = .bool true
  | 7, v, _ => v = .bool true
  | 8, v, _ => v = .int .i64 er
  | 9, v, _ => v = .bool false
  | 10, v, _ => v = .bool false
  | 11, v, _ => v = .float .f64 f
  | 12, v, w => Rd w 1 v (be 8 f).length (bv (be 8 f))
  | 13, v, _ => v = .string ⟨(be 8 f).toArray⟩
  | 14, v, _ => v = vb
  | 15, v, _ => v = .string ⟨(be 8 f).toArray⟩
  | 16, v, _ => v = .bool true
  | 17, v, _ => v = .bool true
  | 18, v, _ => v = .bool true
  | 19, v, _ => v = .bool true
  | _, _, _ => True

set_option maxHeartbeats 4000000 in
set_option maxRecDepth 100000 in
theorem edgeBytes_walk (a : Nat) (v : Value) (l : List UInt8) (w : World) (ha : a < 18446744073709551616) (hl : l.length ≤ 140737488355328) (hr : Rd w 1 v l.length (bv l)) :
    Calls Try.prog 6 #[.int .u64 a, v] w fun e w' => e = .returned (.bool true) ∧ Below w.heap.size w w' := by
  have hfrom := run_frombits
  obtain ⟨ab, cb, rfl⟩ := hr.form
  have hgc := getP_cases l
  have hf := getP_lt l
  have hc := canB_lt a ha
  have hcok := canB_ok a
  have hcc := canB_of _ hcok
  have hgb := getP_be _ hc hcok
  have hput : ∀ w, Calls Try.prog 21 #[.float .f64 a] w fun e w' => ∃ g, e = .returned (.slice (some ⟨g, 0, none⟩) 8 8) ∧ Rd w' 1 (.slice (some ⟨g, 0, none⟩) 8 8) (be 8 (canB a)).length (bv (be 8 (canB a))) ∧ Below w.heap.size w w' := fun w => PutA_any a w ha
  obtain ⟨c, hcd⟩ : ∃ c, c = canB a := ⟨_, rfl⟩
  rw [← hcd] at hcc hgb hc hput
  obtain ⟨G, hG0⟩ : ∃ G, G = getP l := ⟨_, rfl⟩
  rw [← hG0] at hgc hf
  obtain ⟨f, er⟩ := G
  have HC : Hid (canB a = c) := hcd.symm
  have HCC := Lib.hid hcc
  have HGB := Lib.hid hgb
  have HG : Hid (getP l = (f, er)) := hG0.symm
  have HGC := Lib.hid hgc
  have HP := Lib.hid hput
  clear hcd hcc hgb hG0 hgc hput hcok
  simp only at hf
  have hbl : (be 8 c).length = 8 := be_length _ _
  have HBL := Lib.hid hbl
  clear hbl
  go_enter Try.func6, Try.ntmps6
  go_wp2_with fail
  refine (awake05_any _).mono ?_
  rintro e w1 ⟨rfl, hb1⟩
  go_wp2_with fail
  refine (HP.out _).mono ?_
  rintro e wp ⟨g, rfl, hp, hb2⟩
  have hbb : Below w.heap.size w wp := hb1.trans (hb2.mono hb1.size)
  clear hb1 hb2
  go_wp2_with fail
  refine (Get_any _ l _ hl (hr.keep hbb)).mono ?_
  rintro e w' ⟨rfl, rfl⟩
  rw [HG.out]
  go_wp2_with fail
  refine (RGet_any _ l _ hl (hr.keep hbb)).mono ?_
  rintro e w' ⟨rfl, rfl⟩
  rw [HG.out]
  go_wp2_with fail
  refine wp_region_steps [some 29, some 30, some 31, some 32, some 33, some 34, some 35, some 36, some 37, some 38, some 39, some 40, some 41, some 42, some 43, some 44, some 45] [] (ebF a c f er g) (fun _ wx wy => Below wx.heap.size wx wy) (fun wx => Below wp.heap.size wp wx) (by kernel_rfl) (by kernel_rfl) rfl (by kernel_rfl) (Below.refl _ _).drew (fun _ wx => Below.refl _ _) (fun _ wx wy h k => h.trans (k.mono h.size)) ?hF ?hstep ?hend
  case hF =>
    exact ⟨fun _ _ _ _ _ _ h => h, ⟨fun _ _ _ _ _ _ h => h, ⟨fun _ _ _ _ _ _ h => h, ⟨fun _ _ _ _ _ k h => Rd.keep h k, ⟨fun _ _ _ _ _ _ h => h, ⟨fun _ _ _ _ _ _ h => h, ⟨fun _ _ _ _ _ _ h => h, ⟨fun _ _ _ _ _ _ h => h, ⟨fun _ _ _ _ _ _ h => h, ⟨fun _ _ _ _ _ _ h => h, ⟨fun _ _ _ _ _ _ h => h, ⟨fun _ _ _ _ _ _ h => h, ⟨fun _ _ _ _ _ _ h => h, ⟨fun _ _ _ _ _ _ h => h, ⟨fun _ _ _ _ _ _ h => h, ⟨fun _ _ _ _ _ _ h => h, ⟨fun _ _ _ _ _ _ h => h, trivial⟩⟩⟩⟩⟩⟩⟩⟩⟩⟩⟩⟩⟩⟩⟩⟩⟩
  case hstep =>
    -- operation 0: Op.move (tmp 6)
    refine ⟨fun r wx hG hs hq hf => ?_, ?_⟩
    · have e6 : r 6 = .slice (some ⟨g, 0, none⟩) 8 8 := hs 6 rfl
      refine (if_pos rfl).symm ▸ ?_
      clear hs hq hf
      unfold gives
      go_simp
      exact ⟨Below.refl _ _, rfl⟩
    -- operation 1: Op.convert 34 9 (tmp 29)
    refine ⟨fun r wx hG hs hq hf => ?_, ?_⟩
    · have h0 : r 29 = .slice (some ⟨g, 0, none⟩) 8 8 := hf.1
      refine (if_pos rfl).symm ▸ ?_
      clear hs hq hf
      unfold gives
      have hcv := string_of_bytes (P := Try.prog) Try.underlying34 Try.underlying5 Try.underlying9 (l := be 8 c) (hp.keep hG)
      go_simp
      exact ⟨Below.refl _ _, rfl⟩
    -- operation 2: Op.move (tmp 5)
    refine ⟨fun r wx hG hs hq hf => ?_, ?_⟩
    · have e5 : r 5 = .float .f64 a := hs 5 rfl
      refine (if_pos rfl).symm ▸ ?_
      clear hs hq hf
      unfold gives
      go_simp
      exact ⟨Below.refl _ _, rfl⟩
    -- operation 3: Op.call ( callee := Callee.value (func 24), args := #[tmp 31], argTypes := #[24] )
    refine ⟨fun r wx hG hs hq hf => ?_, ?_⟩
    · have h2 : r 31 = .float .f64 a := hf.1
      refine (if_pos rfl).symm ▸ ?_
      clear hs hq hf
      unfold gives
      go_simp
      refine (RPut_any a wx ha).mono ?_
      rintro e wy ⟨v, rfl, hr1, hb1⟩
      rw [HC.out] at hr1
      exact ⟨v, rfl, hb1, hr1⟩
    -- operation 4: Op.convert 34 9 (tmp 32)
    refine ⟨fun r wx hG hs hq hf => ?_, ?_⟩
    · have h3 : Rd wx 1 (r 32) (be 8 c).length (bv (be 8 c)) := hf.1
      refine (if_pos rfl).symm ▸ ?_
      clear hs hq hf
      unfold gives
      have hcv := string_of_bytes (P := Try.prog) Try.underlying34 Try.underlying5 Try.underlying9 (l := be 8 c) (h3)
      go_simp
      exact ⟨Below.refl _ _, rfl⟩
    -- operation 5: Op.binOp BinOp.neq 9 (tmp 30) (tmp 33) 9
    refine ⟨fun r wx hG hs hq hf => ?_, ?_⟩
    · have h1 : r 30 = .string ⟨(be 8 c).toArray⟩ := hf.1
      have h4 : r 33 = .string ⟨(be 8 c).toArray⟩ := hf.2.1
      refine (if_pos rfl).symm ▸ ?_
      clear hs hq hf
      unfold gives
      go_simp
      exact ⟨Below.refl _ _, rfl⟩
    -- operation 6: Op.move (tmp 34)
    refine ⟨fun r wx hG hs hq hf => ?_, ?_⟩
    · have h5 : r 34 = .bool false := hf.1
      have h3 : Rd wx 1 (r 32) (be 8 c).length (bv (be 8 c)) := hf.2.1
      refine (if_pos rfl).symm ▸ ?_
      clear hs hq hf
      unfold gives
      go_simp
      exact ⟨Below.refl _ _, rfl⟩
    -- operation 7: Op.move (tmp 7)
    refine ⟨fun r wx hG hs hq hf => ?_, ?_⟩
    · have e7 : r 7 = .float .f64 f := hs 7 rfl
      have h6 : r 35 = .bool false := hf.1
      have hy : ydD [some 29, some 30, some 31, some 32, some 33, some 34, some 35, some 36, some 37, some 38, some 39, some 40, some 41, some 42, some 43, some 44, some 45] r 6 = some false := by show (match r 35 with | .bool b => some b | _ => none) = some false; rw [h6]
      simp only [Region.wanted, hy, beq_self_eq_true, if_true]
      clear hs hq hf hy
      unfold gives
      go_simp
      exact ⟨Below.refl _ _, rfl⟩
    -- operation 8: Op.move (tmp 9)
    refine ⟨fun r wx hG hs hq hf => ?_, ?_⟩
    · have e9 : r 9 = .float .f64 f := hs 9 rfl
      have h6 : r 35 = .bool false := hf.1
      have hy : ydD [some 29, some 30, some 31, some 32, some 33, some 34, some 35, some 36, some 37, some 38, some 39, some 40, some 41, some 42, some 43, some 44, some 45] r 6 = some false := by show (match r 35 with | .bool b => some b | _ => none) = some false; rw [h6]
      simp only [Region.wanted, hy, beq_self_eq_true, if_true]
      clear hs hq hf hy
      unfold gives
      go_simp
      exact ⟨Below.refl _ _, rfl⟩
    -- operation 9: Op.call ( callee := Callee.value (func 18), args := #[tmp 36, tmp 37], argTypes := #[24, 24] )
    refine ⟨fun r wx hG hs hq hf => ?_, ?_⟩
    · have h7 : r 36 = .float .f64 f := hf.1
      have h8 : r 37 = .float .f64 f := hf.2.1
      have h6 : r 35 = .bool false := hf.2.2.1
      have hy : ydD [some 29, some 30, some 31, some 32, some 33, some 34, some 35, some 36, some 37, some 38, some 39, some 40, some 41, some 42, some 43, some 44, some 45] r 6 = some false := by show (match r 35 with | .bool b => some b | _ => none) = some false; rw [h6]
      simp only [Region.wanted, hy, beq_self_eq_true, if_true]
      clear hs hq hf hy
      unfold gives
      go_simp
      refine (Same_any f f wx hf hf).mono ?_
      rintro e wy ⟨rfl, rfl⟩
      rw [beq_self_eq_true]
      exact ⟨_, rfl, Below.refl _ _, rfl⟩
    -- operation 10: Op.unOp UnOp.not 4 (tmp 38)
    refine ⟨fun r wx hG hs hq hf => ?_, ?_⟩
    · have h9 : r 38 = .bool true := hf.1
      have h6 : r 35 = .bool false := hf.2.1
      have hy : ydD [some 29, some 30, some 31, some 32, some 33, some 34, some 35, some 36, some 37, some 38, some 39, some 40, some 41, some 42, some 43, some 44, some 45] r 6 = some false := by show (match r 35 with | .bool b => some b | _ => none) = some false; rw [h6]
      simp only [Region.wanted, hy, beq_self_eq_true, if_true]
      clear hs hq hf hy
      unfold gives
      go_simp
      exact ⟨Below.refl _ _, rfl⟩
    -- operation 11: Op.pick (tmp 35) (const (Value.bool true)) (tmp 39)
    refine ⟨fun r wx hG hs hq hf => ?_, ?_⟩
    · have h6 : r 35 = .bool false := hf.1
      have h10 : r 39 = .bool false := hf.2.1
      refine (if_pos rfl).symm ▸ ?_
      clear hs hq hf
      unfold gives
      go_simp
      exact ⟨Below.refl _ _, rfl⟩
    -- operation 12: Op.move (tmp 40)
    refine ⟨fun r wx hG hs hq hf => ?_, ?_⟩
    · have h11 : r 40 = .bool false := hf.1
      refine (if_pos rfl).symm ▸ ?_
      clear hs hq hf
      unfold gives
      go_simp
      exact ⟨Below.refl _ _, rfl⟩
    -- operation 13: Op.move (tmp 8)
    refine ⟨fun r wx hG hs hq hf => ?_, ?_⟩
    · have e8 : r 8 = .int .i64 er := hs 8 rfl
      have h12 : r 41 = .bool false := hf.1
      have hy : ydD [some 29, some 30, some 31, some 32, some 33, some 34, some 35, some 36, some 37, some 38, some 39, some 40, some 41, some 42, some 43, some 44, some 45] r 12 = some false := by show (match r 41 with | .bool b => some b | _ => none) = some false; rw [h12]
      simp only [Region.wanted, hy, beq_self_eq_true, if_true]
      clear hs hq hf hy
      unfold gives
      go_simp
      exact ⟨Below.refl _ _, rfl⟩
    -- operation 14: Op.move (tmp 10)
    refine ⟨fun r wx hG hs hq hf => ?_, ?_⟩
    · have e10 : r 10 = .int .i64 er := hs 10 rfl
      have h12 : r 41 = .bool false := hf.1
      have hy : ydD [some 29, some 30, some 31, some 32, some 33, some 34, some 35, some 36, some 37, some 38, some 39, some 40, some 41, some 42, some 43, some 44, some 45] r 12 = some false := by show (match r 41 with | .bool b => some b | _ => none) = some false; rw [h12]
      simp only [Region.wanted, hy, beq_self_eq_true, if_true]
      clear hs hq hf hy
      unfold gives
      go_simp
      exact ⟨Below.refl _ _, rfl⟩
    -- operation 15: Op.binOp BinOp.neq 36 (tmp 42) (tmp 43) 36
    refine ⟨fun r wx hG hs hq hf => ?_, ?_⟩
    · have h13 : r 42 = .int .i64 er := hf.1
      have h14 : r 43 = .int .i64 er := hf.2.1
      have h12 : r 41 = .bool false := hf.2.2.1
      have hy : ydD [some 29, some 30, some 31, some 32, some 33, some 34, some 35, some 36, some 37, some 38, some 39, some 40, some 41, some 42, some 43, some 44, some 45] r 12 = some false := by show (match r 41 with | .bool b => some b | _ => none) = some false; rw [h12]
      simp only [Region.wanted, hy, beq_self_eq_true, if_true]
      clear hs hq hf hy
      unfold gives
      go_simp
      exact ⟨Below.refl _ _, rfl⟩
    -- operation 16: Op.pick (tmp 41) (const (Value.bool true)) (tmp 44)
    refine ⟨fun r wx hG hs hq hf => ?_, ?_⟩
    · have h12 : r 41 = .bool false := hf.1
      have h15 : r 44 = .bool false := hf.2.1
      refine (if_pos rfl).symm ▸ ?_
      clear hs hq hf
      unfold gives
      go_simp
      exact ⟨Below.refl _ _, rfl⟩
    exact trivial
  case hend =>
    intro u wz hG hfin
    have z16 : u 16 = .bool false := hfin 16 (by decide) (by kernel_rfl)
    clear hfin
    simp only [fill]
    obtain ⟨wq, hwq⟩ : ∃ wq : World, wq = wz := ⟨_, rfl⟩
    subst hwq
    replace hp := hp.keep hG
    replace hbb := hbb.trans (hG.mono hbb.size)
    clear hG
    go_simp
    go_wp2_with fail
    refine (Get_any _ (be 8 c) _ (by rw [HBL.out]; omega) (by rw [HBL.out] at hp ⊢; exact hp)).mono ?_
    rintro e w' ⟨rfl, rfl⟩
    rw [HGB.out]
    go_wp2_with fail
    by_cases he : er = 0
    · have hen : (er != 0) = false := by simp [he]
      have HF : Hid (canB f = f) := by rcases HGC.out with h | h; exact absurd he h.1; exact h.2.1
      have HL : Hid (be 8 f = l) := by rcases HGC.out with h | h; exact absurd he h.1; exact h.2.2
      clear he
      refine wp_region_steps [some 51, some 52, some 53, some 54, some 55, some 56, some 57, some 58, some 59, some 60, some 61, some 62, some 63, some 64, some 65, some 66, some 67, some 68, some 69, some 4] [] (ebGF a c f er (.slice ab l.length cb)) (fun _ wx wy => Below wx.heap.size wx wy) (fun wx => Below wq.heap.size wq wx) (by kernel_rfl) (by kernel_rfl) rfl (by kernel_rfl) (Below.refl _ _).drew (fun _ wx => Below.refl _ _) (fun _ wx wy h k => h.trans (k.mono h.size)) ?hF ?hstep ?hend
      case hF =>
        exact ⟨fun _ _ _ _ _ _ h => h, ⟨fun _ _ _ _ _ _ h => h, ⟨fun _ _ _ _ _ _ h => h, ⟨fun _ _ _ _ _ _ h => h, ⟨fun _ _ _ _ _ _ h => h, ⟨fun _ _ _ _ _ _ h => h, ⟨fun _ _ _ _ _ _ h => h, ⟨fun _ _ _ _ _ _ h => h, ⟨fun _ _ _ _ _ _ h => h, ⟨fun _ _ _ _ _ _ h => h, ⟨fun _ _ _ _ _ _ h => h, ⟨fun _ _ _ _ _ _ h => h, ⟨fun _ _ _ _ _ k h => Rd.keep h k, ⟨fun _ _ _ _ _ _ h => h, ⟨fun _ _ _ _ _ _ h => h, ⟨fun _ _ _ _ _ _ h => h, ⟨fun _ _ _ _ _ _ h => h, ⟨fun _ _ _ _ _ _ h => h, ⟨fun _ _ _ _ _ _ h => h, ⟨fun _ _ _ _ _ _ h => h, trivial⟩⟩⟩⟩⟩⟩⟩⟩⟩⟩⟩⟩⟩⟩⟩⟩⟩⟩⟩⟩
      case hstep =>
        -- operation 0: Op.move (tmp 12)
        refine ⟨fun r wx hG hs hq hf => ?_, ?_⟩
        · have e12 : r 12 = .int .i64 0 := hs 12 rfl
          refine (if_pos rfl).symm ▸ ?_
          clear hs hq hf
          unfold gives
          go_simp
          exact ⟨Below.refl _ _, rfl⟩
        -- operation 1: Op.binOp BinOp.eql 36 (tmp 51) (const (Value.int IntKind.i64 0)) 36
        refine ⟨fun r wx hG hs hq hf => ?_, ?_⟩
        · have h0 : r 51 = .int .i64 0 := hf.1
          refine (if_pos rfl).symm ▸ ?_
          clear hs hq hf
          unfold gives
          go_simp
          exact ⟨Below.refl _ _, rfl⟩
        -- operation 2: Op.move (tmp 52)
        refine ⟨fun r wx hG hs hq hf => ?_, ?_⟩
        · have h1 : r 52 = .bool true := hf.1
          refine (if_pos rfl).symm ▸ ?_
          clear hs hq hf
          unfold gives
          go_simp
          exact ⟨Below.refl _ _, rfl⟩
        -- operation 3: Op.move (tmp 11)
        refine ⟨fun r wx hG hs hq hf => ?_, ?_⟩
        · have e11 : r 11 = .float .f64 c := hs 11 rfl
          have h2 : r 53 = .bool true := hf.1
          have hy : ydD [some 51, some 52, some 53, some 54, some 55, some 56, some 57, some 58, some 59, some 60, some 61, some 62, some 63, some 64, some 65, some 66, some 67, some 68, some 69, some 4] r 2 = some true := by show (match r 53 with | .bool b => some b | _ => none) = some true; rw [h2]
          simp only [Region.wanted, hy, beq_self_eq_true, if_true]
          clear hs hq hf hy
          unfold gives
          go_simp
          exact ⟨Below.refl _ _, rfl⟩
        -- operation 4: Op.move (tmp 5)
        refine ⟨fun r wx hG hs hq hf => ?_, ?_⟩
        · have e5 : r 5 = .float .f64 a := hs 5 rfl
          have h2 : r 53 = .bool true := hf.1
          have hy : ydD [some 51, some 52, some 53, some 54, some 55, some 56, some 57, some 58, some 59, some 60, some 61, some 62, some 63, some 64, some 65, some 66, some 67, some 68, some 69, some 4] r 2 = some true := by show (match r 53 with | .bool b => some b | _ => none) = some true; rw [h2]
          simp only [Region.wanted, hy, beq_self_eq_true, if_true]
          clear hs hq hf hy
          unfold gives
          go_simp
          exact ⟨Below.refl _ _, rfl⟩
        -- operation 5: Op.call ( callee := Callee.value (func 18), args := #[tmp 54, tmp 55], argTypes := #[24, 24] )
        refine ⟨fun r wx hG hs hq hf => ?_, ?_⟩
        · have h3 : r 54 = .float .f64 c := hf.1
          have h4 : r 55 = .float .f64 a := hf.2.1
          have h2 : r 53 = .bool true := hf.2.2.1
          have hy : ydD [some 51, some 52, some 53, some 54, some 55, some 56, some 57, some 58, some 59, some 60, some 61, some 62, some 63, some 64, some 65, some 66, some 67, some 68, some 69, some 4] r 2 = some true := by show (match r 53 with | .bool b => some b | _ => none) = some true; rw [h2]
          simp only [Region.wanted, hy, beq_self_eq_true, if_true]
          clear hs hq hf hy
          unfold gives
          go_simp
          refine (Same_any c a wx hc ha).mono ?_
          rintro e wy ⟨rfl, rfl⟩
          rw [HCC.out, HC.out, beq_self_eq_true]
          exact ⟨_, rfl, Below.refl _ _, rfl⟩
        -- operation 6: Op.pick (tmp 53) (tmp 56) (const (Value.bool false))
        refine ⟨fun r wx hG hs hq hf => ?_, ?_⟩
        · have h2 : r 53 = .bool true := hf.1
          have h5 : r 56 = .bool true := hf.2.1
          refine (if_pos rfl).symm ▸ ?_
          clear hs hq hf
          unfold gives
          go_simp
          exact ⟨Below.refl _ _, rfl⟩
        -- operation 7: Op.move (tmp 57)
        refine ⟨fun r wx hG hs hq hf => ?_, ?_⟩
        · have h6 : r 57 = .bool true := hf.1
          refine (if_pos rfl).symm ▸ ?_
          clear hs hq hf
          unfold gives
          go_simp
          exact ⟨Below.refl _ _, rfl⟩
        -- operation 8: Op.move (tmp 8)
        refine ⟨fun r wx hG hs hq hf => ?_, ?_⟩
        · have e8 : r 8 = .int .i64 er := hs 8 rfl
          have h7 : r 58 = .bool true := hf.1
          have hy : ydD [some 51, some 52, some 53, some 54, some 55, some 56, some 57, some 58, some 59, some 60, some 61, some 62, some 63, some 64, some 65, some 66, some 67, some 68, some 69, some 4] r 7 = some true := by show (match r 58 with | .bool b => some b | _ => none) = some true; rw [h7]
          simp only [Region.wanted, hy, beq_self_eq_true, if_true]
          clear hs hq hf hy
          unfold gives
          go_simp
          exact ⟨Below.refl _ _, rfl⟩
        -- operation 9: Op.binOp BinOp.neq 36 (tmp 59) (const (Value.int IntKind.i64 0)) 36
        refine ⟨fun r wx hG hs hq hf => ?_, ?_⟩
        · have h8 : r 59 = .int .i64 er := hf.1
          have h7 : r 58 = .bool true := hf.2.1
          have hy : ydD [some 51, some 52, some 53, some 54, some 55, some 56, some 57, some 58, some 59, some 60, some 61, some 62, some 63, some 64, some 65, some 66, some 67, some 68, some 69, some 4] r 7 = some true := by show (match r 58 with | .bool b => some b | _ => none) = some true; rw [h7]
          simp only [Region.wanted, hy, beq_self_eq_true, if_true]
          clear hs hq hf hy
          unfold gives
          go_simp
          exact ⟨Below.refl _ _, rfl⟩
        -- operation 10: Op.move (tmp 60)
        refine ⟨fun r wx hG hs hq hf => ?_, ?_⟩
        · have h9 : r 60 = .bool false := hf.1
          have h7 : r 58 = .bool true := hf.2.1
          have hy : ydD [some 51, some 52, some 53, some 54, some 55, some 56, some 57, some 58, some 59, some 60, some 61, some 62, some 63, some 64, some 65, some 66, some 67, some 68, some 69, some 4] r 7 = some true := by show (match r 58 with | .bool b => some b | _ => none) = some true; rw [h7]
          simp only [Region.wanted, hy, beq_self_eq_true, if_true]
          clear hs hq hf hy
          unfold gives
          go_simp
          exact ⟨Below.refl _ _, rfl⟩
        -- operation 11: Op.move (tmp 7)
        refine ⟨fun r wx hG hs hq hf => ?_, ?_⟩
        · have e7 : r 7 = .float .f64 f := hs 7 rfl
          have h10 : r 61 = .bool false := hf.1
          have hy : ydD [some 51, some 52, some 53, some 54, some 55, some 56, some 57, some 58, some 59, some 60, some 61, some 62, some 63, some 64, some 65, some 66, some 67, some 68, some 69, some 4] r 10 = some false := by show (match r 61 with | .bool b => some b | _ => none) = some false; rw [h10]
          simp only [Region.wanted, hy, beq_self_eq_true, if_true]
          clear hs hq hf hy
          unfold gives
          go_simp
          exact ⟨Below.refl _ _, rfl⟩
        -- operation 12: Op.call ( callee := Callee.value (func 21), args := #[tmp 62], argTypes := #[24] )
        refine ⟨fun r wx hG hs hq hf => ?_, ?_⟩
        · have h11 : r 62 = .float .f64 f := hf.1
          have h10 : r 61 = .bool false := hf.2.1
          have hy : ydD [some 51, some 52, some 53, some 54, some 55, some 56, some 57, some 58, some 59, some 60, some 61, some 62, some 63, some 64, some 65, some 66, some 67, some 68, some 69, some 4] r 10 = some false := by show (match r 61 with | .bool b => some b | _ => none) = some false; rw [h10]
          simp only [Region.wanted, hy, beq_self_eq_true, if_true]
          clear hs hq hf hy
          unfold gives
          go_simp
          refine (Put_any f wx hf).mono ?_
          rintro e wy ⟨rfl, rfl⟩
          rw [HF.out]
          exact ⟨_, rfl, (Below.refl _ _).alloc (Nat.le_refl _) _, new_rd wx (be 8 f) _ (be_length _ _)⟩
        -- operation 13: Op.convert 34 9 (tmp 63)
        refine ⟨fun r wx hG hs hq hf => ?_, ?_⟩
        · have h12 : Rd wx 1 (r 63) (be 8 f).length (bv (be 8 f)) := hf.1
          have h10 : r 61 = .bool false := hf.2.1
          have hy : ydD [some 51, some 52, some 53, some 54, some 55, some 56, some 57, some 58, some 59, some 60, some 61, some 62, some 63, some 64, some 65, some 66, some 67, some 68, some 69, some 4] r 10 = some false := by show (match r 61 with | .bool b => some b | _ => none) = some false; rw [h10]
          simp only [Region.wanted, hy, beq_self_eq_true, if_true]
          clear hs hq hf hy
          unfold gives
          have hcv := string_of_bytes (P := Try.prog) Try.underlying34 Try.underlying5 Try.underlying9 (l := be 8 f) (h12)
          go_simp
          exact ⟨Below.refl _ _, rfl⟩
        -- operation 14: Op.move (tmp 1)
        refine ⟨fun r wx hG hs hq hf => ?_, ?_⟩
        · have e1 : r 1 = .slice ab l.length cb := hs 1 rfl
          have h10 : r 61 = .bool false := hf.1
          have hy : ydD [some 51, some 52, some 53, some 54, some 55, some 56, some 57, some 58, some 59, some 60, some 61, some 62, some 63, some 64, some 65, some 66, some 67, some 68, some 69, some 4] r 10 = some false := by show (match r 61 with | .bool b => some b | _ => none) = some false; rw [h10]
          simp only [Region.wanted, hy, beq_self_eq_true, if_true]
          clear hs hq hf hy
          unfold gives
          go_simp
          exact ⟨Below.refl _ _, rfl⟩
        -- operation 15: Op.convert 34 9 (tmp 65)
        refine ⟨fun r wx hG hs hq hf => ?_, ?_⟩
        · have h14 : r 65 = .slice ab l.length cb := hf.1
          have h10 : r 61 = .bool false := hf.2.1
          have hy : ydD [some 51, some 52, some 53, some 54, some 55, some 56, some 57, some 58, some 59, some 60, some 61, some 62, some 63, some 64, some 65, some 66, some 67, some 68, some 69, some 4] r 10 = some false := by show (match r 61 with | .bool b => some b | _ => none) = some false; rw [h10]
          simp only [Region.wanted, hy, beq_self_eq_true, if_true]
          clear hs hq hf hy
          unfold gives
          have hrl : Rd wx 1 (.slice ab l.length cb) (be 8 f).length (bv (be 8 f)) := by rw [HL.out]; exact hr.keep (hbb.trans (hG.mono hbb.size))
          have hcv := string_of_bytes (P := Try.prog) Try.underlying34 Try.underlying5 Try.underlying9 (l := be 8 f) (hrl)
          go_simp
          exact ⟨Below.refl _ _, rfl⟩
        -- operation 16: Op.binOp BinOp.eql 9 (tmp 64) (tmp 66) 9
        refine ⟨fun r wx hG hs hq hf => ?_, ?_⟩
        · have h13 : r 64 = .string ⟨(be 8 f).toArray⟩ := hf.1
          have h15 : r 66 = .string ⟨(be 8 f).toArray⟩ := hf.2.1
          have h10 : r 61 = .bool false := hf.2.2.1
          have hy : ydD [some 51, some 52, some 53, some 54, some 55, some 56, some 57, some 58, some 59, some 60, some 61, some 62, some 63, some 64, some 65, some 66, some 67, some 68, some 69, some 4] r 10 = some false := by show (match r 61 with | .bool b => some b | _ => none) = some false; rw [h10]
          simp only [Region.wanted, hy, beq_self_eq_true, if_true]
          clear hs hq hf hy
          unfold gives
          go_simp
          exact ⟨Below.refl _ _, rfl⟩
        -- operation 17: Op.pick (tmp 61) (const (Value.bool true)) (tmp 67)
        refine ⟨fun r wx hG hs hq hf => ?_, ?_⟩
        · have h10 : r 61 = .bool false := hf.1
          have h16 : r 67 = .bool true := hf.2.1
          have h7 : r 58 = .bool true := hf.2.2.1
          have hy : ydD [some 51, some 52, some 53, some 54, some 55, some 56, some 57, some 58, some 59, some 60, some 61, some 62, some 63, some 64, some 65, some 66, some 67, some 68, some 69, some 4] r 7 = some true := by show (match r 58 with | .bool b => some b | _ => none) = some true; rw [h7]
          simp only [Region.wanted, hy, beq_self_eq_true, if_true]
          clear hs hq hf hy
          unfold gives
          go_simp
          exact ⟨Below.refl _ _, rfl⟩
        -- operation 18: Op.pick (tmp 58) (tmp 68) (const (Value.bool false))
        refine ⟨fun r wx hG hs hq hf => ?_, ?_⟩
        · have h7 : r 58 = .bool true := hf.1
          have h17 : r 68 = .bool true := hf.2.1
          refine (if_pos rfl).symm ▸ ?_
          clear hs hq hf
          unfold gives
          go_simp
          exact ⟨Below.refl _ _, rfl⟩
        -- operation 19: Op.assign (tmp 69)
        refine ⟨fun r wx hG hs hq hf => ?_, ?_⟩
        · have h18 : r 69 = .bool true := hf.1
          have h12 : Rd wx 1 (r 63) (be 8 f).length (bv (be 8 f)) := hf.2.1
          refine (if_pos rfl).symm ▸ ?_
          clear hs hq hf
          unfold gives
          go_simp
          exact ⟨Below.refl _ _, rfl⟩
        exact trivial
      case hend =>
        intro u wz hG hfin
        have z19 : u 19 = .bool true := hfin 19 (by decide) (by kernel_rfl)
        clear hfin
        simp only [fill]
        go_simp
        go_wp2_with fail
        go_ret
        exact ⟨rfl, hbb.trans (hG.mono hbb.size)⟩
    · have hen : (er != 0) = true := by simp [he]
      clear he
      refine wp_region_steps [some 51, some 52, some 53, some 54, some 55, some 56, some 57, some 58, some 59, some 60, some 61, some 62, some 63, some 64, some 65, some 66, some 67, some 68, some 69, some 4] [] (ebGT a c f er (.slice ab l.length cb)) (fun _ wx wy => Below wx.heap.size wx wy) (fun wx => Below wq.heap.size wq wx) (by kernel_rfl) (by kernel_rfl) rfl (by kernel_rfl) (Below.refl _ _).drew (fun _ wx => Below.refl _ _) (fun _ wx wy h k => h.trans (k.mono h.size)) ?hF ?hstep ?hend
      case hF =>
        exact ⟨fun _ _ _ _ _ _ h => h, ⟨fun _ _ _ _ _ _ h => h, ⟨fun _ _ _ _ _ _ h => h, ⟨fun _ _ _ _ _ _ h => h, ⟨fun _ _ _ _ _ _ h => h, ⟨fun _ _ _ _ _ _ h => h, ⟨fun _ _ _ _ _ _ h => h, ⟨fun _ _ _ _ _ _ h => h, ⟨fun _ _ _ _ _ _ h => h, ⟨fun _ _ _ _ _ _ h => h, ⟨fun _ _ _ _ _ _ h => h, ⟨fun _ _ _ _ _ _ h => h, ⟨fun _ _ _ _ _ _ h => h, ⟨fun _ _ _ _ _ _ h => h, ⟨fun _ _ _ _ _ _ h => h, ⟨fun _ _ _ _ _ _ h => h, ⟨fun _ _ _ _ _ _ h => h, ⟨fun _ _ _ _ _ _ h => h, ⟨fun _ _ _ _ _ _ h => h, ⟨fun _ _ _ _ _ _ h => h, trivial⟩⟩⟩⟩⟩⟩⟩⟩⟩⟩⟩⟩⟩⟩⟩⟩⟩⟩⟩⟩
      case hstep =>
        -- operation 0: Op.move (tmp 12)
        refine ⟨fun r wx hG hs hq hf => ?_, ?_⟩
        · have e12 : r 12 = .int .i64 0 := hs 12 rfl
          refine (if_pos rfl).symm ▸ ?_
          clear hs hq hf
          unfold gives
          go_simp
          exact ⟨Below.refl _ _, rfl⟩
        -- operation 1: Op.binOp BinOp.eql 36 (tmp 51) (const (Value.int IntKind.i64 0)) 36
        refine ⟨fun r wx hG hs hq hf => ?_, ?_⟩
        · have h0 : r 51 = .int .i64 0 := hf.1
          refine (if_pos rfl).symm ▸ ?_
          clear hs hq hf
          unfold gives
          go_simp
          exact ⟨Below.refl _ _, rfl⟩
        -- operation 2: Op.move (tmp 52)
        refine ⟨fun r wx hG hs hq hf => ?_, ?_⟩
        · have h1 : r 52 = .bool true := hf.1
          refine (if_pos rfl).symm ▸ ?_
          clear hs hq hf
          unfold gives
          go_simp
          exact ⟨Below.refl _ _, rfl⟩
        -- operation 3: Op.move (tmp 11)
        refine ⟨fun r wx hG hs hq hf => ?_, ?_⟩
        · have e11 : r 11 = .float .f64 c := hs 11 rfl
          have h2 : r 53 = .bool true := hf.1
          have hy : ydD [some 51, some 52, some 53, some 54, some 55, some 56, some 57, some 58, some 59, some 60, some 61, some 62, some 63, some 64, some 65, some 66, some 67, some 68, some 69, some 4] r 2 = some true := by show (match r 53 with | .bool b => some b | _ => none) = some true; rw [h2]
          simp only [Region.wanted, hy, beq_self_eq_true, if_true]
          clear hs hq hf hy
          unfold gives
          go_simp
          exact ⟨Below.refl _ _, rfl⟩
        -- operation 4: Op.move (tmp 5)
        refine ⟨fun r wx hG hs hq hf => ?_, ?_⟩
        · have e5 : r 5 = .float .f64 a := hs 5 rfl
          have h2 : r 53 = .bool true := hf.1
          have hy : ydD [some 51, some 52, some 53, some 54, some 55, some 56, some 57, some 58, some 59, some 60, some 61, some 62, some 63, some 64, some 65, some 66, some 67, some 68, some 69, some 4] r 2 = some true := by show (match r 53 with | .bool b => some b | _ => none) = some true; rw [h2]
          simp only [Region.wanted, hy, beq_self_eq_true, if_true]
          clear hs hq hf hy
          unfold gives
          go_simp
          exact ⟨Below.refl _ _, rfl⟩
        -- operation 5: Op.call ( callee := Callee.value (func 18), args := #[tmp 54, tmp 55], argTypes := #[24, 24] )
        refine ⟨fun r wx hG hs hq hf => ?_, ?_⟩
        · have h3 : r 54 = .float .f64 c := hf.1
          have h4 : r 55 = .float .f64 a := hf.2.1
          have h2 : r 53 = .bool true := hf.2.2.1
          have hy : ydD [some 51, some 52, some 53, some 54, some 55, some 56, some 57, some 58, some 59, some 60, some 61, some 62, some 63, some 64, some 65, some 66, some 67, some 68, some 69, some 4] r 2 = some true := by show (match r 53 with | .bool b => some b | _ => none) = some true; rw [h2]
          simp only [Region.wanted, hy, beq_self_eq_true, if_true]
          clear hs hq hf hy
          unfold gives
          go_simp
          refine (Same_any c a wx hc ha).mono ?_
          rintro e wy ⟨rfl, rfl⟩
          rw [HCC.out, HC.out, beq_self_eq_true]
          exact ⟨_, rfl, Below.refl _ _, rfl⟩
        -- operation 6: Op.pick (tmp 53) (tmp 56) (const (Value.bool false))
        refine ⟨fun r wx hG hs hq hf => ?_, ?_⟩
        · have h2 : r 53 = .bool true := hf.1
          have h5 : r 56 = .bool true := hf.2.1
          refine (if_pos rfl).symm ▸ ?_
          clear hs hq hf
          unfold gives
          go_simp
          exact ⟨Below.refl _ _, rfl⟩
        -- operation 7: Op.move (tmp 57)
        refine ⟨fun r wx hG hs hq hf => ?_, ?_⟩
        · have h6 : r 57 = .bool true := hf.1
          refine (if_pos rfl).symm ▸ ?_
          clear hs hq hf
          unfold gives
          go_simp
          exact ⟨Below.refl _ _, rfl⟩
        -- operation 8: Op.move (tmp 8)
        refine ⟨fun r wx hG hs hq hf => ?_, ?_⟩
        · have e8 : r 8 = .int .i64 er := hs 8 rfl
          have h7 : r 58 = .bool true := hf.1
          have hy : ydD [some 51, some 52, some 53, some 54, some 55, some 56, some 57, some 58, some 59, some 60, some 61, some 62, some 63, some 64, some 65, some 66, some 67, some 68, some 69, some 4] r 7 = some true := by show (match r 58 with | .bool b => some b | _ => none) = some true; rw [h7]
          simp only [Region.wanted, hy, beq_self_eq_true, if_true]
          clear hs hq hf hy
          unfold gives
          go_simp
          exact ⟨Below.refl _ _, rfl⟩
        -- operation 9: Op.binOp BinOp.neq 36 (tmp 59) (const (Value.int IntKind.i64 0)) 36
        refine ⟨fun r wx hG hs hq hf => ?_, ?_⟩
        · have h8 : r 59 = .int .i64 er := hf.1
          have h7 : r 58 = .bool true := hf.2.1
          have hy : ydD [some 51, some 52, some 53, some 54, some 55, some 56, some 57, some 58, some 59, some 60, some 61, some 62, some 63, some 64, some 65, some 66, some 67, some 68, some 69, some 4] r 7 = some true := by show (match r 58 with | .bool b => some b | _ => none) = some true; rw [h7]
          simp only [Region.wanted, hy, beq_self_eq_true, if_true]
          clear hs hq hf hy
          unfold gives
          go_simp
          exact ⟨Below.refl _ _, rfl⟩
        -- operation 10: Op.move (tmp 60)
        refine ⟨fun r wx hG hs hq hf => ?_, ?_⟩
        · have h9 : r 60 = .bool true := hf.1
          have h7 : r 58 = .bool true := hf.2.1
          have hy : ydD [some 51, some 52, some 53, some 54, some 55, some 56, some 57, some 58, some 59, some 60, some 61, some 62, some 63, some 64, some 65, some 66, some 67, some 68, some 69, some 4] r 7 = some true := by show (match r 58 with | .bool b => some b | _ => none) = some true; rw [h7]
          simp only [Region.wanted, hy, beq_self_eq_true, if_true]
          clear hs hq hf hy
          unfold gives
          go_simp
          exact ⟨Below.refl _ _, rfl⟩
        -- operation 11: Op.move (tmp 7)
        refine ⟨fun r wx hG hs hq hf => ?_, ?_⟩
        · have e7 : r 7 = .float .f64 f := hs 7 rfl
          have h10 : r 61 = .bool true := hf.1
          have hy : ydD [some 51, some 52, some 53, some 54, some 55, some 56, some 57, some 58, some 59, some 60, some 61, some 62, some 63, some 64, some 65, some 66, some 67, some 68, some 69, some 4] r 10 = some true := by show (match r 61 with | .bool b => some b | _ => none) = some true; rw [h10]
          simp only [Region.wanted, hy]
          rw [if_neg (show ¬ (some true == some false) = true by decide)]
          clear hs hq hf hy
          rfl
        -- operation 12: Op.call ( callee := Callee.value (func 21), args := #[tmp 62], argTypes := #[24] )
        refine ⟨fun r wx hG hs hq hf => ?_, ?_⟩
        · have h11 : r 62 = undef := hf.1
          have h10 : r 61 = .bool true := hf.2.1
          have hy : ydD [some 51, some 52, some 53, some 54, some 55, some 56, some 57, some 58, some 59, some 60, some 61, some 62, some 63, some 64, some 65, some 66, some 67, some 68, some 69, some 4] r 10 = some true := by show (match r 61 with | .bool b => some b | _ => none) = some true; rw [h10]
          simp only [Region.wanted, hy]
          rw [if_neg (show ¬ (some true == some false) = true by decide)]
          clear hs hq hf hy
          rfl
        -- operation 13: Op.convert 34 9 (tmp 63)
        refine ⟨fun r wx hG hs hq hf => ?_, ?_⟩
        · have h12 : r 63 = undef := hf.1
          have h10 : r 61 = .bool true := hf.2.1
          have hy : ydD [some 51, some 52, some 53, some 54, some 55, some 56, some 57, some 58, some 59, some 60, some 61, some 62, some 63, some 64, some 65, some 66, some 67, some 68, some 69, some 4] r 10 = some true := by show (match r 61 with | .bool b => some b | _ => none) = some true; rw [h10]
          simp only [Region.wanted, hy]
          rw [if_neg (show ¬ (some true == some false) = true by decide)]
          clear hs hq hf hy
          rfl
        -- operation 14: Op.move (tmp 1)
        refine ⟨fun r wx hG hs hq hf => ?_, ?_⟩
        · have e1 : r 1 = .slice ab l.length cb := hs 1 rfl
          have h10 : r 61 = .bool true := hf.1
          have hy : ydD [some 51, some 52, some 53, some 54, some 55, some 56, some 57, some 58, some 59, some 60, some 61, some 62, some 63, some 64, some 65, some 66, some 67, some 68, some 69, some 4] r 10 = some true := by show (match r 61 with | .bool b => some b | _ => none) = some true; rw [h10]
          simp only [Region.wanted, hy]
          rw [if_neg (show ¬ (some true == some false) = true by decide)]
          clear hs hq hf hy
          rfl
        -- operation 15: Op.convert 34 9 (tmp 65)
        refine ⟨fun r wx hG hs hq hf => ?_, ?_⟩
        · have h14 : r 65 = undef := hf.1
          have h10 : r 61 = .bool true := hf.2.1
          have hy : ydD [some 51, some 52, some 53, some 54, some 55, some 56, some 57, some 58, some 59, some 60, some 61, some 62, some 63, some 64, some 65, some 66, some 67, some 68, some 69, some 4] r 10 = some true := by show (match r 61 with | .bool b => some b | _ => none) = some true; rw [h10]
          simp only [Region.wanted, hy]
          rw [if_neg (show ¬ (some true == some false) = true by decide)]
          clear hs hq hf hy
          rfl
        -- operation 16: Op.binOp BinOp.eql 9 (tmp 64) (tmp 66) 9
        refine ⟨fun r wx hG hs hq hf => ?_, ?_⟩
        · have h13 : r 64 = undef := hf.1
          have h15 : r 66 = undef := hf.2.1
          have h10 : r 61 = .bool true := hf.2.2.1
          have hy : ydD [some 51, some 52, some 53, some 54, some 55, some 56, some 57, some 58, some 59, some 60, some 61, some 62, some 63, some 64, some 65, some 66, some 67, some 68, some 69, some 4] r 10 = some true := by show (match r 61 with | .bool b => some b | _ => none) = some true; rw [h10]
          simp only [Region.wanted, hy]
          rw [if_neg (show ¬ (some true == some false) = true by decide)]
          clear hs hq hf hy
          rfl
        -- operation 17: Op.pick (tmp 61) (const (Value.bool true)) (tmp 67)
        refine ⟨fun r wx hG hs hq hf => ?_, ?_⟩
        · have h10 : r 61 = .bool true := hf.1
          have h16 : r 67 = undef := hf.2.1
          have h7 : r 58 = .bool true := hf.2.2.1
          have hy : ydD [some 51, some 52, some 53, some 54, some 55, some 56, some 57, some 58, some 59, some 60, some 61, some 62, some 63, some 64, some 65, some 66, some 67, some 68, some 69, some 4] r 7 = some true := by show (match r 58 with | .bool b => some b | _ => none) = some true; rw [h7]
          simp only [Region.wanted, hy, beq_self_eq_true, if_true]
          clear hs hq hf hy
          unfold gives
          go_simp
          exact ⟨Below.refl _ _, rfl⟩
        -- operation 18: Op.pick (tmp 58) (tmp 68) (const (Value.bool false))
        refine ⟨fun r wx hG hs hq hf => ?_, ?_⟩
        · have h7 : r 58 = .bool true := hf.1
          have h17 : r 68 = .bool true := hf.2.1
          refine (if_pos rfl).symm ▸ ?_
          clear hs hq hf
          unfold gives
          go_simp
          exact ⟨Below.refl _ _, rfl⟩
        -- operation 19: Op.assign (tmp 69)
        refine ⟨fun r wx hG hs hq hf => ?_, ?_⟩
        · have h18 : r 69 = .bool true := hf.1
          refine (if_pos rfl).symm ▸ ?_
          clear hs hq hf
          unfold gives
          go_simp
          exact ⟨Below.refl _ _, rfl⟩
        exact trivial
      case hend =>
        intro u wz hG hfin
        have z19 : u 19 = .bool true := hfin 19 (by decide) (by kernel_rfl)
        clear hfin
        simp only [fill]
        go_simp
        go_wp2_with fail
        go_ret
        exact ⟨rfl, hbb.trans (hG.mono hbb.size)⟩


theorem edgeBytes.law (H : Type) (enc : TypeId × Value → H) (W : World) (base : Nat)
    (v0 : Value) (d0 : DataW H) (p0 : List MemPlace) (g0 : Value.okWide Try.prog W .any base 22 v0) (h0 : DataW.Trod enc Try.prog W 0 (fun _ => true) true 22 v0 d0 p0)
    (v1 : Value) (d1 : DataW H) (p1 : List MemPlace) (g1 : Value.okWide Try.prog W .any base 34 v1) (h1 : DataW.Trod enc Try.prog W 0 (fun _ => true) true 34 v1 d1 p1)
    {ts : List TypeId} {es : List (DataW H)} (hsz : (DataW.weightsEach Try.prog ([22, 34] ++ ts) ([d0, d1] ++ es)).all (· ≤ reachBytes) = true) :
    Calls Try.prog 6 #[v0, v1] W fun e W' => e = .returned (.bool true) ∧ Below W.heap.size W W' := by
  obtain ⟨a, rfl, _, _, wa⟩ := open_int Try.underlying22 g0 h0
  obtain ⟨a, rfl, ha⟩ := u64_nat wa
  obtain ⟨l, hrl, hdl⟩ := open_bytes Try.underlying34 Try.underlying5 (by kernel_rfl) (okWide_slice Try.underlying34 g1) h1
  have hll := bytes_reach hsz (j := 1) (t := 34) rfl Try.underlying34 (by kernel_rfl) (l := l) (hdl.imp (fun h => ⟨congrArg some h.1, h.2⟩) (fun ⟨s, h⟩ => ⟨s, congrArg some h⟩))
  exact edgeBytes_walk a v1 l W ha (by omega) hrl
end Go.Proofs.Ytnkjhibjlfojjaa
