/- The order of gauges, as gauge.Rows compares them. (printed by gen/soh.py) -/
import Derived.Test.YtdociiogddihfaaSoG
import Derived.Test.YtdociiogddihfaaGaV
import Derived.Test.YtdociiogddihfaaGaG
import Derived.LoopN
namespace Go.Proofs.Ytdociiogddihfaa
open Go.ChangeShapes Go.WideShapes Go.ChangeAt Go.RowKit

/-- A gauge. -/
structure GG where
  n : Nat
  m : Nat
  s : Nat
  l : Nat
  h : Nat
def gcl (g : GG) : List Value := [.int .u64 g.n, .float .f64 g.m, .float .f64 g.s, .float .f64 g.l, .float .f64 g.h]
def ordZ (a b : Int) : Int := if a < b then -1 else if b < a then 1 else 0
def orZ (a b : Int) : Int := if a ≠ 0 then a else b
/-- Where a spread stands among floats. -/
def spK (N s : Nat) : Int := if N = 0 then 9218868437227405313 else match floatBits .quo .f64 s (floatOfInt .f64 N) with
  | none => 9218868437227405313
  | some q => match FloatKind.f64.format.sqrt q with
    | none => 9218868437227405313
    | some r => rankP r
theorem rank_nan {r : Nat} (h : fnan r = true) : rankP r = 9218868437227405313 := by unfold rankP; rw [if_pos h]
theorem sqrt_nan {q : Nat} (h : fnan q = true) : FloatKind.f64.format.sqrt q = none := by
  obtain ⟨s, f, h2⟩ := read_nan q h
  show ((Ieee.double.read q).root _).map _ = none
  rw [h2]; rfl
theorem sp_rank {N s r : Nat} (h : if N = 0 then r = 9221120237041090561 else ∃ q, FR .quo s (floatOfInt .f64 N) q ∧ SR q r) : rankP r = spK N s := by
  unfold spK
  by_cases h0 : N = 0
  · rw [if_pos h0] at h ⊢
    rw [h]; decide
  · rw [if_neg h0] at h ⊢
    obtain ⟨q, h1, h2⟩ := h
    rcases h1 with h1 | ⟨h1, h3⟩
    · rw [h1]
      dsimp only
      rcases h2 with h2 | ⟨h2, h4⟩
      · rw [h2]
      · rw [h2]; exact rank_nan h4
    · rw [h1]
      dsimp only
      rcases h2 with h2 | ⟨h2, h4⟩
      · rw [sqrt_nan h3] at h2; cases h2
      · exact rank_nan h4
theorem Or_any (a b : Int) (v : Value) (w : World) (hr : Rd w 1 v 2 [.int .i64 a, .int .i64 b]) : Calls Try.prog 48 #[v] w fun e w' => e = .returned (.int .i64 (orZ a b)) ∧ w = w' := by
  obtain ⟨q, o, c, rfl, _, hcell⟩ := hr.at (by omega)
  have c0 : w.cell? ⟨q, o, none⟩ = some (.int .i64 a) := hcell 0 (.int .i64 a) rfl
  have c1 : w.cell? ⟨q, o + 1, none⟩ = some (.int .i64 b) := hcell 1 (.int .i64 b) rfl
  clear hr hcell
  by_cases ha : a = 0
  · subst ha
    by_cases hb : b = 0
    · subst hb
      go_enter Try.func48, Try.ntmps48
      go_wp2_with fail
      refine wp_loop_rounds 3 ?_
      iterate 3 (rw [rounds_succ]; go_wp2_with fail)
      go_ret
      exact ⟨by simp [orZ], rfl⟩
    · have h3 : (b == 0) = false := by simp [hb]
      have h4 : (b != 0) = true := by simp [hb]
      go_enter Try.func48, Try.ntmps48
      go_wp2_with fail
      refine wp_loop_rounds 3 ?_
      iterate 2 (rw [rounds_succ]; go_wp2_with fail)
      go_ret
      exact ⟨by simp [orZ], rfl⟩
  · have h1 : (a == 0) = false := by simp [ha]
    have h2 : (a != 0) = true := by simp [ha]
    go_enter Try.func48, Try.ntmps48
    go_wp2_with fail
    refine wp_loop_rounds 3 ?_
    iterate 1 (rw [rounds_succ]; go_wp2_with fail)
    go_ret
    exact ⟨by simp [orZ, ha], rfl⟩
/-- What each operation hands on. -/
def cmF (q o n c x y : Nat) (gx gy : GG) : Nat → Value → World → Prop
  | 0, v, _ => v = .slice (some ⟨q, o, none⟩) n c
  | 1, v, _ => v = .int .i64 x
  | 2, v, _ => v = .pointer (some ⟨q, o + x * 5, none⟩)
  | 3, v, _ => v = .pointer (some ⟨q, o + x * 5 + 1, none⟩)
  | 4, v, _ => v = .float .f64 gx.m
  | 5, v, _ => v = .slice (some ⟨q, o, none⟩) n c
  | 6, v, _ => v = .int .i64 y
  | 7, v, _ => v = .pointer (some ⟨q, o + y * 5, none⟩)
  | 8, v, _ => v = .pointer (some ⟨q, o + y * 5 + 1, none⟩)
  | 9, v, _ => v = .float .f64 gy.m
  | 10, v, _ => v = .int .i64 (ordP gx.m gy.m)
  | 11, v, _ => v = .slice (some ⟨q, o, none⟩) n c
  | 12, v, _ => v = .int .i64 x
  | 13, v, _ => v = .pointer (some ⟨q, o + x * 5, none⟩)
  | 14, v, _ => v = Gv gx.n gx.m gx.s gx.l gx.h
  | 15, v, _ => SpV v gx.n gx.s
  | 16, v, _ => v = .slice (some ⟨q, o, none⟩) n c
  | 17, v, _ => v = .int .i64 y
  | 18, v, _ => v = .pointer (some ⟨q, o + y * 5, none⟩)
  | 19, v, _ => v = Gv gy.n gy.m gy.s gy.l gy.h
  | 20, v, _ => SpV v gy.n gy.s
  | 21, v, _ => v = .int .i64 (ordZ (spK gx.n gx.s) (spK gy.n gy.s))
  | 22, v, w => Rd w 1 v 2 [.int .i64 (ordP gx.m gy.m), .int .i64 (ordZ (spK gx.n gx.s) (spK gy.n gy.s))]
  | 23, v, _ => v = .int .i64 (orZ (ordP gx.m gy.m) (ordZ (spK gx.n gx.s) (spK gy.n gy.s)))
  | 24, v, _ => v = .int .i64 (orZ (ordP gx.m gy.m) (ordZ (spK gx.n gx.s) (spK gy.n gy.s)))
  | _, _, _ => True

set_option maxHeartbeats 8000000 in
set_option maxRecDepth 100000 in
theorem cmp_any (q o n c x y bx : Nat) (gx gy : GG) (w : World) (hx : x < n) (hy : y < n) (hbx : w.cell? ⟨bx, 0, none⟩ = some (.slice (some ⟨q, o, none⟩) n c))
    (hcx : w.cell? ⟨q, o + x * 5, none⟩ = some (.int .u64 gx.n) ∧ w.cell? ⟨q, o + x * 5 + 1, none⟩ = some (.float .f64 gx.m) ∧ w.cell? ⟨q, o + x * 5 + 2, none⟩ = some (.float .f64 gx.s) ∧ w.cell? ⟨q, o + x * 5 + 3, none⟩ = some (.float .f64 gx.l) ∧ w.cell? ⟨q, o + x * 5 + 4, none⟩ = some (.float .f64 gx.h))
    (hcy : w.cell? ⟨q, o + y * 5, none⟩ = some (.int .u64 gy.n) ∧ w.cell? ⟨q, o + y * 5 + 1, none⟩ = some (.float .f64 gy.m) ∧ w.cell? ⟨q, o + y * 5 + 2, none⟩ = some (.float .f64 gy.s) ∧ w.cell? ⟨q, o + y * 5 + 3, none⟩ = some (.float .f64 gy.l) ∧ w.cell? ⟨q, o + y * 5 + 4, none⟩ = some (.float .f64 gy.h))
    (hv : gx.n < 18446744073709551616 ∧ gy.n < 18446744073709551616 ∧ gx.m < 18446744073709551616 ∧ gy.m < 18446744073709551616) :
    Calls Try.prog 47 #[.int .i64 x, .int .i64 y, .pointer (some ⟨bx, 0, none⟩)] w fun e w' => e = .returned (.int .i64 (orZ (ordP gx.m gy.m) (ordZ (spK gx.n gx.s) (spK gy.n gy.s)))) ∧ Below w.heap.size w w' := by
  have HBX := Lib.hid (And.intro (World.block_lt_of_cell? w _ hbx) hbx)
  have HCx := Lib.hid hcx
  have HCy := Lib.hid hcy
  have HV := Lib.hid hv
  have HN := Lib.hid (show (x : Int) < (n : Int) ∧ (y : Int) < (n : Int) by omega)
  clear hbx hcx hcy hv hx hy
  go_enter Try.func47, Try.ntmps47
  go_upto_region 1 with fail
  refine wp_region_steps [some 6, some 7, some 8, some 9, some 10, some 11, some 12, some 13, some 14, some 15, some 16, some 17, some 18, some 19, some 20, some 21, some 22, some 23, some 24, some 25, some 26, some 27, some 28, some 29, some 5] [] (cmF q o n c x y gx gy) (fun _ wx wy => Below wx.heap.size wx wy) (fun wx => Below w.heap.size w wx) (by kernel_rfl) (by kernel_rfl) rfl (by kernel_rfl) (Below.refl _ _).drew (fun _ wx => Below.refl _ _) (fun _ wx wy h k => h.trans (k.mono h.size)) ?hF ?hstep ?hend
  case hF =>
    exact ⟨fun _ _ _ _ _ _ h => h, ⟨fun _ _ _ _ _ _ h => h, ⟨fun _ _ _ _ _ _ h => h, ⟨fun _ _ _ _ _ _ h => h, ⟨fun _ _ _ _ _ _ h => h, ⟨fun _ _ _ _ _ _ h => h, ⟨fun _ _ _ _ _ _ h => h, ⟨fun _ _ _ _ _ _ h => h, ⟨fun _ _ _ _ _ _ h => h, ⟨fun _ _ _ _ _ _ h => h, ⟨fun _ _ _ _ _ _ h => h, ⟨fun _ _ _ _ _ _ h => h, ⟨fun _ _ _ _ _ _ h => h, ⟨fun _ _ _ _ _ _ h => h, ⟨fun _ _ _ _ _ _ h => h, ⟨fun _ _ _ _ _ _ h => h, ⟨fun _ _ _ _ _ _ h => h, ⟨fun _ _ _ _ _ _ h => h, ⟨fun _ _ _ _ _ _ h => h, ⟨fun _ _ _ _ _ _ h => h, ⟨fun _ _ _ _ _ _ h => h, ⟨fun _ _ _ _ _ _ h => h, ⟨fun _ _ _ _ _ k h => Rd.keep h k, ⟨fun _ _ _ _ _ _ h => h, ⟨fun _ _ _ _ _ _ h => h, trivial⟩⟩⟩⟩⟩⟩⟩⟩⟩⟩⟩⟩⟩⟩⟩⟩⟩⟩⟩⟩⟩⟩⟩⟩⟩
  case hstep =>
    refine ⟨fun r wx hG hs hq hf => ?_, ?_⟩
    · have e2 : r 2 = .pointer (some ⟨bx, 0, none⟩) := hs 2 rfl
      refine (if_pos rfl).symm ▸ ?_
      clear hs hq hf
      unfold gives
      have hc := (hG.cell HBX.out.1).trans HBX.out.2
      go_simp
      exact ⟨Below.refl _ _, rfl⟩
    refine ⟨fun r wx hG hs hq hf => ?_, ?_⟩
    · have e0 : r 0 = .int .i64 x := hs 0 rfl
      refine (if_pos rfl).symm ▸ ?_
      clear hs hq hf
      unfold gives
      go_simp
      exact ⟨Below.refl _ _, rfl⟩
    refine ⟨fun r wx hG hs hq hf => ?_, ?_⟩
    · have h0 : r 6 = .slice (some ⟨q, o, none⟩) n c := hf.1
      have h1 : r 7 = .int .i64 x := hf.2.1
      refine (if_pos rfl).symm ▸ ?_
      clear hs hq hf
      unfold gives
      have y1 : (0 : Int) ≤ (x : Int) := by omega
      have y2 : (x : Int) < (n : Int) := HN.out.1
      go_simp
      exact ⟨Below.refl _ _, rfl⟩
    refine ⟨fun r wx hG hs hq hf => ?_, ?_⟩
    · have h2 : r 8 = .pointer (some ⟨q, o + x * 5, none⟩) := hf.1
      refine (if_pos rfl).symm ▸ ?_
      clear hs hq hf
      unfold gives
      go_simp
      exact ⟨Below.refl _ _, rfl⟩
    refine ⟨fun r wx hG hs hq hf => ?_, ?_⟩
    · have h3 : r 9 = .pointer (some ⟨q, o + x * 5 + 1, none⟩) := hf.1
      refine (if_pos rfl).symm ▸ ?_
      clear hs hq hf
      unfold gives
      have hc := (hG.cell (World.block_lt_of_cell? w _ HCx.out.2.1)).trans HCx.out.2.1
      go_simp
      exact ⟨Below.refl _ _, rfl⟩
    refine ⟨fun r wx hG hs hq hf => ?_, ?_⟩
    · have e2 : r 2 = .pointer (some ⟨bx, 0, none⟩) := hs 2 rfl
      refine (if_pos rfl).symm ▸ ?_
      clear hs hq hf
      unfold gives
      have hc := (hG.cell HBX.out.1).trans HBX.out.2
      go_simp
      exact ⟨Below.refl _ _, rfl⟩
    refine ⟨fun r wx hG hs hq hf => ?_, ?_⟩
    · have e1 : r 1 = .int .i64 y := hs 1 rfl
      refine (if_pos rfl).symm ▸ ?_
      clear hs hq hf
      unfold gives
      go_simp
      exact ⟨Below.refl _ _, rfl⟩
    refine ⟨fun r wx hG hs hq hf => ?_, ?_⟩
    · have h5 : r 11 = .slice (some ⟨q, o, none⟩) n c := hf.1
      have h6 : r 12 = .int .i64 y := hf.2.1
      refine (if_pos rfl).symm ▸ ?_
      clear hs hq hf
      unfold gives
      have y1 : (0 : Int) ≤ (y : Int) := by omega
      have y2 : (y : Int) < (n : Int) := HN.out.2
      go_simp
      exact ⟨Below.refl _ _, rfl⟩
    refine ⟨fun r wx hG hs hq hf => ?_, ?_⟩
    · have h7 : r 13 = .pointer (some ⟨q, o + y * 5, none⟩) := hf.1
      refine (if_pos rfl).symm ▸ ?_
      clear hs hq hf
      unfold gives
      go_simp
      exact ⟨Below.refl _ _, rfl⟩
    refine ⟨fun r wx hG hs hq hf => ?_, ?_⟩
    · have h8 : r 14 = .pointer (some ⟨q, o + y * 5 + 1, none⟩) := hf.1
      refine (if_pos rfl).symm ▸ ?_
      clear hs hq hf
      unfold gives
      have hc := (hG.cell (World.block_lt_of_cell? w _ HCy.out.2.1)).trans HCy.out.2.1
      go_simp
      exact ⟨Below.refl _ _, rfl⟩
    refine ⟨fun r wx hG hs hq hf => ?_, ?_⟩
    · have h4 : r 10 = .float .f64 gx.m := hf.1
      have h9 : r 15 = .float .f64 gy.m := hf.2.1
      refine (if_pos rfl).symm ▸ ?_
      clear hs hq hf
      unfold gives
      have hk := Order_any gx.m gy.m wx HV.out.2.2.1 HV.out.2.2.2
      go_simp
      refine hk.mono ?_
      rintro e wy ⟨rfl, rfl⟩
      exact ⟨_, rfl, Below.refl _ _, rfl⟩
    refine ⟨fun r wx hG hs hq hf => ?_, ?_⟩
    · have e2 : r 2 = .pointer (some ⟨bx, 0, none⟩) := hs 2 rfl
      refine (if_pos rfl).symm ▸ ?_
      clear hs hq hf
      unfold gives
      have hc := (hG.cell HBX.out.1).trans HBX.out.2
      go_simp
      exact ⟨Below.refl _ _, rfl⟩
    refine ⟨fun r wx hG hs hq hf => ?_, ?_⟩
    · have e0 : r 0 = .int .i64 x := hs 0 rfl
      refine (if_pos rfl).symm ▸ ?_
      clear hs hq hf
      unfold gives
      go_simp
      exact ⟨Below.refl _ _, rfl⟩
    refine ⟨fun r wx hG hs hq hf => ?_, ?_⟩
    · have h11 : r 17 = .slice (some ⟨q, o, none⟩) n c := hf.1
      have h12 : r 18 = .int .i64 x := hf.2.1
      refine (if_pos rfl).symm ▸ ?_
      clear hs hq hf
      unfold gives
      have y1 : (0 : Int) ≤ (x : Int) := by omega
      have y2 : (x : Int) < (n : Int) := HN.out.1
      go_simp
      exact ⟨Below.refl _ _, rfl⟩
    refine ⟨fun r wx hG hs hq hf => ?_, ?_⟩
    · have h13 : r 19 = .pointer (some ⟨q, o + x * 5, none⟩) := hf.1
      refine (if_pos rfl).symm ▸ ?_
      clear hs hq hf
      unfold gives
      have hc0 := (hG.cell (World.block_lt_of_cell? w _ HCx.out.1)).trans HCx.out.1
      have hc1 := (hG.cell (World.block_lt_of_cell? w _ HCx.out.2.1)).trans HCx.out.2.1
      have hc2 := (hG.cell (World.block_lt_of_cell? w _ HCx.out.2.2.1)).trans HCx.out.2.2.1
      have hc3 := (hG.cell (World.block_lt_of_cell? w _ HCx.out.2.2.2.1)).trans HCx.out.2.2.2.1
      have hc4 := (hG.cell (World.block_lt_of_cell? w _ HCx.out.2.2.2.2)).trans HCx.out.2.2.2.2
      go_simp
      exact ⟨Below.refl _ _, rfl⟩
    refine ⟨fun r wx hG hs hq hf => ?_, ?_⟩
    · have h14 : r 20 = Gv gx.n gx.m gx.s gx.l gx.h := hf.1
      refine (if_pos rfl).symm ▸ ?_
      clear hs hq hf
      unfold gives
      have hk := Spread_any gx.n gx.m gx.s gx.l gx.h wx HV.out.1
      go_simp
      refine hk.mono ?_
      rintro e wy ⟨q1, rfl, hb1, hq1, hq2⟩
      exact ⟨_, rfl, hb1, q1, rfl, hq1, hq2⟩
    refine ⟨fun r wx hG hs hq hf => ?_, ?_⟩
    · have e2 : r 2 = .pointer (some ⟨bx, 0, none⟩) := hs 2 rfl
      refine (if_pos rfl).symm ▸ ?_
      clear hs hq hf
      unfold gives
      have hc := (hG.cell HBX.out.1).trans HBX.out.2
      go_simp
      exact ⟨Below.refl _ _, rfl⟩
    refine ⟨fun r wx hG hs hq hf => ?_, ?_⟩
    · have e1 : r 1 = .int .i64 y := hs 1 rfl
      refine (if_pos rfl).symm ▸ ?_
      clear hs hq hf
      unfold gives
      go_simp
      exact ⟨Below.refl _ _, rfl⟩
    refine ⟨fun r wx hG hs hq hf => ?_, ?_⟩
    · have h16 : r 22 = .slice (some ⟨q, o, none⟩) n c := hf.1
      have h17 : r 23 = .int .i64 y := hf.2.1
      refine (if_pos rfl).symm ▸ ?_
      clear hs hq hf
      unfold gives
      have y1 : (0 : Int) ≤ (y : Int) := by omega
      have y2 : (y : Int) < (n : Int) := HN.out.2
      go_simp
      exact ⟨Below.refl _ _, rfl⟩
    refine ⟨fun r wx hG hs hq hf => ?_, ?_⟩
    · have h18 : r 24 = .pointer (some ⟨q, o + y * 5, none⟩) := hf.1
      refine (if_pos rfl).symm ▸ ?_
      clear hs hq hf
      unfold gives
      have hc0 := (hG.cell (World.block_lt_of_cell? w _ HCy.out.1)).trans HCy.out.1
      have hc1 := (hG.cell (World.block_lt_of_cell? w _ HCy.out.2.1)).trans HCy.out.2.1
      have hc2 := (hG.cell (World.block_lt_of_cell? w _ HCy.out.2.2.1)).trans HCy.out.2.2.1
      have hc3 := (hG.cell (World.block_lt_of_cell? w _ HCy.out.2.2.2.1)).trans HCy.out.2.2.2.1
      have hc4 := (hG.cell (World.block_lt_of_cell? w _ HCy.out.2.2.2.2)).trans HCy.out.2.2.2.2
      go_simp
      exact ⟨Below.refl _ _, rfl⟩
    refine ⟨fun r wx hG hs hq hf => ?_, ?_⟩
    · have h19 : r 25 = Gv gy.n gy.m gy.s gy.l gy.h := hf.1
      have h15 : SpV (r 21) gx.n gx.s := hf.2.1
      refine (if_pos rfl).symm ▸ ?_
      clear hs hq hf
      unfold gives
      have hk := Spread_any gy.n gy.m gy.s gy.l gy.h wx HV.out.2.1
      go_simp
      refine hk.mono ?_
      rintro e wy ⟨q1, rfl, hb1, hq1, hq2⟩
      exact ⟨_, rfl, hb1, q1, rfl, hq1, hq2⟩
    refine ⟨fun r wx hG hs hq hf => ?_, ?_⟩
    · have h15 : SpV (r 21) gx.n gx.s := hf.1
      have h20 : SpV (r 26) gy.n gy.s := hf.2.1
      refine (if_pos rfl).symm ▸ ?_
      clear hs hq hf
      unfold gives
      obtain ⟨q1, hv1, hq1, hq2⟩ := h15
      obtain ⟨q2, hv2, hq3, hq4⟩ := h20
      have hk := Order_any q1 q2 wx hq1 hq3
      rw [show ordP q1 q2 = ordZ (rankP q1) (rankP q2) from rfl, sp_rank hq2, sp_rank hq4] at hk
      go_simp
      refine hk.mono ?_
      rintro e wy ⟨rfl, rfl⟩
      exact ⟨_, rfl, Below.refl _ _, rfl⟩
    refine ⟨fun r wx hG hs hq hf => ?_, ?_⟩
    · have h10 : r 16 = .int .i64 (ordP gx.m gy.m) := hf.1
      have h21 : r 27 = .int .i64 (ordZ (spK gx.n gx.s) (spK gy.n gy.s)) := hf.2.1
      refine (if_pos rfl).symm ▸ ?_
      clear hs hq hf
      unfold gives
      have hrd := own_rd (own_new wx 3 1 2 0 [.int .i64 (ordP gx.m gy.m), .int .i64 (ordZ (spK gx.n gx.s) (spK gy.n gy.s))] rfl (by omega) (Nat.zero_le _)) (by intro u hu; simp at hu; rcases hu with rfl | rfl <;> rfl)
      go_simp
      exact ⟨(Below.refl _ _).alloc (Nat.le_refl _) _, hrd⟩
    refine ⟨fun r wx hG hs hq hf => ?_, ?_⟩
    · have h22 : Rd wx 1 (r 28) 2 [.int .i64 (ordP gx.m gy.m), .int .i64 (ordZ (spK gx.n gx.s) (spK gy.n gy.s))] := hf.1
      refine (if_pos rfl).symm ▸ ?_
      clear hs hq hf
      unfold gives
      have hk := Or_any _ _ (r 28) wx h22
      go_simp
      refine hk.mono ?_
      rintro e wy ⟨rfl, rfl⟩
      exact ⟨_, rfl, Below.refl _ _, rfl⟩
    refine ⟨fun r wx hG hs hq hf => ?_, ?_⟩
    · have h23 : r 29 = .int .i64 (orZ (ordP gx.m gy.m) (ordZ (spK gx.n gx.s) (spK gy.n gy.s))) := hf.1
      refine (if_pos rfl).symm ▸ ?_
      clear hs hq hf
      unfold gives
      go_simp
      exact ⟨Below.refl _ _, rfl⟩
    exact trivial
  case hend =>
    intro u wz hG hfin
    have z24 : u 24 = .int .i64 (orZ (ordP gx.m gy.m) (ordZ (spK gx.n gx.s) (spK gy.n gy.s))) := hfin 24 (by decide) (by kernel_rfl)
    clear hfin
    simp only [fill]
    go_simp
    go_wp2_with fail
    go_ret
    exact ⟨rfl, hG⟩
end Go.Proofs.Ytdociiogddihfaa
