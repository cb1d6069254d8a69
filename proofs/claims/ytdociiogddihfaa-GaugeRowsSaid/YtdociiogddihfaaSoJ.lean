/- The reference's Ahead. (printed by gen/soj.py) -/
import Derived.Test.YtdociiogddihfaaSoI
namespace Go.Proofs.Ytdociiogddihfaa
open Go.ChangeShapes Go.WideShapes Go.ChangeAt Go.RowKit

/-- What each operation hands on. -/
def ahF (b2 b3 : Nat) (gx gy : GG) : Nat → Value → World → Prop
  | 0, v, _ => v = Gv gx.n gx.m gx.s gx.l gx.h
  | 1, v, _ => SpV v gx.n gx.s
  | 2, v, _ => v = Gv gy.n gy.m gy.s gy.l gy.h
  | 3, v, _ => SpV v gy.n gy.s
  | 4, v, _ => v = .int .i64 (ordZ (spK gx.n gx.s) (spK gy.n gy.s))
  | 5, v, _ => v = .int .i64 (ordZ (spK gx.n gx.s) (spK gy.n gy.s))
  | _, _, _ => True

set_option maxHeartbeats 8000000 in
set_option maxRecDepth 100000 in
theorem Ahead_any (gx gy : GG) (w : World) (hv : gx.n < 18446744073709551616 ∧ gy.n < 18446744073709551616 ∧ gx.m < 18446744073709551616 ∧ gy.m < 18446744073709551616) :
    Calls Try.prog 50 #[Gv gx.n gx.m gx.s gx.l gx.h, Gv gy.n gy.m gy.s gy.l gy.h] w fun e w' => e = .returned (.bool (decide (orZ (ordP gx.m gy.m) (ordZ (spK gx.n gx.s) (spK gy.n gy.s)) < 0))) ∧ Below w.heap.size w w' := by
  obtain ⟨w1, hw1⟩ : ∃ q, q = w.alloc (.cells #[.int .u64 gx.n, .float .f64 gx.m, .float .f64 gx.s, .float .f64 gx.l, .float .f64 gx.h] 27) := ⟨_, rfl⟩
  obtain ⟨w2, hw2⟩ : ∃ q, q = w1.alloc (.cells #[.int .u64 gy.n, .float .f64 gy.m, .float .f64 gy.s, .float .f64 gy.l, .float .f64 gy.h] 27) := ⟨_, rfl⟩
  obtain ⟨b2, hb2⟩ : ∃ q, q = w.heap.size := ⟨_, rfl⟩
  obtain ⟨b3, hb3⟩ : ∃ q, q = w1.heap.size := ⟨_, rfl⟩
  have hs1 : w1.heap.size = w.heap.size + 1 := by rw [hw1]; simp
  have hr1 : w1.heap[b2]? = some (.cells #[.int .u64 gx.n, .float .f64 gx.m, .float .f64 gx.s, .float .f64 gx.l, .float .f64 gx.h] 27 (0, 0)) := by rw [hw1, hb2]; exact heap_alloc_new _ _
  have hr2 : w2.heap[b2]? = some (.cells #[.int .u64 gx.n, .float .f64 gx.m, .float .f64 gx.s, .float .f64 gx.l, .float .f64 gx.h] 27 (0, 0)) := by
    rw [hw2]; exact (heap_alloc_old _ _ (by omega)).trans hr1
  have hr3 : w2.heap[b3]? = some (.cells #[.int .u64 gy.n, .float .f64 gy.m, .float .f64 gy.s, .float .f64 gy.l, .float .f64 gy.h] 27 (0, 0)) := by rw [hw2, hb3]; exact heap_alloc_new _ _
  have hbw : Below w.heap.size w w2 := by
    rw [hw2, hw1]; exact ((Below.refl _ _).alloc (Nat.le_refl _) _).alloc (by simp) _
  have e3 : w.heap.size + 1 = b3 := by omega
  have HR := Lib.hid (And.intro hr2 hr3)
  have HL := Lib.hid (And.intro (Array.getElem?_eq_some_iff.1 hr2).1 (Array.getElem?_eq_some_iff.1 hr3).1)
  have HB := Lib.hid hbw
  have HW := Lib.hid (And.intro hw1 (And.intro hw2 (And.intro hb2 e3)))
  have HV := Lib.hid hv
  have c1 := cell_rowG (v := .float .f64 gx.m) (i := 1) hr2 rfl
  have c2 := cell_rowG (v := .float .f64 gy.m) (i := 1) hr3 rfl
  clear hw1 hw2 hb2 hb3 hs1 hr1 hr2 hr3 hbw e3 hv
  go_enter Try.func50, Try.ntmps50
  go_upto_region 1 with fail
  rw [HW.out.2.2.2, ← HW.out.2.2.1, show (w.alloc (.cells #[.int .u64 gx.n, .float .f64 gx.m, .float .f64 gx.s, .float .f64 gx.l, .float .f64 gx.h] 27)) = w1 from HW.out.1.symm, show (w1.alloc (.cells #[.int .u64 gy.n, .float .f64 gy.m, .float .f64 gy.s, .float .f64 gy.l, .float .f64 gy.h] 27)) = w2 from HW.out.2.1.symm]
  go_wp2_with fail
  refine (ROrder_any gx.m gy.m _ HV.out.2.2.1 HV.out.2.2.2).mono ?_
  rintro e w3 ⟨rfl, rfl⟩
  rw [ord_eq gx.m gy.m HV.out.2.2.1 HV.out.2.2.2]
  obtain ⟨o, ho⟩ : ∃ q, q = ordP gx.m gy.m := ⟨_, rfl⟩
  rw [← ho]
  have HO2 := Lib.hid ho
  clear ho c1 c2
  by_cases h0 : o = 0
  · subst h0
    go_upto_region 3 with fail
    refine wp_region_steps [some 13, some 14, some 15, some 16, some 17, some 5] [] (ahF b2 b3 gx gy) (fun _ wx wy => Below wx.heap.size wx wy) (fun wx => Below w2.heap.size w2 wx) (by kernel_rfl) (by kernel_rfl) rfl (by kernel_rfl) (Below.refl _ _).drew (fun _ wx => Below.refl _ _) (fun _ wx wy h k => h.trans (k.mono h.size)) ?hF ?hstep ?hend
    case hF =>
      exact ⟨fun _ _ _ _ _ _ h => h, ⟨fun _ _ _ _ _ _ h => h, ⟨fun _ _ _ _ _ _ h => h, ⟨fun _ _ _ _ _ _ h => h, ⟨fun _ _ _ _ _ _ h => h, ⟨fun _ _ _ _ _ _ h => h, trivial⟩⟩⟩⟩⟩⟩
    case hstep =>
      refine ⟨fun r wx hG hs hq hf => ?_, ?_⟩
      · have e2 : r 2 = .pointer (some ⟨b2, 0, none⟩) := hs 2 rfl
        refine (if_pos rfl).symm ▸ ?_
        clear hs hq hf
        unfold gives
        refine gives_load_row 27 _ rfl b2 e2 27 _ (0, 0) _ ((hG.block _ HL.out.1).trans HR.out.1) Try.underlying27 rfl (gI _ _ _ _ _) ?_
        exact ⟨Below.refl _ _, rfl⟩
      refine ⟨fun r wx hG hs hq hf => ?_, ?_⟩
      · have h0 : r 13 = Gv gx.n gx.m gx.s gx.l gx.h := hf.1
        refine (if_pos rfl).symm ▸ ?_
        clear hs hq hf
        unfold gives
        have hk := RSpread_any gx.n gx.m gx.s gx.l gx.h wx HV.out.1
        go_simp
        refine hk.mono ?_
        rintro e wy ⟨q1, rfl, hb1, hq1, hq2⟩
        exact ⟨_, rfl, hb1, q1, rfl, hq1, hq2⟩
      refine ⟨fun r wx hG hs hq hf => ?_, ?_⟩
      · have e3 : r 3 = .pointer (some ⟨b3, 0, none⟩) := hs 3 rfl
        refine (if_pos rfl).symm ▸ ?_
        clear hs hq hf
        unfold gives
        refine gives_load_row 27 _ rfl b3 e3 27 _ (0, 0) _ ((hG.block _ HL.out.2).trans HR.out.2) Try.underlying27 rfl (gI _ _ _ _ _) ?_
        exact ⟨Below.refl _ _, rfl⟩
      refine ⟨fun r wx hG hs hq hf => ?_, ?_⟩
      · have h2 : r 15 = Gv gy.n gy.m gy.s gy.l gy.h := hf.1
        have h1 : SpV (r 14) gx.n gx.s := hf.2.1
        refine (if_pos rfl).symm ▸ ?_
        clear hs hq hf
        unfold gives
        have hk := RSpread_any gy.n gy.m gy.s gy.l gy.h wx HV.out.2.1
        go_simp
        refine hk.mono ?_
        rintro e wy ⟨q1, rfl, hb1, hq1, hq2⟩
        exact ⟨_, rfl, hb1, q1, rfl, hq1, hq2⟩
      refine ⟨fun r wx hG hs hq hf => ?_, ?_⟩
      · have h1 : SpV (r 14) gx.n gx.s := hf.1
        have h3 : SpV (r 16) gy.n gy.s := hf.2.1
        refine (if_pos rfl).symm ▸ ?_
        clear hs hq hf
        unfold gives
        obtain ⟨q1, hv1, hq1, hq2⟩ := h1
        obtain ⟨q2, hv2, hq3, hq4⟩ := h3
        have hk := ROrder_any q1 q2 wx hq1 hq3
        rw [ord_eq q1 q2 hq1 hq3, show ordP q1 q2 = ordZ (rankP q1) (rankP q2) from rfl, sp_rank hq2, sp_rank hq4] at hk
        go_simp
        refine hk.mono ?_
        rintro e wy ⟨rfl, rfl⟩
        exact ⟨_, rfl, Below.refl _ _, rfl⟩
      refine ⟨fun r wx hG hs hq hf => ?_, ?_⟩
      · have h4 : r 17 = .int .i64 (ordZ (spK gx.n gx.s) (spK gy.n gy.s)) := hf.1
        refine (if_pos rfl).symm ▸ ?_
        clear hs hq hf
        unfold gives
        go_simp
        exact ⟨Below.refl _ _, rfl⟩
      exact trivial
    case hend =>
      intro u wz hG hfin
      have z5 : u 5 = .int .i64 (ordZ (spK gx.n gx.s) (spK gy.n gy.s)) := hfin 5 (by decide) (by kernel_rfl)
      clear hfin
      simp only [fill]
      go_simp
      go_wp2_with fail
      go_ret
      exact ⟨by rw [← HO2.out]; simp [orZ], HB.out.trans (hG.mono HB.out.size)⟩
  · have z1 : (o == 0) = false := by simp [h0]
    have HO := Lib.hid h0
    go_wp2_with fail
    go_ret
    exact ⟨by rw [← HO2.out]; simp [orZ, HO.out], HB.out⟩
end Go.Proofs.Ytdociiogddihfaa
