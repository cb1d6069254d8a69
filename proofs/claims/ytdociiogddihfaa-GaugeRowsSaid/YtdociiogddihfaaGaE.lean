/- Add of what is no number: both leave the gauge alone. gauge.Put. -/
import Derived.Test.YtdociiogddihfaaGaD
import Derived.Deep.DeepCutAuto
import Derived.Deep.CutBlock
import Derived.Test.YtdociiogddihfaaEdgePut
import Derived.Test.YtdociiogddihfaaSlC
import Derived.Test.YtdociiogddihfaaBinRef
namespace Go.Proofs.Ytdociiogddihfaa
open Go.RowKit

set_option maxHeartbeats 1000000 in
theorem GAdd_nan (N m s lo hi x : Nat) (w : World) (hx : x < 18446744073709551616) (hxn : fnan x = true) :
    Calls Try.prog 11 #[Gv N m s lo hi, .float .f64 x] w fun e w' => e = .returned (Gv N m s lo hi) ∧ Below w.heap.size w w' := by
  have hnan := fun w => IsNaN_any x w hx
  rw [hxn] at hnan
  go_enter Try.func11, Try.ntmps11
  go_wp2_with fail
  refine (hnan _).mono ?_
  rintro e w1 ⟨rfl, rfl⟩
  go_wp2_with fail
  exact bodyPost_ret (v := Gv N m s lo hi) (by simp [results, Try.results11, go_sem]) rfl ⟨rfl, (by (repeat (first | with_reducible refine Below.alloc ?_ (by simp) _ | with_reducible refine Below.setCell ?_ (by simp) _ | with_reducible exact Below.refl _ _)))⟩
set_option maxHeartbeats 1000000 in
theorem RGAdd_nan (N m s lo hi x : Nat) (w : World) (hx : x < 18446744073709551616) (hxn : fnan x = true) :
    Calls Try.prog 12 #[Gv N m s lo hi, .float .f64 x] w fun e w' => e = .returned (Gv N m s lo hi) ∧ Below w.heap.size w w' := by
  have hne : (FloatKind.f64.format.order x x != some .eq) = true := by rw [ne_order x hx, hxn]
  go_enter Try.func12, Try.ntmps12
  go_wp2_with fail
  exact bodyPost_ret (v := Gv N m s lo hi) (by simp [results, Try.results12, go_sem]) rfl ⟨rfl, (by (repeat (first | with_reducible refine Below.alloc ?_ (by simp) _ | with_reducible refine Below.setCell ?_ (by simp) _ | with_reducible exact Below.refl _ _)))⟩
/-- A gauge as bytes. -/
def gaB (N m s l h : Nat) : List UInt8 := numB N ++ be 8 (canB m) ++ be 8 (canB s) ++ be 8 (canB l) ++ be 8 (canB h)
-- GPUT
/-- Five texts in a list. -/
def Five (w : World) (v : Value) (x0 x1 x2 x3 x4 : List UInt8) : Prop :=
  ∃ v0 v1 v2 v3 v4, Rd w 1 v 5 [v0, v1, v2, v3, v4] ∧ Rd w 1 v0 x0.length (bv x0) ∧ Rd w 1 v1 8 (bv x1) ∧ Rd w 1 v2 8 (bv x2) ∧ Rd w 1 v3 8 (bv x3) ∧ Rd w 1 v4 8 (bv x4)
theorem Five.keep {w w' : World} {v : Value} {x0 x1 x2 x3 x4 : List UInt8} (h : Five w v x0 x1 x2 x3 x4) (k : Below w.heap.size w w') : Five w' v x0 x1 x2 x3 x4 := by
  obtain ⟨v0, v1, v2, v3, v4, k0, k1, k2, k3, k4, k5⟩ := h
  exact ⟨v0, v1, v2, v3, v4, k0.keep k, k1.keep k, k2.keep k, k3.keep k, k4.keep k, k5.keep k⟩
theorem Put_rd (x : Nat) (w : World) (hx : x < 18446744073709551616) : Calls Try.prog 36 #[.float .f64 x] w fun e w' => ∃ v, e = .returned v ∧ Rd w' 1 v 8 (bv (be 8 (canB x))) ∧ Below w.heap.size w w' := by
  refine (Put_any x w hx).mono ?_
  rintro e w' ⟨rfl, rfl⟩
  exact ⟨_, rfl, own_rd (own_new w 5 1 8 0 (bv (be 8 (canB x))) (by rw [bv_length, be_length]) (by omega) (Nat.zero_le _)) (bv_one _), (Below.refl _ _).alloc (Nat.le_refl _) _⟩
/-- What each operation hands on. -/
def gaPutF (B N m s l h : Nat) (x0 x1 x2 x3 x4 : List UInt8) : Nat → Value → World → Prop
  | 0, v, _ => v = .pointer (some ⟨B, 0, none⟩)
  | 1, v, _ => v = .int .u64 N
  | 2, v, w => Rd w 1 v x0.length (bv x0)
  | 3, v, _ => v = .pointer (some ⟨B, 1, none⟩)
  | 4, v, _ => v = .float .f64 m
  | 5, v, w => Rd w 1 v 8 (bv x1)
  | 6, v, _ => v = .pointer (some ⟨B, 2, none⟩)
  | 7, v, _ => v = .float .f64 s
  | 8, v, w => Rd w 1 v 8 (bv x2)
  | 9, v, _ => v = .pointer (some ⟨B, 3, none⟩)
  | 10, v, _ => v = .float .f64 l
  | 11, v, w => Rd w 1 v 8 (bv x3)
  | 12, v, _ => v = .pointer (some ⟨B, 4, none⟩)
  | 13, v, _ => v = .float .f64 h
  | 14, v, w => Rd w 1 v 8 (bv x4)
  | 15, v, w => Five w v x0 x1 x2 x3 x4
  | 16, v, w => Rd w 1 v (x0.length + 32) (bv (x0 ++ x1 ++ x2 ++ x3 ++ x4))
  | 17, v, w => Rd w 1 v (x0.length + 32) (bv (x0 ++ x1 ++ x2 ++ x3 ++ x4))
  | _, _, _ => True
set_option maxHeartbeats 4000000 in
set_option maxRecDepth 100000 in
theorem GPut_any (N m s l h : Nat) (w : World) (hN : N < 18446744073709551616) (hm : m < 18446744073709551616) (hs : s < 18446744073709551616) (hl : l < 18446744073709551616) (hh : h < 18446744073709551616) :
    Calls Try.prog 20 #[Gv N m s l h] w fun e w' => ∃ v, e = .returned v ∧ Rd w' 1 v (gaB N m s l h).length (bv (gaB N m s l h)) ∧ Below w.heap.size w w' := by
  have HN := Lib.hid (fun wx => Num_any N wx hN)
  have HP := Lib.hid (And.intro (fun wx => Put_rd m wx hm) (And.intro (fun wx => Put_rd s wx hs) (And.intro (fun wx => Put_rd l wx hl) (fun wx => Put_rd h wx hh))))
  have hll : (gaB N m s l h).length = (numB N).length + 32 := by simp [gaB, be_length]
  have HX : Hid (∀ {w' : World} {v : Value}, Rd w' 1 v ((numB N).length + 32) (bv (numB N ++ be 8 (canB m) ++ be 8 (canB s) ++ be 8 (canB l) ++ be 8 (canB h))) → Rd w' 1 v (gaB N m s l h).length (bv (gaB N m s l h))) := Lib.hid (fun hr => by rw [hll]; exact hr)
  have HL : Hid ((numB N).length ≤ 9) := Lib.hid (by have := nk_le N hN; rw [numB_length]; omega)
  clear hll
  generalize numB N = x0 at *
  generalize be 8 (canB m) = x1 at *
  generalize be 8 (canB s) = x2 at *
  generalize be 8 (canB l) = x3 at *
  generalize be 8 (canB h) = x4 at *
  clear hN hm hs hl hh
  go_enter Try.func20, Try.ntmps20
  go_upto_region 1 with fail
  obtain ⟨B, hB⟩ : ∃ B, B = w.heap.size := ⟨_, rfl⟩
  generalize hw1 : w.alloc (.cells #[.int .u64 N, .float .f64 m, .float .f64 s, .float .f64 l, .float .f64 h] 27) = w1
  have hrow : w1.heap[B]? = some (.cells #[.int .u64 N, .float .f64 m, .float .f64 s, .float .f64 l, .float .f64 h] 27 (0, 0)) := by rw [← hw1, hB]; exact heap_alloc_new _ _
  have HB1 : Hid (Below w.heap.size w w1) := Lib.hid (by rw [← hw1]; exact (Below.refl _ _).alloc (Nat.le_refl _) _)
  have hBs := (Array.getElem?_eq_some_iff.1 hrow).1
  rw [← hB]
  have HC := Lib.hid (And.intro hBs (And.intro (cell_rowG (v := .int .u64 N) (i := 0) hrow rfl) (And.intro (cell_rowG (v := .float .f64 m) (i := 1) hrow rfl) (And.intro (cell_rowG (v := .float .f64 s) (i := 2) hrow rfl) (And.intro (cell_rowG (v := .float .f64 l) (i := 3) hrow rfl) (cell_rowG (v := .float .f64 h) (i := 4) hrow rfl))))))
  clear hrow hBs hB hw1
  refine wp_region_steps [some 3, some 4, some 5, some 6, some 7, some 8, some 9, some 10, some 11, some 12, some 13, some 14, some 15, some 16, some 17, some 18, some 19, some 2] [] (gaPutF B N m s l h x0 x1 x2 x3 x4) (fun _ wx wy => Below wx.heap.size wx wy) (fun wx => Below w1.heap.size w1 wx) (by kernel_rfl) (by kernel_rfl) rfl (by kernel_rfl) (Below.refl _ _).drew (fun _ wx => Below.refl _ _) (fun _ wx wy h k => h.trans (k.mono h.size)) ?hF ?hstep ?hend
  case hF =>
    exact ⟨fun _ _ _ _ _ _ h => h, ⟨fun _ _ _ _ _ _ h => h, ⟨fun _ _ _ _ _ k h => Rd.keep h k, ⟨fun _ _ _ _ _ _ h => h, ⟨fun _ _ _ _ _ _ h => h, ⟨fun _ _ _ _ _ k h => Rd.keep h k, ⟨fun _ _ _ _ _ _ h => h, ⟨fun _ _ _ _ _ _ h => h, ⟨fun _ _ _ _ _ k h => Rd.keep h k, ⟨fun _ _ _ _ _ _ h => h, ⟨fun _ _ _ _ _ _ h => h, ⟨fun _ _ _ _ _ k h => Rd.keep h k, ⟨fun _ _ _ _ _ _ h => h, ⟨fun _ _ _ _ _ _ h => h, ⟨fun _ _ _ _ _ k h => Rd.keep h k, ⟨fun _ _ _ _ _ k h => Five.keep h k, ⟨fun _ _ _ _ _ k h => h.keep k, ⟨fun _ _ _ _ _ k h => h.keep k, trivial⟩⟩⟩⟩⟩⟩⟩⟩⟩⟩⟩⟩⟩⟩⟩⟩⟩⟩
  case hstep =>
    refine ⟨fun r wx hG hs hq hf => ?_, ?_⟩
    · have e1 : r 1 = .pointer (some ⟨B, 0, none⟩) := hs 1 rfl
      refine (if_pos rfl).symm ▸ ?_
      clear hs hq hf
      unfold gives
      go_simp
      exact ⟨Below.refl _ _, rfl⟩
    refine ⟨fun r wx hG hs hq hf => ?_, ?_⟩
    · have h0 : r 3 = .pointer (some ⟨B, 0, none⟩) := hf.1
      refine (if_pos rfl).symm ▸ ?_
      clear hs hq hf
      unfold gives
      have hc := (hG.cell (p := ⟨B, 0, none⟩) HC.out.1).trans HC.out.2.1
      go_simp
      exact ⟨Below.refl _ _, rfl⟩
    refine ⟨fun r wx hG hs hq hf => ?_, ?_⟩
    · have h1 : r 4 = .int .u64 N := hf.1
      refine (if_pos rfl).symm ▸ ?_
      clear hs hq hf
      unfold gives
      have hk := HN.out wx
      go_simp
      refine hk.mono ?_
      rintro e wy ⟨v, rfl, hr1, hb1⟩
      exact ⟨v, rfl, hb1, hr1⟩
    refine ⟨fun r wx hG hs hq hf => ?_, ?_⟩
    · have e1 : r 1 = .pointer (some ⟨B, 0, none⟩) := hs 1 rfl
      refine (if_pos rfl).symm ▸ ?_
      clear hs hq hf
      unfold gives
      go_simp
      exact ⟨Below.refl _ _, rfl⟩
    refine ⟨fun r wx hG hs hq hf => ?_, ?_⟩
    · have h3 : r 6 = .pointer (some ⟨B, 1, none⟩) := hf.1
      refine (if_pos rfl).symm ▸ ?_
      clear hs hq hf
      unfold gives
      have hc := (hG.cell (p := ⟨B, 1, none⟩) HC.out.1).trans HC.out.2.2.1
      go_simp
      exact ⟨Below.refl _ _, rfl⟩
    refine ⟨fun r wx hG hs hq hf => ?_, ?_⟩
    · have h4 : r 7 = .float .f64 m := hf.1
      have h2 : Rd wx 1 (r 5) x0.length (bv x0) := hf.2.1
      refine (if_pos rfl).symm ▸ ?_
      clear hs hq hf
      unfold gives
      have hk := HP.out.1 wx
      go_simp
      refine hk.mono ?_
      rintro e wy ⟨v, rfl, hr1, hb1⟩
      exact ⟨v, rfl, hb1, hr1⟩
    refine ⟨fun r wx hG hs hq hf => ?_, ?_⟩
    · have e1 : r 1 = .pointer (some ⟨B, 0, none⟩) := hs 1 rfl
      refine (if_pos rfl).symm ▸ ?_
      clear hs hq hf
      unfold gives
      go_simp
      exact ⟨Below.refl _ _, rfl⟩
    refine ⟨fun r wx hG hs hq hf => ?_, ?_⟩
    · have h6 : r 9 = .pointer (some ⟨B, 2, none⟩) := hf.1
      refine (if_pos rfl).symm ▸ ?_
      clear hs hq hf
      unfold gives
      have hc := (hG.cell (p := ⟨B, 2, none⟩) HC.out.1).trans HC.out.2.2.2.1
      go_simp
      exact ⟨Below.refl _ _, rfl⟩
    refine ⟨fun r wx hG hs hq hf => ?_, ?_⟩
    · have h7 : r 10 = .float .f64 s := hf.1
      have h5 : Rd wx 1 (r 8) 8 (bv x1) := hf.2.1
      refine (if_pos rfl).symm ▸ ?_
      clear hs hq hf
      unfold gives
      have hk := HP.out.2.1 wx
      go_simp
      refine hk.mono ?_
      rintro e wy ⟨v, rfl, hr1, hb1⟩
      exact ⟨v, rfl, hb1, hr1⟩
    refine ⟨fun r wx hG hs hq hf => ?_, ?_⟩
    · have e1 : r 1 = .pointer (some ⟨B, 0, none⟩) := hs 1 rfl
      refine (if_pos rfl).symm ▸ ?_
      clear hs hq hf
      unfold gives
      go_simp
      exact ⟨Below.refl _ _, rfl⟩
    refine ⟨fun r wx hG hs hq hf => ?_, ?_⟩
    · have h9 : r 12 = .pointer (some ⟨B, 3, none⟩) := hf.1
      refine (if_pos rfl).symm ▸ ?_
      clear hs hq hf
      unfold gives
      have hc := (hG.cell (p := ⟨B, 3, none⟩) HC.out.1).trans HC.out.2.2.2.2.1
      go_simp
      exact ⟨Below.refl _ _, rfl⟩
    refine ⟨fun r wx hG hs hq hf => ?_, ?_⟩
    · have h10 : r 13 = .float .f64 l := hf.1
      have h8 : Rd wx 1 (r 11) 8 (bv x2) := hf.2.1
      refine (if_pos rfl).symm ▸ ?_
      clear hs hq hf
      unfold gives
      have hk := HP.out.2.2.1 wx
      go_simp
      refine hk.mono ?_
      rintro e wy ⟨v, rfl, hr1, hb1⟩
      exact ⟨v, rfl, hb1, hr1⟩
    refine ⟨fun r wx hG hs hq hf => ?_, ?_⟩
    · have e1 : r 1 = .pointer (some ⟨B, 0, none⟩) := hs 1 rfl
      refine (if_pos rfl).symm ▸ ?_
      clear hs hq hf
      unfold gives
      go_simp
      exact ⟨Below.refl _ _, rfl⟩
    refine ⟨fun r wx hG hs hq hf => ?_, ?_⟩
    · have h12 : r 15 = .pointer (some ⟨B, 4, none⟩) := hf.1
      refine (if_pos rfl).symm ▸ ?_
      clear hs hq hf
      unfold gives
      have hc := (hG.cell (p := ⟨B, 4, none⟩) HC.out.1).trans HC.out.2.2.2.2.2
      go_simp
      exact ⟨Below.refl _ _, rfl⟩
    refine ⟨fun r wx hG hs hq hf => ?_, ?_⟩
    · have h13 : r 16 = .float .f64 h := hf.1
      have h11 : Rd wx 1 (r 14) 8 (bv x3) := hf.2.1
      refine (if_pos rfl).symm ▸ ?_
      clear hs hq hf
      unfold gives
      have hk := HP.out.2.2.2 wx
      go_simp
      refine hk.mono ?_
      rintro e wy ⟨v, rfl, hr1, hb1⟩
      exact ⟨v, rfl, hb1, hr1⟩
    refine ⟨fun r wx hG hs hq hf => ?_, ?_⟩
    · have h2 : Rd wx 1 (r 5) x0.length (bv x0) := hf.1
      have h5 : Rd wx 1 (r 8) 8 (bv x1) := hf.2.1
      have h8 : Rd wx 1 (r 11) 8 (bv x2) := hf.2.2.1
      have h11 : Rd wx 1 (r 14) 8 (bv x3) := hf.2.2.2.1
      have h14 : Rd wx 1 (r 17) 8 (bv x4) := hf.2.2.2.2.1
      refine (if_pos rfl).symm ▸ ?_
      clear hs hq hf
      unfold gives
      obtain ⟨a0, c0, e0⟩ := h2.form
      obtain ⟨a1, c1, e1⟩ := h5.form
      obtain ⟨a2, c2, e2⟩ := h8.form
      obtain ⟨a3, c3, e3⟩ := h11.form
      obtain ⟨a4, c4, e4⟩ := h14.form
      rw [e0] at h2
      rw [e1] at h5
      rw [e2] at h8
      rw [e3] at h11
      rw [e4] at h14
      have H := Lib.hid (And.intro h2 (And.intro h5 (And.intro h8 (And.intro h11 h14))))
      clear h2 h5 h8 h11 h14
      have hrd := own_rd (own_new wx 44 1 5 0 [.slice a0 x0.length c0, .slice a1 8 c1, .slice a2 8 c2, .slice a3 8 c3, .slice a4 8 c4] rfl (by omega) (Nat.zero_le _)) (by intro u hu; simp at hu; rcases hu with rfl | rfl | rfl | rfl | rfl <;> rfl)
      have hb : Below wx.heap.size wx (wx.alloc (.cells [Value.slice a0 x0.length c0, .slice a1 8 c1, .slice a2 8 c2, .slice a3 8 c3, .slice a4 8 c4].toArray 44)) := (Below.refl _ _).alloc (Nat.le_refl _) _
      have HR := Lib.hid (And.intro hrd hb)
      clear hrd hb
      go_simp
      exact ⟨HR.out.2, _, _, _, _, _, HR.out.1, H.out.1.keep HR.out.2, H.out.2.1.keep HR.out.2, H.out.2.2.1.keep HR.out.2, H.out.2.2.2.1.keep HR.out.2, H.out.2.2.2.2.keep HR.out.2⟩
    refine ⟨fun r wx hG hs hq hf => ?_, ?_⟩
    · have h15 : Five wx (r 18) x0 x1 x2 x3 x4 := hf.1
      have h14 : Rd wx 1 (r 17) 8 (bv x4) := hf.2.1
      refine (if_pos rfl).symm ▸ ?_
      clear hs hq hf
      unfold gives
      obtain ⟨v0, v1, v2, v3, v4, k0, k1, k2, k3, k4, k5⟩ := h15
      have hk := ConcatC8_any (r 18) [(v0, x0.length, bv x0), (v1, 8, bv x1), (v2, 8, bv x2), (v3, 8, bv x3), (v4, 8, bv x4)] wx k0 (by intro p hp; simp at hp; rcases hp with rfl | rfl | rfl | rfl | rfl <;> assumption) (by have := HL.out; simp [sumNC8]; omega) (by simp)
      clear k0 k1 k2 k3 k4 k5
      go_simp
      refine hk.mono ?_
      rintro e wy ⟨v, rfl, ho, hb1⟩
      have hr1 := own_rd ho (by intro u hu; simp at hu; rcases hu with hu | hu | hu | hu | hu <;> exact bv_one _ _ hu)
      have h2 : Rd wy 1 v (x0.length + 32) (bv (x0 ++ x1 ++ x2 ++ x3 ++ x4)) := by simpa [sumNC8, bv_append] using hr1
      exact ⟨v, rfl, hb1, h2⟩
    refine ⟨fun r wx hG hs hq hf => ?_, ?_⟩
    · have h16 : Rd wx 1 (r 19) (x0.length + 32) (bv (x0 ++ x1 ++ x2 ++ x3 ++ x4)) := hf.1
      refine (if_pos rfl).symm ▸ ?_
      clear hs hq hf
      unfold gives
      go_simp
      exact ⟨Below.refl _ _, h16⟩
    exact trivial
  case hend =>
    intro u wz hG hfin
    have z17 : Rd wz 1 (u 17) (x0.length + 32) (bv (x0 ++ x1 ++ x2 ++ x3 ++ x4)) := hfin 17 (by decide) (by kernel_rfl)
    clear hfin
    simp only [fill]
    go_simp
    go_wp2_with fail
    go_ret
    exact ⟨_, rfl, HX.out z17, HB1.out.trans (hG.mono HB1.out.size)⟩
end Go.Proofs.Ytdociiogddihfaa
