/- GaugeBytes: the walk. (printed by gen/gabw.py) -/
import Derived.Test.YtdociiogddihfaaGaK
namespace Go.Proofs.Ytdociiogddihfaa
open Go.ChangeShapes Go.WideShapes Go.ChangeAt Go.RowKit

/-- What each operation hands on. -/
def gb7T (N b0 b1 b2 b3 N1 m1 s1 l1 h1 c6 : Nat) (er : Int) (P : List UInt8) (a6 : Option Addr) : Nat → Value → World → Prop
  | 0, v, _ => v = .slice a6 P.length c6
  | 1, v, _ => v = .string ⟨P.toArray⟩
  | 2, v, _ => v = Gv N b0 b1 b2 b3
  | 3, v, w => Rd w 1 v P.length (bv P)
  | 4, v, _ => v = .string ⟨P.toArray⟩
  | 5, v, _ => v = .bool false
  | 6, v, _ => v = .bool false
  | 7, v, _ => v = .int .i64 er
  | 8, v, _ => v = .int .i64 er
  | 9, v, _ => v = .bool false
  | 10, v, _ => v = .bool false
  | 11, v, _ => v = .bool false
  | 12, v, _ => v = .int .i64 er
  | 13, v, _ => v = .bool true
  | 14, v, _ => v = .bool true
  | 15, v, _ => v = Gv N1 m1 s1 l1 h1
  | 16, v, _ => v = Gv N1 m1 s1 l1 h1
  | 17, v, _ => v = .bool true
  | 18, v, _ => v = .bool false
  | 19, v, _ => v = .bool false
  | 20, v, _ => v = .bool false
  | _, _, _ => True
/-- What each operation hands on. -/
def gb7F (N b0 b1 b2 b3 _N1 _m1 _s1 _l1 _h1 c6 : Nat) (er : Int) (P : List UInt8) (a6 : Option Addr) : Nat → Value → World → Prop
  | 0, v, _ => v = .slice a6 P.length c6
  | 1, v, _ => v = .string ⟨P.toArray⟩
  | 2, v, _ => v = Gv N b0 b1 b2 b3
  | 3, v, w => Rd w 1 v P.length (bv P)
  | 4, v, _ => v = .string ⟨P.toArray⟩
  | 5, v, _ => v = .bool false
  | 6, v, _ => v = .bool false
  | 7, v, _ => v = .int .i64 er
  | 8, v, _ => v = .int .i64 er
  | 9, v, _ => v = .bool false
  | 10, v, _ => v = .bool false
  | 11, v, _ => v = .bool false
  | 12, v, _ => v = .int .i64 er
  | 13, v, _ => v = .bool false
  | 14, v, _ => v = .bool false
  | 15, v, _ => v = undef
  | 16, v, _ => v = undef
  | 17, v, _ => v = undef
  | 18, v, _ => v = undef
  | 19, v, _ => v = .bool false
  | 20, v, _ => v = .bool false
  | _, _, _ => True
/-- What each operation hands on. -/
def gb10T (N b0 b1 b2 b3 N1 m1 s1 l1 h1 c : Nat) (er : Int) (b : List UInt8) (a : Option Addr) : Nat → Value → World → Prop
  | 0, v, _ => v = .int .i64 0
  | 1, v, _ => v = .bool true
  | 2, v, _ => v = .bool true
  | 3, v, _ => v = Gv N (canB b0) (canB b1) (canB b2) (canB b3)
  | 4, v, _ => v = Gv N b0 b1 b2 b3
  | 5, v, _ => v = .bool true
  | 6, v, _ => v = .bool true
  | 7, v, _ => v = .bool true
  | 8, v, _ => v = .int .i64 er
  | 9, v, _ => v = .bool false
  | 10, v, _ => v = .bool false
  | 11, v, _ => v = Gv N1 m1 s1 l1 h1
  | 12, v, w => Rd w 1 v b.length (bv b)
  | 13, v, _ => v = .string ⟨b.toArray⟩
  | 14, v, _ => v = .slice a b.length c
  | 15, v, _ => v = .string ⟨b.toArray⟩
  | 16, v, _ => v = .bool true
  | 17, v, _ => v = .bool true
  | 18, v, _ => v = .bool true
  | 19, v, _ => v = .bool true
  | _, _, _ => True
/-- What each operation hands on. -/
def gb10F (N b0 b1 b2 b3 _N1 _m1 _s1 _l1 _h1 _c : Nat) (er : Int) (_b : List UInt8) (_a : Option Addr) : Nat → Value → World → Prop
  | 0, v, _ => v = .int .i64 0
  | 1, v, _ => v = .bool true
  | 2, v, _ => v = .bool true
  | 3, v, _ => v = Gv N (canB b0) (canB b1) (canB b2) (canB b3)
  | 4, v, _ => v = Gv N b0 b1 b2 b3
  | 5, v, _ => v = .bool true
  | 6, v, _ => v = .bool true
  | 7, v, _ => v = .bool true
  | 8, v, _ => v = .int .i64 er
  | 9, v, _ => v = .bool true
  | 10, v, _ => v = .bool true
  | 11, v, _ => v = undef
  | 12, v, _ => v = undef
  | 13, v, _ => v = undef
  | 14, v, _ => v = undef
  | 15, v, _ => v = undef
  | 16, v, _ => v = undef
  | 17, v, _ => v = .bool true
  | 18, v, _ => v = .bool true
  | 19, v, _ => v = .bool true
  | _, _, _ => True
set_option maxHeartbeats 16000000 in
set_option maxRecDepth 100000 in
theorem gaugeBytes_walk (N b0 b1 b2 b3 : Nat) (v : Value) (b : List UInt8) (w : World) (hN : N < 18446744073709551616) (h0 : b0 < 18446744073709551616) (h1 : b1 < 18446744073709551616) (h2 : b2 < 18446744073709551616) (h3 : b3 < 18446744073709551616) (hl : b.length ≤ 140737488351232) (hr : Rd w 1 v b.length (bv b)) :
    Calls Try.prog 5 #[.agg #[.int .u64 N, .int .u64 b0, .int .u64 b1, .int .u64 b2, .int .u64 b3], v] w fun e w' => e = .returned (.bool true) ∧ Below w.heap.size w w' := by
  obtain ⟨a, c, rfl⟩ := hr.form
  have hgp := get_put N b0 b1 b2 b3 hN h0 h1 h2 h3
  obtain ⟨N1, m1, s1, l1, h1', hg1, hbk, q0, q1, q2, q3, q4⟩ : ∃ N m s l hh, gaG b = Gv N m s l hh ∧ (gaE b = 0 → gaB N m s l hh = b) ∧ N < 18446744073709551616 ∧ m < 18446744073709551616 ∧ s < 18446744073709551616 ∧ l < 18446744073709551616 ∧ hh < 18446744073709551616 := by
    by_cases he : gaE b = 0
    · obtain ⟨n1, n2, n3, n4, n5, k1, k2, k3⟩ := put_get b he
      exact ⟨n1, n2, n3, n4, n5, k1, fun _ => k2, k3⟩
    · exact ⟨0, 0, 0, 0, 0, by rw [gaG, if_neg he], fun h => absurd h he, by decide, by decide, by decide, by decide, by decide⟩
  obtain ⟨er, her⟩ : ∃ x, x = gaE b := ⟨_, rfl⟩
  have hP : (gaB N b0 b1 b2 b3).length ≤ 41 := by have := nk_le N hN; simp [gaB, be_length, numB_length]; omega
  have hput := fun wx => GPut_any N b0 b1 b2 b3 wx hN h0 h1 h2 h3
  have hput2 := fun wx => RGPut_any N b0 b1 b2 b3 wx hN h0 h1 h2 h3
  have hput3 := fun wx => GPut_any N1 m1 s1 l1 h1' wx q0 q1 q2 q3 q4
  have hget := fun wx (hb : Below w.heap.size w wx) => GGet_any (.slice a b.length c) b wx (by omega) (hr.keep hb)
  have hrget := fun wx (hb : Below w.heap.size w wx) => RGGet_any (.slice a b.length c) b wx (by omega) (hr.keep hb)
  rw [hg1, ← her] at hget hrget
  rw [← her] at hbk
  obtain ⟨P, hPe⟩ : ∃ x, x = gaB N b0 b1 b2 b3 := ⟨_, rfl⟩
  rw [← hPe] at hP hput hput2 hgp
  have HGP := Lib.hid (And.intro hgp.2 hgp.1)
  have HP1 := Lib.hid hput
  have HP2 := Lib.hid hput2
  have HP3a := Lib.hid hput3
  have HGET := Lib.hid hget
  have HRGET := Lib.hid hrget
  have HBK := Lib.hid hbk
  have HBB := Lib.hid hr
  have HPL := Lib.hid hP
  have HS1 := Lib.hid (And.intro q1 (And.intro q2 (And.intro q3 q4)))
  have cc : ∀ x, x < 18446744073709551616 → canB x < 18446744073709551616 ∧ x < 18446744073709551616 ∧ canB (canB x) = canB x := fun x hx => ⟨canB_lt x hx, hx, canB_of _ (canB_ok x)⟩
  have HS2 := Lib.hid (And.intro (cc b0 h0) (And.intro (cc b1 h1) (And.intro (cc b2 h2) (cc b3 h3))))
  clear hgp hg1 hput hput2 hput3 hget hrget hbk hP hPe her cc q0 q1 q2 q3 q4 hN h0 h1 h2 h3 hr
  go_enter Try.func5, Try.ntmps5
  go_upto_region 1 with fail
  obtain ⟨w0, hw0⟩ : ∃ x : World, x = w.alloc (.cells #[.int .u64 N, .int .u64 b0, .int .u64 b1, .int .u64 b2, .int .u64 b3] 43) := ⟨_, rfl⟩
  rw [← hw0]
  have hr0 : w0.heap[w.heap.size]? = some (.cells #[.int .u64 N, .int .u64 b0, .int .u64 b1, .int .u64 b2, .int .u64 b3] 43 (0, 0)) := by rw [hw0]; exact heap_alloc_new _ _
  have hb0 : Below w.heap.size w w0 := by rw [hw0]; exact (Below.refl _ _).alloc (Nat.le_refl _) _
  have H0 := Lib.hid (And.intro hr0 hb0)
  clear hr0 hb0 hw0
  go_wp2_with fail
  refine (awake06_any w0).mono ?_
  rintro e w1 ⟨rfl, hb1⟩
  have hr1 := (hb1.block _ (Array.getElem?_eq_some_iff.1 H0.out.1).1).trans H0.out.1
  have H1 := Lib.hid (H0.out.2.trans (hb1.mono H0.out.2.size))
  have c0 := cell_rowG (v := .int .u64 N) (i := 0) hr1 rfl
  have c1 := cell_rowG (v := .int .u64 b0) (i := 1) hr1 rfl
  have c2 := cell_rowG (v := .int .u64 b1) (i := 2) hr1 rfl
  have c3 := cell_rowG (v := .int .u64 b2) (i := 3) hr1 rfl
  have c4 := cell_rowG (v := .int .u64 b3) (i := 4) hr1 rfl
  clear hr1 hb1 H0
  go_wp2_with fail
  refine (Raw_gauge N b0 b1 b2 b3 w1).mono ?_
  rintro e w2 ⟨rfl, hb2⟩
  have hbw2 := H1.out.trans (hb2.mono H1.out.size)
  have H2 := Lib.hid hbw2
  clear c0 c1 c2 c3 c4 hb2 hbw2 H1
  go_upto_region 4 with fail
  obtain ⟨w3, hw3⟩ : ∃ x : World, x = w2.alloc (.cells #[.int .u64 N, .float .f64 b0, .float .f64 b1, .float .f64 b2, .float .f64 b3] 27) := ⟨_, rfl⟩
  obtain ⟨g5, hg5⟩ : ∃ x, x = w2.heap.size := ⟨_, rfl⟩
  rw [← hw3, ← hg5]
  have r5 : w3.heap[g5]? = some (.cells #[.int .u64 N, .float .f64 b0, .float .f64 b1, .float .f64 b2, .float .f64 b3] 27 (0, 0)) := by rw [hw3, hg5]; exact heap_alloc_new _ _
  have hb3 : Below w.heap.size w w3 := by rw [hw3]; exact H2.out.alloc H2.out.size _
  have H3 := Lib.hid (And.intro r5 hb3)
  clear r5 hb3 hw3 hg5 H2
  go_wp2_with (with_reducible show wpList _ _ _ (⟨some 17, _, _, _, _, _⟩ :: _) _ _; refine wpList_load_row rfl _ _ rfl g5 rfl _ _ (0, 0) _ H3.out.1 Try.underlying27 rfl (gI _ _ _ _ _) ?_)
  refine (HP1.out w3).mono ?_
  rintro e w4 ⟨v6, rfl, hr6, hb4⟩
  obtain ⟨a6, c6, rfl⟩ := hr6.form
  have r5 := (hb4.block _ (Array.getElem?_eq_some_iff.1 H3.out.1).1).trans H3.out.1
  have hbw4 := H3.out.2.trans (hb4.mono H3.out.2.size)
  have hget := HGET.out w4 hbw4
  have H4 := Lib.hid (And.intro r5 (And.intro hbw4 hr6))
  have HG4 := Lib.hid hget
  clear r5 hbw4 hr6 hb4 hget H3 HGET HP1
  go_wp2_with fail
  refine HG4.out.mono ?_
  rintro e w5 ⟨rfl, hb5⟩
  have r5 := (hb5.block _ (Array.getElem?_eq_some_iff.1 H4.out.1).1).trans H4.out.1
  have hbw5 := H4.out.2.1.trans (hb5.mono H4.out.2.1.size)
  have H5 := Lib.hid (And.intro r5 (And.intro hbw5 (H4.out.2.2.keep hb5)))
  clear r5 hbw5 hb5 H4 HG4
  go_upto_region 6 with fail
  obtain ⟨w6, hw6⟩ : ∃ x : World, x = w5.alloc (.cells #[.int .u64 N1, .float .f64 m1, .float .f64 s1, .float .f64 l1, .float .f64 h1'] 27) := ⟨_, rfl⟩
  obtain ⟨g7, hg7⟩ : ∃ x, x = w5.heap.size := ⟨_, rfl⟩
  rw [← hw6, ← hg7]
  have hb56 : Below w5.heap.size w5 w6 := by rw [hw6]; exact (Below.refl _ _).alloc (Nat.le_refl _) _
  have r7 : w6.heap[g7]? = some (.cells #[.int .u64 N1, .float .f64 m1, .float .f64 s1, .float .f64 l1, .float .f64 h1'] 27 (0, 0)) := by rw [hw6, hg7]; exact heap_alloc_new _ _
  have r5 := (hb56.block _ (Array.getElem?_eq_some_iff.1 H5.out.1).1).trans H5.out.1
  have hbw6 := H5.out.2.1.trans (hb56.mono H5.out.2.1.size)
  have hget := HRGET.out w6 hbw6
  have H6 := Lib.hid (And.intro r5 (And.intro r7 (And.intro hbw6 (H5.out.2.2.keep hb56))))
  have HG6 := Lib.hid hget
  clear r5 r7 hbw6 hb56 hw6 hg7 hget H5 HRGET
  go_wp2_with fail
  refine HG6.out.mono ?_
  rintro e w7 ⟨rfl, hb7⟩
  have r5 := (hb7.block _ (Array.getElem?_eq_some_iff.1 H6.out.1).1).trans H6.out.1
  have r7 := (hb7.block _ (Array.getElem?_eq_some_iff.1 H6.out.2.1).1).trans H6.out.2.1
  have hbw7 := H6.out.2.2.1.trans (hb7.mono H6.out.2.2.1.size)
  have H7 := Lib.hid (And.intro r5 (And.intro r7 (And.intro hbw7 (H6.out.2.2.2.keep hb7))))
  clear r5 r7 hbw7 hb7 H6 HG6
  go_upto_region 7 with fail
  obtain ⟨w8, hw8⟩ : ∃ x : World, x = w7.alloc (.cells #[.int .u64 N1, .float .f64 m1, .float .f64 s1, .float .f64 l1, .float .f64 h1'] 27) := ⟨_, rfl⟩
  obtain ⟨g9, hg9⟩ : ∃ x, x = w7.heap.size := ⟨_, rfl⟩
  rw [← hw8, ← hg9]
  have hb78 : Below w7.heap.size w7 w8 := by rw [hw8]; exact (Below.refl _ _).alloc (Nat.le_refl _) _
  have r9 : w8.heap[g9]? = some (.cells #[.int .u64 N1, .float .f64 m1, .float .f64 s1, .float .f64 l1, .float .f64 h1'] 27 (0, 0)) := by rw [hw8, hg9]; exact heap_alloc_new _ _
  have r5 := (hb78.block _ (Array.getElem?_eq_some_iff.1 H7.out.1).1).trans H7.out.1
  have r7 := (hb78.block _ (Array.getElem?_eq_some_iff.1 H7.out.2.1).1).trans H7.out.2.1
  have hbw8 := H7.out.2.2.1.trans (hb78.mono H7.out.2.2.1.size)
  have HR := Lib.hid (And.intro r5 (And.intro r7 r9))
  have HB8 := Lib.hid hbw8
  have HV := Lib.hid (And.intro (H7.out.2.2.2.keep hb78) (And.intro (show P.length ≤ 140737488355328 by have := HPL.out; omega) True.intro))
  clear r5 r7 r9 hbw8 hb78 hw8 hg9 H7
  by_cases he0 : er = 0
  · have HE : Hid ((er == 0) = true) := Lib.hid (by simp [he0])
    have hp3 := HP3a.out
    rw [HBK.out he0] at hp3
    have HP3 := Lib.hid hp3
    clear hp3 he0 HP3a HBK
    refine wp_region_steps [some 29, some 30, some 31, some 32, some 33, some 34, some 35, some 36, some 37, some 38, some 39, some 40, some 41, some 42, some 43, some 44, some 45, some 46, some 47, some 48, some 49] [] (gb7T N b0 b1 b2 b3 N1 m1 s1 l1 h1' c6 er P a6) (fun _ wx wy => Below wx.heap.size wx wy) (fun wx => Below w8.heap.size w8 wx) (by kernel_rfl) (by kernel_rfl) rfl (by kernel_rfl) (Below.refl _ _).drew (fun _ wx => Below.refl _ _) (fun _ wx wy h k => h.trans (k.mono h.size)) ?hF ?hstep ?hend
    case hF =>
      exact ⟨fun _ _ _ _ _ _ h => h, ⟨fun _ _ _ _ _ _ h => h, ⟨fun _ _ _ _ _ _ h => h, ⟨fun _ _ _ _ _ k h => h.keep k, ⟨fun _ _ _ _ _ _ h => h, ⟨fun _ _ _ _ _ _ h => h, ⟨fun _ _ _ _ _ _ h => h, ⟨fun _ _ _ _ _ _ h => h, ⟨fun _ _ _ _ _ _ h => h, ⟨fun _ _ _ _ _ _ h => h, ⟨fun _ _ _ _ _ _ h => h, ⟨fun _ _ _ _ _ _ h => h, ⟨fun _ _ _ _ _ _ h => h, ⟨fun _ _ _ _ _ _ h => h, ⟨fun _ _ _ _ _ _ h => h, ⟨fun _ _ _ _ _ _ h => h, ⟨fun _ _ _ _ _ _ h => h, ⟨fun _ _ _ _ _ _ h => h, ⟨fun _ _ _ _ _ _ h => h, ⟨fun _ _ _ _ _ _ h => h, ⟨fun _ _ _ _ _ _ h => h, trivial⟩⟩⟩⟩⟩⟩⟩⟩⟩⟩⟩⟩⟩⟩⟩⟩⟩⟩⟩⟩⟩
    case hstep =>
      refine ⟨fun r wx hG hs hq hf => ?_, ?_⟩
      · have e6 : r 6 = .slice a6 P.length c6 := hs 6 rfl
        refine (if_pos rfl).symm ▸ ?_
        clear hs hq hf
        unfold gives
        go_simp
        exact ⟨Below.refl _ _, rfl⟩
      refine ⟨fun r wx hG hs hq hf => ?_, ?_⟩
      · have h0 : r 29 = .slice a6 P.length c6 := hf.1
        refine (if_pos rfl).symm ▸ ?_
        clear hs hq hf
        unfold gives
        have hcv := string_of_bytes (P := Try.prog) Try.underlying44 Try.underlying5 Try.underlying9 (l := P) (HV.out.1.keep hG)
        go_simp
        exact ⟨Below.refl _ _, rfl⟩
      refine ⟨fun r wx hG hs hq hf => ?_, ?_⟩
      · have e5 : r 5 = .pointer (some ⟨g5, 0, none⟩) := hs 5 rfl
        refine (if_pos rfl).symm ▸ ?_
        clear hs hq hf
        unfold gives
        refine gives_load_row 27 _ rfl g5 e5 27 _ (0, 0) _ ((hG.block _ (Array.getElem?_eq_some_iff.1 HR.out.1).1).trans HR.out.1) Try.underlying27 rfl (gI _ _ _ _ _) ?_
        exact ⟨Below.refl _ _, rfl⟩
      refine ⟨fun r wx hG hs hq hf => ?_, ?_⟩
      · have h2 : r 31 = Gv N b0 b1 b2 b3 := hf.1
        refine (if_pos rfl).symm ▸ ?_
        clear hs hq hf
        unfold gives
        have hk := HP2.out wx
        go_simp
        refine hk.mono ?_
        rintro e wy ⟨v, rfl, hr1, hb1⟩
        exact ⟨v, rfl, hb1, hr1⟩
      refine ⟨fun r wx hG hs hq hf => ?_, ?_⟩
      · have h3 : Rd wx 1 (r 32) P.length (bv P) := hf.1
        refine (if_pos rfl).symm ▸ ?_
        clear hs hq hf
        unfold gives
        have hcv := string_of_bytes (P := Try.prog) Try.underlying44 Try.underlying5 Try.underlying9 (l := P) h3
        clear h3
        go_simp
        exact ⟨Below.refl _ _, rfl⟩
      refine ⟨fun r wx hG hs hq hf => ?_, ?_⟩
      · have h1 : r 30 = .string ⟨P.toArray⟩ := hf.1
        have h4 : r 33 = .string ⟨P.toArray⟩ := hf.2.1
        refine (if_pos rfl).symm ▸ ?_
        clear hs hq hf
        unfold gives
        go_simp
        exact ⟨Below.refl _ _, rfl⟩
      refine ⟨fun r wx hG hs hq hf => ?_, ?_⟩
      · have h5 : r 34 = .bool false := hf.1
        have h3 : Rd wx 1 (r 32) P.length (bv P) := hf.2.1
        refine (if_pos rfl).symm ▸ ?_
        clear hs hq hf
        unfold gives
        go_simp
        exact ⟨Below.refl _ _, rfl⟩
      refine ⟨fun r wx hG hs hq hf => ?_, ?_⟩
      · have e8 : r 8 = .int .i64 er := hs 8 rfl
        have h6 : r 35 = .bool false := hf.1
        have hy : ydD [some 29, some 30, some 31, some 32, some 33, some 34, some 35, some 36, some 37, some 38, some 39, some 40, some 41, some 42, some 43, some 44, some 45, some 46, some 47, some 48, some 49] r 6 = some false := by show (match r 35 with | .bool b => some b | _ => none) = some false; rw [h6]
        simp only [Region.wanted, hy, beq_self_eq_true, if_true]
        clear hs hq hf hy
        unfold gives
        go_simp
        exact ⟨Below.refl _ _, rfl⟩
      refine ⟨fun r wx hG hs hq hf => ?_, ?_⟩
      · have e10 : r 10 = .int .i64 er := hs 10 rfl
        have h6 : r 35 = .bool false := hf.1
        have hy : ydD [some 29, some 30, some 31, some 32, some 33, some 34, some 35, some 36, some 37, some 38, some 39, some 40, some 41, some 42, some 43, some 44, some 45, some 46, some 47, some 48, some 49] r 6 = some false := by show (match r 35 with | .bool b => some b | _ => none) = some false; rw [h6]
        simp only [Region.wanted, hy, beq_self_eq_true, if_true]
        clear hs hq hf hy
        unfold gives
        go_simp
        exact ⟨Below.refl _ _, rfl⟩
      refine ⟨fun r wx hG hs hq hf => ?_, ?_⟩
      · have h7 : r 36 = .int .i64 er := hf.1
        have h8 : r 37 = .int .i64 er := hf.2.1
        have h6 : r 35 = .bool false := hf.2.2.1
        have hy : ydD [some 29, some 30, some 31, some 32, some 33, some 34, some 35, some 36, some 37, some 38, some 39, some 40, some 41, some 42, some 43, some 44, some 45, some 46, some 47, some 48, some 49] r 6 = some false := by show (match r 35 with | .bool b => some b | _ => none) = some false; rw [h6]
        simp only [Region.wanted, hy, beq_self_eq_true, if_true]
        clear hs hq hf hy
        unfold gives
        go_simp
        exact ⟨Below.refl _ _, rfl⟩
      refine ⟨fun r wx hG hs hq hf => ?_, ?_⟩
      · have h6 : r 35 = .bool false := hf.1
        have h9 : r 38 = .bool false := hf.2.1
        refine (if_pos rfl).symm ▸ ?_
        clear hs hq hf
        unfold gives
        go_simp
        exact ⟨Below.refl _ _, rfl⟩
      refine ⟨fun r wx hG hs hq hf => ?_, ?_⟩
      · have h10 : r 39 = .bool false := hf.1
        refine (if_pos rfl).symm ▸ ?_
        clear hs hq hf
        unfold gives
        go_simp
        exact ⟨Below.refl _ _, rfl⟩
      refine ⟨fun r wx hG hs hq hf => ?_, ?_⟩
      · have e8 : r 8 = .int .i64 er := hs 8 rfl
        have h11 : r 40 = .bool false := hf.1
        have hy : ydD [some 29, some 30, some 31, some 32, some 33, some 34, some 35, some 36, some 37, some 38, some 39, some 40, some 41, some 42, some 43, some 44, some 45, some 46, some 47, some 48, some 49] r 11 = some false := by show (match r 40 with | .bool b => some b | _ => none) = some false; rw [h11]
        simp only [Region.wanted, hy, beq_self_eq_true, if_true]
        clear hs hq hf hy
        unfold gives
        go_simp
        exact ⟨Below.refl _ _, rfl⟩
      refine ⟨fun r wx hG hs hq hf => ?_, ?_⟩
      · have h12 : r 41 = .int .i64 er := hf.1
        have h11 : r 40 = .bool false := hf.2.1
        have hy : ydD [some 29, some 30, some 31, some 32, some 33, some 34, some 35, some 36, some 37, some 38, some 39, some 40, some 41, some 42, some 43, some 44, some 45, some 46, some 47, some 48, some 49] r 11 = some false := by show (match r 40 with | .bool b => some b | _ => none) = some false; rw [h11]
        simp only [Region.wanted, hy, beq_self_eq_true, if_true]
        clear hs hq hf hy
        unfold gives
        have he := HE.out
        go_simp
        exact ⟨Below.refl _ _, rfl⟩
      refine ⟨fun r wx hG hs hq hf => ?_, ?_⟩
      · have h13 : r 42 = .bool true := hf.1
        have h11 : r 40 = .bool false := hf.2.1
        have hy : ydD [some 29, some 30, some 31, some 32, some 33, some 34, some 35, some 36, some 37, some 38, some 39, some 40, some 41, some 42, some 43, some 44, some 45, some 46, some 47, some 48, some 49] r 11 = some false := by show (match r 40 with | .bool b => some b | _ => none) = some false; rw [h11]
        simp only [Region.wanted, hy, beq_self_eq_true, if_true]
        clear hs hq hf hy
        unfold gives
        go_simp
        exact ⟨Below.refl _ _, rfl⟩
      refine ⟨fun r wx hG hs hq hf => ?_, ?_⟩
      · have e7 : r 7 = .pointer (some ⟨g7, 0, none⟩) := hs 7 rfl
        have h14 : r 43 = .bool true := hf.1
        have hy : ydD [some 29, some 30, some 31, some 32, some 33, some 34, some 35, some 36, some 37, some 38, some 39, some 40, some 41, some 42, some 43, some 44, some 45, some 46, some 47, some 48, some 49] r 14 = some true := by show (match r 43 with | .bool b => some b | _ => none) = some true; rw [h14]
        simp only [Region.wanted, hy, beq_self_eq_true, if_true]
        clear hs hq hf hy
        unfold gives
        refine gives_load_row 27 _ rfl g7 e7 27 _ (0, 0) _ ((hG.block _ (Array.getElem?_eq_some_iff.1 HR.out.2.1).1).trans HR.out.2.1) Try.underlying27 rfl (gI _ _ _ _ _) ?_
        exact ⟨Below.refl _ _, rfl⟩
      refine ⟨fun r wx hG hs hq hf => ?_, ?_⟩
      · have e9 : r 9 = .pointer (some ⟨g9, 0, none⟩) := hs 9 rfl
        have h14 : r 43 = .bool true := hf.1
        have hy : ydD [some 29, some 30, some 31, some 32, some 33, some 34, some 35, some 36, some 37, some 38, some 39, some 40, some 41, some 42, some 43, some 44, some 45, some 46, some 47, some 48, some 49] r 14 = some true := by show (match r 43 with | .bool b => some b | _ => none) = some true; rw [h14]
        simp only [Region.wanted, hy, beq_self_eq_true, if_true]
        clear hs hq hf hy
        unfold gives
        refine gives_load_row 27 _ rfl g9 e9 27 _ (0, 0) _ ((hG.block _ (Array.getElem?_eq_some_iff.1 HR.out.2.2).1).trans HR.out.2.2) Try.underlying27 rfl (gI _ _ _ _ _) ?_
        exact ⟨Below.refl _ _, rfl⟩
      refine ⟨fun r wx hG hs hq hf => ?_, ?_⟩
      · have h15 : r 44 = Gv N1 m1 s1 l1 h1' := hf.1
        have h16 : r 45 = Gv N1 m1 s1 l1 h1' := hf.2.1
        have h14 : r 43 = .bool true := hf.2.2.1
        have hy : ydD [some 29, some 30, some 31, some 32, some 33, some 34, some 35, some 36, some 37, some 38, some 39, some 40, some 41, some 42, some 43, some 44, some 45, some 46, some 47, some 48, some 49] r 14 = some true := by show (match r 43 with | .bool b => some b | _ => none) = some true; rw [h14]
        simp only [Region.wanted, hy, beq_self_eq_true, if_true]
        clear hs hq hf hy
        unfold gives
        have hk := RGSame_any N1 m1 s1 l1 h1' m1 s1 l1 h1' wx ⟨HS1.out.1, HS1.out.1, rfl⟩ ⟨HS1.out.2.1, HS1.out.2.1, rfl⟩ ⟨HS1.out.2.2.1, HS1.out.2.2.1, rfl⟩ ⟨HS1.out.2.2.2, HS1.out.2.2.2, rfl⟩
        go_simp
        refine hk.mono ?_
        rintro e wy ⟨rfl, hb1⟩
        exact ⟨_, rfl, hb1, rfl⟩
      refine ⟨fun r wx hG hs hq hf => ?_, ?_⟩
      · have h17 : r 46 = .bool true := hf.1
        have h14 : r 43 = .bool true := hf.2.1
        have hy : ydD [some 29, some 30, some 31, some 32, some 33, some 34, some 35, some 36, some 37, some 38, some 39, some 40, some 41, some 42, some 43, some 44, some 45, some 46, some 47, some 48, some 49] r 14 = some true := by show (match r 43 with | .bool b => some b | _ => none) = some true; rw [h14]
        simp only [Region.wanted, hy, beq_self_eq_true, if_true]
        clear hs hq hf hy
        unfold gives
        go_simp
        exact ⟨Below.refl _ _, rfl⟩
      refine ⟨fun r wx hG hs hq hf => ?_, ?_⟩
      · have h14 : r 43 = .bool true := hf.1
        have h18 : r 47 = .bool false := hf.2.1
        have h11 : r 40 = .bool false := hf.2.2.1
        have hy : ydD [some 29, some 30, some 31, some 32, some 33, some 34, some 35, some 36, some 37, some 38, some 39, some 40, some 41, some 42, some 43, some 44, some 45, some 46, some 47, some 48, some 49] r 11 = some false := by show (match r 40 with | .bool b => some b | _ => none) = some false; rw [h11]
        simp only [Region.wanted, hy, beq_self_eq_true, if_true]
        clear hs hq hf hy
        unfold gives
        go_simp
        exact ⟨Below.refl _ _, rfl⟩
      refine ⟨fun r wx hG hs hq hf => ?_, ?_⟩
      · have h11 : r 40 = .bool false := hf.1
        have h19 : r 48 = .bool false := hf.2.1
        refine (if_pos rfl).symm ▸ ?_
        clear hs hq hf
        unfold gives
        go_simp
        exact ⟨Below.refl _ _, rfl⟩
      exact trivial
    case hend =>
      intro u wz hG hfin
      have z20 : u 20 = .bool false := hfin 20 (by decide) (by kernel_rfl)
      clear hfin
      simp only [fill]
      go_simp
      have r5 := (hG.block _ (Array.getElem?_eq_some_iff.1 HR.out.1).1).trans HR.out.1
      have r7 := (hG.block _ (Array.getElem?_eq_some_iff.1 HR.out.2.1).1).trans HR.out.2.1
      have hbz := HB8.out.trans (hG.mono HB8.out.size)
      have HGZ := Lib.hid (And.intro r5 (And.intro r7 (And.intro hbz (HV.out.1.keep hG))))
      clear r5 r7 hbz hG HR
      go_wp2_with fail
      refine (GGet_any (.slice a6 P.length c6) P wz HV.out.2.1 HGZ.out.2.2.2).mono ?_
      rintro e w9 ⟨rfl, hb9⟩
      rw [HGP.out.1, HGP.out.2]
      have r5 := (hb9.block _ (Array.getElem?_eq_some_iff.1 HGZ.out.1).1).trans HGZ.out.1
      have r7 := (hb9.block _ (Array.getElem?_eq_some_iff.1 HGZ.out.2.1).1).trans HGZ.out.2.1
      have hb9' := HGZ.out.2.2.1.trans (hb9.mono HGZ.out.2.2.1.size)
      go_upto_region 10 with fail
      obtain ⟨wA, hwA⟩ : ∃ x : World, x = w9.alloc (.cells #[.int .u64 N, .float .f64 (canB b0), .float .f64 (canB b1), .float .f64 (canB b2), .float .f64 (canB b3)] 27) := ⟨_, rfl⟩
      obtain ⟨g11, hg11⟩ : ∃ x, x = w9.heap.size := ⟨_, rfl⟩
      rw [← hwA, ← hg11]
      have q5 : wA.heap[g5]? = some (.cells #[.int .u64 N, .float .f64 b0, .float .f64 b1, .float .f64 b2, .float .f64 b3] 27 (0, 0)) := by rw [hwA]; exact (heap_alloc_old _ _ (Array.getElem?_eq_some_iff.1 r5).1).trans r5
      have q7 : wA.heap[g7]? = some (.cells #[.int .u64 N1, .float .f64 m1, .float .f64 s1, .float .f64 l1, .float .f64 h1'] 27 (0, 0)) := by rw [hwA]; exact (heap_alloc_old _ _ (Array.getElem?_eq_some_iff.1 r7).1).trans r7
      have q11 : wA.heap[g11]? = some (.cells #[.int .u64 N, .float .f64 (canB b0), .float .f64 (canB b1), .float .f64 (canB b2), .float .f64 (canB b3)] 27 (0, 0)) := by rw [hwA, hg11]; exact heap_alloc_new _ _
      have hbA : Below w.heap.size w wA := by rw [hwA]; exact hb9'.alloc hb9'.size _
      have HR := Lib.hid (And.intro q5 (And.intro q7 q11))
      have HBA := Lib.hid hbA
      have HB := Lib.hid (And.intro (HBB.out.keep hbA) True.intro)
      clear r5 r7 hb9 hb9' hwA hg11 q5 q7 q11 hbA HGZ HV
      refine wp_region_steps [some 55, some 56, some 57, some 58, some 59, some 60, some 61, some 62, some 63, some 64, some 65, some 66, some 67, some 68, some 69, some 70, some 71, some 72, some 73, some 4] [] (gb10T N b0 b1 b2 b3 N1 m1 s1 l1 h1' c er b a) (fun _ wx wy => Below wx.heap.size wx wy) (fun wx => Below wA.heap.size wA wx) (by kernel_rfl) (by kernel_rfl) rfl (by kernel_rfl) (Below.refl _ _).drew (fun _ wx => Below.refl _ _) (fun _ wx wy h k => h.trans (k.mono h.size)) ?hF ?hstep ?hend
      case hF =>
        exact ⟨fun _ _ _ _ _ _ h => h, ⟨fun _ _ _ _ _ _ h => h, ⟨fun _ _ _ _ _ _ h => h, ⟨fun _ _ _ _ _ _ h => h, ⟨fun _ _ _ _ _ _ h => h, ⟨fun _ _ _ _ _ _ h => h, ⟨fun _ _ _ _ _ _ h => h, ⟨fun _ _ _ _ _ _ h => h, ⟨fun _ _ _ _ _ _ h => h, ⟨fun _ _ _ _ _ _ h => h, ⟨fun _ _ _ _ _ _ h => h, ⟨fun _ _ _ _ _ _ h => h, ⟨fun _ _ _ _ _ k h => h.keep k, ⟨fun _ _ _ _ _ _ h => h, ⟨fun _ _ _ _ _ _ h => h, ⟨fun _ _ _ _ _ _ h => h, ⟨fun _ _ _ _ _ _ h => h, ⟨fun _ _ _ _ _ _ h => h, ⟨fun _ _ _ _ _ _ h => h, ⟨fun _ _ _ _ _ _ h => h, trivial⟩⟩⟩⟩⟩⟩⟩⟩⟩⟩⟩⟩⟩⟩⟩⟩⟩⟩⟩⟩
      case hstep =>
        refine ⟨fun r wx hG hs hq hf => ?_, ?_⟩
        · have e12 : r 12 = .int .i64 0 := hs 12 rfl
          refine (if_pos rfl).symm ▸ ?_
          clear hs hq hf
          unfold gives
          go_simp
          exact ⟨Below.refl _ _, rfl⟩
        refine ⟨fun r wx hG hs hq hf => ?_, ?_⟩
        · have h0 : r 55 = .int .i64 0 := hf.1
          refine (if_pos rfl).symm ▸ ?_
          clear hs hq hf
          unfold gives
          go_simp
          exact ⟨Below.refl _ _, rfl⟩
        refine ⟨fun r wx hG hs hq hf => ?_, ?_⟩
        · have h1 : r 56 = .bool true := hf.1
          refine (if_pos rfl).symm ▸ ?_
          clear hs hq hf
          unfold gives
          go_simp
          exact ⟨Below.refl _ _, rfl⟩
        refine ⟨fun r wx hG hs hq hf => ?_, ?_⟩
        · have e11 : r 11 = .pointer (some ⟨g11, 0, none⟩) := hs 11 rfl
          have h2 : r 57 = .bool true := hf.1
          have hy : ydD [some 55, some 56, some 57, some 58, some 59, some 60, some 61, some 62, some 63, some 64, some 65, some 66, some 67, some 68, some 69, some 70, some 71, some 72, some 73, some 4] r 2 = some true := by show (match r 57 with | .bool b => some b | _ => none) = some true; rw [h2]
          simp only [Region.wanted, hy, beq_self_eq_true, if_true]
          clear hs hq hf hy
          unfold gives
          refine gives_load_row 27 _ rfl g11 e11 27 _ (0, 0) _ ((hG.block _ (Array.getElem?_eq_some_iff.1 HR.out.2.2).1).trans HR.out.2.2) Try.underlying27 rfl (gI _ _ _ _ _) ?_
          exact ⟨Below.refl _ _, rfl⟩
        refine ⟨fun r wx hG hs hq hf => ?_, ?_⟩
        · have e5 : r 5 = .pointer (some ⟨g5, 0, none⟩) := hs 5 rfl
          have h2 : r 57 = .bool true := hf.1
          have hy : ydD [some 55, some 56, some 57, some 58, some 59, some 60, some 61, some 62, some 63, some 64, some 65, some 66, some 67, some 68, some 69, some 70, some 71, some 72, some 73, some 4] r 2 = some true := by show (match r 57 with | .bool b => some b | _ => none) = some true; rw [h2]
          simp only [Region.wanted, hy, beq_self_eq_true, if_true]
          clear hs hq hf hy
          unfold gives
          refine gives_load_row 27 _ rfl g5 e5 27 _ (0, 0) _ ((hG.block _ (Array.getElem?_eq_some_iff.1 HR.out.1).1).trans HR.out.1) Try.underlying27 rfl (gI _ _ _ _ _) ?_
          exact ⟨Below.refl _ _, rfl⟩
        refine ⟨fun r wx hG hs hq hf => ?_, ?_⟩
        · have h3 : r 58 = Gv N (canB b0) (canB b1) (canB b2) (canB b3) := hf.1
          have h4 : r 59 = Gv N b0 b1 b2 b3 := hf.2.1
          have h2 : r 57 = .bool true := hf.2.2.1
          have hy : ydD [some 55, some 56, some 57, some 58, some 59, some 60, some 61, some 62, some 63, some 64, some 65, some 66, some 67, some 68, some 69, some 70, some 71, some 72, some 73, some 4] r 2 = some true := by show (match r 57 with | .bool b => some b | _ => none) = some true; rw [h2]
          simp only [Region.wanted, hy, beq_self_eq_true, if_true]
          clear hs hq hf hy
          unfold gives
          have hk := RGSame_any N (canB b0) (canB b1) (canB b2) (canB b3) b0 b1 b2 b3 wx HS2.out.1 HS2.out.2.1 HS2.out.2.2.1 HS2.out.2.2.2
          go_simp
          refine hk.mono ?_
          rintro e wy ⟨rfl, hb1⟩
          exact ⟨_, rfl, hb1, rfl⟩
        refine ⟨fun r wx hG hs hq hf => ?_, ?_⟩
        · have h2 : r 57 = .bool true := hf.1
          have h5 : r 60 = .bool true := hf.2.1
          refine (if_pos rfl).symm ▸ ?_
          clear hs hq hf
          unfold gives
          go_simp
          exact ⟨Below.refl _ _, rfl⟩
        refine ⟨fun r wx hG hs hq hf => ?_, ?_⟩
        · have h6 : r 61 = .bool true := hf.1
          refine (if_pos rfl).symm ▸ ?_
          clear hs hq hf
          unfold gives
          go_simp
          exact ⟨Below.refl _ _, rfl⟩
        refine ⟨fun r wx hG hs hq hf => ?_, ?_⟩
        · have e8 : r 8 = .int .i64 er := hs 8 rfl
          have h7 : r 62 = .bool true := hf.1
          have hy : ydD [some 55, some 56, some 57, some 58, some 59, some 60, some 61, some 62, some 63, some 64, some 65, some 66, some 67, some 68, some 69, some 70, some 71, some 72, some 73, some 4] r 7 = some true := by show (match r 62 with | .bool b => some b | _ => none) = some true; rw [h7]
          simp only [Region.wanted, hy, beq_self_eq_true, if_true]
          clear hs hq hf hy
          unfold gives
          go_simp
          exact ⟨Below.refl _ _, rfl⟩
        refine ⟨fun r wx hG hs hq hf => ?_, ?_⟩
        · have h8 : r 63 = .int .i64 er := hf.1
          have h7 : r 62 = .bool true := hf.2.1
          have hy : ydD [some 55, some 56, some 57, some 58, some 59, some 60, some 61, some 62, some 63, some 64, some 65, some 66, some 67, some 68, some 69, some 70, some 71, some 72, some 73, some 4] r 7 = some true := by show (match r 62 with | .bool b => some b | _ => none) = some true; rw [h7]
          simp only [Region.wanted, hy, beq_self_eq_true, if_true]
          clear hs hq hf hy
          unfold gives
          have he : (er != 0) = false := by rw [bne, HE.out]; rfl
          go_simp
          exact ⟨Below.refl _ _, rfl⟩
        refine ⟨fun r wx hG hs hq hf => ?_, ?_⟩
        · have h9 : r 64 = .bool false := hf.1
          have h7 : r 62 = .bool true := hf.2.1
          have hy : ydD [some 55, some 56, some 57, some 58, some 59, some 60, some 61, some 62, some 63, some 64, some 65, some 66, some 67, some 68, some 69, some 70, some 71, some 72, some 73, some 4] r 7 = some true := by show (match r 62 with | .bool b => some b | _ => none) = some true; rw [h7]
          simp only [Region.wanted, hy, beq_self_eq_true, if_true]
          clear hs hq hf hy
          unfold gives
          go_simp
          exact ⟨Below.refl _ _, rfl⟩
        refine ⟨fun r wx hG hs hq hf => ?_, ?_⟩
        · have e7 : r 7 = .pointer (some ⟨g7, 0, none⟩) := hs 7 rfl
          have h10 : r 65 = .bool false := hf.1
          have hy : ydD [some 55, some 56, some 57, some 58, some 59, some 60, some 61, some 62, some 63, some 64, some 65, some 66, some 67, some 68, some 69, some 70, some 71, some 72, some 73, some 4] r 10 = some false := by show (match r 65 with | .bool b => some b | _ => none) = some false; rw [h10]
          simp only [Region.wanted, hy, beq_self_eq_true, if_true]
          clear hs hq hf hy
          unfold gives
          refine gives_load_row 27 _ rfl g7 e7 27 _ (0, 0) _ ((hG.block _ (Array.getElem?_eq_some_iff.1 HR.out.2.1).1).trans HR.out.2.1) Try.underlying27 rfl (gI _ _ _ _ _) ?_
          exact ⟨Below.refl _ _, rfl⟩
        refine ⟨fun r wx hG hs hq hf => ?_, ?_⟩
        · have h11 : r 66 = Gv N1 m1 s1 l1 h1' := hf.1
          have h10 : r 65 = .bool false := hf.2.1
          have hy : ydD [some 55, some 56, some 57, some 58, some 59, some 60, some 61, some 62, some 63, some 64, some 65, some 66, some 67, some 68, some 69, some 70, some 71, some 72, some 73, some 4] r 10 = some false := by show (match r 65 with | .bool b => some b | _ => none) = some false; rw [h10]
          simp only [Region.wanted, hy, beq_self_eq_true, if_true]
          clear hs hq hf hy
          unfold gives
          have hk := HP3.out wx
          go_simp
          refine hk.mono ?_
          rintro e wy ⟨v, rfl, hr1, hb1⟩
          exact ⟨v, rfl, hb1, hr1⟩
        refine ⟨fun r wx hG hs hq hf => ?_, ?_⟩
        · have h12 : Rd wx 1 (r 67) b.length (bv b) := hf.1
          have h10 : r 65 = .bool false := hf.2.1
          have hy : ydD [some 55, some 56, some 57, some 58, some 59, some 60, some 61, some 62, some 63, some 64, some 65, some 66, some 67, some 68, some 69, some 70, some 71, some 72, some 73, some 4] r 10 = some false := by show (match r 65 with | .bool b => some b | _ => none) = some false; rw [h10]
          simp only [Region.wanted, hy, beq_self_eq_true, if_true]
          clear hs hq hf hy
          unfold gives
          have hcv := string_of_bytes (P := Try.prog) Try.underlying44 Try.underlying5 Try.underlying9 (l := b) h12
          clear h12
          go_simp
          exact ⟨Below.refl _ _, rfl⟩
        refine ⟨fun r wx hG hs hq hf => ?_, ?_⟩
        · have e1 : r 1 = .slice a b.length c := hs 1 rfl
          have h10 : r 65 = .bool false := hf.1
          have hy : ydD [some 55, some 56, some 57, some 58, some 59, some 60, some 61, some 62, some 63, some 64, some 65, some 66, some 67, some 68, some 69, some 70, some 71, some 72, some 73, some 4] r 10 = some false := by show (match r 65 with | .bool b => some b | _ => none) = some false; rw [h10]
          simp only [Region.wanted, hy, beq_self_eq_true, if_true]
          clear hs hq hf hy
          unfold gives
          go_simp
          exact ⟨Below.refl _ _, rfl⟩
        refine ⟨fun r wx hG hs hq hf => ?_, ?_⟩
        · have h14 : r 69 = .slice a b.length c := hf.1
          have h10 : r 65 = .bool false := hf.2.1
          have hy : ydD [some 55, some 56, some 57, some 58, some 59, some 60, some 61, some 62, some 63, some 64, some 65, some 66, some 67, some 68, some 69, some 70, some 71, some 72, some 73, some 4] r 10 = some false := by show (match r 65 with | .bool b => some b | _ => none) = some false; rw [h10]
          simp only [Region.wanted, hy, beq_self_eq_true, if_true]
          clear hs hq hf hy
          unfold gives
          have hcv := string_of_bytes (P := Try.prog) Try.underlying44 Try.underlying5 Try.underlying9 (l := b) (HB.out.1.keep hG)
          go_simp
          exact ⟨Below.refl _ _, rfl⟩
        refine ⟨fun r wx hG hs hq hf => ?_, ?_⟩
        · have h13 : r 68 = .string ⟨b.toArray⟩ := hf.1
          have h15 : r 70 = .string ⟨b.toArray⟩ := hf.2.1
          have h10 : r 65 = .bool false := hf.2.2.1
          have hy : ydD [some 55, some 56, some 57, some 58, some 59, some 60, some 61, some 62, some 63, some 64, some 65, some 66, some 67, some 68, some 69, some 70, some 71, some 72, some 73, some 4] r 10 = some false := by show (match r 65 with | .bool b => some b | _ => none) = some false; rw [h10]
          simp only [Region.wanted, hy, beq_self_eq_true, if_true]
          clear hs hq hf hy
          unfold gives
          go_simp
          exact ⟨Below.refl _ _, rfl⟩
        refine ⟨fun r wx hG hs hq hf => ?_, ?_⟩
        · have h10 : r 65 = .bool false := hf.1
          have h16 : r 71 = .bool true := hf.2.1
          have h7 : r 62 = .bool true := hf.2.2.1
          have hy : ydD [some 55, some 56, some 57, some 58, some 59, some 60, some 61, some 62, some 63, some 64, some 65, some 66, some 67, some 68, some 69, some 70, some 71, some 72, some 73, some 4] r 7 = some true := by show (match r 62 with | .bool b => some b | _ => none) = some true; rw [h7]
          simp only [Region.wanted, hy, beq_self_eq_true, if_true]
          clear hs hq hf hy
          unfold gives
          go_simp
          exact ⟨Below.refl _ _, rfl⟩
        refine ⟨fun r wx hG hs hq hf => ?_, ?_⟩
        · have h7 : r 62 = .bool true := hf.1
          have h17 : r 72 = .bool true := hf.2.1
          refine (if_pos rfl).symm ▸ ?_
          clear hs hq hf
          unfold gives
          go_simp
          exact ⟨Below.refl _ _, rfl⟩
        refine ⟨fun r wx hG hs hq hf => ?_, ?_⟩
        · have h18 : r 73 = .bool true := hf.1
          have h12 : Rd wx 1 (r 67) b.length (bv b) := hf.2.1
          refine (if_pos rfl).symm ▸ ?_
          clear hs hq hf
          unfold gives
          go_simp
          exact ⟨Below.refl _ _, rfl⟩
        exact trivial
      case hend =>
        intro u wz hG hfin
        have z19 : u 19 = .bool true := hfin 19 (by decide) (by kernel_rfl)
        clear hfin
        simp only [fill]
        go_simp
        go_wp2_with fail
        go_ret
        exact ⟨rfl, HBA.out.trans (hG.mono HBA.out.size)⟩
  · have HE : Hid ((er == 0) = false) := Lib.hid (by simp [he0])
    clear he0 HP3a HBK
    refine wp_region_steps [some 29, some 30, some 31, some 32, some 33, some 34, some 35, some 36, some 37, some 38, some 39, some 40, some 41, some 42, some 43, some 44, some 45, some 46, some 47, some 48, some 49] [] (gb7F N b0 b1 b2 b3 N1 m1 s1 l1 h1' c6 er P a6) (fun _ wx wy => Below wx.heap.size wx wy) (fun wx => Below w8.heap.size w8 wx) (by kernel_rfl) (by kernel_rfl) rfl (by kernel_rfl) (Below.refl _ _).drew (fun _ wx => Below.refl _ _) (fun _ wx wy h k => h.trans (k.mono h.size)) ?hF ?hstep ?hend
    case hF =>
      exact ⟨fun _ _ _ _ _ _ h => h, ⟨fun _ _ _ _ _ _ h => h, ⟨fun _ _ _ _ _ _ h => h, ⟨fun _ _ _ _ _ k h => h.keep k, ⟨fun _ _ _ _ _ _ h => h, ⟨fun _ _ _ _ _ _ h => h, ⟨fun _ _ _ _ _ _ h => h, ⟨fun _ _ _ _ _ _ h => h, ⟨fun _ _ _ _ _ _ h => h, ⟨fun _ _ _ _ _ _ h => h, ⟨fun _ _ _ _ _ _ h => h, ⟨fun _ _ _ _ _ _ h => h, ⟨fun _ _ _ _ _ _ h => h, ⟨fun _ _ _ _ _ _ h => h, ⟨fun _ _ _ _ _ _ h => h, ⟨fun _ _ _ _ _ _ h => h, ⟨fun _ _ _ _ _ _ h => h, ⟨fun _ _ _ _ _ _ h => h, ⟨fun _ _ _ _ _ _ h => h, ⟨fun _ _ _ _ _ _ h => h, ⟨fun _ _ _ _ _ _ h => h, trivial⟩⟩⟩⟩⟩⟩⟩⟩⟩⟩⟩⟩⟩⟩⟩⟩⟩⟩⟩⟩⟩
    case hstep =>
      refine ⟨fun r wx hG hs hq hf => ?_, ?_⟩
      · have e6 : r 6 = .slice a6 P.length c6 := hs 6 rfl
        refine (if_pos rfl).symm ▸ ?_
        clear hs hq hf
        unfold gives
        go_simp
        exact ⟨Below.refl _ _, rfl⟩
      refine ⟨fun r wx hG hs hq hf => ?_, ?_⟩
      · have h0 : r 29 = .slice a6 P.length c6 := hf.1
        refine (if_pos rfl).symm ▸ ?_
        clear hs hq hf
        unfold gives
        have hcv := string_of_bytes (P := Try.prog) Try.underlying44 Try.underlying5 Try.underlying9 (l := P) (HV.out.1.keep hG)
        go_simp
        exact ⟨Below.refl _ _, rfl⟩
      refine ⟨fun r wx hG hs hq hf => ?_, ?_⟩
      · have e5 : r 5 = .pointer (some ⟨g5, 0, none⟩) := hs 5 rfl
        refine (if_pos rfl).symm ▸ ?_
        clear hs hq hf
        unfold gives
        refine gives_load_row 27 _ rfl g5 e5 27 _ (0, 0) _ ((hG.block _ (Array.getElem?_eq_some_iff.1 HR.out.1).1).trans HR.out.1) Try.underlying27 rfl (gI _ _ _ _ _) ?_
        exact ⟨Below.refl _ _, rfl⟩
      refine ⟨fun r wx hG hs hq hf => ?_, ?_⟩
      · have h2 : r 31 = Gv N b0 b1 b2 b3 := hf.1
        refine (if_pos rfl).symm ▸ ?_
        clear hs hq hf
        unfold gives
        have hk := HP2.out wx
        go_simp
        refine hk.mono ?_
        rintro e wy ⟨v, rfl, hr1, hb1⟩
        exact ⟨v, rfl, hb1, hr1⟩
      refine ⟨fun r wx hG hs hq hf => ?_, ?_⟩
      · have h3 : Rd wx 1 (r 32) P.length (bv P) := hf.1
        refine (if_pos rfl).symm ▸ ?_
        clear hs hq hf
        unfold gives
        have hcv := string_of_bytes (P := Try.prog) Try.underlying44 Try.underlying5 Try.underlying9 (l := P) h3
        clear h3
        go_simp
        exact ⟨Below.refl _ _, rfl⟩
      refine ⟨fun r wx hG hs hq hf => ?_, ?_⟩
      · have h1 : r 30 = .string ⟨P.toArray⟩ := hf.1
        have h4 : r 33 = .string ⟨P.toArray⟩ := hf.2.1
        refine (if_pos rfl).symm ▸ ?_
        clear hs hq hf
        unfold gives
        go_simp
        exact ⟨Below.refl _ _, rfl⟩
      refine ⟨fun r wx hG hs hq hf => ?_, ?_⟩
      · have h5 : r 34 = .bool false := hf.1
        have h3 : Rd wx 1 (r 32) P.length (bv P) := hf.2.1
        refine (if_pos rfl).symm ▸ ?_
        clear hs hq hf
        unfold gives
        go_simp
        exact ⟨Below.refl _ _, rfl⟩
      refine ⟨fun r wx hG hs hq hf => ?_, ?_⟩
      · have e8 : r 8 = .int .i64 er := hs 8 rfl
        have h6 : r 35 = .bool false := hf.1
        have hy : ydD [some 29, some 30, some 31, some 32, some 33, some 34, some 35, some 36, some 37, some 38, some 39, some 40, some 41, some 42, some 43, some 44, some 45, some 46, some 47, some 48, some 49] r 6 = some false := by show (match r 35 with | .bool b => some b | _ => none) = some false; rw [h6]
        simp only [Region.wanted, hy, beq_self_eq_true, if_true]
        clear hs hq hf hy
        unfold gives
        go_simp
        exact ⟨Below.refl _ _, rfl⟩
      refine ⟨fun r wx hG hs hq hf => ?_, ?_⟩
      · have e10 : r 10 = .int .i64 er := hs 10 rfl
        have h6 : r 35 = .bool false := hf.1
        have hy : ydD [some 29, some 30, some 31, some 32, some 33, some 34, some 35, some 36, some 37, some 38, some 39, some 40, some 41, some 42, some 43, some 44, some 45, some 46, some 47, some 48, some 49] r 6 = some false := by show (match r 35 with | .bool b => some b | _ => none) = some false; rw [h6]
        simp only [Region.wanted, hy, beq_self_eq_true, if_true]
        clear hs hq hf hy
        unfold gives
        go_simp
        exact ⟨Below.refl _ _, rfl⟩
      refine ⟨fun r wx hG hs hq hf => ?_, ?_⟩
      · have h7 : r 36 = .int .i64 er := hf.1
        have h8 : r 37 = .int .i64 er := hf.2.1
        have h6 : r 35 = .bool false := hf.2.2.1
        have hy : ydD [some 29, some 30, some 31, some 32, some 33, some 34, some 35, some 36, some 37, some 38, some 39, some 40, some 41, some 42, some 43, some 44, some 45, some 46, some 47, some 48, some 49] r 6 = some false := by show (match r 35 with | .bool b => some b | _ => none) = some false; rw [h6]
        simp only [Region.wanted, hy, beq_self_eq_true, if_true]
        clear hs hq hf hy
        unfold gives
        go_simp
        exact ⟨Below.refl _ _, rfl⟩
      refine ⟨fun r wx hG hs hq hf => ?_, ?_⟩
      · have h6 : r 35 = .bool false := hf.1
        have h9 : r 38 = .bool false := hf.2.1
        refine (if_pos rfl).symm ▸ ?_
        clear hs hq hf
        unfold gives
        go_simp
        exact ⟨Below.refl _ _, rfl⟩
      refine ⟨fun r wx hG hs hq hf => ?_, ?_⟩
      · have h10 : r 39 = .bool false := hf.1
        refine (if_pos rfl).symm ▸ ?_
        clear hs hq hf
        unfold gives
        go_simp
        exact ⟨Below.refl _ _, rfl⟩
      refine ⟨fun r wx hG hs hq hf => ?_, ?_⟩
      · have e8 : r 8 = .int .i64 er := hs 8 rfl
        have h11 : r 40 = .bool false := hf.1
        have hy : ydD [some 29, some 30, some 31, some 32, some 33, some 34, some 35, some 36, some 37, some 38, some 39, some 40, some 41, some 42, some 43, some 44, some 45, some 46, some 47, some 48, some 49] r 11 = some false := by show (match r 40 with | .bool b => some b | _ => none) = some false; rw [h11]
        simp only [Region.wanted, hy, beq_self_eq_true, if_true]
        clear hs hq hf hy
        unfold gives
        go_simp
        exact ⟨Below.refl _ _, rfl⟩
      refine ⟨fun r wx hG hs hq hf => ?_, ?_⟩
      · have h12 : r 41 = .int .i64 er := hf.1
        have h11 : r 40 = .bool false := hf.2.1
        have hy : ydD [some 29, some 30, some 31, some 32, some 33, some 34, some 35, some 36, some 37, some 38, some 39, some 40, some 41, some 42, some 43, some 44, some 45, some 46, some 47, some 48, some 49] r 11 = some false := by show (match r 40 with | .bool b => some b | _ => none) = some false; rw [h11]
        simp only [Region.wanted, hy, beq_self_eq_true, if_true]
        clear hs hq hf hy
        unfold gives
        have he := HE.out
        go_simp
        exact ⟨Below.refl _ _, rfl⟩
      refine ⟨fun r wx hG hs hq hf => ?_, ?_⟩
      · have h13 : r 42 = .bool false := hf.1
        have h11 : r 40 = .bool false := hf.2.1
        have hy : ydD [some 29, some 30, some 31, some 32, some 33, some 34, some 35, some 36, some 37, some 38, some 39, some 40, some 41, some 42, some 43, some 44, some 45, some 46, some 47, some 48, some 49] r 11 = some false := by show (match r 40 with | .bool b => some b | _ => none) = some false; rw [h11]
        simp only [Region.wanted, hy, beq_self_eq_true, if_true]
        clear hs hq hf hy
        unfold gives
        go_simp
        exact ⟨Below.refl _ _, rfl⟩
      refine ⟨fun r wx hG hs hq hf => ?_, ?_⟩
      · have e7 : r 7 = .pointer (some ⟨g7, 0, none⟩) := hs 7 rfl
        have h14 : r 43 = .bool false := hf.1
        have hy : ydD [some 29, some 30, some 31, some 32, some 33, some 34, some 35, some 36, some 37, some 38, some 39, some 40, some 41, some 42, some 43, some 44, some 45, some 46, some 47, some 48, some 49] r 14 = some false := by show (match r 43 with | .bool b => some b | _ => none) = some false; rw [h14]
        simp only [Region.wanted, hy]
        rw [if_neg (show ¬ (some false == some true) = true by decide)]
        clear hs hq hf hy
        rfl
      refine ⟨fun r wx hG hs hq hf => ?_, ?_⟩
      · have e9 : r 9 = .pointer (some ⟨g9, 0, none⟩) := hs 9 rfl
        have h14 : r 43 = .bool false := hf.1
        have hy : ydD [some 29, some 30, some 31, some 32, some 33, some 34, some 35, some 36, some 37, some 38, some 39, some 40, some 41, some 42, some 43, some 44, some 45, some 46, some 47, some 48, some 49] r 14 = some false := by show (match r 43 with | .bool b => some b | _ => none) = some false; rw [h14]
        simp only [Region.wanted, hy]
        rw [if_neg (show ¬ (some false == some true) = true by decide)]
        clear hs hq hf hy
        rfl
      refine ⟨fun r wx hG hs hq hf => ?_, ?_⟩
      · have h15 : r 44 = undef := hf.1
        have h16 : r 45 = undef := hf.2.1
        have h14 : r 43 = .bool false := hf.2.2.1
        have hy : ydD [some 29, some 30, some 31, some 32, some 33, some 34, some 35, some 36, some 37, some 38, some 39, some 40, some 41, some 42, some 43, some 44, some 45, some 46, some 47, some 48, some 49] r 14 = some false := by show (match r 43 with | .bool b => some b | _ => none) = some false; rw [h14]
        simp only [Region.wanted, hy]
        rw [if_neg (show ¬ (some false == some true) = true by decide)]
        clear hs hq hf hy
        rfl
      refine ⟨fun r wx hG hs hq hf => ?_, ?_⟩
      · have h17 : r 46 = undef := hf.1
        have h14 : r 43 = .bool false := hf.2.1
        have hy : ydD [some 29, some 30, some 31, some 32, some 33, some 34, some 35, some 36, some 37, some 38, some 39, some 40, some 41, some 42, some 43, some 44, some 45, some 46, some 47, some 48, some 49] r 14 = some false := by show (match r 43 with | .bool b => some b | _ => none) = some false; rw [h14]
        simp only [Region.wanted, hy]
        rw [if_neg (show ¬ (some false == some true) = true by decide)]
        clear hs hq hf hy
        rfl
      refine ⟨fun r wx hG hs hq hf => ?_, ?_⟩
      · have h14 : r 43 = .bool false := hf.1
        have h18 : r 47 = undef := hf.2.1
        have h11 : r 40 = .bool false := hf.2.2.1
        have hy : ydD [some 29, some 30, some 31, some 32, some 33, some 34, some 35, some 36, some 37, some 38, some 39, some 40, some 41, some 42, some 43, some 44, some 45, some 46, some 47, some 48, some 49] r 11 = some false := by show (match r 40 with | .bool b => some b | _ => none) = some false; rw [h11]
        simp only [Region.wanted, hy, beq_self_eq_true, if_true]
        clear hs hq hf hy
        unfold gives
        go_simp
        exact ⟨Below.refl _ _, rfl⟩
      refine ⟨fun r wx hG hs hq hf => ?_, ?_⟩
      · have h11 : r 40 = .bool false := hf.1
        have h19 : r 48 = .bool false := hf.2.1
        refine (if_pos rfl).symm ▸ ?_
        clear hs hq hf
        unfold gives
        go_simp
        exact ⟨Below.refl _ _, rfl⟩
      exact trivial
    case hend =>
      intro u wz hG hfin
      have z20 : u 20 = .bool false := hfin 20 (by decide) (by kernel_rfl)
      clear hfin
      simp only [fill]
      go_simp
      have r5 := (hG.block _ (Array.getElem?_eq_some_iff.1 HR.out.1).1).trans HR.out.1
      have r7 := (hG.block _ (Array.getElem?_eq_some_iff.1 HR.out.2.1).1).trans HR.out.2.1
      have hbz := HB8.out.trans (hG.mono HB8.out.size)
      have HGZ := Lib.hid (And.intro r5 (And.intro r7 (And.intro hbz (HV.out.1.keep hG))))
      clear r5 r7 hbz hG HR
      go_wp2_with fail
      refine (GGet_any (.slice a6 P.length c6) P wz HV.out.2.1 HGZ.out.2.2.2).mono ?_
      rintro e w9 ⟨rfl, hb9⟩
      rw [HGP.out.1, HGP.out.2]
      have r5 := (hb9.block _ (Array.getElem?_eq_some_iff.1 HGZ.out.1).1).trans HGZ.out.1
      have r7 := (hb9.block _ (Array.getElem?_eq_some_iff.1 HGZ.out.2.1).1).trans HGZ.out.2.1
      have hb9' := HGZ.out.2.2.1.trans (hb9.mono HGZ.out.2.2.1.size)
      go_upto_region 10 with fail
      obtain ⟨wA, hwA⟩ : ∃ x : World, x = w9.alloc (.cells #[.int .u64 N, .float .f64 (canB b0), .float .f64 (canB b1), .float .f64 (canB b2), .float .f64 (canB b3)] 27) := ⟨_, rfl⟩
      obtain ⟨g11, hg11⟩ : ∃ x, x = w9.heap.size := ⟨_, rfl⟩
      rw [← hwA, ← hg11]
      have q5 : wA.heap[g5]? = some (.cells #[.int .u64 N, .float .f64 b0, .float .f64 b1, .float .f64 b2, .float .f64 b3] 27 (0, 0)) := by rw [hwA]; exact (heap_alloc_old _ _ (Array.getElem?_eq_some_iff.1 r5).1).trans r5
      have q7 : wA.heap[g7]? = some (.cells #[.int .u64 N1, .float .f64 m1, .float .f64 s1, .float .f64 l1, .float .f64 h1'] 27 (0, 0)) := by rw [hwA]; exact (heap_alloc_old _ _ (Array.getElem?_eq_some_iff.1 r7).1).trans r7
      have q11 : wA.heap[g11]? = some (.cells #[.int .u64 N, .float .f64 (canB b0), .float .f64 (canB b1), .float .f64 (canB b2), .float .f64 (canB b3)] 27 (0, 0)) := by rw [hwA, hg11]; exact heap_alloc_new _ _
      have hbA : Below w.heap.size w wA := by rw [hwA]; exact hb9'.alloc hb9'.size _
      have HR := Lib.hid (And.intro q5 (And.intro q7 q11))
      have HBA := Lib.hid hbA
      have HB := Lib.hid (And.intro (HBB.out.keep hbA) True.intro)
      clear r5 r7 hb9 hb9' hwA hg11 q5 q7 q11 hbA HGZ HV
      refine wp_region_steps [some 55, some 56, some 57, some 58, some 59, some 60, some 61, some 62, some 63, some 64, some 65, some 66, some 67, some 68, some 69, some 70, some 71, some 72, some 73, some 4] [] (gb10F N b0 b1 b2 b3 N1 m1 s1 l1 h1' c er b a) (fun _ wx wy => Below wx.heap.size wx wy) (fun wx => Below wA.heap.size wA wx) (by kernel_rfl) (by kernel_rfl) rfl (by kernel_rfl) (Below.refl _ _).drew (fun _ wx => Below.refl _ _) (fun _ wx wy h k => h.trans (k.mono h.size)) ?hF ?hstep ?hend
      case hF =>
        exact ⟨fun _ _ _ _ _ _ h => h, ⟨fun _ _ _ _ _ _ h => h, ⟨fun _ _ _ _ _ _ h => h, ⟨fun _ _ _ _ _ _ h => h, ⟨fun _ _ _ _ _ _ h => h, ⟨fun _ _ _ _ _ _ h => h, ⟨fun _ _ _ _ _ _ h => h, ⟨fun _ _ _ _ _ _ h => h, ⟨fun _ _ _ _ _ _ h => h, ⟨fun _ _ _ _ _ _ h => h, ⟨fun _ _ _ _ _ _ h => h, ⟨fun _ _ _ _ _ _ h => h, ⟨fun _ _ _ _ _ _ h => h, ⟨fun _ _ _ _ _ _ h => h, ⟨fun _ _ _ _ _ _ h => h, ⟨fun _ _ _ _ _ _ h => h, ⟨fun _ _ _ _ _ _ h => h, ⟨fun _ _ _ _ _ _ h => h, ⟨fun _ _ _ _ _ _ h => h, ⟨fun _ _ _ _ _ _ h => h, trivial⟩⟩⟩⟩⟩⟩⟩⟩⟩⟩⟩⟩⟩⟩⟩⟩⟩⟩⟩⟩
      case hstep =>
        refine ⟨fun r wx hG hs hq hf => ?_, ?_⟩
        · have e12 : r 12 = .int .i64 0 := hs 12 rfl
          refine (if_pos rfl).symm ▸ ?_
          clear hs hq hf
          unfold gives
          go_simp
          exact ⟨Below.refl _ _, rfl⟩
        refine ⟨fun r wx hG hs hq hf => ?_, ?_⟩
        · have h0 : r 55 = .int .i64 0 := hf.1
          refine (if_pos rfl).symm ▸ ?_
          clear hs hq hf
          unfold gives
          go_simp
          exact ⟨Below.refl _ _, rfl⟩
        refine ⟨fun r wx hG hs hq hf => ?_, ?_⟩
        · have h1 : r 56 = .bool true := hf.1
          refine (if_pos rfl).symm ▸ ?_
          clear hs hq hf
          unfold gives
          go_simp
          exact ⟨Below.refl _ _, rfl⟩
        refine ⟨fun r wx hG hs hq hf => ?_, ?_⟩
        · have e11 : r 11 = .pointer (some ⟨g11, 0, none⟩) := hs 11 rfl
          have h2 : r 57 = .bool true := hf.1
          have hy : ydD [some 55, some 56, some 57, some 58, some 59, some 60, some 61, some 62, some 63, some 64, some 65, some 66, some 67, some 68, some 69, some 70, some 71, some 72, some 73, some 4] r 2 = some true := by show (match r 57 with | .bool b => some b | _ => none) = some true; rw [h2]
          simp only [Region.wanted, hy, beq_self_eq_true, if_true]
          clear hs hq hf hy
          unfold gives
          refine gives_load_row 27 _ rfl g11 e11 27 _ (0, 0) _ ((hG.block _ (Array.getElem?_eq_some_iff.1 HR.out.2.2).1).trans HR.out.2.2) Try.underlying27 rfl (gI _ _ _ _ _) ?_
          exact ⟨Below.refl _ _, rfl⟩
        refine ⟨fun r wx hG hs hq hf => ?_, ?_⟩
        · have e5 : r 5 = .pointer (some ⟨g5, 0, none⟩) := hs 5 rfl
          have h2 : r 57 = .bool true := hf.1
          have hy : ydD [some 55, some 56, some 57, some 58, some 59, some 60, some 61, some 62, some 63, some 64, some 65, some 66, some 67, some 68, some 69, some 70, some 71, some 72, some 73, some 4] r 2 = some true := by show (match r 57 with | .bool b => some b | _ => none) = some true; rw [h2]
          simp only [Region.wanted, hy, beq_self_eq_true, if_true]
          clear hs hq hf hy
          unfold gives
          refine gives_load_row 27 _ rfl g5 e5 27 _ (0, 0) _ ((hG.block _ (Array.getElem?_eq_some_iff.1 HR.out.1).1).trans HR.out.1) Try.underlying27 rfl (gI _ _ _ _ _) ?_
          exact ⟨Below.refl _ _, rfl⟩
        refine ⟨fun r wx hG hs hq hf => ?_, ?_⟩
        · have h3 : r 58 = Gv N (canB b0) (canB b1) (canB b2) (canB b3) := hf.1
          have h4 : r 59 = Gv N b0 b1 b2 b3 := hf.2.1
          have h2 : r 57 = .bool true := hf.2.2.1
          have hy : ydD [some 55, some 56, some 57, some 58, some 59, some 60, some 61, some 62, some 63, some 64, some 65, some 66, some 67, some 68, some 69, some 70, some 71, some 72, some 73, some 4] r 2 = some true := by show (match r 57 with | .bool b => some b | _ => none) = some true; rw [h2]
          simp only [Region.wanted, hy, beq_self_eq_true, if_true]
          clear hs hq hf hy
          unfold gives
          have hk := RGSame_any N (canB b0) (canB b1) (canB b2) (canB b3) b0 b1 b2 b3 wx HS2.out.1 HS2.out.2.1 HS2.out.2.2.1 HS2.out.2.2.2
          go_simp
          refine hk.mono ?_
          rintro e wy ⟨rfl, hb1⟩
          exact ⟨_, rfl, hb1, rfl⟩
        refine ⟨fun r wx hG hs hq hf => ?_, ?_⟩
        · have h2 : r 57 = .bool true := hf.1
          have h5 : r 60 = .bool true := hf.2.1
          refine (if_pos rfl).symm ▸ ?_
          clear hs hq hf
          unfold gives
          go_simp
          exact ⟨Below.refl _ _, rfl⟩
        refine ⟨fun r wx hG hs hq hf => ?_, ?_⟩
        · have h6 : r 61 = .bool true := hf.1
          refine (if_pos rfl).symm ▸ ?_
          clear hs hq hf
          unfold gives
          go_simp
          exact ⟨Below.refl _ _, rfl⟩
        refine ⟨fun r wx hG hs hq hf => ?_, ?_⟩
        · have e8 : r 8 = .int .i64 er := hs 8 rfl
          have h7 : r 62 = .bool true := hf.1
          have hy : ydD [some 55, some 56, some 57, some 58, some 59, some 60, some 61, some 62, some 63, some 64, some 65, some 66, some 67, some 68, some 69, some 70, some 71, some 72, some 73, some 4] r 7 = some true := by show (match r 62 with | .bool b => some b | _ => none) = some true; rw [h7]
          simp only [Region.wanted, hy, beq_self_eq_true, if_true]
          clear hs hq hf hy
          unfold gives
          go_simp
          exact ⟨Below.refl _ _, rfl⟩
        refine ⟨fun r wx hG hs hq hf => ?_, ?_⟩
        · have h8 : r 63 = .int .i64 er := hf.1
          have h7 : r 62 = .bool true := hf.2.1
          have hy : ydD [some 55, some 56, some 57, some 58, some 59, some 60, some 61, some 62, some 63, some 64, some 65, some 66, some 67, some 68, some 69, some 70, some 71, some 72, some 73, some 4] r 7 = some true := by show (match r 62 with | .bool b => some b | _ => none) = some true; rw [h7]
          simp only [Region.wanted, hy, beq_self_eq_true, if_true]
          clear hs hq hf hy
          unfold gives
          have he : (er != 0) = true := by rw [bne, HE.out]; rfl
          go_simp
          exact ⟨Below.refl _ _, rfl⟩
        refine ⟨fun r wx hG hs hq hf => ?_, ?_⟩
        · have h9 : r 64 = .bool true := hf.1
          have h7 : r 62 = .bool true := hf.2.1
          have hy : ydD [some 55, some 56, some 57, some 58, some 59, some 60, some 61, some 62, some 63, some 64, some 65, some 66, some 67, some 68, some 69, some 70, some 71, some 72, some 73, some 4] r 7 = some true := by show (match r 62 with | .bool b => some b | _ => none) = some true; rw [h7]
          simp only [Region.wanted, hy, beq_self_eq_true, if_true]
          clear hs hq hf hy
          unfold gives
          go_simp
          exact ⟨Below.refl _ _, rfl⟩
        refine ⟨fun r wx hG hs hq hf => ?_, ?_⟩
        · have e7 : r 7 = .pointer (some ⟨g7, 0, none⟩) := hs 7 rfl
          have h10 : r 65 = .bool true := hf.1
          have hy : ydD [some 55, some 56, some 57, some 58, some 59, some 60, some 61, some 62, some 63, some 64, some 65, some 66, some 67, some 68, some 69, some 70, some 71, some 72, some 73, some 4] r 10 = some true := by show (match r 65 with | .bool b => some b | _ => none) = some true; rw [h10]
          simp only [Region.wanted, hy]
          rw [if_neg (show ¬ (some true == some false) = true by decide)]
          clear hs hq hf hy
          rfl
        refine ⟨fun r wx hG hs hq hf => ?_, ?_⟩
        · have h11 : r 66 = undef := hf.1
          have h10 : r 65 = .bool true := hf.2.1
          have hy : ydD [some 55, some 56, some 57, some 58, some 59, some 60, some 61, some 62, some 63, some 64, some 65, some 66, some 67, some 68, some 69, some 70, some 71, some 72, some 73, some 4] r 10 = some true := by show (match r 65 with | .bool b => some b | _ => none) = some true; rw [h10]
          simp only [Region.wanted, hy]
          rw [if_neg (show ¬ (some true == some false) = true by decide)]
          clear hs hq hf hy
          rfl
        refine ⟨fun r wx hG hs hq hf => ?_, ?_⟩
        · have h12 : r 67 = undef := hf.1
          have h10 : r 65 = .bool true := hf.2.1
          have hy : ydD [some 55, some 56, some 57, some 58, some 59, some 60, some 61, some 62, some 63, some 64, some 65, some 66, some 67, some 68, some 69, some 70, some 71, some 72, some 73, some 4] r 10 = some true := by show (match r 65 with | .bool b => some b | _ => none) = some true; rw [h10]
          simp only [Region.wanted, hy]
          rw [if_neg (show ¬ (some true == some false) = true by decide)]
          clear hs hq hf hy
          rfl
        refine ⟨fun r wx hG hs hq hf => ?_, ?_⟩
        · have e1 : r 1 = .slice a b.length c := hs 1 rfl
          have h10 : r 65 = .bool true := hf.1
          have hy : ydD [some 55, some 56, some 57, some 58, some 59, some 60, some 61, some 62, some 63, some 64, some 65, some 66, some 67, some 68, some 69, some 70, some 71, some 72, some 73, some 4] r 10 = some true := by show (match r 65 with | .bool b => some b | _ => none) = some true; rw [h10]
          simp only [Region.wanted, hy]
          rw [if_neg (show ¬ (some true == some false) = true by decide)]
          clear hs hq hf hy
          rfl
        refine ⟨fun r wx hG hs hq hf => ?_, ?_⟩
        · have h14 : r 69 = undef := hf.1
          have h10 : r 65 = .bool true := hf.2.1
          have hy : ydD [some 55, some 56, some 57, some 58, some 59, some 60, some 61, some 62, some 63, some 64, some 65, some 66, some 67, some 68, some 69, some 70, some 71, some 72, some 73, some 4] r 10 = some true := by show (match r 65 with | .bool b => some b | _ => none) = some true; rw [h10]
          simp only [Region.wanted, hy]
          rw [if_neg (show ¬ (some true == some false) = true by decide)]
          clear hs hq hf hy
          rfl
        refine ⟨fun r wx hG hs hq hf => ?_, ?_⟩
        · have h13 : r 68 = undef := hf.1
          have h15 : r 70 = undef := hf.2.1
          have h10 : r 65 = .bool true := hf.2.2.1
          have hy : ydD [some 55, some 56, some 57, some 58, some 59, some 60, some 61, some 62, some 63, some 64, some 65, some 66, some 67, some 68, some 69, some 70, some 71, some 72, some 73, some 4] r 10 = some true := by show (match r 65 with | .bool b => some b | _ => none) = some true; rw [h10]
          simp only [Region.wanted, hy]
          rw [if_neg (show ¬ (some true == some false) = true by decide)]
          clear hs hq hf hy
          rfl
        refine ⟨fun r wx hG hs hq hf => ?_, ?_⟩
        · have h10 : r 65 = .bool true := hf.1
          have h16 : r 71 = undef := hf.2.1
          have h7 : r 62 = .bool true := hf.2.2.1
          have hy : ydD [some 55, some 56, some 57, some 58, some 59, some 60, some 61, some 62, some 63, some 64, some 65, some 66, some 67, some 68, some 69, some 70, some 71, some 72, some 73, some 4] r 7 = some true := by show (match r 62 with | .bool b => some b | _ => none) = some true; rw [h7]
          simp only [Region.wanted, hy, beq_self_eq_true, if_true]
          clear hs hq hf hy
          unfold gives
          go_simp
          exact ⟨Below.refl _ _, rfl⟩
        refine ⟨fun r wx hG hs hq hf => ?_, ?_⟩
        · have h7 : r 62 = .bool true := hf.1
          have h17 : r 72 = .bool true := hf.2.1
          refine (if_pos rfl).symm ▸ ?_
          clear hs hq hf
          unfold gives
          go_simp
          exact ⟨Below.refl _ _, rfl⟩
        refine ⟨fun r wx hG hs hq hf => ?_, ?_⟩
        · have h18 : r 73 = .bool true := hf.1
          refine (if_pos rfl).symm ▸ ?_
          clear hs hq hf
          unfold gives
          go_simp
          exact ⟨Below.refl _ _, rfl⟩
        exact trivial
      case hend =>
        intro u wz hG hfin
        have z19 : u 19 = .bool true := hfin 19 (by decide) (by kernel_rfl)
        clear hfin
        simp only [fill]
        go_simp
        go_wp2_with fail
        go_ret
        exact ⟨rfl, HBA.out.trans (hG.mono HBA.out.size)⟩
end Go.Proofs.Ytdociiogddihfaa
