/- HeadProves: the walk. (printed by gen/hdg.py) -/
import Derived.Test.YtgimblpdmlnfeaaDoorHdF
import Derived.Test.YtgimblpdmlnfeaaDoorHdW
namespace Go.Proofs.YtgimblpdmlnfeaaDoor
open Go.RowKit Sha Root Path Growth

/-- What each operation hands on. -/
def hprP (W : Int) (n0 z0 n z i tc pc M _B7 _B8 : Nat) (text rt0 mk0 rt mk : List UInt8) (ta pa : Option Addr) (b1 b2 : Bool) : Nat → Value → Prop
  | 0, v => v = .int .i64 W
  | 1, v => v = .agg (hdL n z rt mk).toArray
  | 2, v => v = .int .u64 i
  | 3, v => v = .slice ta text.length tc
  | 4, v => v = .slice pa M pc
  | 5, v => v = .bool b1
  | 6, v => v = .int .i64 W
  | 7, v => v = .agg (hdL n z rt mk).toArray
  | 8, v => v = .int .u64 i
  | 9, v => v = .slice ta text.length tc
  | 10, v => v = .slice pa M pc
  | 11, v => v = .bool b1
  | 12, v => v = .bool true
  | 13, v => v = .bool true
  | 14, v => v = .int .i64 W
  | 15, v => v = .agg (hdL n0 z0 rt0 mk0).toArray
  | 16, v => v = .agg (hdL n z rt mk).toArray
  | 17, v => v = .slice pa M pc
  | 18, v => v = .bool b2
  | 19, v => v = .int .i64 W
  | 20, v => v = .agg (hdL n0 z0 rt0 mk0).toArray
  | 21, v => v = .agg (hdL n z rt mk).toArray
  | 22, v => v = .slice pa M pc
  | 23, v => v = .bool b2
  | 24, v => v = .bool true
  | 25, v => v = .bool true
  | 26, v => v = .bool true
  | _, _ => True
theorem Rd.cap32 {w : World} {size : Nat} {a : Option Addr} {n c : Nat} {xs : List Value} (h : Rd w size (.slice a n c) n xs) : n ≤ c := by
  obtain ⟨_, _, h⟩ := h
  rcases h with ⟨_, rfl⟩ | ⟨ad, c', e, h, _⟩
  · exact Nat.zero_le _
  · cases e; exact h
set_option maxHeartbeats 8000000 in
set_option maxRecDepth 100000 in
theorem headProves_walk (W : Int) (n0 z0 n z i : Nat) (rt0 mk0 rt mk text : List UInt8) (ps0 : List (List UInt8)) (vt vp : Value) (w : World) (hW : -9223372036854775808 ≤ W ∧ W ≤ 9223372036854775807) (hz0 : z0 < 18446744073709551616) (hz : z < 18446744073709551616) (hi : i < 18446744073709551616)
    (hrt0 : rt0.length = 32) (hmk0 : mk0.length = 32) (hrt : rt.length = 32) (hmk : mk.length = 32) (hl : text.length ≤ 140737488351232) (hrx : Rd w 1 vt text.length (bv text)) (h320 : ∀ p ∈ ps0, p.length = 32) (hpl : ps0.length * 32 ≤ 140737488351232) (hrp : Rd w 32 vp ps0.length (ps0.flatMap bv)) (hG : TabsR w) :
    Calls Tryd.prog 7 #[.int .i64 W, .agg (hdL n0 z0 rt0 mk0).toArray, .agg (hdL n z rt mk).toArray, .int .u64 i, vt, vp] w fun e w' => e = .returned (.bool true) ∧ Below w.heap.size w w' := by
  obtain ⟨ta, tc, rfl⟩ := hrx.form
  obtain ⟨pa0, pc0, rfl⟩ := hrp.form
  obtain ⟨w0, hw0⟩ : ∃ x : World, x = (w.alloc (.cells (hdL n0 z0 rt0 mk0).toArray 37)).alloc (.cells (hdL n z rt mk).toArray 37) := ⟨_, rfl⟩
  have hr0 : w0.heap[w.heap.size]? = some (.cells (hdL n0 z0 rt0 mk0).toArray 37 (0, 0)) := by rw [hw0]; exact (heap_alloc_old _ _ (by simp)).trans (heap_alloc_new _ _)
  have hr1 : w0.heap[w.heap.size + 1]? = some (.cells (hdL n z rt mk).toArray 37 (0, 0)) := by
    rw [hw0]
    have h := heap_alloc_new (w.alloc (.cells (hdL n0 z0 rt0 mk0).toArray 37)) (.cells (hdL n z rt mk).toArray 37)
    simpa using h
  have hbw : Below w.heap.size w w0 := by rw [hw0]; exact ((Below.refl _ _).alloc (Nat.le_refl _) _).alloc (by simp) _
  have H0 := Lib.hid (And.intro hr0 (And.intro hr1 hbw))
  have HW0 := Lib.hid hw0
  have HX := Lib.hid (And.intro hrx hrp)
  have HLN := Lib.hid (And.intro hrt0 (And.intro hmk0 (And.intro hrt hmk)))
  obtain ⟨A0, hA0⟩ : ∃ A, A = (hdL n0 z0 rt0 mk0).toArray := ⟨_, rfl⟩
  obtain ⟨A, hA⟩ : ∃ A, A = (hdL n z rt mk).toArray := ⟨_, rfl⟩
  rw [← hA0, ← hA]
  have HA := Lib.hid (And.intro hA0 hA)
  have hcap := hrp.cap32
  clear hA0 hA hr0 hr1 hbw hw0 hrx hrp
  have hpl' : ps0.length ≤ 140737488355328 := by omega
  go_enter Tryd.func7, Tryd.ntmps7
  go_upto_region 1 with fail
  rw [show (w.alloc (.cells A0 37)).alloc (.cells A 37) = w0 from by rw [HA.out.1, HA.out.2, HW0.out]]
  go_wp2_with fail
  refine (awake26_any w0 (hG.toTabs.keepB H0.out.2.2)).mono ?_
  rintro e w1 ⟨rfl, hb1⟩
  have hr0 := (hb1.block _ (Array.getElem?_eq_some_iff.1 H0.out.1).1).trans H0.out.1
  have hr1 := (hb1.block _ (Array.getElem?_eq_some_iff.1 H0.out.2.1).1).trans H0.out.2.1
  have HRW := Lib.hid (And.intro hr0 (And.intro hr1 (H0.out.2.2.trans (hb1.mono H0.out.2.2.size))))
  clear hr0 hr1 hb1 H0 HW0 HA
  go_upto_if 17 with fail
  go_cut [5] (fun s5 wq => Hid (wq = w1 ∧ ∃ pa pc, s5 = .slice pa (ps0.take 80).length pc ∧ Rd w 32 (.slice pa (ps0.take 80).length pc) (ps0.take 80).length ((ps0.take 80).flatMap bv)))
  case first =>
    by_cases h80 : 80 < ps0.length
    · have hd : (80 : Int) < (ps0.length : Int) := by omega
      have hc80 : (80 : Int) ≤ (pc0 : Int) := by omega
      go_wp2_with fail
      go_meet
      have htl : (ps0.take 80).length = 80 := by rw [List.length_take]; omega
      refine show _ ∧ _ from ⟨rfl, pa0, pc0, by rw [htl], ?_⟩
      rw [htl, flat_take32 _ _ h320]
      exact rd_take HX.out.2 80 (by omega)
    · have hd : ¬ (80 : Int) < (ps0.length : Int) := by omega
      go_wp2_with fail
      go_meet
      exact show _ ∧ _ from ⟨rfl, pa0, pc0, by rw [List.take_of_length_le (by omega)], by rw [List.take_of_length_le (by omega)]; exact HX.out.2⟩
  case rest =>
    obtain ⟨rfl, pa, pc, rfl, hrq⟩ := hcut.out
    have h32 : ∀ p ∈ ps0.take 80, p.length = 32 := fun p hp => h320 p (List.mem_of_mem_take hp)
    have hpm : (ps0.take 80).length ≤ 140737488355328 := by rw [List.length_take]; omega
    obtain ⟨ps, hps⟩ : ∃ p, p = ps0.take 80 := ⟨_, rfl⟩
    rw [← hps] at hrq h32 hpm ⊢
    clear hps
    have hbx := HRW.out.2.2
    have hTx : ∀ wx, KeptT [] wc wx → TabsR wx := fun wx hb => (hG.keepB hbx).keepB hb.bel
    have h1 := fun wx (hb : KeptT [] wc wx) => Holds_any W n z i rt mk text ps (.slice ta text.length tc) (.slice pa ps.length pc) wx hW hz hi hrt hmk (by omega) ((HX.out.1.keep hbx).keep hb.bel) h32 hpm ((hrq.keep hbx).keep hb.bel) (hTx wx hb).toTabs
    have h2 := fun wx (hb : KeptT [] wc wx) => refHolds_any W n z i rt mk text ps (.slice ta text.length tc) (.slice pa ps.length pc) wx hW hz hi hrt hmk (by omega) ((HX.out.1.keep hbx).keep hb.bel) h32 hpm ((hrq.keep hbx).keep hb.bel) (hTx wx hb)
    have h3 := fun wx (hb : KeptT [] wc wx) => Follows_any W n0 z0 n z rt0 mk0 rt mk ps (.slice pa ps.length pc) wx hW hz0 hz hrt0 hmk0 hrt hmk h32 hpm ((hrq.keep hbx).keep hb.bel) (hTx wx hb).toTabs
    have h4 := fun wx (hb : KeptT [] wc wx) => refFollows_any W n0 z0 n z rt0 mk0 rt mk ps (.slice pa ps.length pc) wx hW hz0 hz hrt0 hmk0 hrt hmk h32 hpm ((hrq.keep hbx).keep hb.bel) (hTx wx hb)
    obtain ⟨b1, hb1⟩ : ∃ b, b = holdsB W z rt i text ps := ⟨_, rfl⟩
    obtain ⟨b2, hb2⟩ : ∃ b, b = gB W z0 z rt0 rt ps := ⟨_, rfl⟩
    rw [← hb1] at h1 h2
    rw [← hb2] at h3 h4
    obtain ⟨M, hM⟩ : ∃ M, M = ps.length := ⟨_, rfl⟩
    rw [← hM] at h1 h2 h3 h4 ⊢
    have HC1 := Lib.hid h1
    have HC2 := Lib.hid h2
    have HC3 := Lib.hid h3
    have HC4 := Lib.hid h4
    clear h1 h2 h3 h4 hb1 hb2 hM hbx hTx hrq h32 hpm hcut HX hG h320 hpl hpl' hcap hl hz0 hz hi hrt0 hmk0 hrt hmk hW
    go_upto_region 5 with fail
    refine wp_region_desc [some 20, some 21, some 22, some 23, some 24, some 25, some 26, some 27, some 28, some 29, some 30, some 31, some 32, some 33, some 34, some 35, some 36, some 37, some 38, some 39, some 40, some 41, some 42, some 43, some 44, some 45, some 12] [] [] [(0, 0), (0, 0), (0, 0), (0, 0), (0, 0), (0, 0), (0, 0), (0, 0), (0, 0), (0, 0), (0, 0), (0, 0), (0, 0), (0, 0), (0, 0), (0, 0), (0, 0), (0, 0), (0, 0), (0, 0), (0, 0), (0, 0), (0, 0), (0, 0), (0, 0), (0, 0), (0, 0)] [] [] [] [] (hprP W n0 z0 n z i tc pc M w.heap.size (w.heap.size + 1) text rt0 mk0 rt mk ta pa b1 b2) (fun _ _ _ => True) (fun _ => default) (by kernel_rfl) (by kernel_rfl) rfl (by kernel_rfl) (by kernel_rfl) (by kernel_rfl) rfl trivial (by simp; try omega) rfl (fun i hi => (no4 (by kernel_rfl) i hi).elim) ?hstep ?hend
    case hstep =>
      -- operation 0: Op.move (tmp 0)
      refine ⟨fun r wx hG hs hq hf => ?_, ?_⟩
      · have e0 : r 0 = .int .i64 W := hs 0 rfl
        clear hs hq hf
        refine wanted_pos rfl ?_
        unfold gives
        go_simp
        exact obC_q (Below.refl _ _) rfl
      -- operation 1: Op.load 37 (tmp 8)
      refine ⟨fun r wx hG hs hq hf => ?_, ?_⟩
      · have e8 : r 8 = .pointer (some ⟨(w.heap.size + 1), 0, none⟩) := hs 8 rfl
        clear hs hq hf
        refine wanted_pos rfl ?_
        unfold gives
        refine gives_load_row 37 _ rfl ((w.heap.size + 1)) e8 37 _ (0, 0) _ (hG.row (by simp; try omega) HRW.out.2.1) Tryd.underlying37 rfl (hdInfo _ _ _ _ HLN.out.2.2.1 HLN.out.2.2.2) ?_
        exact obC_q (Below.refl _ _) rfl
      -- operation 2: Op.move (tmp 3)
      refine ⟨fun r wx hG hs hq hf => ?_, ?_⟩
      · have e3 : r 3 = .int .u64 i := hs 3 rfl
        clear hs hq hf
        refine wanted_pos rfl ?_
        unfold gives
        go_simp
        exact obC_q (Below.refl _ _) rfl
      -- operation 3: Op.move (tmp 4)
      refine ⟨fun r wx hG hs hq hf => ?_, ?_⟩
      · have e4 : r 4 = .slice ta text.length tc := hs 4 rfl
        clear hs hq hf
        refine wanted_pos rfl ?_
        unfold gives
        go_simp
        exact obC_q (Below.refl _ _) rfl
      -- operation 4: Op.move (tmp 5)
      refine ⟨fun r wx hG hs hq hf => ?_, ?_⟩
      · have e5 : r 5 = .slice pa M pc := hs 5 rfl
        clear hs hq hf
        refine wanted_pos rfl ?_
        unfold gives
        go_simp
        exact obC_q (Below.refl _ _) rfl
      -- operation 5: Op.call ( callee := Callee.value (func 28), args := #[tmp 20, tmp 21, tmp 22, tmp 23, tmp 24], argTy
      refine ⟨fun r wx hG hs hq hf => ?_, ?_⟩
      · have h0 : r 20 = .int .i64 W := hf.1
        have h1 : r 21 = .agg (hdL n z rt mk).toArray := hf.2.1
        have h2 : r 22 = .int .u64 i := hf.2.2.1
        have h3 : r 23 = .slice ta text.length tc := hf.2.2.2.1
        have h4 : r 24 = .slice pa M pc := hf.2.2.2.2.1
        clear hs hq hf
        refine wanted_pos rfl ?_
        unfold gives
        go_simp
        refine (HC1.out wx hG).mono ?_
        rintro e wy ⟨rfl, hb1⟩
        exact ⟨_, rfl, obC_q hb1 rfl⟩
      -- operation 6: Op.move (tmp 0)
      refine ⟨fun r wx hG hs hq hf => ?_, ?_⟩
      · have e0 : r 0 = .int .i64 W := hs 0 rfl
        clear hs hq hf
        refine wanted_pos rfl ?_
        unfold gives
        go_simp
        exact obC_q (Below.refl _ _) rfl
      -- operation 7: Op.load 37 (tmp 8)
      refine ⟨fun r wx hG hs hq hf => ?_, ?_⟩
      · have e8 : r 8 = .pointer (some ⟨(w.heap.size + 1), 0, none⟩) := hs 8 rfl
        clear hs hq hf
        refine wanted_pos rfl ?_
        unfold gives
        refine gives_load_row 37 _ rfl ((w.heap.size + 1)) e8 37 _ (0, 0) _ (hG.row (by simp; try omega) HRW.out.2.1) Tryd.underlying37 rfl (hdInfo _ _ _ _ HLN.out.2.2.1 HLN.out.2.2.2) ?_
        exact obC_q (Below.refl _ _) rfl
      -- operation 8: Op.move (tmp 3)
      refine ⟨fun r wx hG hs hq hf => ?_, ?_⟩
      · have e3 : r 3 = .int .u64 i := hs 3 rfl
        clear hs hq hf
        refine wanted_pos rfl ?_
        unfold gives
        go_simp
        exact obC_q (Below.refl _ _) rfl
      -- operation 9: Op.move (tmp 4)
      refine ⟨fun r wx hG hs hq hf => ?_, ?_⟩
      · have e4 : r 4 = .slice ta text.length tc := hs 4 rfl
        clear hs hq hf
        refine wanted_pos rfl ?_
        unfold gives
        go_simp
        exact obC_q (Below.refl _ _) rfl
      -- operation 10: Op.move (tmp 5)
      refine ⟨fun r wx hG hs hq hf => ?_, ?_⟩
      · have e5 : r 5 = .slice pa M pc := hs 5 rfl
        clear hs hq hf
        refine wanted_pos rfl ?_
        unfold gives
        go_simp
        exact obC_q (Below.refl _ _) rfl
      -- operation 11: Op.call ( callee := Callee.value (func 29), args := #[tmp 26, tmp 27, tmp 28, tmp 29, tmp 30], argTy
      refine ⟨fun r wx hG hs hq hf => ?_, ?_⟩
      · have h6 : r 26 = .int .i64 W := hf.1
        have h7 : r 27 = .agg (hdL n z rt mk).toArray := hf.2.1
        have h8 : r 28 = .int .u64 i := hf.2.2.1
        have h9 : r 29 = .slice ta text.length tc := hf.2.2.2.1
        have h10 : r 30 = .slice pa M pc := hf.2.2.2.2.1
        clear hs hq hf
        refine wanted_pos rfl ?_
        unfold gives
        go_simp
        refine (HC2.out wx hG).mono ?_
        rintro e wy ⟨rfl, hb1⟩
        exact ⟨_, rfl, obC_q hb1 rfl⟩
      -- operation 12: Op.binOp BinOp.eql 4 (tmp 25) (tmp 31) 4
      refine ⟨fun r wx hG hs hq hf => ?_, ?_⟩
      · have h5 : r 25 = .bool b1 := hf.1
        have h11 : r 31 = .bool b1 := hf.2.1
        clear hs hq hf
        refine wanted_pos rfl ?_
        unfold gives
        go_simp
        exact obC_q (Below.refl _ _) rfl
      -- operation 13: Op.move (tmp 32)
      refine ⟨fun r wx hG hs hq hf => ?_, ?_⟩
      · have h12 : r 32 = .bool true := hf.1
        clear hs hq hf
        refine wanted_pos rfl ?_
        unfold gives
        go_simp
        exact obC_q (Below.refl _ _) rfl
      -- operation 14: Op.move (tmp 0)
      refine ⟨fun r wx hG hs hq hf => ?_, ?_⟩
      · have e0 : r 0 = .int .i64 W := hs 0 rfl
        have h13 : r 33 = .bool true := hf.1
        have hy : ydD [some 20, some 21, some 22, some 23, some 24, some 25, some 26, some 27, some 28, some 29, some 30, some 31, some 32, some 33, some 34, some 35, some 36, some 37, some 38, some 39, some 40, some 41, some 42, some 43, some 44, some 45, some 12] r 13 = some true := by show (match r 33 with | .bool b => some b | _ => none) = some true; rw [h13]
        clear hs hq hf
        refine wanted_pos (by simp only [Region.wanted, hy]; rfl) ?_
        unfold gives
        go_simp
        exact obC_q (Below.refl _ _) rfl
      -- operation 15: Op.load 37 (tmp 7)
      refine ⟨fun r wx hG hs hq hf => ?_, ?_⟩
      · have e7 : r 7 = .pointer (some ⟨w.heap.size, 0, none⟩) := hs 7 rfl
        have h13 : r 33 = .bool true := hf.1
        have hy : ydD [some 20, some 21, some 22, some 23, some 24, some 25, some 26, some 27, some 28, some 29, some 30, some 31, some 32, some 33, some 34, some 35, some 36, some 37, some 38, some 39, some 40, some 41, some 42, some 43, some 44, some 45, some 12] r 13 = some true := by show (match r 33 with | .bool b => some b | _ => none) = some true; rw [h13]
        clear hs hq hf
        refine wanted_pos (by simp only [Region.wanted, hy]; rfl) ?_
        unfold gives
        refine gives_load_row 37 _ rfl w.heap.size e7 37 _ (0, 0) _ (hG.row (by simp; try omega) HRW.out.1) Tryd.underlying37 rfl (hdInfo _ _ _ _ HLN.out.1 HLN.out.2.1) ?_
        exact obC_q (Below.refl _ _) rfl
      -- operation 16: Op.load 37 (tmp 8)
      refine ⟨fun r wx hG hs hq hf => ?_, ?_⟩
      · have e8 : r 8 = .pointer (some ⟨(w.heap.size + 1), 0, none⟩) := hs 8 rfl
        have h13 : r 33 = .bool true := hf.1
        have hy : ydD [some 20, some 21, some 22, some 23, some 24, some 25, some 26, some 27, some 28, some 29, some 30, some 31, some 32, some 33, some 34, some 35, some 36, some 37, some 38, some 39, some 40, some 41, some 42, some 43, some 44, some 45, some 12] r 13 = some true := by show (match r 33 with | .bool b => some b | _ => none) = some true; rw [h13]
        clear hs hq hf
        refine wanted_pos (by simp only [Region.wanted, hy]; rfl) ?_
        unfold gives
        refine gives_load_row 37 _ rfl ((w.heap.size + 1)) e8 37 _ (0, 0) _ (hG.row (by simp; try omega) HRW.out.2.1) Tryd.underlying37 rfl (hdInfo _ _ _ _ HLN.out.2.2.1 HLN.out.2.2.2) ?_
        exact obC_q (Below.refl _ _) rfl
      -- operation 17: Op.move (tmp 5)
      refine ⟨fun r wx hG hs hq hf => ?_, ?_⟩
      · have e5 : r 5 = .slice pa M pc := hs 5 rfl
        have h13 : r 33 = .bool true := hf.1
        have hy : ydD [some 20, some 21, some 22, some 23, some 24, some 25, some 26, some 27, some 28, some 29, some 30, some 31, some 32, some 33, some 34, some 35, some 36, some 37, some 38, some 39, some 40, some 41, some 42, some 43, some 44, some 45, some 12] r 13 = some true := by show (match r 33 with | .bool b => some b | _ => none) = some true; rw [h13]
        clear hs hq hf
        refine wanted_pos (by simp only [Region.wanted, hy]; rfl) ?_
        unfold gives
        go_simp
        exact obC_q (Below.refl _ _) rfl
      -- operation 18: Op.call ( callee := Callee.value (func 30), args := #[tmp 34, tmp 35, tmp 36, tmp 37], argTypes := #
      refine ⟨fun r wx hG hs hq hf => ?_, ?_⟩
      · have h14 : r 34 = .int .i64 W := hf.1
        have h15 : r 35 = .agg (hdL n0 z0 rt0 mk0).toArray := hf.2.1
        have h16 : r 36 = .agg (hdL n z rt mk).toArray := hf.2.2.1
        have h17 : r 37 = .slice pa M pc := hf.2.2.2.1
        have h13 : r 33 = .bool true := hf.2.2.2.2.1
        have hy : ydD [some 20, some 21, some 22, some 23, some 24, some 25, some 26, some 27, some 28, some 29, some 30, some 31, some 32, some 33, some 34, some 35, some 36, some 37, some 38, some 39, some 40, some 41, some 42, some 43, some 44, some 45, some 12] r 13 = some true := by show (match r 33 with | .bool b => some b | _ => none) = some true; rw [h13]
        clear hs hq hf
        refine wanted_pos (by simp only [Region.wanted, hy]; rfl) ?_
        unfold gives
        go_simp
        refine (HC3.out wx hG).mono ?_
        rintro e wy ⟨rfl, hb1⟩
        exact ⟨_, rfl, obC_q hb1 rfl⟩
      -- operation 19: Op.move (tmp 0)
      refine ⟨fun r wx hG hs hq hf => ?_, ?_⟩
      · have e0 : r 0 = .int .i64 W := hs 0 rfl
        have h13 : r 33 = .bool true := hf.1
        have hy : ydD [some 20, some 21, some 22, some 23, some 24, some 25, some 26, some 27, some 28, some 29, some 30, some 31, some 32, some 33, some 34, some 35, some 36, some 37, some 38, some 39, some 40, some 41, some 42, some 43, some 44, some 45, some 12] r 13 = some true := by show (match r 33 with | .bool b => some b | _ => none) = some true; rw [h13]
        clear hs hq hf
        refine wanted_pos (by simp only [Region.wanted, hy]; rfl) ?_
        unfold gives
        go_simp
        exact obC_q (Below.refl _ _) rfl
      -- operation 20: Op.load 37 (tmp 7)
      refine ⟨fun r wx hG hs hq hf => ?_, ?_⟩
      · have e7 : r 7 = .pointer (some ⟨w.heap.size, 0, none⟩) := hs 7 rfl
        have h13 : r 33 = .bool true := hf.1
        have hy : ydD [some 20, some 21, some 22, some 23, some 24, some 25, some 26, some 27, some 28, some 29, some 30, some 31, some 32, some 33, some 34, some 35, some 36, some 37, some 38, some 39, some 40, some 41, some 42, some 43, some 44, some 45, some 12] r 13 = some true := by show (match r 33 with | .bool b => some b | _ => none) = some true; rw [h13]
        clear hs hq hf
        refine wanted_pos (by simp only [Region.wanted, hy]; rfl) ?_
        unfold gives
        refine gives_load_row 37 _ rfl w.heap.size e7 37 _ (0, 0) _ (hG.row (by simp; try omega) HRW.out.1) Tryd.underlying37 rfl (hdInfo _ _ _ _ HLN.out.1 HLN.out.2.1) ?_
        exact obC_q (Below.refl _ _) rfl
      -- operation 21: Op.load 37 (tmp 8)
      refine ⟨fun r wx hG hs hq hf => ?_, ?_⟩
      · have e8 : r 8 = .pointer (some ⟨(w.heap.size + 1), 0, none⟩) := hs 8 rfl
        have h13 : r 33 = .bool true := hf.1
        have hy : ydD [some 20, some 21, some 22, some 23, some 24, some 25, some 26, some 27, some 28, some 29, some 30, some 31, some 32, some 33, some 34, some 35, some 36, some 37, some 38, some 39, some 40, some 41, some 42, some 43, some 44, some 45, some 12] r 13 = some true := by show (match r 33 with | .bool b => some b | _ => none) = some true; rw [h13]
        clear hs hq hf
        refine wanted_pos (by simp only [Region.wanted, hy]; rfl) ?_
        unfold gives
        refine gives_load_row 37 _ rfl ((w.heap.size + 1)) e8 37 _ (0, 0) _ (hG.row (by simp; try omega) HRW.out.2.1) Tryd.underlying37 rfl (hdInfo _ _ _ _ HLN.out.2.2.1 HLN.out.2.2.2) ?_
        exact obC_q (Below.refl _ _) rfl
      -- operation 22: Op.move (tmp 5)
      refine ⟨fun r wx hG hs hq hf => ?_, ?_⟩
      · have e5 : r 5 = .slice pa M pc := hs 5 rfl
        have h13 : r 33 = .bool true := hf.1
        have hy : ydD [some 20, some 21, some 22, some 23, some 24, some 25, some 26, some 27, some 28, some 29, some 30, some 31, some 32, some 33, some 34, some 35, some 36, some 37, some 38, some 39, some 40, some 41, some 42, some 43, some 44, some 45, some 12] r 13 = some true := by show (match r 33 with | .bool b => some b | _ => none) = some true; rw [h13]
        clear hs hq hf
        refine wanted_pos (by simp only [Region.wanted, hy]; rfl) ?_
        unfold gives
        go_simp
        exact obC_q (Below.refl _ _) rfl
      -- operation 23: Op.call ( callee := Callee.value (func 31), args := #[tmp 39, tmp 40, tmp 41, tmp 42], argTypes := #
      refine ⟨fun r wx hG hs hq hf => ?_, ?_⟩
      · have h19 : r 39 = .int .i64 W := hf.1
        have h20 : r 40 = .agg (hdL n0 z0 rt0 mk0).toArray := hf.2.1
        have h21 : r 41 = .agg (hdL n z rt mk).toArray := hf.2.2.1
        have h22 : r 42 = .slice pa M pc := hf.2.2.2.1
        have h13 : r 33 = .bool true := hf.2.2.2.2.2.1
        have hy : ydD [some 20, some 21, some 22, some 23, some 24, some 25, some 26, some 27, some 28, some 29, some 30, some 31, some 32, some 33, some 34, some 35, some 36, some 37, some 38, some 39, some 40, some 41, some 42, some 43, some 44, some 45, some 12] r 13 = some true := by show (match r 33 with | .bool b => some b | _ => none) = some true; rw [h13]
        clear hs hq hf
        refine wanted_pos (by simp only [Region.wanted, hy]; rfl) ?_
        unfold gives
        go_simp
        refine (HC4.out wx hG).mono ?_
        rintro e wy ⟨rfl, hb1⟩
        exact ⟨_, rfl, obC_q hb1 rfl⟩
      -- operation 24: Op.binOp BinOp.eql 4 (tmp 38) (tmp 43) 4
      refine ⟨fun r wx hG hs hq hf => ?_, ?_⟩
      · have h18 : r 38 = .bool b2 := hf.1
        have h23 : r 43 = .bool b2 := hf.2.1
        have h13 : r 33 = .bool true := hf.2.2.1
        have hy : ydD [some 20, some 21, some 22, some 23, some 24, some 25, some 26, some 27, some 28, some 29, some 30, some 31, some 32, some 33, some 34, some 35, some 36, some 37, some 38, some 39, some 40, some 41, some 42, some 43, some 44, some 45, some 12] r 13 = some true := by show (match r 33 with | .bool b => some b | _ => none) = some true; rw [h13]
        clear hs hq hf
        refine wanted_pos (by simp only [Region.wanted, hy]; rfl) ?_
        unfold gives
        go_simp
        exact obC_q (Below.refl _ _) rfl
      -- operation 25: Op.pick (tmp 33) (tmp 44) (const (Value.bool false))
      refine ⟨fun r wx hG hs hq hf => ?_, ?_⟩
      · have h13 : r 33 = .bool true := hf.1
        have h24 : r 44 = .bool true := hf.2.1
        clear hs hq hf
        refine wanted_pos rfl ?_
        unfold gives
        go_simp
        exact obC_q (Below.refl _ _) rfl
      -- operation 26: Op.assign (tmp 45)
      refine ⟨fun r wx hG hs hq hf => ?_, ?_⟩
      · have h25 : r 45 = .bool true := hf.1
        clear hs hq hf
        refine wanted_pos rfl ?_
        unfold gives
        go_simp
        exact obC_q (Below.refl _ _) rfl
      exact trivial
    case hend =>
      intro u wz hG hfin
      have z26 : u 26 = .bool true := hfin 26 (by decide) (by kernel_rfl)
      clear hfin
      simp only [fill]
      go_simp
      go_wp2_with fail
      go_ret
      exact ⟨rfl, HRW.out.2.2.trans (hG.bel.mono HRW.out.2.2.size)⟩
end Go.Proofs.YtgimblpdmlnfeaaDoor
