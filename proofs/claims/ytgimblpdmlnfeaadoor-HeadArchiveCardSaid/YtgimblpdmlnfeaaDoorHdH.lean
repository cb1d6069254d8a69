/- head.Check and the reference's. (printed by gen/hdf.py) -/
import Derived.Test.YtgimblpdmlnfeaaDoorHdE
import Derived.Test.YtgimblpdmlnfeaaDoorLeafG
namespace Go.Proofs.YtgimblpdmlnfeaaDoor
open Go.RowKit Sha

theorem hd_rng2 {w : World} {g n z : Nat} {r m : List UInt8} {T : TypeId} (h : w.heap[g]? = some (.cells (hdL n z r m).toArray T (0, 0))) : w.rangeAt g 2 (bv r) := range_of_row [.int .u64 n, .int .u64 z] (bv r) (bv m) 2 rfl h
theorem hd_rng3 {w : World} {g n z : Nat} {r m : List UInt8} {T : TypeId} (hr : r.length = 32) (h : w.heap[g]? = some (.cells (hdL n z r m).toArray T (0, 0))) : w.rangeAt g 34 (bv m) := by
  refine range_of_row (T := T) ([.int .u64 n, .int .u64 z] ++ bv r) (bv m) [] 34 (by simp [bv_length, hr]) ?_
  rw [List.append_nil, List.append_assoc]; exact h
/-- What each operation hands on. -/
def hckP (n z c B : Nat) (key rt mk sg : List UInt8) (a : Option Addr) : Nat → Value → Prop
  | 0, v => v = .slice a key.length c
  | 1, v => v = .pointer (some ⟨B, 0, none⟩)
  | 2, v => v = .int .u64 n
  | 3, v => v = .pointer (some ⟨B, 1, none⟩)
  | 4, v => v = .int .u64 z
  | 5, v => v = .pointer (some ⟨B, 2, none⟩)
  | 6, v => v = .agg (bv rt).toArray
  | 7, v => v = .agg (hdL n z rt sg).toArray
  | 8, v => v = .agg (hdL n z rt mk).toArray
  | 9, v => v = .bool (decide (sg = mk))
  | 10, v => v = .bool (decide (sg = mk))
  | _, _ => True
set_option maxHeartbeats 4000000 in
set_option maxRecDepth 100000 in
theorem HCheck_any (key : List UInt8) (n z : Nat) (rt mk : List UInt8) (v : Value) (w : World) (hl : key.length ≤ 140737488351232) (hn : n < 18446744073709551616) (hz : z < 18446744073709551616) (hrt : rt.length = 32) (hmk : mk.length = 32) (hr : Rd w 1 v key.length (bv key)) (hG : Tabs w) :
    Calls Tryd.prog 20 #[v, .agg (hdL n z rt mk).toArray] w fun e w' => e = .returned (.bool (signB key n z rt == mk)) ∧ Below w.heap.size w w' := by
  obtain ⟨a, c, rfl⟩ := hr.form
  obtain ⟨B, hB⟩ : ∃ B, B = w.heap.size := ⟨_, rfl⟩
  obtain ⟨w1, hw1⟩ : ∃ x : World, x = w.alloc (.cells (hdL n z rt mk).toArray 37) := ⟨_, rfl⟩
  have hrow : w1.heap[B]? = some (.cells (hdL n z rt mk).toArray 37 (0, 0)) := by rw [hw1, hB]; exact heap_alloc_new _ _
  have hbw : Below w.heap.size w w1 := by rw [hw1]; exact (Below.refl _ _).alloc (Nat.le_refl _) _
  have HRW := Lib.hid (And.intro hrow hbw)
  have HW1 := Lib.hid hw1
  have HB := Lib.hid hB
  have HLN := Lib.hid (And.intro hrt hmk)
  have hsg := fun wx (hb : KeptT [] w1 wx) => Sign_any key n z rt (.slice a key.length c) wx (by omega) hn hz hrt ((hr.keep hbw).keep hb.bel) ((hG.keepB hbw).keepB hb.bel)
  have hsl := signB_length key n z rt
  obtain ⟨sg, hsge⟩ : ∃ s, s = signB key n z rt := ⟨_, rfl⟩
  rw [← hsge] at hsg hsl ⊢
  have hres : (sg == mk) = decide (sg = mk) := by by_cases h : sg = mk <;> simp [h]
  have HSG := Lib.hid hsg
  have HSL := Lib.hid hsl
  have HRS := Lib.hid hres
  obtain ⟨A, hA⟩ : ∃ A, A = (hdL n z rt mk).toArray := ⟨_, rfl⟩
  rw [← hA]
  have HA := Lib.hid hA
  clear hA hsg hsl hsge hres hrow hbw hw1 hB hr hG hl hn hz hrt hmk
  go_enter Tryd.func20, Tryd.ntmps20
  go_upto_region 1 with fail
  rw [show w.alloc (.cells A 37) = w1 from by rw [HA.out, HW1.out], ← HB.out]
  refine wp_region_desc [some 5, some 6, some 7, some 8, some 9, some 10, some 11, some 12, some 13, some 14, some 4] [] [] [(0, 0), (0, 0), (0, 0), (0, 0), (0, 0), (0, 0), (0, 0), (0, 0), (0, 0), (0, 0), (0, 0)] [] [] [] [] (hckP n z c B key rt mk sg a) (fun _ _ _ => True) (fun _ => default) (by kernel_rfl) (by kernel_rfl) rfl (by kernel_rfl) (by kernel_rfl) (by kernel_rfl) rfl trivial (by simp; try omega) rfl (fun i hi => (no4 (by kernel_rfl) i hi).elim) ?hstep ?hend
  case hstep =>
    -- operation 0: Op.move (tmp 0)
    refine ⟨fun r wx hG hs hq hf => ?_, ?_⟩
    · have e0 : r 0 = .slice a key.length c := hs 0 rfl
      clear hs hq hf
      refine wanted_pos rfl ?_
      unfold gives
      go_simp
      exact obC_q (Below.refl _ _) rfl
    -- operation 1: Op.fieldAddr 37 (tmp 3) 0
    refine ⟨fun r wx hG hs hq hf => ?_, ?_⟩
    · have e3 : r 3 = .pointer (some ⟨B, 0, none⟩) := hs 3 rfl
      clear hs hq hf
      refine wanted_pos rfl ?_
      unfold gives
      go_simp
      exact obC_q (Below.refl _ _) rfl
    -- operation 2: Op.load 33 (tmp 6)
    refine ⟨fun r wx hG hs hq hf => ?_, ?_⟩
    · have h1 : r 6 = .pointer (some ⟨B, 0, none⟩) := hf.1
      clear hs hq hf
      refine wanted_pos rfl ?_
      unfold gives
      have hc := hd_cell0 (hG.row (by simp; try omega) HRW.out.1)
      go_simp
      exact obC_q (Below.refl _ _) rfl
    -- operation 3: Op.fieldAddr 37 (tmp 3) 1
    refine ⟨fun r wx hG hs hq hf => ?_, ?_⟩
    · have e3 : r 3 = .pointer (some ⟨B, 0, none⟩) := hs 3 rfl
      clear hs hq hf
      refine wanted_pos rfl ?_
      unfold gives
      go_simp
      exact obC_q (Below.refl _ _) rfl
    -- operation 4: Op.load 33 (tmp 8)
    refine ⟨fun r wx hG hs hq hf => ?_, ?_⟩
    · have h3 : r 8 = .pointer (some ⟨B, 1, none⟩) := hf.1
      clear hs hq hf
      refine wanted_pos rfl ?_
      unfold gives
      have hc := hd_cell1 (hG.row (by simp; try omega) HRW.out.1)
      go_simp
      exact obC_q (Below.refl _ _) rfl
    -- operation 5: Op.fieldAddr 37 (tmp 3) 2
    refine ⟨fun r wx hG hs hq hf => ?_, ?_⟩
    · have e3 : r 3 = .pointer (some ⟨B, 0, none⟩) := hs 3 rfl
      clear hs hq hf
      refine wanted_pos rfl ?_
      unfold gives
      go_simp
      exact obC_q (Below.refl _ _) rfl
    -- operation 6: Op.load 35 (tmp 10)
    refine ⟨fun r wx hG hs hq hf => ?_, ?_⟩
    · have h5 : r 10 = .pointer (some ⟨B, 2, none⟩) := hf.1
      clear hs hq hf
      refine wanted_pos rfl ?_
      unfold gives
      refine gives_load_mid 35 _ rfl B 2 h5 (bv rt) _ (hd_rng2 (hG.row (by simp; try omega) HRW.out.1)) Tryd.underlying35 rfl (hInfo' _ HLN.out.1) ?_
      exact obC_q (Below.refl _ _) rfl
    -- operation 7: Op.call ( callee := Callee.value (func 18), args := #[tmp 5, tmp 7, tmp 9, tmp 11], argTypes := #[25
    refine ⟨fun r wx hG hs hq hf => ?_, ?_⟩
    · have h0 : r 5 = .slice a key.length c := hf.1
      have h2 : r 7 = .int .u64 n := hf.2.1
      have h4 : r 9 = .int .u64 z := hf.2.2.1
      have h6 : r 11 = .agg (bv rt).toArray := hf.2.2.2.1
      clear hs hq hf
      refine wanted_pos rfl ?_
      unfold gives
      go_simp
      refine (HSG.out wx hG).mono ?_
      rintro e wy ⟨rfl, hb1⟩
      exact ⟨_, rfl, obC_q hb1 rfl⟩
    -- operation 8: Op.load 37 (tmp 3)
    refine ⟨fun r wx hG hs hq hf => ?_, ?_⟩
    · have e3 : r 3 = .pointer (some ⟨B, 0, none⟩) := hs 3 rfl
      clear hs hq hf
      refine wanted_pos rfl ?_
      unfold gives
      refine gives_load_row 37 _ rfl B e3 37 _ (0, 0) _ (hG.row (by simp; try omega) HRW.out.1) Tryd.underlying37 rfl (hdInfo _ _ _ _ HLN.out.1 HLN.out.2) ?_
      exact obC_q (Below.refl _ _) rfl
    -- operation 9: Op.binOp BinOp.eql 37 (tmp 12) (tmp 13) 37
    refine ⟨fun r wx hG hs hq hf => ?_, ?_⟩
    · have h7 : r 12 = .agg (hdL n z rt sg).toArray := hf.1
      have h8 : r 13 = .agg (hdL n z rt mk).toArray := hf.2.1
      clear hs hq hf
      refine wanted_pos rfl ?_
      unfold gives
      have hqe := eqIn_head n z n z rt sg rt mk HLN.out.1 HSL.out HLN.out.1 HLN.out.2 wx
      rw [show decide (n = n ∧ z = z ∧ rt = rt ∧ sg = mk) = decide (sg = mk) by simp] at hqe
      refine gives_eq_head _ _ _ rfl h7 h8 hqe ?_
      exact obC_q (Below.refl _ _) rfl
    -- operation 10: Op.assign (tmp 14)
    refine ⟨fun r wx hG hs hq hf => ?_, ?_⟩
    · have h9 : r 14 = .bool (decide (sg = mk)) := hf.1
      clear hs hq hf
      refine wanted_pos rfl ?_
      unfold gives
      go_simp
      exact obC_q (Below.refl _ _) rfl
    exact trivial
  case hend =>
    intro u wz hG hfin
    have z10 : u 10 = .bool (decide (sg = mk)) := hfin 10 (by decide) (by kernel_rfl)
    clear hfin
    simp only [fill]
    go_simp
    go_wp2_with fail
    go_ret
    exact ⟨by rw [HRS.out]; rfl, HRW.out.2.trans (hG.bel.mono HRW.out.2.size)⟩
/-- What each operation hands on. -/
def rck26P (n z c B : Nat) (key rt mk sg : List UInt8) (a : Option Addr) : Nat → Value → Prop
  | 0, v => v = .slice a key.length c
  | 1, v => v = .pointer (some ⟨B, 0, none⟩)
  | 2, v => v = .int .u64 n
  | 3, v => v = .pointer (some ⟨B, 1, none⟩)
  | 4, v => v = .int .u64 z
  | 5, v => v = .pointer (some ⟨B, 2, none⟩)
  | 6, v => v = .agg (bv rt).toArray
  | 7, v => v = .agg (hdL n z rt sg).toArray
  | 8, v => v = .agg (bv sg).toArray
  | 9, v => v = .pointer (some ⟨B, 34, none⟩)
  | 10, v => v = .agg (bv mk).toArray
  | 11, v => v = .bool (sg == mk)
  | 12, v => v = .bool (sg == mk)
  | _, _ => True
set_option maxHeartbeats 4000000 in
set_option maxRecDepth 100000 in
theorem refHCheck_any (key : List UInt8) (n z : Nat) (rt mk : List UInt8) (v : Value) (w : World) (hl : key.length ≤ 140737488351232) (hn : n < 18446744073709551616) (hz : z < 18446744073709551616) (hrt : rt.length = 32) (hmk : mk.length = 32) (hr : Rd w 1 v key.length (bv key)) (hG : TabsR w) :
    Calls Tryd.prog 21 #[v, .agg (hdL n z rt mk).toArray] w fun e w' => e = .returned (.bool (signB key n z rt == mk)) ∧ Below w.heap.size w w' := by
  obtain ⟨a, c, rfl⟩ := hr.form
  obtain ⟨B, hB⟩ : ∃ B, B = w.heap.size := ⟨_, rfl⟩
  obtain ⟨w1, hw1⟩ : ∃ x : World, x = w.alloc (.cells (hdL n z rt mk).toArray 37) := ⟨_, rfl⟩
  have hrow : w1.heap[B]? = some (.cells (hdL n z rt mk).toArray 37 (0, 0)) := by rw [hw1, hB]; exact heap_alloc_new _ _
  have hbw : Below w.heap.size w w1 := by rw [hw1]; exact (Below.refl _ _).alloc (Nat.le_refl _) _
  have HRW := Lib.hid (And.intro hrow hbw)
  have HW1 := Lib.hid hw1
  have HB := Lib.hid hB
  have HLN := Lib.hid (And.intro hrt hmk)
  have hsg := fun wx (hb : KeptT [] w1 wx) => refSign_any key n z rt (.slice a key.length c) wx (by omega) hn hz hrt ((hr.keep hbw).keep hb.bel) ((hG.keepB hbw).keepB hb.bel)
  have hsl := signB_length key n z rt
  obtain ⟨sg, hsge⟩ : ∃ s, s = signB key n z rt := ⟨_, rfl⟩
  rw [← hsge] at hsg hsl ⊢
  have hres : (sg == mk) = decide (sg = mk) := by by_cases h : sg = mk <;> simp [h]
  have HSG := Lib.hid hsg
  have HSL := Lib.hid hsl
  have HRS := Lib.hid hres
  obtain ⟨A, hA⟩ : ∃ A, A = (hdL n z rt mk).toArray := ⟨_, rfl⟩
  rw [← hA]
  have HA := Lib.hid hA
  clear hA hsg hsl hsge hres hrow hbw hw1 hB hr hG hl hn hz hrt hmk
  go_enter Tryd.func21, Tryd.ntmps21
  go_upto_region 1 with fail
  rw [show w.alloc (.cells A 37) = w1 from by rw [HA.out, HW1.out], ← HB.out]
  refine wp_region_desc [some 5, some 6, some 7, some 8, some 9, some 10, some 11, some 12, some 13, some 14, some 15, some 16, some 4] [] [] [(0, 0), (0, 0), (0, 0), (0, 0), (0, 0), (0, 0), (0, 0), (0, 0), (0, 0), (0, 0), (0, 0), (0, 0), (0, 0)] [] [] [] [] (rck26P n z c B key rt mk sg a) (fun _ _ _ => True) (fun _ => default) (by kernel_rfl) (by kernel_rfl) rfl (by kernel_rfl) (by kernel_rfl) (by kernel_rfl) rfl trivial (by simp; try omega) rfl (fun i hi => (no4 (by kernel_rfl) i hi).elim) ?hstep ?hend
  case hstep =>
    -- operation 0: Op.move (tmp 0)
    refine ⟨fun r wx hG hs hq hf => ?_, ?_⟩
    · have e0 : r 0 = .slice a key.length c := hs 0 rfl
      clear hs hq hf
      refine wanted_pos rfl ?_
      unfold gives
      go_simp
      exact obC_q (Below.refl _ _) rfl
    -- operation 1: Op.fieldAddr 37 (tmp 3) 0
    refine ⟨fun r wx hG hs hq hf => ?_, ?_⟩
    · have e3 : r 3 = .pointer (some ⟨B, 0, none⟩) := hs 3 rfl
      clear hs hq hf
      refine wanted_pos rfl ?_
      unfold gives
      go_simp
      exact obC_q (Below.refl _ _) rfl
    -- operation 2: Op.load 33 (tmp 6)
    refine ⟨fun r wx hG hs hq hf => ?_, ?_⟩
    · have h1 : r 6 = .pointer (some ⟨B, 0, none⟩) := hf.1
      clear hs hq hf
      refine wanted_pos rfl ?_
      unfold gives
      have hc := hd_cell0 (hG.row (by simp; try omega) HRW.out.1)
      go_simp
      exact obC_q (Below.refl _ _) rfl
    -- operation 3: Op.fieldAddr 37 (tmp 3) 1
    refine ⟨fun r wx hG hs hq hf => ?_, ?_⟩
    · have e3 : r 3 = .pointer (some ⟨B, 0, none⟩) := hs 3 rfl
      clear hs hq hf
      refine wanted_pos rfl ?_
      unfold gives
      go_simp
      exact obC_q (Below.refl _ _) rfl
    -- operation 4: Op.load 33 (tmp 8)
    refine ⟨fun r wx hG hs hq hf => ?_, ?_⟩
    · have h3 : r 8 = .pointer (some ⟨B, 1, none⟩) := hf.1
      clear hs hq hf
      refine wanted_pos rfl ?_
      unfold gives
      have hc := hd_cell1 (hG.row (by simp; try omega) HRW.out.1)
      go_simp
      exact obC_q (Below.refl _ _) rfl
    -- operation 5: Op.fieldAddr 37 (tmp 3) 2
    refine ⟨fun r wx hG hs hq hf => ?_, ?_⟩
    · have e3 : r 3 = .pointer (some ⟨B, 0, none⟩) := hs 3 rfl
      clear hs hq hf
      refine wanted_pos rfl ?_
      unfold gives
      go_simp
      exact obC_q (Below.refl _ _) rfl
    -- operation 6: Op.load 35 (tmp 10)
    refine ⟨fun r wx hG hs hq hf => ?_, ?_⟩
    · have h5 : r 10 = .pointer (some ⟨B, 2, none⟩) := hf.1
      clear hs hq hf
      refine wanted_pos rfl ?_
      unfold gives
      refine gives_load_mid 35 _ rfl B 2 h5 (bv rt) _ (hd_rng2 (hG.row (by simp; try omega) HRW.out.1)) Tryd.underlying35 rfl (hInfo' _ HLN.out.1) ?_
      exact obC_q (Below.refl _ _) rfl
    -- operation 7: Op.call ( callee := Callee.value (func 19), args := #[tmp 5, tmp 7, tmp 9, tmp 11], argTypes := #[25
    refine ⟨fun r wx hG hs hq hf => ?_, ?_⟩
    · have h0 : r 5 = .slice a key.length c := hf.1
      have h2 : r 7 = .int .u64 n := hf.2.1
      have h4 : r 9 = .int .u64 z := hf.2.2.1
      have h6 : r 11 = .agg (bv rt).toArray := hf.2.2.2.1
      clear hs hq hf
      refine wanted_pos rfl ?_
      unfold gives
      go_simp
      refine (HSG.out wx hG).mono ?_
      rintro e wy ⟨rfl, hb1⟩
      exact ⟨_, rfl, obC_q hb1 rfl⟩
    -- operation 8: Op.field 37 (tmp 12) 3
    refine ⟨fun r wx hG hs hq hf => ?_, ?_⟩
    · have h7 : r 12 = .agg (hdL n z rt sg).toArray := hf.1
      clear hs hq hf
      refine wanted_pos rfl ?_
      unfold gives
      have hfd := run_field_mark n z rt sg HLN.out.1 HSL.out wx
      go_simp
      exact obC_q (Below.refl _ _) rfl
    -- operation 9: Op.fieldAddr 37 (tmp 3) 3
    refine ⟨fun r wx hG hs hq hf => ?_, ?_⟩
    · have e3 : r 3 = .pointer (some ⟨B, 0, none⟩) := hs 3 rfl
      clear hs hq hf
      refine wanted_pos rfl ?_
      unfold gives
      go_simp
      exact obC_q (Below.refl _ _) rfl
    -- operation 10: Op.load 35 (tmp 14)
    refine ⟨fun r wx hG hs hq hf => ?_, ?_⟩
    · have h9 : r 14 = .pointer (some ⟨B, 34, none⟩) := hf.1
      clear hs hq hf
      refine wanted_pos rfl ?_
      unfold gives
      refine gives_load_mid 35 _ rfl B 34 h9 (bv mk) _ (hd_rng3 HLN.out.1 (hG.row (by simp; try omega) HRW.out.1)) Tryd.underlying35 rfl (hInfo' _ HLN.out.2) ?_
      exact obC_q (Below.refl _ _) rfl
    -- operation 11: Op.binOp BinOp.eql 35 (tmp 13) (tmp 15) 35
    refine ⟨fun r wx hG hs hq hf => ?_, ?_⟩
    · have h8 : r 13 = .agg (bv sg).toArray := hf.1
      have h10 : r 15 = .agg (bv mk).toArray := hf.2.1
      clear hs hq hf
      refine wanted_pos rfl ?_
      unfold gives
      have hqe := eqIn_hash sg mk HSL.out HLN.out.2 wx
      have hgd := eq_guard
      go_simp
      exact obC_q (Below.refl _ _) rfl
    -- operation 12: Op.assign (tmp 16)
    refine ⟨fun r wx hG hs hq hf => ?_, ?_⟩
    · have h11 : r 16 = .bool (sg == mk) := hf.1
      clear hs hq hf
      refine wanted_pos rfl ?_
      unfold gives
      go_simp
      exact obC_q (Below.refl _ _) rfl
    exact trivial
  case hend =>
    intro u wz hG hfin
    have z12 : u 12 = .bool (sg == mk) := hfin 12 (by decide) (by kernel_rfl)
    clear hfin
    simp only [fill]
    go_simp
    go_wp2_with fail
    go_ret
    exact ⟨rfl, HRW.out.2.trans (hG.bel.mono HRW.out.2.size)⟩
end Go.Proofs.YtgimblpdmlnfeaaDoor
