/- What is awake in law 16; the law GrowthProves: the walk. (printed by gen/grd.py) -/
import Derived.Test.YtdjmebfjanophaaDoorGrC
import Derived.Test.YtdjmebfjanophaaDoorRowsBuild
namespace Go.Proofs.YtdjmebfjanophaaDoor
open Go.RowKit Sha Root Path Growth

theorem g256 : -9223372036854775808 ≤ (256 : Int) ∧ (256 : Int) ≤ 9223372036854775807 := by omega
theorem part_four {α : Type} (node : α → α → α) (e a b c d : α) : Growth.part node e [a, b, c, d] 3 true = [c, d, node a b] := by kernel_rfl
theorem size_two : (if 2 = 0 ∨ 3 < 2 then 0 else szG 2 3 true : Nat) = 1 := by decide +kernel
/-- What each operation hands on. -/
def aw16F (g cap : Nat) (nx : List UInt8) : Nat → Value → World → Prop
  | 0, v, _ => v = .int .i64 0
  | 1, v, _ => v = .bool true
  | 2, v, _ => v = .bool true
  | 3, v, _ => v = .slice (some ⟨g, 0, none⟩) 3 cap
  | 4, v, _ => v = .int .i64 3
  | 5, v, _ => v = .bool true
  | 6, v, _ => v = .bool true
  | 7, v, _ => v = .bool true
  | 8, v, _ => v = .slice (some ⟨g, 0, none⟩) 3 cap
  | 9, v, _ => v = .pointer (some ⟨g, 64, none⟩)
  | 10, v, _ => v = .agg (bv nx).toArray
  | 11, v, _ => v = .agg (bv (hb 1)).toArray
  | 12, v, _ => v = .agg (bv (hb 2)).toArray
  | 13, v, _ => v = .agg (bv nx).toArray
  | 14, v, _ => v = .bool true
  | 15, v, _ => v = .bool true
  | 16, v, _ => v = .bool true
  | 17, v, _ => v = .int .i64 1
  | 18, v, _ => v = .bool true
  | 19, v, _ => v = .bool true
  | 20, v, _ => v = .bool true
  | _, _, _ => True

set_option maxHeartbeats 8000000 in
set_option maxRecDepth 100000 in
theorem awake16_any (w : World) (hT : Tabs w) (hD : TabD w) :
    Calls Tryd.prog 34 #[] w fun e w' => e = .returned (.bool true) ∧ Below w.heap.size w w' := by
  have hz := (zero_of_info info32).1
  have HZ := Lib.hid hz
  have hR := Rd.rows w 33 32 4 [bv (hb 1), bv (hb 2), bv (hb 3), bv (hb 4)] rfl (by omega) (by simp [bv_length, hb_length]) (by
    intro r hr u hu
    simp only [List.mem_cons, List.not_mem_nil, or_false] at hr
    rcases hr with rfl | rfl | rfl | rfl <;> exact bv_one _ u hu)
  have hfl : [bv (hb 1), bv (hb 2), bv (hb 3), bv (hb 4)].flatten = bv (hb 1) ++ (bv (hb 2) ++ (bv (hb 3) ++ bv (hb 4))) := by simp
  rw [hfl] at hR
  obtain ⟨w2, hw2⟩ : ∃ x : World, x = w.alloc (.cells (bv (hb 1) ++ (bv (hb 2) ++ (bv (hb 3) ++ bv (hb 4)))).toArray 33) := ⟨_, rfl⟩
  have hb2 : Below w.heap.size w w2 := by rw [hw2]; exact (Below.refl _ _).alloc (Nat.le_refl _) _
  have HW := Lib.hid hw2
  have hpv := gProve_good 256 [hb 1, hb 2, hb 3, hb 4] w.heap.size 0 4 3 4 w2 g256 (by simp [hb_length]) (by simp) (by omega) (by simp) (by simp) (by omega) (by rw [hw2]; simpa using hR) (hT.keepB hb2) (hD.keepB hb2)
  rw [part_four] at hpv
  have hn32 := nodeH_length 256 (hb 1) (hb 2)
  have hnd := fun wx (h : Below w.heap.size w wx) => Node_any 256 (hb 1) (hb 2) wx (hb_length 1) (hb_length 2) g256 (hT.keepB h)
  obtain ⟨nx, hnx⟩ : ∃ n, n = nodeH 256 (hb 1) (hb 2) := ⟨_, rfl⟩
  rw [← hnx] at hpv hn32 hnd
  have HPV := Lib.hid hpv
  have HB2 := Lib.hid hb2
  have HND0 := Lib.hid hnd
  have HN := Lib.hid hn32
  have hsz := fun wx => gSize_any 2 3 wx (by omega) (by omega)
  rw [size_two] at hsz
  have HSZ := Lib.hid hsz
  have HQ := Lib.hid (fun w => eqIn_hash nx nx hn32 hn32 w)
  clear hfl hw2 hR hpv hn32 hnd hnx hsz hb2 hT hD
  have e1 : ((bv (zs 32)).set 0 (.int .u8 1)).toArray = (bv (hb 1)).toArray := rfl
  have e2 : ((bv (zs 32)).set 0 (.int .u8 2)).toArray = (bv (hb 2)).toArray := rfl
  have e3 : ((bv (zs 32)).set 0 (.int .u8 3)).toArray = (bv (hb 3)).toArray := rfl
  have e4 : ((bv (zs 32)).set 0 (.int .u8 4)).toArray = (bv (hb 4)).toArray := rfl
  go_enter Tryd.func34, Tryd.ntmps34
  go_wp2_with (with_reducible show wpList _ _ _ (⟨some 8, _, _, _, _, _⟩ :: _) _ _; refine wpList_buildRows rfl 22 33 4 _ rfl [bv (hb 1), bv (hb 2), bv (hb 3), bv (hb 4)] (size := 32) (by simp [bv_length, hb_length]) rfl ?_ Tryd.underlying22 infoHb (by decide) (by decide) ?_)
  rw [show w.alloc (.cells (bv (hb 1) ++ (bv (hb 2) ++ (bv (hb 3) ++ bv (hb 4)))).toArray 33) = w2 from HW.out.symm]
  refine HPV.out.mono ?_
  rintro e w3 ⟨va, vc, rfl, ho3, hb3⟩
  obtain ⟨g, cap, hv3, hBg, _, _, _⟩ := own_at ho3 (by simp)
  have hrg := own_range32 (k := 2) (x := nx) (by rw [← hv3]; exact ho3) (by simp [hb_length, HN.out]) rfl
  have hbw3 := HB2.out.trans (hb3.mono HB2.out.size)
  rw [hv3]
  have HRG := Lib.hid (fun wx (h : Below w3.heap.size w3 wx) => show wx.rangeAt g 64 (bv nx) from fun q u hu => (h.cell (World.block_lt_of_cell? w3 _ (hrg q u hu))).trans (hrg q u hu))
  have H3 := Lib.hid hbw3
  have HND := Lib.hid (fun wx (h : Below w3.heap.size w3 wx) => HND0.out wx (hbw3.trans (h.mono hbw3.size)))
  clear ho3 hrg hbw3 hb3 hv3 HND0 e1 e2 e3 e4
  rw [show [hb 3, hb 4, nx].length = 3 from rfl]
  go_upto_region 2 with fail
  refine wp_region_steps [some 12, some 13, some 14, some 15, some 16, some 17, some 18, some 19, some 20, some 21, some 22, some 23, some 24, some 25, some 26, some 27, some 28, some 29, some 30, some 31, some 0] [] (aw16F g cap nx) (fun _ wx wy => Below wx.heap.size wx wy) (fun wx => Below w3.heap.size w3 wx) (by kernel_rfl) (by kernel_rfl) rfl (by kernel_rfl) (Below.refl _ _).drew (fun _ wx => Below.refl _ _) (fun _ wx wy h k => h.trans (k.mono h.size)) ?hF ?hstep ?hend
  case hF =>
    exact ⟨fun _ _ _ _ _ _ h => h, ⟨fun _ _ _ _ _ _ h => h, ⟨fun _ _ _ _ _ _ h => h, ⟨fun _ _ _ _ _ _ h => h, ⟨fun _ _ _ _ _ _ h => h, ⟨fun _ _ _ _ _ _ h => h, ⟨fun _ _ _ _ _ _ h => h, ⟨fun _ _ _ _ _ _ h => h, ⟨fun _ _ _ _ _ _ h => h, ⟨fun _ _ _ _ _ _ h => h, ⟨fun _ _ _ _ _ _ h => h, ⟨fun _ _ _ _ _ _ h => h, ⟨fun _ _ _ _ _ _ h => h, ⟨fun _ _ _ _ _ _ h => h, ⟨fun _ _ _ _ _ _ h => h, ⟨fun _ _ _ _ _ _ h => h, ⟨fun _ _ _ _ _ _ h => h, ⟨fun _ _ _ _ _ _ h => h, ⟨fun _ _ _ _ _ _ h => h, ⟨fun _ _ _ _ _ _ h => h, ⟨fun _ _ _ _ _ _ h => h, trivial⟩⟩⟩⟩⟩⟩⟩⟩⟩⟩⟩⟩⟩⟩⟩⟩⟩⟩⟩⟩⟩
  case hstep =>
    -- operation 0: Op.move (tmp 2)
    refine ⟨fun r wx hG hs hq hf => ?_, ?_⟩
    · have e2 : r 2 = .int .i64 0 := hs 2 rfl
      refine (if_pos rfl).symm ▸ ?_
      clear hs hq hf
      unfold gives
      go_simp
      exact ⟨Below.refl _ _, rfl⟩
    -- operation 1: Op.binOp BinOp.eql 24 (tmp 12) (const (Value.int IntKind.i64 0)) 24
    refine ⟨fun r wx hG hs hq hf => ?_, ?_⟩
    · have h0 : r 12 = .int .i64 0 := hf.1
      refine (if_pos rfl).symm ▸ ?_
      clear hs hq hf
      unfold gives
      go_simp
      exact ⟨Below.refl _ _, rfl⟩
    -- operation 2: Op.move (tmp 13)
    refine ⟨fun r wx hG hs hq hf => ?_, ?_⟩
    · have h1 : r 13 = .bool true := hf.1
      refine (if_pos rfl).symm ▸ ?_
      clear hs hq hf
      unfold gives
      go_simp
      exact ⟨Below.refl _ _, rfl⟩
    -- operation 3: Op.move (tmp 1)
    refine ⟨fun r wx hG hs hq hf => ?_, ?_⟩
    · have e1 : r 1 = .slice (some ⟨g, 0, none⟩) 3 cap := hs 1 rfl
      have h2 : r 14 = .bool true := hf.1
      have hy : ydD [some 12, some 13, some 14, some 15, some 16, some 17, some 18, some 19, some 20, some 21, some 22, some 23, some 24, some 25, some 26, some 27, some 28, some 29, some 30, some 31, some 0] r 2 = some true := by show (match r 14 with | .bool b => some b | _ => none) = some true; rw [h2]
      simp only [Region.wanted, hy, beq_self_eq_true, if_true]
      clear hs hq hf hy
      unfold gives
      go_simp
      exact ⟨Below.refl _ _, rfl⟩
    -- operation 4: Op.call ( callee := Callee.builtin Builtin.len, args := #[tmp 15], argTypes := #[22] )
    refine ⟨fun r wx hG hs hq hf => ?_, ?_⟩
    · have h3 : r 15 = .slice (some ⟨g, 0, none⟩) 3 cap := hf.1
      have h2 : r 14 = .bool true := hf.2.1
      have hy : ydD [some 12, some 13, some 14, some 15, some 16, some 17, some 18, some 19, some 20, some 21, some 22, some 23, some 24, some 25, some 26, some 27, some 28, some 29, some 30, some 31, some 0] r 2 = some true := by show (match r 14 with | .bool b => some b | _ => none) = some true; rw [h2]
      simp only [Region.wanted, hy, beq_self_eq_true, if_true]
      clear hs hq hf hy
      unfold gives
      go_simp
      exact ⟨Below.refl _ _, rfl⟩
    -- operation 5: Op.binOp BinOp.eql 3 (tmp 16) (const (Value.int IntKind.i64 3)) 3
    refine ⟨fun r wx hG hs hq hf => ?_, ?_⟩
    · have h4 : r 16 = .int .i64 3 := hf.1
      have h2 : r 14 = .bool true := hf.2.1
      have hy : ydD [some 12, some 13, some 14, some 15, some 16, some 17, some 18, some 19, some 20, some 21, some 22, some 23, some 24, some 25, some 26, some 27, some 28, some 29, some 30, some 31, some 0] r 2 = some true := by show (match r 14 with | .bool b => some b | _ => none) = some true; rw [h2]
      simp only [Region.wanted, hy, beq_self_eq_true, if_true]
      clear hs hq hf hy
      unfold gives
      go_simp
      exact ⟨Below.refl _ _, rfl⟩
    -- operation 6: Op.pick (tmp 14) (tmp 17) (const (Value.bool false))
    refine ⟨fun r wx hG hs hq hf => ?_, ?_⟩
    · have h2 : r 14 = .bool true := hf.1
      have h5 : r 17 = .bool true := hf.2.1
      refine (if_pos rfl).symm ▸ ?_
      clear hs hq hf
      unfold gives
      go_simp
      exact ⟨Below.refl _ _, rfl⟩
    -- operation 7: Op.move (tmp 18)
    refine ⟨fun r wx hG hs hq hf => ?_, ?_⟩
    · have h6 : r 18 = .bool true := hf.1
      refine (if_pos rfl).symm ▸ ?_
      clear hs hq hf
      unfold gives
      go_simp
      exact ⟨Below.refl _ _, rfl⟩
    -- operation 8: Op.move (tmp 1)
    refine ⟨fun r wx hG hs hq hf => ?_, ?_⟩
    · have e1 : r 1 = .slice (some ⟨g, 0, none⟩) 3 cap := hs 1 rfl
      have h7 : r 19 = .bool true := hf.1
      have hy : ydD [some 12, some 13, some 14, some 15, some 16, some 17, some 18, some 19, some 20, some 21, some 22, some 23, some 24, some 25, some 26, some 27, some 28, some 29, some 30, some 31, some 0] r 7 = some true := by show (match r 19 with | .bool b => some b | _ => none) = some true; rw [h7]
      simp only [Region.wanted, hy, beq_self_eq_true, if_true]
      clear hs hq hf hy
      unfold gives
      go_simp
      exact ⟨Below.refl _ _, rfl⟩
    -- operation 9: Op.indexAddr 22 (tmp 20) (const (Value.int IntKind.i64 2))
    refine ⟨fun r wx hG hs hq hf => ?_, ?_⟩
    · have h8 : r 20 = .slice (some ⟨g, 0, none⟩) 3 cap := hf.1
      have h7 : r 19 = .bool true := hf.2.1
      have hy : ydD [some 12, some 13, some 14, some 15, some 16, some 17, some 18, some 19, some 20, some 21, some 22, some 23, some 24, some 25, some 26, some 27, some 28, some 29, some 30, some 31, some 0] r 7 = some true := by show (match r 19 with | .bool b => some b | _ => none) = some true; rw [h7]
      simp only [Region.wanted, hy, beq_self_eq_true, if_true]
      clear hs hq hf hy
      unfold gives
      go_simp
      exact ⟨Below.refl _ _, rfl⟩
    -- operation 10: Op.load 33 (tmp 21)
    refine ⟨fun r wx hG hs hq hf => ?_, ?_⟩
    · have h9 : r 21 = .pointer (some ⟨g, 64, none⟩) := hf.1
      have h7 : r 19 = .bool true := hf.2.1
      have hy : ydD [some 12, some 13, some 14, some 15, some 16, some 17, some 18, some 19, some 20, some 21, some 22, some 23, some 24, some 25, some 26, some 27, some 28, some 29, some 30, some 31, some 0] r 7 = some true := by show (match r 19 with | .bool b => some b | _ => none) = some true; rw [h7]
      simp only [Region.wanted, hy, beq_self_eq_true, if_true]
      clear hs hq hf hy
      unfold gives
      refine gives_load_mid 33 _ rfl g 64 h9 (bv nx) _ (HRG.out wx hG) Tryd.underlying33 rfl (hInfo' _ HN.out) ⟨Below.refl _ _, rfl⟩
    -- operation 11: Op.build 33 #[(0, const (Value.int IntKind.u8 1))]
    refine ⟨fun r wx hG hs hq hf => ?_, ?_⟩
    · have h7 : r 19 = .bool true := hf.1
      have hy : ydD [some 12, some 13, some 14, some 15, some 16, some 17, some 18, some 19, some 20, some 21, some 22, some 23, some 24, some 25, some 26, some 27, some 28, some 29, some 30, some 31, some 0] r 7 = some true := by show (match r 19 with | .bool b => some b | _ => none) = some true; rw [h7]
      simp only [Region.wanted, hy, beq_self_eq_true, if_true]
      clear hs hq hf hy
      unfold gives
      have hz := HZ.out wx
      go_simp
      exact ⟨Below.refl _ _, rfl⟩
    -- operation 12: Op.build 33 #[(0, const (Value.int IntKind.u8 2))]
    refine ⟨fun r wx hG hs hq hf => ?_, ?_⟩
    · have h7 : r 19 = .bool true := hf.1
      have hy : ydD [some 12, some 13, some 14, some 15, some 16, some 17, some 18, some 19, some 20, some 21, some 22, some 23, some 24, some 25, some 26, some 27, some 28, some 29, some 30, some 31, some 0] r 7 = some true := by show (match r 19 with | .bool b => some b | _ => none) = some true; rw [h7]
      simp only [Region.wanted, hy, beq_self_eq_true, if_true]
      clear hs hq hf hy
      unfold gives
      have hz := HZ.out wx
      go_simp
      exact ⟨Below.refl _ _, rfl⟩
    -- operation 13: Op.call ( callee := Callee.value (func 29), args := #[const (Value.int IntKind.i64 256), tmp 23, tmp 24], argTypes := #[
    refine ⟨fun r wx hG hs hq hf => ?_, ?_⟩
    · have h11 : r 23 = .agg (bv (hb 1)).toArray := hf.1
      have h12 : r 24 = .agg (bv (hb 2)).toArray := hf.2.1
      have h7 : r 19 = .bool true := hf.2.2.1
      have hy : ydD [some 12, some 13, some 14, some 15, some 16, some 17, some 18, some 19, some 20, some 21, some 22, some 23, some 24, some 25, some 26, some 27, some 28, some 29, some 30, some 31, some 0] r 7 = some true := by show (match r 19 with | .bool b => some b | _ => none) = some true; rw [h7]
      simp only [Region.wanted, hy, beq_self_eq_true, if_true]
      clear hs hq hf hy
      unfold gives
      go_simp
      refine (HND.out wx hG).mono ?_
      rintro e wy ⟨rfl, hb1⟩
      exact ⟨_, rfl, hb1, rfl⟩
    -- operation 14: Op.binOp BinOp.eql 33 (tmp 22) (tmp 25) 33
    refine ⟨fun r wx hG hs hq hf => ?_, ?_⟩
    · have h10 : r 22 = .agg (bv nx).toArray := hf.1
      have h13 : r 25 = .agg (bv nx).toArray := hf.2.1
      have h7 : r 19 = .bool true := hf.2.2.1
      have hy : ydD [some 12, some 13, some 14, some 15, some 16, some 17, some 18, some 19, some 20, some 21, some 22, some 23, some 24, some 25, some 26, some 27, some 28, some 29, some 30, some 31, some 0] r 7 = some true := by show (match r 19 with | .bool b => some b | _ => none) = some true; rw [h7]
      simp only [Region.wanted, hy, beq_self_eq_true, if_true]
      clear hs hq hf hy
      unfold gives
      have hgd := eq_guard
      have he := HQ.out wx
      go_simp
      exact ⟨Below.refl _ _, rfl⟩
    -- operation 15: Op.pick (tmp 19) (tmp 26) (const (Value.bool false))
    refine ⟨fun r wx hG hs hq hf => ?_, ?_⟩
    · have h7 : r 19 = .bool true := hf.1
      have h14 : r 26 = .bool true := hf.2.1
      refine (if_pos rfl).symm ▸ ?_
      clear hs hq hf
      unfold gives
      go_simp
      exact ⟨Below.refl _ _, rfl⟩
    -- operation 16: Op.move (tmp 27)
    refine ⟨fun r wx hG hs hq hf => ?_, ?_⟩
    · have h15 : r 27 = .bool true := hf.1
      refine (if_pos rfl).symm ▸ ?_
      clear hs hq hf
      unfold gives
      go_simp
      exact ⟨Below.refl _ _, rfl⟩
    -- operation 17: Op.call ( callee := Callee.value (func 37), args := #[const (Value.int IntKind.u64 2), const (Value.int IntKind.u64 3)],
    refine ⟨fun r wx hG hs hq hf => ?_, ?_⟩
    · have h16 : r 28 = .bool true := hf.1
      have hy : ydD [some 12, some 13, some 14, some 15, some 16, some 17, some 18, some 19, some 20, some 21, some 22, some 23, some 24, some 25, some 26, some 27, some 28, some 29, some 30, some 31, some 0] r 16 = some true := by show (match r 28 with | .bool b => some b | _ => none) = some true; rw [h16]
      simp only [Region.wanted, hy, beq_self_eq_true, if_true]
      clear hs hq hf hy
      unfold gives
      go_simp
      refine (HSZ.out wx).mono ?_
      rintro e wy ⟨rfl, hb1⟩
      exact ⟨_, rfl, hb1, rfl⟩
    -- operation 18: Op.binOp BinOp.eql 3 (tmp 29) (const (Value.int IntKind.i64 1)) 3
    refine ⟨fun r wx hG hs hq hf => ?_, ?_⟩
    · have h17 : r 29 = .int .i64 1 := hf.1
      have h16 : r 28 = .bool true := hf.2.1
      have hy : ydD [some 12, some 13, some 14, some 15, some 16, some 17, some 18, some 19, some 20, some 21, some 22, some 23, some 24, some 25, some 26, some 27, some 28, some 29, some 30, some 31, some 0] r 16 = some true := by show (match r 28 with | .bool b => some b | _ => none) = some true; rw [h16]
      simp only [Region.wanted, hy, beq_self_eq_true, if_true]
      clear hs hq hf hy
      unfold gives
      go_simp
      exact ⟨Below.refl _ _, rfl⟩
    -- operation 19: Op.pick (tmp 28) (tmp 30) (const (Value.bool false))
    refine ⟨fun r wx hG hs hq hf => ?_, ?_⟩
    · have h16 : r 28 = .bool true := hf.1
      have h18 : r 30 = .bool true := hf.2.1
      refine (if_pos rfl).symm ▸ ?_
      clear hs hq hf
      unfold gives
      go_simp
      exact ⟨Below.refl _ _, rfl⟩
    -- operation 20: Op.assign (tmp 31)
    refine ⟨fun r wx hG hs hq hf => ?_, ?_⟩
    · have h19 : r 31 = .bool true := hf.1
      refine (if_pos rfl).symm ▸ ?_
      clear hs hq hf
      unfold gives
      go_simp
      exact ⟨Below.refl _ _, rfl⟩
    exact trivial
  case hend =>
    intro u wz hG hfin
    have z20 : u 20 = .bool true := hfin 20 (by decide) (by kernel_rfl)
    clear hfin
    simp only [fill]
    go_simp
    go_wp2_with fail
    go_ret
    exact ⟨rfl, H3.out.trans (hG.mono H3.out.size)⟩

set_option maxHeartbeats 4000000 in
theorem gProve_bad (W m n : Int) (a : Option Addr) (la c : Nat) (w : World) (hbad : m < 0 ∨ n < m ∨ (la : Int) < n) :
    Calls Tryd.prog 35 #[.int .i64 W, .slice a la c, .int .i64 m, .int .i64 n] w fun e w' => e = .returned (.tuple #[.slice none 0 0, .int .i64 9]) ∧ Below w.heap.size w w' := by
  go_enter Tryd.func35, Tryd.ntmps35
  by_cases h1 : m < 0
  · go_wp2_with fail
    go_ret2
    exact ⟨rfl, Below.refl _ _⟩
  by_cases h2 : n < m
  · go_wp2_with fail
    go_ret2
    exact ⟨rfl, Below.refl _ _⟩
  · have h3 : (la : Int) < n := by omega
    go_wp2_with fail
    go_ret2
    exact ⟨rfl, Below.refl _ _⟩
set_option maxHeartbeats 4000000 in
theorem gProve_zero (W n : Int) (a : Option Addr) (la c : Nat) (w : World) (h0 : 0 ≤ n) (h1 : n ≤ (la : Int)) :
    Calls Tryd.prog 35 #[.int .i64 W, .slice a la c, .int .i64 0, .int .i64 n] w fun e w' => e = .returned (.tuple #[.slice none 0 0, .int .i64 0]) ∧ Below w.heap.size w w' := by
  have y1 : ¬ n < 0 := by omega
  have y2 : ¬ (la : Int) < n := by omega
  go_enter Tryd.func35, Tryd.ntmps35
  go_wp2_with fail
  go_ret2
  exact ⟨rfl, Below.refl _ _⟩
set_option maxHeartbeats 4000000 in
theorem rProve_bad (W m n : Int) (a : Option Addr) (la c : Nat) (w : World) (hbad : m < 0 ∨ n < m ∨ (la : Int) < n) :
    Calls Tryd.prog 36 #[.int .i64 W, .slice a la c, .int .i64 m, .int .i64 n] w fun e w' => e = .returned (.tuple #[.slice none 0 0, .int .i64 9]) ∧ Below w.heap.size w w' := by
  go_enter Tryd.func36, Tryd.ntmps36
  by_cases h1 : m < 0
  · go_wp2_with fail
    go_ret2
    exact ⟨rfl, Below.refl _ _⟩
  by_cases h2 : n < m
  · go_wp2_with fail
    go_ret2
    exact ⟨rfl, Below.refl _ _⟩
  · have h3 : (la : Int) < n := by omega
    go_wp2_with fail
    go_ret2
    exact ⟨rfl, Below.refl _ _⟩
set_option maxHeartbeats 4000000 in
theorem rProve_zero (W n : Int) (a : Option Addr) (la c : Nat) (w : World) (h0 : 0 ≤ n) (h1 : n ≤ (la : Int)) :
    Calls Tryd.prog 36 #[.int .i64 W, .slice a la c, .int .i64 0, .int .i64 n] w fun e w' => e = .returned (.tuple #[.slice none 0 0, .int .i64 0]) ∧ Below w.heap.size w w' := by
  have y1 : ¬ n < 0 := by omega
  have y2 : ¬ (la : Int) < n := by omega
  go_enter Tryd.func36, Tryd.ntmps36
  go_wp2_with fail
  go_ret2
  exact ⟨rfl, Below.refl _ _⟩

set_option maxHeartbeats 4000000 in
theorem rProve_good (W : Int) (l : List (List UInt8)) (b off c m0 la : Nat) (w : World) (hW : -9223372036854775808 ≤ W ∧ W ≤ 9223372036854775807) (h32 : ∀ p ∈ l, p.length = 32) (hl : l.length * 32 ≤ 140737488351232)
    (hm : 1 ≤ m0) (hmn : m0 ≤ l.length) (hla : l.length ≤ la) (hlc : la ≤ c) (hr : Rd w 32 (.slice (some ⟨b, off, none⟩) l.length c) l.length (l.flatMap bv)) (hT : TabsR w) :
    Calls Tryd.prog 36 #[.int .i64 W, .slice (some ⟨b, off, none⟩) la c, .int .i64 m0, .int .i64 (l.length : Nat)] w fun e w' => ∃ va vc, e = .returned (.tuple #[.slice va (Growth.part (nodeH W) (emptyH W) l m0 true).length vc, .int .i64 0]) ∧
      w'.ownsRow w.heap.size 33 32 (.slice va (Growth.part (nodeH W) (emptyH W) l m0 true).length vc) (Growth.part (nodeH W) (emptyH W) l m0 true).length ((Growth.part (nodeH W) (emptyH W) l m0 true).flatMap bv) ∧ Below w.heap.size w w' := by
  have hp := refPart_any W hW l.length l m0 true b off c w (Nat.le_refl _) hm hmn (by omega) h32 hl hr hT
  obtain ⟨n, hn⟩ : ∃ n, n = l.length := ⟨_, rfl⟩
  rw [← hn] at hp hmn hla ⊢
  have HP := Lib.hid hp
  have y1 : ¬ (m0 : Int) < 0 := by omega
  have y2 : ¬ (n : Int) < (m0 : Int) := by omega
  have y3 : ¬ (la : Int) < (n : Int) := by omega
  have y4 : ((m0 : Int) == 0) = false := by simp; omega
  have y5 : (0 : Int) ≤ (n : Int) := by omega
  have y6 : (n : Int) ≤ (c : Int) := by omega
  clear hp hr hT h32 hn
  go_enter Tryd.func36, Tryd.ntmps36
  go_wp2_with fail
  refine HP.out.mono ?_
  rintro e w1 ⟨va, vc, rfl, ho, hb⟩
  have H1 := Lib.hid (And.intro ho hb)
  clear ho hb
  go_wp2_with fail
  go_ret2
  exact ⟨_, _, rfl, H1.out.1, H1.out.2⟩
theorem gProve_same (W m n : Int) (hW : -9223372036854775808 ≤ W ∧ W ≤ 9223372036854775807) (ls : List (List UInt8)) (h32 : ∀ p ∈ ls, p.length = 32) (hl : ls.length * 32 ≤ 140737488351232) :
    ∃ (out : List (List UInt8)) (E : Int), (∀ p ∈ out, p.length = 32) ∧ out.length ≤ 66 ∧
      (∀ (a : Option Addr) (c : Nat) (w : World), Rd w 32 (.slice a ls.length c) ls.length (ls.flatMap bv) → Tabs w → TabD w →
        Calls Tryd.prog 35 #[.int .i64 W, .slice a ls.length c, .int .i64 m, .int .i64 n] w fun e w' => (∃ va vc, e = .returned (.tuple #[.slice va out.length vc, .int .i64 E]) ∧ Rd w' 32 (.slice va out.length vc) out.length (out.flatMap bv)) ∧ Below w.heap.size w w') ∧
      (∀ (a : Option Addr) (c : Nat) (w : World), Rd w 32 (.slice a ls.length c) ls.length (ls.flatMap bv) → TabsR w →
        Calls Tryd.prog 36 #[.int .i64 W, .slice a ls.length c, .int .i64 m, .int .i64 n] w fun e w' => (∃ va vc, e = .returned (.tuple #[.slice va out.length vc, .int .i64 E]) ∧ Rd w' 32 (.slice va out.length vc) out.length (out.flatMap bv)) ∧ Below w.heap.size w w') := by
  by_cases hbad : m < 0 ∨ n < m ∨ (ls.length : Int) < n
  · refine ⟨[], 9, by simp, by simp, fun a c w hr hT hD => ?_, fun a c w hr hT => ?_⟩
    · refine (gProve_bad W m n a ls.length c w hbad).mono ?_
      rintro e w' ⟨rfl, hb⟩
      exact ⟨⟨none, 0, rfl, Rd.nil _ _⟩, hb⟩
    · refine (rProve_bad W m n a ls.length c w hbad).mono ?_
      rintro e w' ⟨rfl, hb⟩
      exact ⟨⟨none, 0, rfl, Rd.nil _ _⟩, hb⟩
  by_cases h0 : m = 0
  · subst h0
    refine ⟨[], 0, by simp, by simp, fun a c w hr hT hD => ?_, fun a c w hr hT => ?_⟩
    · refine (gProve_zero W n a ls.length c w (by omega) (by omega)).mono ?_
      rintro e w' ⟨rfl, hb⟩
      exact ⟨⟨none, 0, rfl, Rd.nil _ _⟩, hb⟩
    · refine (rProve_zero W n a ls.length c w (by omega) (by omega)).mono ?_
      rintro e w' ⟨rfl, hb⟩
      exact ⟨⟨none, 0, rfl, Rd.nil _ _⟩, hb⟩
  · obtain ⟨m', rfl⟩ : ∃ k : Nat, m = (k : Int) := ⟨m.toNat, by omega⟩
    obtain ⟨n', rfl⟩ : ∃ k : Nat, n = (k : Int) := ⟨n.toNat, by omega⟩
    have hln : (ls.take n').length = n' := by rw [List.length_take]; omega
    have h32n : ∀ p ∈ ls.take n', p.length = 32 := fun p hp => h32 p (List.mem_of_mem_take hp)
    refine ⟨Growth.part (nodeH W) (emptyH W) (ls.take n') m' true, 0, part_32 W _ _ _ _ (Nat.le_refl _) (by omega) (by omega) h32n, ?_, fun a c w hr hT hD => ?_, fun a c w hr hT => ?_⟩
    · rw [part_length (nodeH W) (emptyH W) n' (ls.take n') m' true (by omega) (by omega) (by omega)]
      exact Nat.le_trans (szG_le _ _ _ (by omega) (by omega) (by omega)) (by omega)
    · obtain ⟨b, off, c', hv, hcap, _⟩ := hr.atN (by omega) (by omega)
      simp only [Value.slice.injEq, true_and] at hv
      obtain ⟨rfl, rfl⟩ := hv
      have := gProve_good W (ls.take n') b off c m' ls.length w hW h32n (by omega) (by omega) (by omega) (by omega) hcap (by rw [hln, flat_take32 _ _ h32]; exact rd_take hr n' (by omega)) hT hD
      rw [hln] at this
      refine this.mono ?_
      rintro e w' ⟨va, vc, rfl, ho, hb⟩
      exact ⟨⟨va, vc, rfl, own_rd ho (flat_one32 _)⟩, hb⟩
    · obtain ⟨b, off, c', hv, hcap, _⟩ := hr.atN (by omega) (by omega)
      simp only [Value.slice.injEq, true_and] at hv
      obtain ⟨rfl, rfl⟩ := hv
      have := rProve_good W (ls.take n') b off c m' ls.length w hW h32n (by omega) (by omega) (by omega) (by omega) hcap (by rw [hln, flat_take32 _ _ h32]; exact rd_take hr n' (by omega)) hT
      rw [hln] at this
      refine this.mono ?_
      rintro e w' ⟨va, vc, rfl, ho, hb⟩
      exact ⟨⟨va, vc, rfl, own_rd ho (flat_one32 _)⟩, hb⟩
set_option maxHeartbeats 8000000 in
set_option maxRecDepth 100000 in
theorem growthProves_walk (W i n : Int) (a : Option Addr) (c : Nat) (ls0 : List (List UInt8)) (w : World) (hW : -9223372036854775808 ≤ W ∧ W ≤ 9223372036854775807) (h32a : ∀ p ∈ ls0, p.length = 32) (hl : ls0.length * 32 ≤ 140737488351232) (hr : Rd w 32 (.slice a ls0.length c) ls0.length (ls0.flatMap bv)) (hT : TabsR w) (hD : TabD w) :
    Calls Tryd.prog 9 #[.int .i64 W, .slice a ls0.length c, .int .i64 i, .int .i64 n] w fun e w' => e = .returned (.bool true) ∧ Below w.heap.size w w' := by
  have hcap : ls0.length ≤ c := by
    obtain ⟨_, _, ⟨hv, h0⟩ | ⟨ad, c', hv, hc, _⟩⟩ := hr
    · simp at hv; omega
    · simp at hv; omega
  have HR := Lib.hid hr
  have HT := Lib.hid (And.intro hT h32a)
  have HD := Lib.hid hD
  have HN := Lib.hid hW
  clear hr hT h32a hW hD
  go_enter Tryd.func9, Tryd.ntmps9
  go_wp2_with fail
  refine (awake16_any w HT.out.1.toTabs HD.out).mono ?_
  rintro e w1 ⟨rfl, hb1⟩
  have HB1 := Lib.hid hb1
  clear hb1
  go_upto_if 18 with fail
  go_cut [1] (fun s1 wz => s1 = .slice a (min ls0.length 200) c ∧ wz = w1)
  case first =>
    by_cases hgt : 200 < ls0.length
    · have z2 : (200 : Int) < (ls0.length : Int) := by omega
      have z4 : (200 : Int) ≤ (c : Int) := by omega
      go_wp2_with fail
      go_meet
      exact ⟨by rw [show min ls0.length 200 = 200 by omega], rfl⟩
    · have z2 : ¬ (200 : Int) < (ls0.length : Int) := by omega
      go_wp2_with fail
      go_meet
      exact ⟨by rw [show min ls0.length 200 = ls0.length by omega], rfl⟩
  case rest =>
    obtain ⟨rfl, rfl⟩ := hcut
    obtain ⟨m, hm⟩ : ∃ m, m = min ls0.length 200 := ⟨_, rfl⟩
    rw [← hm]
    have hm3 : m ≤ ls0.length := by omega
    have hm4 : m ≤ 200 := by omega
    have h32 : ∀ q ∈ ls0.take m, q.length = 32 := fun q hq => HT.out.2 q (List.mem_of_mem_take hq)
    have hR : Rd wc 32 (.slice a m c) m ((ls0.take m).flatMap bv) := by
      rw [flat_take32 _ _ HT.out.2]; exact rd_take (HR.out.keep HB1.out) m hm3
    have hlm : (ls0.take m).length = m := by rw [List.length_take]; omega
    obtain ⟨ls, hls⟩ : ∃ l, l = ls0.take m := ⟨_, rfl⟩
    rw [← hls] at hR h32 hlm
    subst hlm
    obtain ⟨out, E, ho32, hol, hP, hRP⟩ := gProve_same W i n HN.out ls h32 (by omega)
    have HP := Lib.hid (And.intro hP hRP)
    have HO := Lib.hid ho32
    have hown0 := own_new wc 33 32 0 wc.heap.size [] rfl (by omega) (Nat.le_refl _)
    have hra := hR.alloc (.cells #[] 33)
    have HRD := Lib.hid hR
    have H32 := Lib.hid h32
    clear hR h32 hls hm hm3 hP hRP ho32
    go_wp2_with (at_builtin; refine wpList_app (o := ⟨some 23, _, _, _, _, _⟩) Tryd.underlying22 infoHb rfl (by decide) rfl _ _ rfl rfl rfl hown0 hra (by omega) (by omega) (by simp) ?_)
    intro v5 w5 ho hg5 _
    have hb5 : Below wc.heap.size wc w5 := ((Below.refl _ _).alloc (Nat.le_refl _) _).trans (hg5.below (by simp) (own_block hown0))
    have hr5 : Rd w5 32 v5 ls.length (ls.flatMap bv) := by have := own_rd ho (by simpa using flat_one32 ls); simpa using this
    obtain ⟨pa5, pc5, rfl⟩ := hr5.form
    have H5 := Lib.hid (And.intro hr5 (And.intro (HRD.out.keep hb5) (HB1.out.trans (hb5.mono HB1.out.size))))
    clear ho hg5 hb5 hr5 hown0 hra
    go_wp2_with fail
    refine (HP.out.1 _ _ _ H5.out.1 (HT.out.1.toTabs.keepB H5.out.2.2) (HD.out.keepB H5.out.2.2)).mono ?_
    rintro e w6 ⟨⟨va, vc, rfl, hr6⟩, hb6⟩
    have H6 := Lib.hid (And.intro (H5.out.1.keep hb6) (And.intro (H5.out.2.1.keep hb6) (And.intro (H5.out.2.2.trans (hb6.mono H5.out.2.2.size)) hr6)))
    clear hr6 hb6
    go_wp2_with fail
    refine (HP.out.2 _ _ _ H6.out.2.1 (HT.out.1.keepB H6.out.2.2.1)).mono ?_
    rintro e w7 ⟨⟨vb, vd, rfl, hr7⟩, hb7⟩
    have H7 := Lib.hid (And.intro (H6.out.1.keep hb7) (And.intro (H6.out.2.1.keep hb7) (And.intro (H6.out.2.2.1.trans (hb7.mono H6.out.2.2.1.size)) (And.intro (H6.out.2.2.2.keep hb7) hr7))))
    clear hr7 hb7
    go_wp2_with fail
    refine (Hashes_any out _ _ w7 HO.out (by omega) H7.out.2.2.2.1 H7.out.2.2.2.2).mono ?_
    rintro e w8 ⟨rfl, hb8⟩
    have H8 := Lib.hid (And.intro (H7.out.1.keep hb8) (And.intro (H7.out.2.1.keep hb8) (H7.out.2.2.1.trans (hb8.mono H7.out.2.2.1.size))))
    clear hb8
    go_wp2_with fail
    refine (Hashes_any ls _ _ w8 H32.out (by omega) H8.out.1 H8.out.2.1).mono ?_
    rintro e w9 ⟨rfl, hb9⟩
    have H9 := Lib.hid (H8.out.2.2.trans (hb9.mono H8.out.2.2.size))
    clear hb9
    go_wp2_with fail
    go_ret
    exact ⟨rfl, H9.out⟩
end Go.Proofs.YtdjmebfjanophaaDoor
