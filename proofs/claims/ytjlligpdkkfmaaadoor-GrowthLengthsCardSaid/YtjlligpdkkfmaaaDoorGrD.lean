/- What is awake in law 16; the law GrowthProves: the walk. (printed by gen/grd.py) -/
import Derived.Test.YtjlligpdkkfmaaaDoorGrC
import Derived.Test.YtjlligpdkkfmaaaDoorRowsBuild
namespace Go.Proofs.YtjlligpdkkfmaaaDoor
open Go.RowKit Sha Root Path Growth

theorem g256 : -9223372036854775808 ≤ (256 : Int) ∧ (256 : Int) ≤ 9223372036854775807 := by omega
theorem part_four {α : Type} (node : α → α → α) (e a b c d : α) : Growth.part node e [a, b, c, d] 3 true = [c, d, node a b] := by kernel_rfl
theorem size_two : (if 2 = 0 ∨ 3 < 2 then 0 else szG 2 3 true : Nat) = 1 := by decide +kernel
/-- What each operation hands on. -/
def aw16F (g cap : Nat) (nx : List UInt8) : Nat → Value → World → Prop
  | 0, v, _ => v = .int .i64 0
  | 1, v, _ => v = .bool true
  | 2, v, _ => v = .bool true
  | 3, v, _ => v = .slice (some ⟨g, 0, none⟩) 3 cap
  | 4, v, _ => v = .int .i64 3
  | 5, v, _ => v = .bool true
  | 6, v, _ => v = .bool true
  | 7, v, _ => v = .bool true
  | 8, v, _ => v = .slice (some ⟨g, 0, none⟩) 3 cap
  | 9, v, _ => v = .pointer (some ⟨g, 64, none⟩)
  | 10, v, _ => v = .agg (bv nx).toArray
  | 11, v, _ => v = .agg (bv (hb 1)).toArray
  | 12, v, _ => v = .agg (bv (hb 2)).toArray
  | 13, v, _ => v = .agg (bv nx).toArray
  | 14, v, _ => v = .bool true
  | 15, v, _ => v = .bool true
  | 16, v, _ => v = .bool true
  | 17, v, _ => v = .int .i64 1
  | 18, v, _ => v = .bool true
  | 19, v, _ => v = .bool true
  | 20, v, _ => v = .bool true
  | _, _, _ => True

set_option maxHeartbeats 8000000 in
set_option maxRecDepth 100000 in
theorem awake16_any (w : World) (hT : Tabs w) (hD : TabD w) :
    Calls Tryd.prog 30 #[] w fun e w' => e = .returned (.bool true) ∧ Below w.heap.size w w' := by
  have hz := (zero_of_info info32).1
  have HZ := Lib.hid hz
  have hR := Rd.rows w 35 32 4 [bv (hb 1), bv (hb 2), bv (hb 3), bv (hb 4)] rfl (by omega) (by simp [bv_length, hb_length]) (by
    intro r hr u hu
    simp only [List.mem_cons, List.not_mem_nil, or_false] at hr
    rcases hr with rfl | rfl | rfl | rfl <;> exact bv_one _ u hu)
  have hfl : [bv (hb 1), bv (hb 2), bv (hb 3), bv (hb 4)].flatten = bv (hb 1) ++ (bv (hb 2) ++ (bv (hb 3) ++ bv (hb 4))) := by simp
  rw [hfl] at hR
  obtain ⟨w2, hw2⟩ : ∃ x : World, x = w.alloc (.cells (bv (hb 1) ++ (bv (hb 2) ++ (bv (hb 3) ++ bv (hb 4)))).toArray 35) := ⟨_, rfl⟩
  have hb2 : Below w.heap.size w w2 := by rw [hw2]; exact (Below.refl _ _).alloc (Nat.le_refl _) _
  have HW := Lib.hid hw2
  have hpv := gProve_good 256 [hb 1, hb 2, hb 3, hb 4] w.heap.size 0 4 3 4 w2 g256 (by simp [hb_length]) (by simp) (by omega) (by simp) (by simp) (by omega) (by rw [hw2]; simpa using hR) (hT.keepB hb2) (hD.keepB hb2)
  rw [part_four] at hpv
  have hn32 := nodeH_length 256 (hb 1) (hb 2)
  have hnd := fun wx (h : Below w.heap.size w wx) => Node_any 256 (hb 1) (hb 2) wx (hb_length 1) (hb_length 2) g256 (hT.keepB h)
  obtain ⟨nx, hnx⟩ : ∃ n, n = nodeH 256 (hb 1) (hb 2) := ⟨_, rfl⟩
  rw [← hnx] at hpv hn32 hnd
  have HPV := Lib.hid hpv
  have HB2 := Lib.hid hb2
  have HND0 := Lib.hid hnd
  have HN := Lib.hid hn32
  have hsz := fun wx => gSize_any 2 3 wx (by omega) (by omega)
  rw [size_two] at hsz
  have HSZ := Lib.hid hsz
  have HQ := Lib.hid (fun w => eqIn_hash nx nx hn32 hn32 w)
  clear hfl hw2 hR hpv hn32 hnd hnx hsz hb2 hT hD
  have e1 : ((bv (zs 32)).set 0 (.int .u8 1)).toArray = (bv (hb 1)).toArray := rfl
  have e2 : ((bv (zs 32)).set 0 (.int .u8 2)).toArray = (bv (hb 2)).toArray := rfl
  have e3 : ((bv (zs 32)).set 0 (.int .u8 3)).toArray = (bv (hb 3)).toArray := rfl
  have e4 : ((bv (zs 32)).set 0 (.int .u8 4)).toArray = (bv (hb 4)).toArray := rfl
  go_enter Tryd.func30, Tryd.ntmps30
  go_wp2_with (with_reducible show wpList _ _ _ (⟨some 8, _, _, _, _, _⟩ :: _) _ _; refine wpList_buildRows rfl 44 35 4 _ rfl [bv (hb 1), bv (hb 2), bv (hb 3), bv (hb 4)] (size := 32) (by simp [bv_length, hb_length]) rfl ?_ Tryd.underlying44 infoHb (by decide) (by decide) ?_)
  rw [show w.alloc (.cells (bv (hb 1) ++ (bv (hb 2) ++ (bv (hb 3) ++ bv (hb 4)))).toArray 35) = w2 from HW.out.symm]
  refine HPV.out.mono ?_
  rintro e w3 ⟨va, vc, rfl, ho3, hb3⟩
  obtain ⟨g, cap, hv3, hBg, _, _, _⟩ := own_at ho3 (by simp)
  have hrg := own_range32 (k := 2) (x := nx) (by rw [← hv3]; exact ho3) (by simp [hb_length, HN.out]) rfl
  have hbw3 := HB2.out.trans (hb3.mono HB2.out.size)
  rw [hv3]
  have HRG := Lib.hid (fun wx (h : Below w3.heap.size w3 wx) => show wx.rangeAt g 64 (bv nx) from fun q u hu => (h.cell (World.block_lt_of_cell? w3 _ (hrg q u hu))).trans (hrg q u hu))
  have H3 := Lib.hid hbw3
  have HND := Lib.hid (fun wx (h : Below w3.heap.size w3 wx) => HND0.out wx (hbw3.trans (h.mono hbw3.size)))
  clear ho3 hrg hbw3 hb3 hv3 HND0 e1 e2 e3 e4
  rw [show [hb 3, hb 4, nx].length = 3 from rfl]
  go_upto_region 2 with fail
  refine wp_region_steps [some 12, some 13, some 14, some 15, some 16, some 17, some 18, some 19, some 20, some 21, some 22, some 23, some 24, some 25, some 26, some 27, some 28, some 29, some 30, some 31, some 0] [] (aw16F g cap nx) (fun _ wx wy => Below wx.heap.size wx wy) (fun wx => Below w3.heap.size w3 wx) (by kernel_rfl) (by kernel_rfl) rfl (by kernel_rfl) (Below.refl _ _).drew (fun _ wx => Below.refl _ _) (fun _ wx wy h k => h.trans (k.mono h.size)) ?hF ?hstep ?hend
  case hF =>
    exact ⟨fun _ _ _ _ _ _ h => h, ⟨fun _ _ _ _ _ _ h => h, ⟨fun _ _ _ _ _ _ h => h, ⟨fun _ _ _ _ _ _ h => h, ⟨fun _ _ _ _ _ _ h => h, ⟨fun _ _ _ _ _ _ h => h, ⟨fun _ _ _ _ _ _ h => h, ⟨fun _ _ _ _ _ _ h => h, ⟨fun _ _ _ _ _ _ h => h, ⟨fun _ _ _ _ _ _ h => h, ⟨fun _ _ _ _ _ _ h => h, ⟨fun _ _ _ _ _ _ h => h, ⟨fun _ _ _ _ _ _ h => h, ⟨fun _ _ _ _ _ _ h => h, ⟨fun _ _ _ _ _ _ h => h, ⟨fun _ _ _ _ _ _ h => h, ⟨fun _ _ _ _ _ _ h => h, ⟨fun _ _ _ _ _ _ h => h, ⟨fun _ _ _ _ _ _ h => h, ⟨fun _ _ _ _ _ _ h => h, ⟨fun _ _ _ _ _ _ h => h, trivial⟩⟩⟩⟩⟩⟩⟩⟩⟩⟩⟩⟩⟩⟩⟩⟩⟩⟩⟩⟩⟩
  case hstep =>
    -- operation 0: Op.move (tmp 2)
    refine ⟨fun r wx hG hs hq hf => ?_, ?_⟩
    · have e2 : r 2 = .int .i64 0 := hs 2 rfl
      refine (if_pos rfl).symm ▸ ?_
      clear hs hq hf
      unfold gives
      go_simp
      exact ⟨Below.refl _ _, rfl⟩
    -- operation 1: Op.binOp BinOp.eql 24 (tmp 12) (const (Value.int IntKind.i64 0)) 24
    refine ⟨fun r wx hG hs hq hf => ?_, ?_⟩
    · have h0 : r 12 = .int .i64 0 := hf.1
      refine (if_pos rfl).symm ▸ ?_
      clear hs hq hf
      unfold gives
      go_simp
      exact ⟨Below.refl _ _, rfl⟩
    -- operation 2: Op.move (tmp 13)
    refine ⟨fun r wx hG hs hq hf => ?_, ?_⟩
    · have h1 : r 13 = .bool true := hf.1
      refine (if_pos rfl).symm ▸ ?_
      clear hs hq hf
      unfold gives
      go_simp
      exact ⟨Below.refl _ _, rfl⟩
    -- operation 3: Op.move (tmp 1)
    refine ⟨fun r wx hG hs hq hf => ?_, ?_⟩
    · have e1 : r 1 = .slice (some ⟨g, 0, none⟩) 3 cap := hs 1 rfl
      have h2 : r 14 = .bool true := hf.1
      have hy : ydD [some 12, some 13, some 14, some 15, some 16, some 17, some 18, some 19, some 20, some 21, some 22, some 23, some 24, some 25, some 26, some 27, some 28, some 29, some 30, some 31, some 0] r 2 = some true := by show (match r 14 with | .bool b => some b | _ => none) = some true; rw [h2]
      simp only [Region.wanted, hy, beq_self_eq_true, if_true]
      clear hs hq hf hy
      unfold gives
      go_simp
      exact ⟨Below.refl _ _, rfl⟩
    -- operation 4: Op.call ( callee := Callee.builtin Builtin.len, args := #[tmp 15], argTypes := #[22] )
    refine ⟨fun r wx hG hs hq hf => ?_, ?_⟩
    · have h3 : r 15 = .slice (some ⟨g, 0, none⟩) 3 cap := hf.1
      have h2 : r 14 = .bool true := hf.2.1
      have hy : ydD [some 12, some 13, some 14, some 15, some 16, some 17, some 18, some 19, some 20, some 21, some 22, some 23, some 24, some 25, some 26, some 27, some 28, some 29, some 30, some 31, some 0] r 2 = some true := by show (match r 14 with | .bool b => some b | _ => none) = some true; rw [h2]
      simp only [Region.wanted, hy, beq_self_eq_true, if_true]
      clear hs hq hf hy
      unfold gives
      go_simp
      exact ⟨Below.refl _ _, rfl⟩
    -- operation 5: Op.binOp BinOp.eql 3 (tmp 16) (const (Value.int IntKind.i64 3)) 3
    refine ⟨fun r wx hG hs hq hf => ?_, ?_⟩
    · have h4 : r 16 = .int .i64 3 := hf.1
      have h2 : r 14 = .bool true := hf.2.1
      have hy : ydD [some 12, some 13, some 14, some 15, some 16, some 17, some 18, some 19, some 20, some 21, some 22, some 23, some 24, some 25, some 26, some 27, some 28, some 29, some 30, some 31, some 0] r 2 = some true := by show (match r 14 with | .bool b => some b | _ => none) = some true; rw [h2]
      simp only [Region.wanted, hy, beq_self_eq_true, if_true]
      clear hs hq hf hy
      unfold gives
      go_simp
      exact ⟨Below.refl _ _, rfl⟩
    -- operation 6: Op.pick (tmp 14) (tmp 17) (const (Value.bool false))
    refine ⟨fun r wx hG hs hq hf => ?_, ?_⟩
    · have h2 : r 14 = .bool true := hf.1
      have h5 : r 17 = .bool true := hf.2.1
      refine (if_pos rfl).symm ▸ ?_
      clear hs hq hf
      unfold gives
      go_simp
      exact ⟨Below.refl _ _, rfl⟩
    -- operation 7: Op.move (tmp 18)
    refine ⟨fun r wx hG hs hq hf => ?_, ?_⟩
    · have h6 : r 18 = .bool true := hf.1
      refine (if_pos rfl).symm ▸ ?_
      clear hs hq hf
      unfold gives
      go_simp
      exact ⟨Below.refl _ _, rfl⟩
    -- operation 8: Op.move (tmp 1)
    refine ⟨fun r wx hG hs hq hf => ?_, ?_⟩
    · have e1 : r 1 = .slice (some ⟨g, 0, none⟩) 3 cap := hs 1 rfl
      have h7 : r 19 = .bool true := hf.1
      have hy : ydD [some 12, some 13, some 14, some 15, some 16, some 17, some 18, some 19, some 20, some 21, some 22, some 23, some 24, some 25, some 26, some 27, some 28, some 29, some 30, some 31, some 0] r 7 = some true := by show (match r 19 with | .bool b => some b | _ => none) = some true; rw [h7]
      simp only [Region.wanted, hy, beq_self_eq_true, if_true]
      clear hs hq hf hy
      unfold gives
      go_simp
      exact ⟨Below.refl _ _, rfl⟩
    -- operation 9: Op.indexAddr 22 (tmp 20) (const (Value.int IntKind.i64 2))
    refine ⟨fun r wx hG hs hq hf => ?_, ?_⟩
    · have h8 : r 20 = .slice (some ⟨g, 0, none⟩) 3 cap := hf.1
      have h7 : r 19 = .bool true := hf.2.1
      have hy : ydD [some 12, some 13, some 14, some 15, some 16, some 17, some 18, some 19, some 20, some 21, some 22, some 23, some 24, some 25, some 26, some 27, some 28, some 29, some 30, some 31, some 0] r 7 = some true := by show (match r 19 with | .bool b => some b | _ => none) = some true; rw [h7]
      simp only [Region.wanted, hy, beq_self_eq_true, if_true]
      clear hs hq hf hy
      unfold gives
      go_simp
      exact ⟨Below.refl _ _, rfl⟩
    -- operation 10: Op.load 33 (tmp 21)
    refine ⟨fun r wx hG hs hq hf => ?_, ?_⟩
    · have h9 : r 21 = .pointer (some ⟨g, 64, none⟩) := hf.1
      have h7 : r 19 = .bool true := hf.2.1
      have hy : ydD [some 12, some 13, some 14, some 15, some 16, some 17, some 18, some 19, some 20, some 21, some 22, some 23, some 24, some 25, some 26, some 27, some 28, some 29, some 30, some 31, some 0] r 7 = some true := by show (match r 19 with | .bool b => some b | _ => none) = some true; rw [h7]
      simp only [Region.wanted, hy, beq_self_eq_true, if_true]
      clear hs hq hf hy
      unfold gives
      refine gives_load_mid 35 _ rfl g 64 h9 (bv nx) _ (HRG.out wx hG) Tryd.underlying35 rfl (hInfo' _ HN.out) ⟨Below.refl _ _, rfl⟩
    -- operation 11: Op.build 33 #[(0, const (Value.int IntKind.u8 1))]
    refine ⟨fun r wx hG hs hq hf => ?_, ?_⟩
    · have h7 : r 19 = .bool true := hf.1
      have hy : ydD [some 12, some 13, some 14, some 15, some 16, some 17, some 18, some 19, some 20, some 21, some 22, some 23, some 24, some 25, some 26, some 27, some 28, some 29, some 30, some 31, some 0] r 7 = some true := by show (match r 19 with | .bool b => some b | _ => none) = some true; rw [h7]
      simp only [Region.wanted, hy, beq_self_eq_true, if_true]
      clear hs hq hf hy
      unfold gives
      have hz := HZ.out wx
      go_simp
      exact ⟨Below.refl _ _, rfl⟩
    -- operation 12: Op.build 33 #[(0, const (Value.int IntKind.u8 2))]
    refine ⟨fun r wx hG hs hq hf => ?_, ?_⟩
    · have h7 : r 19 = .bool true := hf.1
      have hy : ydD [some 12, some 13, some 14, some 15, some 16, some 17, some 18, some 19, some 20, some 21, some 22, some 23, some 24, some 25, some 26, some 27, some 28, some 29, some 30, some 31, some 0] r 7 = some true := by show (match r 19 with | .bool b => some b | _ => none) = some true; rw [h7]
      simp only [Region.wanted, hy, beq_self_eq_true, if_true]
      clear hs hq hf hy
      unfold gives
      have hz := HZ.out wx
      go_simp
      exact ⟨Below.refl _ _, rfl⟩
    -- operation 13: Op.call ( callee := Callee.value (func 29), args := #[const (Value.int IntKind.i64 256), tmp 23, tmp 24], argTypes := #[
    refine ⟨fun r wx hG hs hq hf => ?_, ?_⟩
    · have h11 : r 23 = .agg (bv (hb 1)).toArray := hf.1
      have h12 : r 24 = .agg (bv (hb 2)).toArray := hf.2.1
      have h7 : r 19 = .bool true := hf.2.2.1
      have hy : ydD [some 12, some 13, some 14, some 15, some 16, some 17, some 18, some 19, some 20, some 21, some 22, some 23, some 24, some 25, some 26, some 27, some 28, some 29, some 30, some 31, some 0] r 7 = some true := by show (match r 19 with | .bool b => some b | _ => none) = some true; rw [h7]
      simp only [Region.wanted, hy, beq_self_eq_true, if_true]
      clear hs hq hf hy
      unfold gives
      go_simp
      refine (HND.out wx hG).mono ?_
      rintro e wy ⟨rfl, hb1⟩
      exact ⟨_, rfl, hb1, rfl⟩
    -- operation 14: Op.binOp BinOp.eql 33 (tmp 22) (tmp 25) 33
    refine ⟨fun r wx hG hs hq hf => ?_, ?_⟩
    · have h10 : r 22 = .agg (bv nx).toArray := hf.1
      have h13 : r 25 = .agg (bv nx).toArray := hf.2.1
      have h7 : r 19 = .bool true := hf.2.2.1
      have hy : ydD [some 12, some 13, some 14, some 15, some 16, some 17, some 18, some 19, some 20, some 21, some 22, some 23, some 24, some 25, some 26, some 27, some 28, some 29, some 30, some 31, some 0] r 7 = some true := by show (match r 19 with | .bool b => some b | _ => none) = some true; rw [h7]
      simp only [Region.wanted, hy, beq_self_eq_true, if_true]
      clear hs hq hf hy
      unfold gives
      have hgd := eq_guard
      have he := HQ.out wx
      go_simp
      exact ⟨Below.refl _ _, rfl⟩
    -- operation 15: Op.pick (tmp 19) (tmp 26) (const (Value.bool false))
    refine ⟨fun r wx hG hs hq hf => ?_, ?_⟩
    · have h7 : r 19 = .bool true := hf.1
      have h14 : r 26 = .bool true := hf.2.1
      refine (if_pos rfl).symm ▸ ?_
      clear hs hq hf
      unfold gives
      go_simp
      exact ⟨Below.refl _ _, rfl⟩
    -- operation 16: Op.move (tmp 27)
    refine ⟨fun r wx hG hs hq hf => ?_, ?_⟩
    · have h15 : r 27 = .bool true := hf.1
      refine (if_pos rfl).symm ▸ ?_
      clear hs hq hf
      unfold gives
      go_simp
      exact ⟨Below.refl _ _, rfl⟩
    -- operation 17: Op.call ( callee := Callee.value (func 37), args := #[const (Value.int IntKind.u64 2), const (Value.int IntKind.u64 3)],
    refine ⟨fun r wx hG hs hq hf => ?_, ?_⟩
    · have h16 : r 28 = .bool true := hf.1
      have hy : ydD [some 12, some 13, some 14, some 15, some 16, some 17, some 18, some 19, some 20, some 21, some 22, some 23, some 24, some 25, some 26, some 27, some 28, some 29, some 30, some 31, some 0] r 16 = some true := by show (match r 28 with | .bool b => some b | _ => none) = some true; rw [h16]
      simp only [Region.wanted, hy, beq_self_eq_true, if_true]
      clear hs hq hf hy
      unfold gives
      go_simp
      refine (HSZ.out wx).mono ?_
      rintro e wy ⟨rfl, hb1⟩
      exact ⟨_, rfl, hb1, rfl⟩
    -- operation 18: Op.binOp BinOp.eql 3 (tmp 29) (const (Value.int IntKind.i64 1)) 3
    refine ⟨fun r wx hG hs hq hf => ?_, ?_⟩
    · have h17 : r 29 = .int .i64 1 := hf.1
      have h16 : r 28 = .bool true := hf.2.1
      have hy : ydD [some 12, some 13, some 14, some 15, some 16, some 17, some 18, some 19, some 20, some 21, some 22, some 23, some 24, some 25, some 26, some 27, some 28, some 29, some 30, some 31, some 0] r 16 = some true := by show (match r 28 with | .bool b => some b | _ => none) = some true; rw [h16]
      simp only [Region.wanted, hy, beq_self_eq_true, if_true]
      clear hs hq hf hy
      unfold gives
      go_simp
      exact ⟨Below.refl _ _, rfl⟩
    -- operation 19: Op.pick (tmp 28) (tmp 30) (const (Value.bool false))
    refine ⟨fun r wx hG hs hq hf => ?_, ?_⟩
    · have h16 : r 28 = .bool true := hf.1
      have h18 : r 30 = .bool true := hf.2.1
      refine (if_pos rfl).symm ▸ ?_
      clear hs hq hf
      unfold gives
      go_simp
      exact ⟨Below.refl _ _, rfl⟩
    -- operation 20: Op.assign (tmp 31)
    refine ⟨fun r wx hG hs hq hf => ?_, ?_⟩
    · have h19 : r 31 = .bool true := hf.1
      refine (if_pos rfl).symm ▸ ?_
      clear hs hq hf
      unfold gives
      go_simp
      exact ⟨Below.refl _ _, rfl⟩
    exact trivial
  case hend =>
    intro u wz hG hfin
    have z20 : u 20 = .bool true := hfin 20 (by decide) (by kernel_rfl)
    clear hfin
    simp only [fill]
    go_simp
    go_wp2_with fail
    go_ret
    exact ⟨rfl, H3.out.trans (hG.mono H3.out.size)⟩

set_option maxHeartbeats 4000000 in
theorem gProve_bad (W m n : Int) (a : Option Addr) (la c : Nat) (w : World) (hbad : m < 0 ∨ n < m ∨ (la : Int) < n) :
    Calls Tryd.prog 33 #[.int .i64 W, .slice a la c, .int .i64 m, .int .i64 n] w fun e w' => e = .returned (.tuple #[.slice none 0 0, .int .i64 9]) ∧ Below w.heap.size w w' := by
  go_enter Tryd.func33, Tryd.ntmps33
  by_cases h1 : m < 0
  · go_wp2_with fail
    go_ret2
    exact ⟨rfl, Below.refl _ _⟩
  by_cases h2 : n < m
  · go_wp2_with fail
    go_ret2
    exact ⟨rfl, Below.refl _ _⟩
  · have h3 : (la : Int) < n := by omega
    go_wp2_with fail
    go_ret2
    exact ⟨rfl, Below.refl _ _⟩
set_option maxHeartbeats 4000000 in
theorem gProve_zero (W n : Int) (a : Option Addr) (la c : Nat) (w : World) (h0 : 0 ≤ n) (h1 : n ≤ (la : Int)) :
    Calls Tryd.prog 33 #[.int .i64 W, .slice a la c, .int .i64 0, .int .i64 n] w fun e w' => e = .returned (.tuple #[.slice none 0 0, .int .i64 0]) ∧ Below w.heap.size w w' := by
  have y1 : ¬ n < 0 := by omega
  have y2 : ¬ (la : Int) < n := by omega
  go_enter Tryd.func33, Tryd.ntmps33
  go_wp2_with fail
  go_ret2
  exact ⟨rfl, Below.refl _ _⟩
end Go.Proofs.YtjlligpdkkfmaaaDoor
