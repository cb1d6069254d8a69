/- awake of law26. (printed by gen/hdg.py) -/
import Derived.Test.YtgimblpdmlnfeaaDoorHdH
namespace Go.Proofs.YtgimblpdmlnfeaaDoor
open Go.RowKit Sha

set_option maxRecDepth 100000 in
theorem hk_1 : Sha.sum (kx (pad64 [107]) 54 ++ [110, 111, 100, 101, 1, 3]) = [25, 29, 180, 159, 183, 96, 12, 19, 106, 197, 61, 206, 78, 135, 173, 53, 177, 140, 30, 240, 65, 58, 138, 154, 4, 77, 213, 21, 99, 68, 216, 171] := by
  rw [sum_fast]; kernel_rfl
set_option maxRecDepth 100000 in
theorem hk_2 : Sha.sum (kx (pad64 [107]) 92 ++ [25, 29, 180, 159, 183, 96, 12, 19, 106, 197, 61, 206, 78, 135, 173, 53, 177, 140, 30, 240, 65, 58, 138, 154, 4, 77, 213, 21, 99, 68, 216, 171]) = [84, 121, 226, 250, 33, 181, 136, 201, 41, 4, 50, 51, 82, 214, 35, 205, 232, 215, 90, 162, 13, 38, 55, 166, 121, 186, 157, 144, 134, 47, 26, 155] := by
  rw [sum_fast]; kernel_rfl
set_option maxRecDepth 100000 in
theorem hk_3 : Sha.sum (kx (pad64 [84, 121, 226, 250, 33, 181, 136, 201, 41, 4, 50, 51, 82, 214, 35, 205, 232, 215, 90, 162, 13, 38, 55, 166, 121, 186, 157, 144, 134, 47, 26, 155]) 54 ++ [104, 101, 97, 100, 1, 3, 0, 227, 176, 196, 66, 152, 252, 28, 20, 154, 251, 244, 200, 153, 111, 185, 36, 39, 174, 65, 228, 100, 155, 147, 76, 164, 149, 153, 27, 120, 82, 184, 85]) = [212, 230, 145, 8, 6, 254, 103, 70, 125, 179, 210, 223, 14, 148, 253, 182, 121, 61, 191, 205, 31, 20, 141, 196, 127, 146, 33, 17, 103, 74, 91, 109] := by
  rw [sum_fast]; kernel_rfl
set_option maxRecDepth 100000 in
theorem hk_4 : Sha.sum (kx (pad64 [84, 121, 226, 250, 33, 181, 136, 201, 41, 4, 50, 51, 82, 214, 35, 205, 232, 215, 90, 162, 13, 38, 55, 166, 121, 186, 157, 144, 134, 47, 26, 155]) 92 ++ [212, 230, 145, 8, 6, 254, 103, 70, 125, 179, 210, 223, 14, 148, 253, 182, 121, 61, 191, 205, 31, 20, 141, 196, 127, 146, 33, 17, 103, 74, 91, 109]) = [166, 71, 83, 208, 152, 22, 144, 140, 82, 175, 218, 253, 73, 170, 34, 131, 253, 62, 15, 123, 18, 24, 190, 214, 148, 174, 38, 233, 140, 207, 128, 95] := by
  rw [sum_fast]; kernel_rfl
set_option maxRecDepth 100000 in
theorem hk_e : emptyH 256 = [227, 176, 196, 66, 152, 252, 28, 20, 154, 251, 244, 200, 153, 111, 185, 36, 39, 174, 65, 228, 100, 155, 147, 76, 164, 149, 153, 27, 120, 82, 184, 85] := by
  have h : Sha.sum [] = [227, 176, 196, 66, 152, 252, 28, 20, 154, 251, 244, 200, 153, 111, 185, 36, 39, 174, 65, 228, 100, 155, 147, 76, 164, 149, 153, 27, 120, 82, 184, 85] := by rw [sum_fast]; kernel_rfl
  have h2 : nar [227, 176, 196, 66, 152, 252, 28, 20, 154, 251, 244, 200, 153, 111, 185, 36, 39, 174, 65, 228, 100, 155, 147, 76, 164, 149, 153, 27, 120, 82, 184, 85] (clip 256) = [227, 176, 196, 66, 152, 252, 28, 20, 154, 251, 244, 200, 153, 111, 185, 36, 39, 174, 65, 228, 100, 155, 147, 76, 164, 149, 153, 27, 120, 82, 184, 85] := by decide
  rw [emptyH, hw, h]; exact h2
theorem hk_node : nodeT 3 = [110, 111, 100, 101, 1, 3] := by kernel_rfl
theorem hk_body : headW ++ bodyB 3 0 [227, 176, 196, 66, 152, 252, 28, 20, 154, 251, 244, 200, 153, 111, 185, 36, 39, 174, 65, 228, 100, 155, 147, 76, 164, 149, 153, 27, 120, 82, 184, 85] = [104, 101, 97, 100, 1, 3, 0, 227, 176, 196, 66, 152, 252, 28, 20, 154, 251, 244, 200, 153, 111, 185, 36, 39, 174, 65, 228, 100, 155, 147, 76, 164, 149, 153, 27, 120, 82, 184, 85] := by kernel_rfl
theorem hk_dk : macB [107] (nodeT 3) = [84, 121, 226, 250, 33, 181, 136, 201, 41, 4, 50, 51, 82, 214, 35, 205, 232, 215, 90, 162, 13, 38, 55, 166, 121, 186, 157, 144, 134, 47, 26, 155] := by
  have h : hkey [107] = [107] := rfl
  rw [hk_node, macB, h, markB, hk_1, hk_2]
theorem hk_sg : signB [107] 3 0 [227, 176, 196, 66, 152, 252, 28, 20, 154, 251, 244, 200, 153, 111, 185, 36, 39, 174, 65, 228, 100, 155, 147, 76, 164, 149, 153, 27, 120, 82, 184, 85] = [166, 71, 83, 208, 152, 22, 144, 140, 82, 175, 218, 253, 73, 170, 34, 131, 253, 62, 15, 123, 18, 24, 190, 214, 148, 174, 38, 233, 140, 207, 128, 95] := by
  have h : hkey [84, 121, 226, 250, 33, 181, 136, 201, 41, 4, 50, 51, 82, 214, 35, 205, 232, 215, 90, 162, 13, 38, 55, 166, 121, 186, 157, 144, 134, 47, 26, 155] = [84, 121, 226, 250, 33, 181, 136, 201, 41, 4, 50, 51, 82, 214, 35, 205, 232, 215, 90, 162, 13, 38, 55, 166, 121, 186, 157, 144, 134, 47, 26, 155] := rfl
  rw [signB, hk_dk, hk_body, macB, h, markB, hk_3, hk_4]
set_option maxHeartbeats 4000000 in
set_option maxRecDepth 100000 in
theorem awake26_any (w : World) (hG : Tabs w) : Calls Tryd.prog 17 #[] w fun e w' => e = .returned (.bool true) ∧ Below w.heap.size w w' := by
  have hz := (zero_of_info info32).1
  have hzd := (zero_of_info infoHead).1
  have hEl : ([227, 176, 196, 66, 152, 252, 28, 20, 154, 251, 244, 200, 153, 111, 185, 36, 39, 174, 65, 228, 100, 155, 147, 76, 164, 149, 153, 27, 120, 82, 184, 85] : List UInt8).length = 32 := rfl
  have hSl : ([166, 71, 83, 208, 152, 22, 144, 140, 82, 175, 218, 253, 73, 170, 34, 131, 253, 62, 15, 123, 18, 24, 190, 214, 148, 174, 38, 233, 140, 207, 128, 95] : List UInt8).length = 32 := rfl
  have hne : (([166, 71, 83, 208, 152, 22, 144, 140, 82, 175, 218, 253, 73, 170, 34, 131, 253, 62, 15, 123, 18, 24, 190, 214, 148, 174, 38, 233, 140, 207, 128, 95] : List UInt8) == zs 32) = false := by decide
  have hsg := hk_sg
  have he := hk_e
  generalize ([227, 176, 196, 66, 152, 252, 28, 20, 154, 251, 244, 200, 153, 111, 185, 36, 39, 174, 65, 228, 100, 155, 147, 76, 164, 149, 153, 27, 120, 82, 184, 85] : List UInt8) = E at *
  generalize ([166, 71, 83, 208, 152, 22, 144, 140, 82, 175, 218, 253, 73, 170, 34, 131, 253, 62, 15, 123, 18, 24, 190, 214, 148, 174, 38, 233, 140, 207, 128, 95] : List UInt8) = S at *
  obtain ⟨Z0, hZ0⟩ : ∃ A, A = (hdL 0 0 (zs 32) (zs 32)).toArray := ⟨_, rfl⟩
  rw [← hZ0] at hzd
  have HZ0 := Lib.hid hZ0
  have kc := Lib.run_convert_bytes_const (P := Tryd.prog) w 25 5 #[Value.int .u8 107] 1 1 Tryd.underlying25 Tryd.underlying5
  have HS := Lib.hid (And.intro hEl (And.intro hSl (And.intro hne (And.intro hsg he))))
  clear hEl hSl hne hsg he hZ0
  go_enter Tryd.func17, Tryd.ntmps17
  go_wp2_with fail
  clear kc
  obtain ⟨w1, hw1⟩ : ∃ x : World, x = w.alloc (.cells #[Value.int .u8 107] 5 (1, 2)) := ⟨_, rfl⟩
  rw [← hw1]
  have hr1 : Rd w1 1 (.slice (some ⟨w.heap.size, 0, none⟩) 1 1) 1 (bv [107]) := by rw [hw1]; exact Rd.marked w 5 [107] (1, 2)
  have hb1 : Below w.heap.size w w1 := by rw [hw1]; exact (Below.refl _ _).alloc (Nat.le_refl _) _
  clear hw1
  refine (Empty_any 256 w1 (by omega) (hG.keepB hb1)).mono ?_
  rintro e w2 ⟨rfl, hb2⟩
  rw [HS.out.2.2.2.2]
  have hr2 := hr1.keep hb2
  have hbw2 := hb1.trans (hb2.mono hb1.size)
  have H2 := Lib.hid (And.intro hr2 hbw2)
  clear hr1 hb1 hb2 hr2 hbw2
  go_wp2_with fail
  refine (Sign_any [107] 3 0 E _ w2 (by simp) (by omega) (by omega) HS.out.1 H2.out.1 (hG.keepB H2.out.2)).mono ?_
  rintro e w3 ⟨rfl, hb3⟩
  rw [HS.out.2.2.2.1]
  have hbw3 := H2.out.2.trans (hb3.mono H2.out.2.size)
  have H3 := Lib.hid hbw3
  clear hb3 hbw3 H2
  go_upto_region 2 with (with_reducible show wpList _ _ _ (⟨none, Op.store _ _ _, _, _, _, _⟩ :: _) _ _; go_loud (refine wpList_store_whole rfl _ _ _ rfl w3.heap.size (hdL 3 0 E S) rfl rfl (hdL 0 0 (zs 32) (zs 32)) _ (by rw [← HZ0.out]; exact heap_alloc_new _ _) (hdInfo' _ _ _ _ HS.out.1 HS.out.2.1) (by rw [hdL_length _ _ _ _ HS.out.1 HS.out.2.1, hdL_length _ _ _ _ (by simp [zs]) (by simp [zs])]) (hdL_one _ _ _ _) ?_); intro w4 HG4 hg4)
  have hb4 : Below w.heap.size w w4 := below_grow (H3.out.alloc H3.out.size _) hg4 H3.out.size (by simp)
  have hrow := HG4.out
  have c0 := hd_cell0 hrow
  have c1 : Hid (w4.rangeAt w3.heap.size 34 (bv S)) := Lib.hid (hd_rng3 HS.out.1 hrow)
  obtain ⟨gh, hgh⟩ : ∃ g, g = w3.heap.size := ⟨_, rfl⟩
  rw [← hgh] at c0 c1 hrow ⊢
  have H4 := Lib.hid (And.intro hb4 hrow)
  clear hb4 hrow hgh hg4 HG4 H3
  have hqe := eqIn_hash S (zs 32) HS.out.2.1 (by simp [zs]) w4
  rw [HS.out.2.2.1] at hqe
  have hgd := eq_guard
  have kc := Lib.run_convert_bytes_const (P := Tryd.prog) w4 25 5 #[Value.int .u8 107] 1 1 Tryd.underlying25 Tryd.underlying5
  have hrb := run_build (P := Tryd.prog) w4 35 #[] (bv (zs 32)).toArray (by kernel_rfl)
  go_wp2_with (first
    | (with_reducible show wpList _ _ _ (⟨some 11, _, _, _, _, _⟩ :: _) _ _; refine wpList_guard rfl ?_; refine wpList_load_mid rfl _ _ rfl gh 34 rfl (bv S) _ c1.out Tryd.underlying35 rfl (hInfo' _ HS.out.2.1) ?_; refine wpList_guard rfl ?_; refine wpList_build_at rfl _ _ rfl (bv (zs 32)).toArray (by with_unfolding_all kernel_rfl) ?_)
    | (with_reducible show wpList _ _ _ (⟨some 18, _, _, _, _, _⟩ :: _) _ _; refine wpList_guard rfl ?_; refine wpList_load_row rfl _ _ rfl gh rfl _ _ (0, 0) _ (by first | exact H4.out.2 | exact (heap_alloc_old _ _ (Array.getElem?_eq_some_iff.1 H4.out.2).1).trans H4.out.2) Tryd.underlying37 rfl (hdInfo _ _ _ _ HS.out.1 HS.out.2.1) ?_))
  clear hrb kc hgd hqe
  have hr5 := Rd.marked w4 5 [107] (1, 2)
  have hb5 := H4.out.1.alloc H4.out.1.size (.cells #[Value.int .u8 107] 5 (1, 2))
  refine (HCheck_any [107] 3 0 E S _ _ (by simp) (by omega) (by omega) HS.out.1 HS.out.2.1 hr5 (hG.keepB hb5)).mono ?_
  rintro e w5 ⟨rfl, hb⟩
  rw [HS.out.2.2.2.1, show (S == S) = true by simp]
  have HF := Lib.hid (hb5.trans (hb.mono hb5.size))
  clear hb hb5 hr5
  go_wp2_with fail
  go_ret
  exact ⟨rfl, HF.out⟩
end Go.Proofs.YtgimblpdmlnfeaaDoor
