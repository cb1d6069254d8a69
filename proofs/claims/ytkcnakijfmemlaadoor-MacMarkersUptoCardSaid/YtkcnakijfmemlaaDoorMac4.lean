/- mac.Mark; the laws' fixed answer. -/
import Derived.Test.YtkcnakijfmemlaaDoorMac3
namespace Go.Proofs.YtkcnakijfmemlaaDoor
open Go.RowKit Sha

def macB (key text : List UInt8) : List UInt8 := markB (pad64 (hkey key)) (kx (pad64 (hkey key)) 54 ++ text)
theorem macB_length (key text : List UInt8) : (macB key text).length = 32 := sum_length _

set_option maxHeartbeats 4000000 in
set_option maxRecDepth 100000 in
theorem macMark_any (key text : List UInt8) (v v1 : Value) (w : World) (hl : key.length ≤ 1152921504606846976) (hl1 : text.length ≤ 288230376151711744) (hr : Rd w 1 v key.length (bv key)) (hr1 : Rd w 1 v1 text.length (bv text)) (hG : Tabs w) :
    Calls Tryd.prog 25 #[v, v1] w fun e w' => e = .returned (.agg (bv (macB key text)).toArray) ∧ Below w.heap.size w w' := by
  have hz := (zero_of_info info32).1
  obtain ⟨k, hk⟩ : ∃ k, k = pad64 (hkey key) := ⟨_, rfl⟩
  have hkl : k.length = 64 := by rw [hk]; exact pad64_length _ (hkey_le key)
  have hN := fun w' hr' hG' => New_any key v w' hl hr' hG'
  rw [← hk] at hN
  have hW := fun w' hr' hG' => MWrite_any k [] text false v1 w' hkl (by simp; omega) hr' hG'
  rw [show bt k [] false = kx k 54 from rfl] at hW
  have hM := fun w' hG' => MMark_any k (kx k 54 ++ text) true w' hkl (by rw [List.length_append, kx_length, hkl]; omega) hG'
  rw [show bt k (kx k 54 ++ text) true = kx k 54 ++ text from rfl] at hM
  obtain ⟨o, ho⟩ : ∃ o, o = markB k (kx k 54 ++ text) := ⟨_, rfl⟩
  have hol : o.length = 32 := by rw [ho]; exact sum_length _
  have hmac : o = macB key text := by rw [ho, hk]; rfl
  rw [← ho] at hM
  generalize (mkL k [] false).toArray = A0 at *
  generalize (mkL k (kx k 54 ++ text) true).toArray = A1 at *
  have HX := Lib.hid (And.intro hr (And.intro hr1 (And.intro hol hmac)))
  have HN := Lib.hid hN
  have HW := Lib.hid hW
  have HM := Lib.hid hM
  clear hr hr1 hol hmac hk ho hN hW hM
  go_enter Tryd.func25, Tryd.ntmps25
  go_wp2_with fail
  have hb0 : Below w.heap.size w (w.alloc (.cells (bv (zs 32)).toArray 25)) := (Below.refl _ _).alloc (Nat.le_refl _) _
  refine (HN.out _ (HX.out.1.keep hb0) (hG.keepB hb0)).mono ?_
  rintro e w1 ⟨rfl, hb1⟩
  have hs1 : w1.heap[w.heap.size]? = some (.cells (bv (zs 32)).toArray 25 (0, 0)) := (hb1.block _ (by simp)).trans (heap_alloc_new _ _)
  have hbw1 := hb0.trans (hb1.mono (by simp))
  clear hb0 hb1
  go_wp2_with fail
  refine (HW.out _ (HX.out.2.1.keep hbw1) (hG.keepB hbw1)).mono ?_
  rintro e w2 ⟨rfl, hb2⟩
  have hs2 := (hb2.block _ (Array.getElem?_eq_some_iff.1 hs1).1).trans hs1
  have hbw2 := hbw1.trans (hb2.mono hbw1.size)
  clear hb2 hs1 hbw1
  go_wp2_with fail
  refine (HM.out _ (hG.keepB hbw2)).mono ?_
  rintro e w3 ⟨rfl, hb3⟩
  have hs3 := (hb3.block _ (Array.getElem?_eq_some_iff.1 hs2).1).trans hs2
  have hbw3 := hbw2.trans (hb3.mono hbw2.size)
  have H3 := Lib.hid (And.intro hs3 hbw3)
  clear hb3 hs2 hbw2 hs3 hbw3
  go_wp2_with (with_reducible show wpList _ _ _ (⟨none, Op.store _ _ _, _, _, _, _⟩ :: _) _ _; refine wpList_store_whole rfl _ _ _ rfl w.heap.size (bv o) rfl rfl (bv (zs 32)) _ H3.out.1 (hInfo' _ HX.out.2.2.1) (by rw [bv_length, bv_length, HX.out.2.2.1]; simp [zs]) (bv_one _) ?_; intro w9 HG9 hg9)
  refine bodyPost_ret (v := .agg (bv o).toArray) ?_ ?_ ?_
  · exact results_cell_row Tryd.results25 _ _ w.heap.size 25 _ (0, 0) _ rfl HG9.out Tryd.underlying25 rfl (hInfo _ HX.out.2.2.1)
  · rfl
  · exact ⟨by rw [HX.out.2.2.2], below_grow H3.out.2 hg9 (Nat.le_refl _) (Array.getElem?_eq_some_iff.1 H3.out.1).1⟩

/-- The hash, for evaluation. -/
def hsF (l : List UInt8) : Nat → W8
  | 0 => begin0
  | k + 1 => (hsF l k).add (Sha.fast 64 (words ((l.drop (64 * k)).take 64)) (hsF l k) 0)
theorem hs_fast (l : List UInt8) : ∀ k, hs l k = hsF l k
  | 0 => rfl
  | k + 1 => by rw [hs, hsF, blk_fast, hs_fast l k]
theorem sum_fast (l : List UInt8) : Sha.sum l = outB (hsF (pad l) ((pad l).length / 64)) := by rw [Sha.sum, hs_fast]
set_option maxRecDepth 100000 in
theorem quick_in : Sha.sum (kx (pad64 [107, 101, 121]) 54 ++ [84, 104, 101, 32, 113, 117, 105, 99, 107, 32, 98, 114, 111, 119, 110, 32, 102, 111, 120, 32, 106, 117, 109, 112, 115, 32, 111, 118, 101, 114, 32, 116, 104, 101, 32, 108, 97, 122, 121, 32, 100, 111, 103]) = [122, 208, 78, 90, 161, 158, 238, 114, 24, 44, 154, 117, 172, 113, 186, 19, 131, 60, 83, 252, 77, 200, 200, 21, 206, 183, 148, 109, 86, 46, 54, 49] := by
  rw [sum_fast]; kernel_rfl
set_option maxRecDepth 100000 in
theorem quick_out : Sha.sum (kx (pad64 [107, 101, 121]) 92 ++ [122, 208, 78, 90, 161, 158, 238, 114, 24, 44, 154, 117, 172, 113, 186, 19, 131, 60, 83, 252, 77, 200, 200, 21, 206, 183, 148, 109, 86, 46, 54, 49]) = [247, 188, 131, 244, 48, 83, 132, 36, 177, 50, 152, 230, 170, 111, 177, 67, 239, 77, 89, 161, 73, 70, 23, 89, 151, 71, 157, 188, 45, 26, 60, 216] := by
  rw [sum_fast]; kernel_rfl
theorem mac_quick : macB [107, 101, 121] [84, 104, 101, 32, 113, 117, 105, 99, 107, 32, 98, 114, 111, 119, 110, 32, 102, 111, 120, 32, 106, 117, 109, 112, 115, 32, 111, 118, 101, 114, 32, 116, 104, 101, 32, 108, 97, 122, 121, 32, 100, 111, 103] = [247, 188, 131, 244, 48, 83, 132, 36, 177, 50, 152, 230, 170, 111, 177, 67, 239, 77, 89, 161, 73, 70, 23, 89, 151, 71, 157, 188, 45, 26, 60, 216] := by
  have h : hkey [107, 101, 121] = [107, 101, 121] := rfl
  rw [macB, h, markB, quick_in, quick_out]
end Go.Proofs.YtkcnakijfmemlaaDoor
