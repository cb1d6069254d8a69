/- The laws of leaves: what is awake; LeafHashes. -/
import Derived.Test.YtdjmebfjanophaaDoorLeafJ
namespace Go.Proofs.YtdjmebfjanophaaDoor
open Go.RowKit Sha

theorem n256 : -9223372036854775808 ≤ (256 : Int) ∧ (256 : Int) ≤ 9223372036854775807 := by omega
theorem n8 : -9223372036854775808 ≤ (8 : Int) ∧ (8 : Int) ≤ 9223372036854775807 := by omega
set_option maxHeartbeats 4000000 in
set_option maxRecDepth 100000 in
theorem awake14_any (w : World) (hG : Tabs w) :
    Calls Tryd.prog 19 #[] w fun e w' => e = .returned (.bool true) ∧ Below w.heap.size w w' := by
  have hz := (zero_of_info info32).1
  go_enter Tryd.func19, Tryd.ntmps19
  go_wp2_with fail
  refine (Leaf_any 256 [] (.slice none 0 0) w n256 (by simp) (Rd.nil _ _) hG).mono ?_
  rintro e w1 ⟨rfl, hb1⟩
  have h0 := zero_bytes
  rw [show Sha.sum [0] = leafH 256 [] from (wide [0]).symm] at h0
  have hol := leafH_length 256 []
  generalize leafH 256 [] = out at *
  have hN := fun w' (hb : Below w.heap.size w w') => Node_any 8 out out w' hol hol n8 (hG.keepB hb)
  have hE := fun w' (hb : Below w.heap.size w w') => Empty_any 256 w' n256 (hG.keepB hb)
  have hn1 : (bv (nodeH 8 out out)).toArray[1]? = some (.int .u8 0) ∧ (bv (nodeH 8 out out)).toArray.size = 32 := by
    refine ⟨?_, by simp [bv_length, nodeH_length]⟩
    rw [List.getElem?_toArray, bv, List.getElem?_map, show (nodeH 8 out out)[1]? = some 0 from narrow_at _]; rfl
  have he1 : (bv (emptyH 256)).toArray[0]? = some (.int .u8 227) ∧ (bv (emptyH 256)).toArray.size = 32 := by
    refine ⟨?_, by simp [bv_length, emptyH_length]⟩
    rw [List.getElem?_toArray, bv, List.getElem?_map, show (emptyH 256)[0]? = some 227 by rw [show emptyH 256 = Sha.sum [] from wide []]; exact nil_bytes]; rfl
  have HN := Lib.hid (And.intro hN hn1)
  have HE := Lib.hid (And.intro hE he1)
  have HA := Lib.hid (And.intro hb1 (And.intro h0 hol))
  clear hN hn1 hE he1 hb1 h0 hol
  go_upto_region 2 with (with_reducible show wpList _ _ _ (⟨none, Op.store _ _ _, _, _, _, _⟩ :: _) _ _; go_loud (refine wpList_store_whole rfl _ _ _ rfl w1.heap.size (bv out) rfl rfl (bv (zs 32)) _ (heap_alloc_new _ _) (hInfo' _ HA.out.2.2) (by rw [bv_length, bv_length, HA.out.2.2]; simp [zs]) (bv_one _) ?_; intro w3 HG3 hg3))
  have hb3 : Below w.heap.size w w3 := below_grow (HA.out.1.alloc HA.out.1.size _) hg3 HA.out.1.size (by simp)
  have hrow := HG3.out
  have hc (j : Nat) (x : UInt8) (hx : out[j]? = some x) : w3.cell? ⟨w1.heap.size, j, none⟩ = some (.int .u8 x.toNat) := by
    rw [cell_of_row _ _ _ _ _ _ hrow, List.getElem?_toArray]; simp [bv, hx]
  have hc0 : w3.cell? ⟨w1.heap.size, 0, none⟩ = some (.int .u8 110) := hc 0 _ HA.out.2.1.1
  have hc1 : w3.cell? ⟨w1.heap.size, 1, none⟩ = some (.int .u8 52) := hc 1 _ HA.out.2.1.2
  have H3 := Lib.hid (And.intro hrow hb3)
  clear hc hrow hb3 HG3 hg3
  go_wp2_with fail
  refine (HE.out.1 _ H3.out.2).mono ?_
  rintro e w4 ⟨rfl, hb4⟩
  have he1 := HE.out.2.1
  have he2 := HE.out.2.2
  generalize (bv (emptyH 256)).toArray = A at *
  have hix : (Instr.index 33 (.agg A) (.int .i64 0)).run Tryd.prog w4 = .ok _ w4 := run_index_at A _ 0 w4 (by omega) he1 he2
  have hrow4 := (hb4.block _ (Array.getElem?_eq_some_iff.1 H3.out.1).1).trans H3.out.1
  have H4 := Lib.hid (And.intro hrow4 (H3.out.2.trans (hb4.mono H3.out.2.size)))
  clear hrow4 hb4 he1 he2
  go_wp2_with (first
    | (with_reducible show wpList _ _ _ (⟨some 17, _, _, _, _, _⟩ :: _) _ _; refine wpList_guard rfl ?_; refine wpList_load_row rfl _ _ rfl w1.heap.size rfl _ _ (0, 0) _ H4.out.1 Tryd.underlying33 rfl (hInfo _ HA.out.2.2) ?_)
    | (with_reducible show wpList _ _ _ (⟨some 18, _, _, _, _, _⟩ :: _) _ _; refine wpList_guard rfl ?_; refine wpList_load_row rfl _ _ rfl w1.heap.size rfl _ _ (0, 0) _ H4.out.1 Tryd.underlying33 rfl (hInfo _ HA.out.2.2) ?_))
  refine (HN.out.1 _ H4.out.2).mono ?_
  rintro e w5 ⟨rfl, hb5⟩
  have hn1 := HN.out.2.1
  have hn2 := HN.out.2.2
  generalize (bv (nodeH 8 out out)).toArray = A2 at *
  have H5 := Lib.hid (H4.out.2.trans (hb5.mono H4.out.2.size))
  have hix2 : (Instr.index 33 (.agg A2) (.int .i64 1)).run Tryd.prog w5 = .ok _ w5 := run_index_at A2 _ 1 w5 (by omega) hn1 hn2
  clear hix hb5
  go_wp2_with fail
  go_ret
  exact ⟨rfl, H5.out⟩
end Go.Proofs.YtdjmebfjanophaaDoor
