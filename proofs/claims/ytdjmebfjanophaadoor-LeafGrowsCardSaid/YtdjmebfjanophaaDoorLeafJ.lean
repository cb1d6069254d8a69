/- Contract of leaf.Leaf. -/
import Derived.Test.YtdjmebfjanophaaDoorLeaf
namespace Go.Proofs.YtdjmebfjanophaaDoor
open Go.RowKit Sha

set_option maxHeartbeats 4000000 in
set_option maxRecDepth 100000 in
theorem Leaf_any (n : Int) (t : List UInt8) (v : Value) (w : World) (hn : -9223372036854775808 ≤ n ∧ n ≤ 9223372036854775807) (hl : t.length ≤ 140737488355000) (hr : Rd w 1 v t.length (bv t)) (hG : Tabs w) :
    Calls Tryd.prog 46 #[.int .i64 n, v] w fun e w' => e = .returned (.agg (bv (leafH n t)).toArray) ∧ Below w.heap.size w w' := by
  have hz := (zero_of_info info32).1
  have hol : (leafH n t).length = 32 := leafH_length n t
  obtain ⟨a, c, rfl⟩ := hr.form
  have hzs := (zero_of_info infoSt).1
  have H0 := Lib.hid (fun (v' : Value) w' (h1 : Rd w' 1 v' 1 (bv [0])) (hb : Below w.heap.size w w') => Write_any [] [0] v' w' (by simp) h1 (hG.keepB hb))
  have H1 := Lib.hid (fun w' (hb : Below w.heap.size w w') => Write_any [0] t _ w' (by simp; omega) (hr.keep hb) (hG.keepB hb))
  have H2 := Lib.hid (fun w' (hb : Below w.heap.size w w') => StSum_any ([0] ++ t) w' (by simp; omega) (hG.keepB hb))
  have H3 := Lib.hid (fun w' => Narrow_any (Sha.sum ([0] ++ t)) n w' (sum_length _) hn)
  rw [← stv_nil, List.nil_append] at H0
  rw [show nar (Sha.sum ([0] ++ t)) (clip n) = leafH n t from rfl] at H3
  generalize leafH n t = out at *
  generalize Sha.sum ([0] ++ t) = s0 at *
  generalize stv ([0] ++ t) = s1 at *
  generalize stv [0] = s2 at *
  clear hr
  go_enter Tryd.func46, Tryd.ntmps46
  go_upto_region 1 with fail
  obtain ⟨w0, hw0⟩ : ∃ x : World, x = w.alloc (.cells (bv (zs 32)).toArray 33) := ⟨_, rfl⟩
  have hres0 : w0.heap[w.heap.size]? = some (.cells (bv (zs 32)).toArray 33 (0, 0)) := by rw [hw0]; exact heap_alloc_new _ _
  have hbw0 : Below w.heap.size w w0 := by rw [hw0]; exact (Below.refl _ _).alloc (Nat.le_refl _) _
  rw [← hw0]
  clear hw0
  have k0 : Below w.heap.size w (w0.alloc (.cells #[.int .u8 0] 5)) := hbw0.alloc hbw0.size _
  have K0 := Lib.hid k0
  clear k0
  have HX0 := Lib.hid (And.intro hres0 hbw0)
  clear hres0 hbw0
  go_wp2_with fail
  have hres0 := HX0.out.1
  have hbw0 := HX0.out.2
  clear hbw0 hres0; have hres0 : (w0.alloc (.cells #[.int .u8 0] 5)).heap[w.heap.size]? = some (.cells (bv (zs 32)).toArray 33 (0, 0)) := (heap_alloc_old _ _ (Array.getElem?_eq_some_iff.1 HX0.out.1).1).trans HX0.out.1; have hbw0 := K0.out; refine (H0.out _ _ (Rd.one w0 (.int .u8 0) 5 rfl) K0.out).mono ?_
  rintro e w1 ⟨rfl, hb1⟩
  have hres1 : w1.heap[w.heap.size]? = some (.cells (bv (zs 32)).toArray 33 (0, 0)) := (hb1.block _ (Array.getElem?_eq_some_iff.1 hres0).1).trans hres0
  have hbw1 := hbw0.trans (hb1.mono hbw0.size)
  clear hb1 hres0 hbw0 HX0
  have HX1 := Lib.hid (And.intro hres1 hbw1)
  clear hres1 hbw1
  go_wp2_with fail
  have hres1 := HX1.out.1
  have hbw1 := HX1.out.2
  refine (H1.out _ hbw1).mono ?_
  rintro e w2 ⟨rfl, hb2⟩
  have hres2 : w2.heap[w.heap.size]? = some (.cells (bv (zs 32)).toArray 33 (0, 0)) := (hb2.block _ (Array.getElem?_eq_some_iff.1 hres1).1).trans hres1
  have hbw2 := hbw1.trans (hb2.mono hbw1.size)
  clear hb2 hres1 hbw1 HX1
  have HX2 := Lib.hid (And.intro hres2 hbw2)
  clear hres2 hbw2
  go_wp2_with fail
  have hres2 := HX2.out.1
  have hbw2 := HX2.out.2
  refine (H2.out _ hbw2).mono ?_
  rintro e w3 ⟨rfl, hb3⟩
  have hres3 : w3.heap[w.heap.size]? = some (.cells (bv (zs 32)).toArray 33 (0, 0)) := (hb3.block _ (Array.getElem?_eq_some_iff.1 hres2).1).trans hres2
  have hbw3 := hbw2.trans (hb3.mono hbw2.size)
  clear hb3 hres2 hbw2 HX2
  have HX3 := Lib.hid (And.intro hres3 hbw3)
  clear hres3 hbw3
  go_wp2_with fail
  have hres3 := HX3.out.1
  have hbw3 := HX3.out.2
  refine (H3.out _).mono ?_
  rintro e w4 ⟨rfl, hb4⟩
  have hres4 : w4.heap[w.heap.size]? = some (.cells (bv (zs 32)).toArray 33 (0, 0)) := (hb4.block _ (Array.getElem?_eq_some_iff.1 hres3).1).trans hres3
  have hbw4 := hbw3.trans (hb4.mono hbw3.size)
  clear hb4 hres3 hbw3 HX3
  have HX := Lib.hid (And.intro hres4 (And.intro hbw4 hol))
  clear hres4 hbw4 hol
  go_wp2_with (with_reducible show wpList _ _ _ (⟨none, Op.store _ _ _, _, _, _, _⟩ :: _) _ _; refine wpList_store_whole rfl _ _ _ rfl w.heap.size _ rfl rfl _ _ HX.out.1 (hInfo' _ HX.out.2.2) (by rw [bv_length, bv_length, HX.out.2.2]; simp [zs]) (bv_one _) ?_; intro w9 HG9 hg9)
  refine bodyPost_ret (v := .agg (bv out).toArray) ?_ ?_ ?_
  · exact results_cell_row Tryd.results46 _ _ w.heap.size 33 _ (0, 0) _ rfl HG9.out Tryd.underlying33 rfl (hInfo _ HX.out.2.2)
  · rfl
  · exact ⟨rfl, below_grow HX.out.2.1 hg9 (Nat.le_refl _) (Array.getElem?_eq_some_iff.1 HX.out.1).1⟩
end Go.Proofs.YtdjmebfjanophaaDoor
