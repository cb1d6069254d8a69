/- Contracts of the reference's Leaf. -/
import Derived.Test.YtfibhmgjkooemaaDoorLeafJ
namespace Go.Proofs.YtfibhmgjkooemaaDoor
open Go.RowKit Sha

set_option maxHeartbeats 4000000 in
theorem refLeafText_any (t : List UInt8) (v : Value) (w : World) (hl : t.length ≤ 140737488355000) (hr : Rd w 1 v t.length (bv t)) :
    Calls Tryd.prog 50 #[v] w fun e w' => ∃ v', e = .returned v' ∧ Rd w' 1 v' (0 :: t).length (bv (0 :: t)) ∧ Below w.heap.size w w' := by
  obtain ⟨a, c, rfl⟩ := hr.form
  have HR := Lib.hid hr
  clear hr
  go_enter Tryd.func50, Tryd.ntmps50
  have hown0 := own_new w 5 1 1 w.heap.size [.int .u8 0] rfl (by omega) (Nat.le_refl _)
  have hra := HR.out.alloc (.cells #[.int .u8 0] 5)
  go_wp2_with (at_builtin; go_loud (refine wpList_app Tryd.underlying25 infoU8w rfl (by decide) rfl _ _ rfl rfl rfl hown0 hra (by omega) (by omega) (by simp) ?_))
  intro v2 w2 ho hg _
  have hb2 : Below w.heap.size w w2 := ((Below.refl _ _).alloc (Nat.le_refl _) _).trans (hg.below (by simp) (own_block hown0))
  have hr2 := own_rd ho (fun u hu => (List.mem_cons.1 hu).elim (fun h => h ▸ rfl) (fun h => bv_one _ _ h))
  obtain ⟨a2, c2, rfl⟩ := own_form ho
  have HR2 := Lib.hid hr2
  clear hown0 hra ho hg hr2
  go_wp2_with fail
  go_ret
  refine ⟨_, rfl, ?_, hb2⟩
  have := HR2.out
  rw [show t.length + 1 = 1 + t.length by omega]
  exact this

set_option maxHeartbeats 4000000 in
set_option maxRecDepth 100000 in
theorem refLeaf_any (n : Int) (t : List UInt8) (v : Value) (w : World) (hn : -9223372036854775808 ≤ n ∧ n ≤ 9223372036854775807) (hl : t.length ≤ 140737488354000) (hr : Rd w 1 v t.length (bv t)) (hG : TabsR w) :
    Calls Tryd.prog 48 #[.int .i64 n, v] w fun e w' => e = .returned (.agg (bv (leafH n t)).toArray) ∧ Below w.heap.size w w' := by
  have hz := (zero_of_info info32).1
  have hol : (leafH n t).length = 32 := leafH_length n t
  obtain ⟨a, c, rfl⟩ := hr.form
  have H0 := Lib.hid (fun w' (hb : Below w.heap.size w w') => refLeafText_any t _ w' (by omega) (hr.keep hb))
  have H1 := Lib.hid (fun (v' : Value) w' (h1 : Rd w' 1 v' (0 :: t).length (bv (0 :: t))) (hb : Below w.heap.size w w') => refHash_any n (0 :: t) v' w' hn (by simp; omega) h1 (hG.keepB hb))
  rw [show hw n (0 :: t) = leafH n t from rfl] at H1
  generalize leafH n t = out at *
  clear hr
  go_enter Tryd.func48, Tryd.ntmps48
  go_upto_region 1 with fail
  obtain ⟨w0, hw0⟩ : ∃ x : World, x = w.alloc (.cells (bv (zs 32)).toArray 35) := ⟨_, rfl⟩
  have hres0 : w0.heap[w.heap.size]? = some (.cells (bv (zs 32)).toArray 35 (0, 0)) := by rw [hw0]; exact heap_alloc_new _ _
  have hbw0 : Below w.heap.size w w0 := by rw [hw0]; exact (Below.refl _ _).alloc (Nat.le_refl _) _
  rw [← hw0]
  clear hw0
  have HX0 := Lib.hid (And.intro hres0 hbw0)
  clear hres0 hbw0
  go_wp2_with fail
  have hres0 := HX0.out.1
  have hbw0 := HX0.out.2
  refine (H0.out _ hbw0).mono ?_
  rintro e w1 ⟨v1, rfl, hr1, hb1⟩
  have HR1 := Lib.hid hr1
  obtain ⟨a1, c1, rfl⟩ := hr1.form
  clear hr1
  have hres1 : w1.heap[w.heap.size]? = some (.cells (bv (zs 32)).toArray 35 (0, 0)) := (hb1.block _ (Array.getElem?_eq_some_iff.1 hres0).1).trans hres0
  have hbw1 := hbw0.trans (hb1.mono hbw0.size)
  clear hb1 hres0 hbw0 HX0
  have HX1 := Lib.hid (And.intro hres1 hbw1)
  clear hres1 hbw1
  go_wp2_with fail
  have hres1 := HX1.out.1
  have hbw1 := HX1.out.2
  refine (H1.out _ _ HR1.out hbw1).mono ?_
  rintro e w2 ⟨rfl, hb2⟩
  have hres2 : w2.heap[w.heap.size]? = some (.cells (bv (zs 32)).toArray 35 (0, 0)) := (hb2.block _ (Array.getElem?_eq_some_iff.1 hres1).1).trans hres1
  have hbw2 := hbw1.trans (hb2.mono hbw1.size)
  clear hb2 hres1 hbw1 HX1
  have HX := Lib.hid (And.intro hres2 (And.intro hbw2 hol))
  clear hres2 hbw2 hol
  go_wp2_with (with_reducible show wpList _ _ _ (⟨none, Op.store _ _ _, _, _, _, _⟩ :: _) _ _; refine wpList_store_whole rfl _ _ _ rfl w.heap.size _ rfl rfl _ _ HX.out.1 (hInfo' _ HX.out.2.2) (by rw [bv_length, bv_length, HX.out.2.2]; simp [zs]) (bv_one _) ?_; intro w9 HG9 hg9)
  refine bodyPost_ret (v := .agg (bv out).toArray) ?_ ?_ ?_
  · exact results_cell_row Tryd.results48 _ _ w.heap.size 35 _ (0, 0) _ rfl HG9.out Tryd.underlying35 rfl (hInfo _ HX.out.2.2)
  · rfl
  · exact ⟨rfl, below_grow HX.out.2.1 hg9 (Nat.le_refl _) (Array.getElem?_eq_some_iff.1 HX.out.1).1⟩
end Go.Proofs.YtfibhmgjkooemaaDoor
