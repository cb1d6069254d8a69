/- The hash of a text: the program's, the reference's. -/
import Derived.Test.YtdjmebfjanophaaDoorShaU
namespace Go.Proofs.YtdjmebfjanophaaDoor
open Go.RowKit Sha

theorem wpList_store_whole {P : Program} {ops : Array Oper} {rest : List Oper} {op : Oper} {a : Act} {w : World} {Q : Exit → Act → World → Prop} (hgd : op.guard = none) (ty : TypeId) (x y : Operand) (ho : op.op = .store ty x y)
    (g : Nat) (cs : List Value) (hx : a.eval x = .pointer (some ⟨g, 0, none⟩)) (hy : a.eval y = .agg cs.toArray)
    (cur : List Value) (t : TypeId) (hg : w.heap[g]? = some (.cells cur.toArray t (0, 0))) (hi : (P.info? ty).map (·.size) = some cs.length) (hfit : cs.length = cur.length) (h1 : ∀ v ∈ cs, v.oneCell' = true)
    (h : ∀ w', Hid (w'.heap[g]? = some (.cells cs.toArray t (0, 0))) → w.grownBy w' (some g) → wpList P ops Q rest (a.put op.dst undef) w') : wpList P ops Q (op :: rest) a w :=
  wpList_store_splice hgd ty x y ho g 0 cs hx hy cur t hg hi (by omega) h1 fun w' h2 h3 => h w' (by rw [splice_all _ _ hfit] at h2; exact h2) h3

set_option maxHeartbeats 4000000 in
set_option maxRecDepth 100000 in
theorem shaSum_any (b : List UInt8) (v : Value) (w : World) (hl : b.length ≤ 1152921504606846976) (hr : Rd w 1 v b.length (bv b)) (hG : Tabs w) :
    Calls Tryd.prog 68 #[v] w fun e w' => e = .returned (.agg (bv (Sha.sum b)).toArray) ∧ Below w.heap.size w w' := by
  have hz := (zero_of_info info32).1
  have hzs := (zero_of_info infoSt).1
  have hol : (Sha.sum b).length = 32 := sum_length b
  have H0 := Lib.hid (fun w' hr' hG' => Write_any [] b v w' (by simp; omega) hr' hG')
  have H1 := Lib.hid (fun w' hG' => StSum_any b w' hl hG')
  rw [← stv_nil, List.nil_append] at H0
  generalize Sha.sum b = out at *
  generalize stv b = sb at *
  go_enter Tryd.func68, Tryd.ntmps68
  go_wp2_with fail
  have hb0 : Below w.heap.size w (w.alloc (.cells (bv (zs 32)).toArray 33)) := (Below.refl _ _).alloc (Nat.le_refl _) _
  refine (H0.out _ (hr.keep hb0) (hG.keepB hb0)).mono ?_
  rintro e w1 ⟨rfl, hb1⟩
  have hres1 : w1.heap[w.heap.size]? = some (.cells (bv (zs 32)).toArray 33 (0, 0)) := (hb1.block _ (by simp)).trans (heap_alloc_new _ _)
  have hbw1 := hb0.trans (hb1.mono (by simp))
  go_wp2_with fail
  refine (H1.out _ (hG.keepB hbw1)).mono ?_
  rintro e w2 ⟨rfl, hb2⟩
  have hres2 : w2.heap[w.heap.size]? = some (.cells (bv (zs 32)).toArray 33 (0, 0)) := (hb2.block _ (Array.getElem?_eq_some_iff.1 hres1).1).trans hres1
  have hbw2 := hbw1.trans (hb2.mono hbw1.size)
  have HX := Lib.hid (And.intro hres2 (And.intro hbw2 hol))
  clear hb0 hb1 hb2 hres1 hres2 hbw1 hbw2 H0 H1 hol
  go_wp2_with (with_reducible show wpList _ _ _ (⟨none, Op.store _ _ _, _, _, _, _⟩ :: _) _ _; refine wpList_store_whole rfl _ _ _ rfl w.heap.size _ rfl rfl _ _ HX.out.1 (hInfo' _ HX.out.2.2) (by rw [bv_length, bv_length, HX.out.2.2]; simp [zs]) (bv_one _) ?_; intro w9 HG9 hg9)
  refine bodyPost_ret (v := .agg (bv out).toArray) ?_ ?_ ?_
  · exact results_cell_row Tryd.results68 _ _ w.heap.size 33 _ (0, 0) _ rfl HG9.out Tryd.underlying33 rfl (hInfo _ HX.out.2.2)
  · rfl
  · exact ⟨rfl, below_grow HX.out.2.1 hg9 (Nat.le_refl _) (Array.getElem?_eq_some_iff.1 HX.out.1).1⟩
end Go.Proofs.YtdjmebfjanophaaDoor
