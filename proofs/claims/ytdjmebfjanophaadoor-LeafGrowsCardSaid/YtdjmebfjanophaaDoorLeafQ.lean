/- leaf.Peak: the root over a range. -/
import Derived.Test.YtdjmebfjanophaaDoorLeafO
namespace Go.Proofs.YtdjmebfjanophaaDoor
open Go.RowKit Sha Root Ones

/-- What Peak hands back. -/
def peakV (n : Int) (sz : Nat) (ps : List (List UInt8)) : Value :=
  if ps.length = pop 64 sz then .tuple #[.agg (bv (overH n ps)).toArray, .int .i64 0] else .tuple #[.agg (bv (zs 32)).toArray, .int .i64 1]
set_option maxHeartbeats 8000000 in
set_option maxRecDepth 100000 in
theorem Peak_any (n : Int) (sz : Nat) (v : Value) (ps : List (List UInt8)) (w : World) (hn : -9223372036854775808 ≤ n ∧ n ≤ 9223372036854775807) (hs : sz < 18446744073709551616) (h32 : ∀ p ∈ ps, p.length = 32) (hl : ps.length ≤ 140737488355328) (hr : Rd w 32 v ps.length (ps.flatMap bv)) (hT : Tabs w) :
    Calls Tryd.prog 22 #[.int .i64 n, .agg #[.int .u64 sz, v]] w fun e w' => e = .returned (peakV n sz ps) ∧ Below w.heap.size w w' := by
  obtain ⟨a, c, rfl⟩ := hr.form
  have hz := (zero_of_info info32).1
  have hri := fun wx => Right_any sz a ps.length c wx hs hl
  have hov := fun wx (h : Below w.heap.size w wx) => over_any n ps _ wx hn h32 hl (hr.keep h) (hT.keepB h)
  have hol := overH_length n ps h32
  have hdec : (ps.length = pop 64 sz) ∨ ¬ (ps.length = pop 64 sz) := Classical.em _
  unfold peakV
  obtain ⟨out, hout⟩ : ∃ x, x = overH n ps := ⟨_, rfl⟩
  rw [← hout] at hov hol ⊢
  have HOV := Lib.hid hov
  have HOL := Lib.hid hol
  obtain ⟨w0, hw0⟩ : ∃ x : World, x = (w.alloc (.cells #[.int .u64 sz, .slice a ps.length c] 31)).alloc (.cells (bv (zs 32)).toArray 33) := ⟨_, rfl⟩
  have hb0 : Below w.heap.size w w0 := by rw [hw0]; exact ((Below.refl _ _).alloc (Nat.le_refl _) _).alloc (by simp) _
  have hrow : w0.heap[w.heap.size + 1]? = some (.cells (bv (zs 32)).toArray 33 (0, 0)) := by
    rw [hw0]
    have := heap_alloc_new (w.alloc (.cells #[.int .u64 sz, .slice a ps.length c] 31)) (.cells (bv (zs 32)).toArray 33)
    simpa using this
  have hc0 : w0.cell? ⟨w.heap.size, 0, none⟩ = some (.int .u64 sz) := by rw [hw0]; simp [go_sem]
  have hc1 : w0.cell? ⟨w.heap.size, 1, none⟩ = some (.slice a ps.length c) := by rw [hw0]; simp [go_sem]
  have hgl : w.heap.size < w0.heap.size := by rw [hw0]; simp; omega
  have HW := Lib.hid hw0
  have H0 := Lib.hid (And.intro hb0 hrow)
  clear hov hol hout hr hT h32 hw0 hb0 hrow
  rcases hdec with hd | hd
  · rw [if_pos hd]
    rw [decide_eq_true hd] at hri
    clear hd
    go_enter Tryd.func22, Tryd.ntmps22
    go_upto_region 1 with fail
    rw [show (w.alloc (.cells #[.int .u64 sz, .slice a ps.length c] 31)).alloc (.cells (bv (zs 32)).toArray 33) = w0 from HW.out.symm]
    go_wp2_with fail
    refine (hri _).mono ?_
    rintro e w1 ⟨rfl, hb1⟩
    have hrow1 := (hb1.block _ (Array.getElem?_eq_some_iff.1 H0.out.2).1).trans H0.out.2
    have hbw1 := H0.out.1.trans (hb1.mono H0.out.1.size)
    have hc1' := (hb1.cell (p := ⟨w.heap.size, 1, none⟩) hgl).trans hc1
    have H1 := Lib.hid (And.intro hrow1 hbw1)
    clear hrow1 hbw1 hb1 hc0 hc1 hri hgl
    go_wp2_with fail
    refine (HOV.out _ H1.out.2).mono ?_
    rintro e w2 ⟨rfl, hb2⟩
    have hrow2 := (hb2.block _ (Array.getElem?_eq_some_iff.1 H1.out.1).1).trans H1.out.1
    have hbw2 := H1.out.2.trans (hb2.mono H1.out.2.size)
    have H2 := Lib.hid (And.intro hrow2 hbw2)
    clear hrow2 hbw2 hb2 hc1'
    go_wp2_with (with_reducible show wpList _ _ _ (⟨none, Op.store _ _ _, _, _, _, _⟩ :: _) _ _; refine wpList_store_whole rfl _ _ _ rfl (w.heap.size + 1) (bv out) rfl rfl (bv (zs 32)) _ H2.out.1 (hInfo' _ HOL.out) (by rw [bv_length, bv_length, HOL.out]; simp [zs]) (bv_one _) ?_; intro w9 HG9 hg9)
    have hld := run_loadVar_row (P := Tryd.prog) w9 (w.heap.size + 1) _ 33 _ (0, 0) _ HG9.out Tryd.underlying33 rfl (hInfo _ HOL.out)
    refine bodyPost_ret (v := .tuple #[.agg (bv out).toArray, .int .i64 0]) ?_ ?_ ?_
    · simp [results, Tryd.results22, asAddr, hld]
    · rfl
    · exact ⟨rfl, below_grow H2.out.2 hg9 (by omega) (Array.getElem?_eq_some_iff.1 H2.out.1).1⟩
  · rw [if_neg hd]
    rw [decide_eq_false hd] at hri
    clear hd
    go_enter Tryd.func22, Tryd.ntmps22
    go_upto_region 1 with fail
    rw [show (w.alloc (.cells #[.int .u64 sz, .slice a ps.length c] 31)).alloc (.cells (bv (zs 32)).toArray 33) = w0 from HW.out.symm]
    go_wp2_with fail
    refine (hri _).mono ?_
    rintro e w1 ⟨rfl, hb1⟩
    have hrow1 := (hb1.block _ (Array.getElem?_eq_some_iff.1 H0.out.2).1).trans H0.out.2
    have hbw1 := H0.out.1.trans (hb1.mono H0.out.1.size)
    have hc1' := (hb1.cell (p := ⟨w.heap.size, 1, none⟩) hgl).trans hc1
    have H1 := Lib.hid (And.intro hrow1 hbw1)
    clear hrow1 hbw1 hb1 hc0 hc1 hri hgl
    clear hc1'
    have hzl : (zs 32).length = 32 := by simp [zs]
    go_wp2_with (with_reducible show wpList _ _ _ (⟨none, Op.store _ _ _, _, _, _, _⟩ :: _) _ _; refine wpList_store_whole rfl _ _ _ rfl (w.heap.size + 1) (bv (zs 32)) rfl rfl (bv (zs 32)) _ H1.out.1 (hInfo' _ hzl) rfl (bv_one _) ?_; intro w9 HG9 hg9)
    have hld := run_loadVar_row (P := Tryd.prog) w9 (w.heap.size + 1) _ 33 _ (0, 0) _ HG9.out Tryd.underlying33 rfl (hInfo _ hzl)
    refine bodyPost_ret (v := .tuple #[.agg (bv (zs 32)).toArray, .int .i64 1]) ?_ ?_ ?_
    · simp [results, Tryd.results22, asAddr, hld]
    · rfl
    · exact ⟨rfl, below_grow H1.out.2 hg9 (by omega) (Array.getElem?_eq_some_iff.1 H1.out.1).1⟩
end Go.Proofs.YtdjmebfjanophaaDoor
