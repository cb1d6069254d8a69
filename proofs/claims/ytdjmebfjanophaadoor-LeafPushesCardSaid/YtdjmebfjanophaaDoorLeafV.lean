/- Push refuses: leaf's and the reference's. (printed by gen/leafv.py) -/
import Derived.Test.YtdjmebfjanophaaDoorLeafU
namespace Go.Proofs.YtdjmebfjanophaaDoor
open Go.RowKit Sha Root Ones

set_option maxHeartbeats 8000000 in
set_option maxRecDepth 100000 in
theorem Push_no (n : Int) (sz : Nat) (a : Option Addr) (m c : Nat) (hx : List UInt8) (w : World) (hs : sz < 18446744073709551616) (hm : m ≤ 140737488355328) (hx32 : hx.length = 32) (hno : ¬ (m = pop 64 sz ∧ sz < 9223372036854775808)) :
    Calls Tryd.prog 20 #[.int .i64 n, .agg #[.int .u64 sz, .slice a m c], .agg (bv hx).toArray] w fun e w' => e = .returned (.tuple #[.agg #[.int .u64 0, .slice none 0 0], .int .i64 1]) ∧ Below w.heap.size w w' := by
  have hz := (zero_of_info info32).1
  have hri := fun wx => Right_any sz a m c wx hs hm
  obtain ⟨g, hg⟩ : ∃ g, g = w.heap.size := ⟨_, rfl⟩
  obtain ⟨w0, hw0⟩ : ∃ x : World, x = ((w.alloc (.cells #[.int .u64 sz, .slice a m c] 31)).alloc (.cells (bv hx).toArray 33)).alloc (.cells #[.int .u64 0, .slice none 0 0] 31) := ⟨_, rfl⟩
  have hc0 : w0.cell? ⟨g, 0, none⟩ = some (.int .u64 sz) := by rw [hw0, hg]; simp [go_sem]
  have hc1 : w0.cell? ⟨g, 1, none⟩ = some (.slice a m c) := by rw [hw0, hg]; simp [go_sem]
  have hzrow : w0.heap[g + 1 + 1]? = some (.cells #[.int .u64 0, .slice none 0 0] 31 (0, 0)) := by
    rw [hw0, hg]
    have := heap_alloc_new ((w.alloc (.cells #[.int .u64 sz, .slice a m c] 31)).alloc (.cells (bv hx).toArray 33)) (.cells #[.int .u64 0, .slice none 0 0] 31)
    simpa using this
  have hb0 : Below g w w0 := by rw [hw0, hg]; exact (((Below.refl _ _).alloc (Nat.le_refl _) _).alloc (by simp) _).alloc (by simp; omega) _
  have hgl : g + 1 + 1 < w0.heap.size := by rw [hw0, hg]; simp
  have HW := Lib.hid hw0
  have HG := Lib.hid hg
  have HX := Lib.hid hx32
  have H0 := Lib.hid (And.intro hc0 (And.intro hzrow hb0))
  have hcase : ¬ m = pop 64 sz ∨ (m = pop 64 sz ∧ ¬ sz < 9223372036854775808) := by
    by_cases h : m = pop 64 sz
    · exact .inr ⟨h, fun h2 => hno ⟨h, h2⟩⟩
    · exact .inl h
  obtain ⟨b, hb⟩ : ∃ b, b = decide (m = pop 64 sz) := ⟨_, rfl⟩
  rw [← hb] at hri
  have hcase2 : b = false ∨ (b = true ∧ ¬ sz < 9223372036854775808) := by
    rw [hb]
    rcases hcase with h | h
    · exact .inl (decide_eq_false h)
    · exact .inr ⟨decide_eq_true h.1, h.2⟩
  clear hzrow hw0 hb0 hx32 hno hcase hb
  go_enter Tryd.func20, Tryd.ntmps20
  go_upto_region 1 with fail
  rw [← hg, show ((w.alloc (.cells #[.int .u64 sz, .slice a m c] 31)).alloc (.cells (bv hx).toArray 33)).alloc (.cells #[.int .u64 0, .slice none 0 0] 31) = w0 from HW.out.symm]
  clear hg
  go_wp2_with fail
  refine (hri _).mono ?_
  rintro e w1 ⟨rfl, hb1⟩
  have hc0' := (hb1.cell (p := ⟨g, 0, none⟩) (show g < w0.heap.size by omega)).trans hc0
  have hzr1 := (hb1.block _ hgl).trans H0.out.2.1
  have hbw1 := H0.out.2.2.trans (hb1.mono (by omega))
  have hgl1 : g + 1 + 1 < w1.heap.size := Nat.lt_of_lt_of_le hgl hb1.size
  have H1 := Lib.hid (And.intro hzr1 (And.intro hbw1 hgl1))
  have hin2 : (Tryd.prog.info? 31).map (·.size) = some [Value.int .u64 0, Value.slice none 0 0].length := by kernel_rfl
  have HI2 := Lib.hid hin2
  have hone : ∀ v ∈ [Value.int .u64 0, Value.slice none 0 0], v.oneCell' = true := by intro u hu; simp only [List.mem_cons, List.not_mem_nil, or_false] at hu; rcases hu with rfl | rfl <;> rfl
  have HON := Lib.hid hone
  clear hri hc0 hc1 hzr1 hbw1 hb1 hgl hgl1 hin2 hone
  rcases hcase2 with rfl | ⟨rfl, hbig⟩
  · go_wp2_with (with_reducible show wpList _ _ _ (⟨none, Op.store _ _ _, _, _, _, _⟩ :: _) _ _; refine wpList_store_whole rfl _ _ _ rfl (g + 1 + 1) [.int .u64 0, .slice none 0 0] rfl rfl [.int .u64 0, .slice none 0 0] _ H1.out.1 HI2.out rfl HON.out ?_; intro w9 HG9 hg9)
    refine bodyPost_ret (v := .tuple #[.agg #[.int .u64 0, .slice none 0 0], .int .i64 1]) ?_ rfl ?_
    · rw [results_cell_tmp rfl]
      simp [asAddr, run_loadVar_row w9 (g + 1 + 1) 31 31 _ (0, 0) _ HG9.out Tryd.underlying31 rfl infoR3]
    · refine ⟨rfl, ?_⟩
      have := below_grow H1.out.2.1 hg9 (by omega) H1.out.2.2
      rwa [HG.out] at this
  · have hbz : ((sz : Int) / 9223372036854775808 == 1) = true := by simp; omega
    go_wp2_with (with_reducible show wpList _ _ _ (⟨none, Op.store _ _ _, _, _, _, _⟩ :: _) _ _; refine wpList_store_whole rfl _ _ _ rfl (g + 1 + 1) [.int .u64 0, .slice none 0 0] rfl rfl [.int .u64 0, .slice none 0 0] _ H1.out.1 HI2.out rfl HON.out ?_; intro w9 HG9 hg9)
    refine bodyPost_ret (v := .tuple #[.agg #[.int .u64 0, .slice none 0 0], .int .i64 1]) ?_ rfl ?_
    · rw [results_cell_tmp rfl]
      simp [asAddr, run_loadVar_row w9 (g + 1 + 1) 31 31 _ (0, 0) _ HG9.out Tryd.underlying31 rfl infoR3]
    · refine ⟨rfl, ?_⟩
      have := below_grow H1.out.2.1 hg9 (by omega) H1.out.2.2
      rwa [HG.out] at this

set_option maxHeartbeats 8000000 in
set_option maxRecDepth 100000 in
theorem refPush_no (n : Int) (sz : Nat) (a : Option Addr) (m c : Nat) (hx : List UInt8) (w : World) (hs : sz < 18446744073709551616) (hm : m ≤ 140737488355328) (hx32 : hx.length = 32) (hno : ¬ (m = pop 64 sz ∧ sz < 9223372036854775808)) :
    Calls Tryd.prog 21 #[.int .i64 n, .agg #[.int .u64 sz, .slice a m c], .agg (bv hx).toArray] w fun e w' => e = .returned (.tuple #[.agg #[.int .u64 0, .slice none 0 0], .int .i64 1]) ∧ Below w.heap.size w w' := by
  have hz := (zero_of_info info32).1
  have hri := fun wx => refRight_any sz a m c wx hs hm
  obtain ⟨g, hg⟩ : ∃ g, g = w.heap.size := ⟨_, rfl⟩
  obtain ⟨w0, hw0⟩ : ∃ x : World, x = ((w.alloc (.cells #[.int .u64 sz, .slice a m c] 31)).alloc (.cells (bv hx).toArray 33)).alloc (.cells #[.int .u64 0, .slice none 0 0] 31) := ⟨_, rfl⟩
  have hc0 : w0.cell? ⟨g, 0, none⟩ = some (.int .u64 sz) := by rw [hw0, hg]; simp [go_sem]
  have hc1 : w0.cell? ⟨g, 1, none⟩ = some (.slice a m c) := by rw [hw0, hg]; simp [go_sem]
  have hzrow : w0.heap[g + 1 + 1]? = some (.cells #[.int .u64 0, .slice none 0 0] 31 (0, 0)) := by
    rw [hw0, hg]
    have := heap_alloc_new ((w.alloc (.cells #[.int .u64 sz, .slice a m c] 31)).alloc (.cells (bv hx).toArray 33)) (.cells #[.int .u64 0, .slice none 0 0] 31)
    simpa using this
  have hb0 : Below g w w0 := by rw [hw0, hg]; exact (((Below.refl _ _).alloc (Nat.le_refl _) _).alloc (by simp) _).alloc (by simp; omega) _
  have hgl : g + 1 + 1 < w0.heap.size := by rw [hw0, hg]; simp
  have HW := Lib.hid hw0
  have HG := Lib.hid hg
  have HX := Lib.hid hx32
  have H0 := Lib.hid (And.intro hc0 (And.intro hzrow hb0))
  have hcase : ¬ m = pop 64 sz ∨ (m = pop 64 sz ∧ ¬ sz < 9223372036854775808) := by
    by_cases h : m = pop 64 sz
    · exact .inr ⟨h, fun h2 => hno ⟨h, h2⟩⟩
    · exact .inl h
  obtain ⟨b, hb⟩ : ∃ b, b = decide (m = pop 64 sz) := ⟨_, rfl⟩
  rw [← hb] at hri
  have hcase2 : b = false ∨ (b = true ∧ ¬ sz < 9223372036854775808) := by
    rw [hb]
    rcases hcase with h | h
    · exact .inl (decide_eq_false h)
    · exact .inr ⟨decide_eq_true h.1, h.2⟩
  clear hzrow hw0 hb0 hx32 hno hcase hb
  go_enter Tryd.func21, Tryd.ntmps21
  go_upto_region 1 with fail
  rw [← hg, show ((w.alloc (.cells #[.int .u64 sz, .slice a m c] 31)).alloc (.cells (bv hx).toArray 33)).alloc (.cells #[.int .u64 0, .slice none 0 0] 31) = w0 from HW.out.symm]
  clear hg
  go_wp2_with fail
  refine (hri _).mono ?_
  rintro e w1 ⟨rfl, hb1⟩
  have hc0' := (hb1.cell (p := ⟨g, 0, none⟩) (show g < w0.heap.size by omega)).trans hc0
  have hzr1 := (hb1.block _ hgl).trans H0.out.2.1
  have hbw1 := H0.out.2.2.trans (hb1.mono (by omega))
  have hgl1 : g + 1 + 1 < w1.heap.size := Nat.lt_of_lt_of_le hgl hb1.size
  have H1 := Lib.hid (And.intro hzr1 (And.intro hbw1 hgl1))
  have hin2 : (Tryd.prog.info? 31).map (·.size) = some [Value.int .u64 0, Value.slice none 0 0].length := by kernel_rfl
  have HI2 := Lib.hid hin2
  have hone : ∀ v ∈ [Value.int .u64 0, Value.slice none 0 0], v.oneCell' = true := by intro u hu; simp only [List.mem_cons, List.not_mem_nil, or_false] at hu; rcases hu with rfl | rfl <;> rfl
  have HON := Lib.hid hone
  clear hri hc0 hc1 hzr1 hbw1 hb1 hgl hgl1 hin2 hone
  rcases hcase2 with rfl | ⟨rfl, hbig⟩
  · go_wp2_with (with_reducible show wpList _ _ _ (⟨none, Op.store _ _ _, _, _, _, _⟩ :: _) _ _; refine wpList_store_whole rfl _ _ _ rfl (g + 1 + 1) [.int .u64 0, .slice none 0 0] rfl rfl [.int .u64 0, .slice none 0 0] _ H1.out.1 HI2.out rfl HON.out ?_; intro w9 HG9 hg9)
    refine bodyPost_ret (v := .tuple #[.agg #[.int .u64 0, .slice none 0 0], .int .i64 1]) ?_ rfl ?_
    · rw [results_cell_tmp rfl]
      simp [asAddr, run_loadVar_row w9 (g + 1 + 1) 31 31 _ (0, 0) _ HG9.out Tryd.underlying31 rfl infoR3]
    · refine ⟨rfl, ?_⟩
      have := below_grow H1.out.2.1 hg9 (by omega) H1.out.2.2
      rwa [HG.out] at this
  · have hbz : decide ((9223372036854775808 : Int) ≤ (sz : Int)) = true := decide_eq_true (by omega)
    go_wp2_with (with_reducible show wpList _ _ _ (⟨none, Op.store _ _ _, _, _, _, _⟩ :: _) _ _; refine wpList_store_whole rfl _ _ _ rfl (g + 1 + 1) [.int .u64 0, .slice none 0 0] rfl rfl [.int .u64 0, .slice none 0 0] _ H1.out.1 HI2.out rfl HON.out ?_; intro w9 HG9 hg9)
    refine bodyPost_ret (v := .tuple #[.agg #[.int .u64 0, .slice none 0 0], .int .i64 1]) ?_ rfl ?_
    · rw [results_cell_tmp rfl]
      simp [asAddr, run_loadVar_row w9 (g + 1 + 1) 31 31 _ (0, 0) _ HG9.out Tryd.underlying31 rfl infoR3]
    · refine ⟨rfl, ?_⟩
      have := below_grow H1.out.2.1 hg9 (by omega) H1.out.2.2
      rwa [HG.out] at this

end Go.Proofs.YtdjmebfjanophaaDoor
