/- A hash narrowed: the reference's. -/
import Derived.Test.YtdjmebfjanophaaDoorShaN
namespace Go.Proofs.YtdjmebfjanophaaDoor
open Go.RowKit Sha

theorem and_c0 (x : UInt8) : bits BinOp.and IntKind.u8 (x.toNat : Int) 128 = ((x &&& UInt8.ofNat (128 / 2 ^ 0)).toNat : Int) := by
  have e := i8_and x (UInt8.ofNat (128 / 2 ^ 0))
  rwa [show ((UInt8.ofNat (128 / 2 ^ 0)).toNat : Int) = 128 from rfl] at e
theorem and_c1 (x : UInt8) : bits BinOp.and IntKind.u8 (x.toNat : Int) 64 = ((x &&& UInt8.ofNat (128 / 2 ^ 1)).toNat : Int) := by
  have e := i8_and x (UInt8.ofNat (128 / 2 ^ 1))
  rwa [show ((UInt8.ofNat (128 / 2 ^ 1)).toNat : Int) = 64 from rfl] at e
theorem and_c2 (x : UInt8) : bits BinOp.and IntKind.u8 (x.toNat : Int) 32 = ((x &&& UInt8.ofNat (128 / 2 ^ 2)).toNat : Int) := by
  have e := i8_and x (UInt8.ofNat (128 / 2 ^ 2))
  rwa [show ((UInt8.ofNat (128 / 2 ^ 2)).toNat : Int) = 32 from rfl] at e
theorem and_c3 (x : UInt8) : bits BinOp.and IntKind.u8 (x.toNat : Int) 16 = ((x &&& UInt8.ofNat (128 / 2 ^ 3)).toNat : Int) := by
  have e := i8_and x (UInt8.ofNat (128 / 2 ^ 3))
  rwa [show ((UInt8.ofNat (128 / 2 ^ 3)).toNat : Int) = 16 from rfl] at e
theorem and_c4 (x : UInt8) : bits BinOp.and IntKind.u8 (x.toNat : Int) 8 = ((x &&& UInt8.ofNat (128 / 2 ^ 4)).toNat : Int) := by
  have e := i8_and x (UInt8.ofNat (128 / 2 ^ 4))
  rwa [show ((UInt8.ofNat (128 / 2 ^ 4)).toNat : Int) = 8 from rfl] at e
theorem and_c5 (x : UInt8) : bits BinOp.and IntKind.u8 (x.toNat : Int) 4 = ((x &&& UInt8.ofNat (128 / 2 ^ 5)).toNat : Int) := by
  have e := i8_and x (UInt8.ofNat (128 / 2 ^ 5))
  rwa [show ((UInt8.ofNat (128 / 2 ^ 5)).toNat : Int) = 4 from rfl] at e
theorem and_c6 (x : UInt8) : bits BinOp.and IntKind.u8 (x.toNat : Int) 2 = ((x &&& UInt8.ofNat (128 / 2 ^ 6)).toNat : Int) := by
  have e := i8_and x (UInt8.ofNat (128 / 2 ^ 6))
  rwa [show ((UInt8.ofNat (128 / 2 ^ 6)).toNat : Int) = 2 from rfl] at e
theorem and_c7 (x : UInt8) : bits BinOp.and IntKind.u8 (x.toNat : Int) 1 = ((x &&& UInt8.ofNat (128 / 2 ^ 7)).toNat : Int) := by
  have e := i8_and x (UInt8.ofNat (128 / 2 ^ 7))
  rwa [show ((UInt8.ofNat (128 / 2 ^ 7)).toNat : Int) = 1 from rfl] at e

set_option maxHeartbeats 4000000 in
set_option maxRecDepth 100000 in
theorem refNarrow_any (l : List UInt8) (n : Int) (w : World) (hl : l.length = 32) (hn : -9223372036854775808 ≤ n ∧ n ≤ 9223372036854775807) :
    Calls Tryd.prog 77 #[.agg (bv l).toArray, .int .i64 n] w fun e w' => e = .returned (.agg (bv (nar l (clip n))).toArray) ∧ Below w.heap.size w w' := by
  have hz := (zero_of_info info32).1
  obtain ⟨k, hk⟩ : ∃ k, k = clip n := ⟨_, rfl⟩
  have hkn : (k : Int) = max 0 (min n 256) := by rw [hk]; unfold clip; omega
  rw [← hk]
  have HK := Lib.hid hkn
  obtain ⟨A, hA⟩ : ∃ A, A = (bv l).toArray := ⟨_, rfl⟩
  have hsz : A.size = 32 := by rw [hA]; simp [bv_length, hl]
  rw [← hA]
  clear hk hkn
  go_enter Tryd.func77, Tryd.ntmps77
  go_upto_region 2 with fail
  obtain ⟨w1, hw1⟩ : ∃ x : World, x = ((w.alloc (.cells (bv l).toArray 33)).alloc (.cells (bv (zs 32)).toArray 33)).alloc (.cells (bv (zs 32)).toArray 33) := ⟨_, rfl⟩
  rw [← hw1]
  have hr1 : w1.heap[w.heap.size]? = some (.cells (bv l).toArray 33 (0, 0)) := by
    rw [hw1]; exact (heap_alloc_old _ _ (by simp; omega)).trans ((heap_alloc_old _ _ (by simp)).trans (heap_alloc_new _ _))
  have hs1 : w1.heap[w.heap.size + 1]? = some (.cells (bv (zs 32)).toArray 33 (0, 0)) := by
    rw [hw1]
    have h := heap_alloc_new (w.alloc (.cells (bv l).toArray 33)) (.cells (bv (zs 32)).toArray 33)
    exact (heap_alloc_old _ _ (by simp)).trans (by simpa using h)
  have ho1 : w1.heap[w.heap.size + 2]? = some (.cells (bv (nar l 0)).toArray 33 (0, 0)) := by
    rw [hw1, nar_none]
    have h := heap_alloc_new ((w.alloc (.cells (bv l).toArray 33)).alloc (.cells (bv (zs 32)).toArray 33)) (.cells (bv (zs 32)).toArray 33)
    simpa using h
  have hb1 : Below w.heap.size w w1 := by rw [hw1]; exact (((Below.refl _ _).alloc (Nat.le_refl _) _).alloc (by simp) _).alloc (by simp; omega) _
  have H1 := Lib.hid (And.intro hr1 (And.intro hs1 (And.intro ho1 hb1)))
  clear hw1 hA hsz hr1 hs1 ho1 hb1
  go_wp2_with fail
  go_loopw [6] (fun s6 wx => ∃ i : Nat, i ≤ k ∧ s6 = .int .i64 i ∧ RowKit.Hid (wx.heap[w.heap.size]? = some (.cells (bv l).toArray 33 (0, 0)) ∧ wx.heap[w.heap.size + 1]? = some (.cells (bv (zs 32)).toArray 33 (0, 0)) ∧
      wx.heap[w.heap.size + 2]? = some (.cells (bv (nar l i)).toArray 33 (0, 0)) ∧ Below w.heap.size w wx)) (fun s6 _ => k - (intOf s6).toNat)
  case atStart => exact ⟨0, by omega, rfl, H1⟩
  case round =>
    clear H1
    obtain ⟨i, hi, rfl, HI⟩ := hrel
    by_cases hil : i < k
    · have hi256 : (i : Int) < 256 := by have := HK.out; omega
      have hin : (i : Int) < n := by have := HK.out; omega
      have hi0 : (0 : Int) ≤ (i : Int) := by omega
      obtain ⟨q, hq⟩ : ∃ q, q = i / 8 := ⟨_, rfl⟩
      have hq32 : q < 32 := by omega
      have hqz : (0 : Int) ≤ (q : Int) ∧ (q : Int) < 32 := by omega
      have hd1 : (i : Int).tdiv 8 = (q : Int) := by rw [Int.tdiv_eq_ediv_of_nonneg (by omega)]; omega
      have hd2 : (i : Int) / 8 = (q : Int) := by omega
      have hqw : IntKind.i64.wrap (q : Int) = (q : Int) := IntWalk.i64_in _ (by omega)
      obtain ⟨r, hr⟩ : ∃ r, r = i % 8 := ⟨_, rfl⟩
      have hr8 : r = 0 ∨ r = 1 ∨ r = 2 ∨ r = 3 ∨ r = 4 ∨ r = 5 ∨ r = 6 ∨ r = 7 := by omega
      have hm1 : (i : Int).tmod 8 = (r : Int) := by rw [Int.tmod_eq_emod_of_nonneg (by omega)]; omega
      have hm2 : (i : Int) % 8 = (r : Int) := by omega
      obtain ⟨x, hx⟩ : ∃ x, x = l.getD q 0 := ⟨_, rfl⟩
      have hx1 : l[q]? = some x := by rw [hx, List.getD_eq_getElem?_getD, List.getElem?_eq_getElem (by omega)]; rfl
      have hc : wr.cell? ⟨w.heap.size, q, none⟩ = some (.int .u8 x.toNat) := by
        rw [cell_of_row _ _ _ _ _ _ HI.out.1, List.getElem?_toArray]; simp [bv, hx1]
      obtain ⟨y, hy⟩ : ∃ y, y = (nar l i).getD q 0 := ⟨_, rfl⟩
      have hy1 : (nar l i)[q]? = some y := by rw [hy, List.getD_eq_getElem?_getD, List.getElem?_eq_getElem (by rw [nar_length]; omega)]; rfl
      have hcy : wr.cell? ⟨w.heap.size + 2, q, none⟩ = some (.int .u8 y.toNat) := by
        rw [cell_of_row _ _ _ _ _ _ HI.out.2.2.1, List.getElem?_toArray]; simp [bv, hy1]
      have hf := frozen_of_row _ _ q _ _ HI.out.2.2.1
      have hnext := nar_next l i (by omega)
      rw [← hq, ← hr, ← hx, ← hy] at hnext
      have HC := Lib.hid (And.intro HI.out hnext)
      clear HI hx1 hx hy1 hy hnext hq hr
      rcases hr8 with rfl | rfl | rfl | rfl | rfl | rfl | rfl | rfl
      · go_wp2_with fail
        go_still_tail 15, (by kernel_rfl)
        rw [show (128 : Int) / 2 ^ min (IntKind.u64.wrap 0).toNat 8 = 128 from rfl, and_c0, i8_or]
        iterate 1
          obtain ⟨v, hv⟩ : ∃ v, v = y ||| x &&& UInt8.ofNat (128 / 2 ^ 0) := ⟨_, rfl⟩
          rw [← hv]
          have hnext := HC.out.2
          rw [← hv] at hnext
          have HN := Lib.hid hnext
          clear hv hnext
          change wpList _ _ _ _ _ wr.drew
          have hc' : wr.drew.cell? ⟨w.heap.size + 2, q, none⟩ = some (.int .u8 y.toNat) := hcy
          have hf' : wr.drew.frozen? ⟨w.heap.size + 2, q, none⟩ = false := hf
          have HC' : RowKit.Hid (wr.drew.heap[w.heap.size]? = some (.cells (bv l).toArray 33 (0, 0)) ∧ wr.drew.heap[w.heap.size + 1]? = some (.cells (bv (zs 32)).toArray 33 (0, 0)) ∧
            wr.drew.heap[w.heap.size + 2]? = some (.cells (bv (nar l i)).toArray 33 (0, 0)) ∧ Below w.heap.size w wr.drew) := ⟨HC.out.1.1, HC.out.1.2.1, HC.out.1.2.2.1, HC.out.1.2.2.2.drew⟩
          clear hc hf HC hcy
          generalize wr.drew = w2 at *
          go_wp2_with fail
          go_roundw
          case rel =>
            have e1 := (heap_setCell_other w2 ⟨w.heap.size + 2, q, none⟩ w.heap.size (.int .u8 v.toNat) (by simp)).trans HC'.out.1
            have e2 := (heap_setCell_other w2 ⟨w.heap.size + 2, q, none⟩ (w.heap.size + 1) (.int .u8 v.toNat) (by simp)).trans HC'.out.2.1
            have e3 := heap_setCell_same w2 (w.heap.size + 2) q _ _ (.int .u8 v.toNat) HC'.out.2.2.1
            rw [rowB_set, HN.out] at e3
            have e4 := HC'.out.2.2.2.setCell (p := ⟨w.heap.size + 2, q, none⟩) (by simp) (.int .u8 v.toNat)
            exact ⟨i + 1, by omega, by go_num, And.intro e1 (And.intro e2 (And.intro e3 e4))⟩
          case measure => simp [intOf]; omega
      · go_wp2_with fail
        go_still_tail 15, (by kernel_rfl)
        rw [show (128 : Int) / 2 ^ min (IntKind.u64.wrap 1).toNat 8 = 64 from rfl, and_c1, i8_or]
        iterate 1
          obtain ⟨v, hv⟩ : ∃ v, v = y ||| x &&& UInt8.ofNat (128 / 2 ^ 1) := ⟨_, rfl⟩
          rw [← hv]
          have hnext := HC.out.2
          rw [← hv] at hnext
          have HN := Lib.hid hnext
          clear hv hnext
          change wpList _ _ _ _ _ wr.drew
          have hc' : wr.drew.cell? ⟨w.heap.size + 2, q, none⟩ = some (.int .u8 y.toNat) := hcy
          have hf' : wr.drew.frozen? ⟨w.heap.size + 2, q, none⟩ = false := hf
          have HC' : RowKit.Hid (wr.drew.heap[w.heap.size]? = some (.cells (bv l).toArray 33 (0, 0)) ∧ wr.drew.heap[w.heap.size + 1]? = some (.cells (bv (zs 32)).toArray 33 (0, 0)) ∧
            wr.drew.heap[w.heap.size + 2]? = some (.cells (bv (nar l i)).toArray 33 (0, 0)) ∧ Below w.heap.size w wr.drew) := ⟨HC.out.1.1, HC.out.1.2.1, HC.out.1.2.2.1, HC.out.1.2.2.2.drew⟩
          clear hc hf HC hcy
          generalize wr.drew = w2 at *
          go_wp2_with fail
          go_roundw
          case rel =>
            have e1 := (heap_setCell_other w2 ⟨w.heap.size + 2, q, none⟩ w.heap.size (.int .u8 v.toNat) (by simp)).trans HC'.out.1
            have e2 := (heap_setCell_other w2 ⟨w.heap.size + 2, q, none⟩ (w.heap.size + 1) (.int .u8 v.toNat) (by simp)).trans HC'.out.2.1
            have e3 := heap_setCell_same w2 (w.heap.size + 2) q _ _ (.int .u8 v.toNat) HC'.out.2.2.1
            rw [rowB_set, HN.out] at e3
            have e4 := HC'.out.2.2.2.setCell (p := ⟨w.heap.size + 2, q, none⟩) (by simp) (.int .u8 v.toNat)
            exact ⟨i + 1, by omega, by go_num, And.intro e1 (And.intro e2 (And.intro e3 e4))⟩
          case measure => simp [intOf]; omega
      · go_wp2_with fail
        go_still_tail 15, (by kernel_rfl)
        rw [show (128 : Int) / 2 ^ min (IntKind.u64.wrap 2).toNat 8 = 32 from rfl, and_c2, i8_or]
        iterate 1
          obtain ⟨v, hv⟩ : ∃ v, v = y ||| x &&& UInt8.ofNat (128 / 2 ^ 2) := ⟨_, rfl⟩
          rw [← hv]
          have hnext := HC.out.2
          rw [← hv] at hnext
          have HN := Lib.hid hnext
          clear hv hnext
          change wpList _ _ _ _ _ wr.drew
          have hc' : wr.drew.cell? ⟨w.heap.size + 2, q, none⟩ = some (.int .u8 y.toNat) := hcy
          have hf' : wr.drew.frozen? ⟨w.heap.size + 2, q, none⟩ = false := hf
          have HC' : RowKit.Hid (wr.drew.heap[w.heap.size]? = some (.cells (bv l).toArray 33 (0, 0)) ∧ wr.drew.heap[w.heap.size + 1]? = some (.cells (bv (zs 32)).toArray 33 (0, 0)) ∧
            wr.drew.heap[w.heap.size + 2]? = some (.cells (bv (nar l i)).toArray 33 (0, 0)) ∧ Below w.heap.size w wr.drew) := ⟨HC.out.1.1, HC.out.1.2.1, HC.out.1.2.2.1, HC.out.1.2.2.2.drew⟩
          clear hc hf HC hcy
          generalize wr.drew = w2 at *
          go_wp2_with fail
          go_roundw
          case rel =>
            have e1 := (heap_setCell_other w2 ⟨w.heap.size + 2, q, none⟩ w.heap.size (.int .u8 v.toNat) (by simp)).trans HC'.out.1
            have e2 := (heap_setCell_other w2 ⟨w.heap.size + 2, q, none⟩ (w.heap.size + 1) (.int .u8 v.toNat) (by simp)).trans HC'.out.2.1
            have e3 := heap_setCell_same w2 (w.heap.size + 2) q _ _ (.int .u8 v.toNat) HC'.out.2.2.1
            rw [rowB_set, HN.out] at e3
            have e4 := HC'.out.2.2.2.setCell (p := ⟨w.heap.size + 2, q, none⟩) (by simp) (.int .u8 v.toNat)
            exact ⟨i + 1, by omega, by go_num, And.intro e1 (And.intro e2 (And.intro e3 e4))⟩
          case measure => simp [intOf]; omega
      · go_wp2_with fail
        go_still_tail 15, (by kernel_rfl)
        rw [show (128 : Int) / 2 ^ min (IntKind.u64.wrap 3).toNat 8 = 16 from rfl, and_c3, i8_or]
        iterate 1
          obtain ⟨v, hv⟩ : ∃ v, v = y ||| x &&& UInt8.ofNat (128 / 2 ^ 3) := ⟨_, rfl⟩
          rw [← hv]
          have hnext := HC.out.2
          rw [← hv] at hnext
          have HN := Lib.hid hnext
          clear hv hnext
          change wpList _ _ _ _ _ wr.drew
          have hc' : wr.drew.cell? ⟨w.heap.size + 2, q, none⟩ = some (.int .u8 y.toNat) := hcy
          have hf' : wr.drew.frozen? ⟨w.heap.size + 2, q, none⟩ = false := hf
          have HC' : RowKit.Hid (wr.drew.heap[w.heap.size]? = some (.cells (bv l).toArray 33 (0, 0)) ∧ wr.drew.heap[w.heap.size + 1]? = some (.cells (bv (zs 32)).toArray 33 (0, 0)) ∧
            wr.drew.heap[w.heap.size + 2]? = some (.cells (bv (nar l i)).toArray 33 (0, 0)) ∧ Below w.heap.size w wr.drew) := ⟨HC.out.1.1, HC.out.1.2.1, HC.out.1.2.2.1, HC.out.1.2.2.2.drew⟩
          clear hc hf HC hcy
          generalize wr.drew = w2 at *
          go_wp2_with fail
          go_roundw
          case rel =>
            have e1 := (heap_setCell_other w2 ⟨w.heap.size + 2, q, none⟩ w.heap.size (.int .u8 v.toNat) (by simp)).trans HC'.out.1
            have e2 := (heap_setCell_other w2 ⟨w.heap.size + 2, q, none⟩ (w.heap.size + 1) (.int .u8 v.toNat) (by simp)).trans HC'.out.2.1
            have e3 := heap_setCell_same w2 (w.heap.size + 2) q _ _ (.int .u8 v.toNat) HC'.out.2.2.1
            rw [rowB_set, HN.out] at e3
            have e4 := HC'.out.2.2.2.setCell (p := ⟨w.heap.size + 2, q, none⟩) (by simp) (.int .u8 v.toNat)
            exact ⟨i + 1, by omega, by go_num, And.intro e1 (And.intro e2 (And.intro e3 e4))⟩
          case measure => simp [intOf]; omega
      · go_wp2_with fail
        go_still_tail 15, (by kernel_rfl)
        rw [show (128 : Int) / 2 ^ min (IntKind.u64.wrap 4).toNat 8 = 8 from rfl, and_c4, i8_or]
        iterate 1
          obtain ⟨v, hv⟩ : ∃ v, v = y ||| x &&& UInt8.ofNat (128 / 2 ^ 4) := ⟨_, rfl⟩
          rw [← hv]
          have hnext := HC.out.2
          rw [← hv] at hnext
          have HN := Lib.hid hnext
          clear hv hnext
          change wpList _ _ _ _ _ wr.drew
          have hc' : wr.drew.cell? ⟨w.heap.size + 2, q, none⟩ = some (.int .u8 y.toNat) := hcy
          have hf' : wr.drew.frozen? ⟨w.heap.size + 2, q, none⟩ = false := hf
          have HC' : RowKit.Hid (wr.drew.heap[w.heap.size]? = some (.cells (bv l).toArray 33 (0, 0)) ∧ wr.drew.heap[w.heap.size + 1]? = some (.cells (bv (zs 32)).toArray 33 (0, 0)) ∧
            wr.drew.heap[w.heap.size + 2]? = some (.cells (bv (nar l i)).toArray 33 (0, 0)) ∧ Below w.heap.size w wr.drew) := ⟨HC.out.1.1, HC.out.1.2.1, HC.out.1.2.2.1, HC.out.1.2.2.2.drew⟩
          clear hc hf HC hcy
          generalize wr.drew = w2 at *
          go_wp2_with fail
          go_roundw
          case rel =>
            have e1 := (heap_setCell_other w2 ⟨w.heap.size + 2, q, none⟩ w.heap.size (.int .u8 v.toNat) (by simp)).trans HC'.out.1
            have e2 := (heap_setCell_other w2 ⟨w.heap.size + 2, q, none⟩ (w.heap.size + 1) (.int .u8 v.toNat) (by simp)).trans HC'.out.2.1
            have e3 := heap_setCell_same w2 (w.heap.size + 2) q _ _ (.int .u8 v.toNat) HC'.out.2.2.1
            rw [rowB_set, HN.out] at e3
            have e4 := HC'.out.2.2.2.setCell (p := ⟨w.heap.size + 2, q, none⟩) (by simp) (.int .u8 v.toNat)
            exact ⟨i + 1, by omega, by go_num, And.intro e1 (And.intro e2 (And.intro e3 e4))⟩
          case measure => simp [intOf]; omega
      · go_wp2_with fail
        go_still_tail 15, (by kernel_rfl)
        rw [show (128 : Int) / 2 ^ min (IntKind.u64.wrap 5).toNat 8 = 4 from rfl, and_c5, i8_or]
        iterate 1
          obtain ⟨v, hv⟩ : ∃ v, v = y ||| x &&& UInt8.ofNat (128 / 2 ^ 5) := ⟨_, rfl⟩
          rw [← hv]
          have hnext := HC.out.2
          rw [← hv] at hnext
          have HN := Lib.hid hnext
          clear hv hnext
          change wpList _ _ _ _ _ wr.drew
          have hc' : wr.drew.cell? ⟨w.heap.size + 2, q, none⟩ = some (.int .u8 y.toNat) := hcy
          have hf' : wr.drew.frozen? ⟨w.heap.size + 2, q, none⟩ = false := hf
          have HC' : RowKit.Hid (wr.drew.heap[w.heap.size]? = some (.cells (bv l).toArray 33 (0, 0)) ∧ wr.drew.heap[w.heap.size + 1]? = some (.cells (bv (zs 32)).toArray 33 (0, 0)) ∧
            wr.drew.heap[w.heap.size + 2]? = some (.cells (bv (nar l i)).toArray 33 (0, 0)) ∧ Below w.heap.size w wr.drew) := ⟨HC.out.1.1, HC.out.1.2.1, HC.out.1.2.2.1, HC.out.1.2.2.2.drew⟩
          clear hc hf HC hcy
          generalize wr.drew = w2 at *
          go_wp2_with fail
          go_roundw
          case rel =>
            have e1 := (heap_setCell_other w2 ⟨w.heap.size + 2, q, none⟩ w.heap.size (.int .u8 v.toNat) (by simp)).trans HC'.out.1
            have e2 := (heap_setCell_other w2 ⟨w.heap.size + 2, q, none⟩ (w.heap.size + 1) (.int .u8 v.toNat) (by simp)).trans HC'.out.2.1
            have e3 := heap_setCell_same w2 (w.heap.size + 2) q _ _ (.int .u8 v.toNat) HC'.out.2.2.1
            rw [rowB_set, HN.out] at e3
            have e4 := HC'.out.2.2.2.setCell (p := ⟨w.heap.size + 2, q, none⟩) (by simp) (.int .u8 v.toNat)
            exact ⟨i + 1, by omega, by go_num, And.intro e1 (And.intro e2 (And.intro e3 e4))⟩
          case measure => simp [intOf]; omega
      · go_wp2_with fail
        go_still_tail 15, (by kernel_rfl)
        rw [show (128 : Int) / 2 ^ min (IntKind.u64.wrap 6).toNat 8 = 2 from rfl, and_c6, i8_or]
        iterate 1
          obtain ⟨v, hv⟩ : ∃ v, v = y ||| x &&& UInt8.ofNat (128 / 2 ^ 6) := ⟨_, rfl⟩
          rw [← hv]
          have hnext := HC.out.2
          rw [← hv] at hnext
          have HN := Lib.hid hnext
          clear hv hnext
          change wpList _ _ _ _ _ wr.drew
          have hc' : wr.drew.cell? ⟨w.heap.size + 2, q, none⟩ = some (.int .u8 y.toNat) := hcy
          have hf' : wr.drew.frozen? ⟨w.heap.size + 2, q, none⟩ = false := hf
          have HC' : RowKit.Hid (wr.drew.heap[w.heap.size]? = some (.cells (bv l).toArray 33 (0, 0)) ∧ wr.drew.heap[w.heap.size + 1]? = some (.cells (bv (zs 32)).toArray 33 (0, 0)) ∧
            wr.drew.heap[w.heap.size + 2]? = some (.cells (bv (nar l i)).toArray 33 (0, 0)) ∧ Below w.heap.size w wr.drew) := ⟨HC.out.1.1, HC.out.1.2.1, HC.out.1.2.2.1, HC.out.1.2.2.2.drew⟩
          clear hc hf HC hcy
          generalize wr.drew = w2 at *
          go_wp2_with fail
          go_roundw
          case rel =>
            have e1 := (heap_setCell_other w2 ⟨w.heap.size + 2, q, none⟩ w.heap.size (.int .u8 v.toNat) (by simp)).trans HC'.out.1
            have e2 := (heap_setCell_other w2 ⟨w.heap.size + 2, q, none⟩ (w.heap.size + 1) (.int .u8 v.toNat) (by simp)).trans HC'.out.2.1
            have e3 := heap_setCell_same w2 (w.heap.size + 2) q _ _ (.int .u8 v.toNat) HC'.out.2.2.1
            rw [rowB_set, HN.out] at e3
            have e4 := HC'.out.2.2.2.setCell (p := ⟨w.heap.size + 2, q, none⟩) (by simp) (.int .u8 v.toNat)
            exact ⟨i + 1, by omega, by go_num, And.intro e1 (And.intro e2 (And.intro e3 e4))⟩
          case measure => simp [intOf]; omega
      · go_wp2_with fail
        go_still_tail 15, (by kernel_rfl)
        rw [show (128 : Int) / 2 ^ min (IntKind.u64.wrap 7).toNat 8 = 1 from rfl, and_c7, i8_or]
        iterate 1
          obtain ⟨v, hv⟩ : ∃ v, v = y ||| x &&& UInt8.ofNat (128 / 2 ^ 7) := ⟨_, rfl⟩
          rw [← hv]
          have hnext := HC.out.2
          rw [← hv] at hnext
          have HN := Lib.hid hnext
          clear hv hnext
          change wpList _ _ _ _ _ wr.drew
          have hc' : wr.drew.cell? ⟨w.heap.size + 2, q, none⟩ = some (.int .u8 y.toNat) := hcy
          have hf' : wr.drew.frozen? ⟨w.heap.size + 2, q, none⟩ = false := hf
          have HC' : RowKit.Hid (wr.drew.heap[w.heap.size]? = some (.cells (bv l).toArray 33 (0, 0)) ∧ wr.drew.heap[w.heap.size + 1]? = some (.cells (bv (zs 32)).toArray 33 (0, 0)) ∧
            wr.drew.heap[w.heap.size + 2]? = some (.cells (bv (nar l i)).toArray 33 (0, 0)) ∧ Below w.heap.size w wr.drew) := ⟨HC.out.1.1, HC.out.1.2.1, HC.out.1.2.2.1, HC.out.1.2.2.2.drew⟩
          clear hc hf HC hcy
          generalize wr.drew = w2 at *
          go_wp2_with fail
          go_roundw
          case rel =>
            have e1 := (heap_setCell_other w2 ⟨w.heap.size + 2, q, none⟩ w.heap.size (.int .u8 v.toNat) (by simp)).trans HC'.out.1
            have e2 := (heap_setCell_other w2 ⟨w.heap.size + 2, q, none⟩ (w.heap.size + 1) (.int .u8 v.toNat) (by simp)).trans HC'.out.2.1
            have e3 := heap_setCell_same w2 (w.heap.size + 2) q _ _ (.int .u8 v.toNat) HC'.out.2.2.1
            rw [rowB_set, HN.out] at e3
            have e4 := HC'.out.2.2.2.setCell (p := ⟨w.heap.size + 2, q, none⟩) (by simp) (.int .u8 v.toNat)
            exact ⟨i + 1, by omega, by go_num, And.intro e1 (And.intro e2 (And.intro e3 e4))⟩
          case measure => simp [intOf]; omega
    · obtain rfl : i = k := by omega
      have hnl := nar_length l i
      obtain ⟨out, ho⟩ : ∃ out, out = nar l i := ⟨_, rfl⟩
      rw [← ho] at HI hnl
      have HO := Lib.hid ho
      clear ho hil
      by_cases h256 : i = 256
      · have hi256 : ¬ (i : Int) < 256 := by omega
        clear h256
        iterate 1
          go_wp2_with (first
            | (with_reducible show wpList _ _ _ (⟨some 31, _, _, _, _, _⟩ :: _) _ _; refine wpList_load_row rfl _ _ rfl (w.heap.size + 2) rfl _ _ (0, 0) _ HI.out.2.2.1 Tryd.underlying33 rfl (hInfo _ hnl) ?_)
            | (with_reducible show wpList _ _ _ (⟨none, Op.store _ _ _, _, _, _, _⟩ :: _) _ _; refine wpList_store_whole rfl _ _ _ rfl (w.heap.size + 1) _ rfl rfl _ _ HI.out.2.1 (hInfo' _ hnl) (by rw [bv_length, bv_length, hnl]; simp [zs]) (bv_one _) ?_; intro w9 HG9 hg9))
          refine bodyPost_ret (v := .agg (bv out).toArray) ?_ ?_ ?_
          · exact results_cell_row Tryd.results77 _ _ (w.heap.size + 1) 33 _ (0, 0) _ rfl HG9.out Tryd.underlying33 rfl (hInfo _ hnl)
          · rfl
          · exact ⟨by rw [HO.out], below_grow HI.out.2.2.2 hg9 (by omega) (Array.getElem?_eq_some_iff.1 HI.out.2.1).1⟩
      · have hi256 : (i : Int) < 256 := by have := HK.out; omega
        have hin : ¬ (i : Int) < n := by have := HK.out; omega
        clear h256
        iterate 1
          go_wp2_with (first
            | (with_reducible show wpList _ _ _ (⟨some 31, _, _, _, _, _⟩ :: _) _ _; refine wpList_load_row rfl _ _ rfl (w.heap.size + 2) rfl _ _ (0, 0) _ HI.out.2.2.1 Tryd.underlying33 rfl (hInfo _ hnl) ?_)
            | (with_reducible show wpList _ _ _ (⟨none, Op.store _ _ _, _, _, _, _⟩ :: _) _ _; refine wpList_store_whole rfl _ _ _ rfl (w.heap.size + 1) _ rfl rfl _ _ HI.out.2.1 (hInfo' _ hnl) (by rw [bv_length, bv_length, hnl]; simp [zs]) (bv_one _) ?_; intro w9 HG9 hg9))
          refine bodyPost_ret (v := .agg (bv out).toArray) ?_ ?_ ?_
          · exact results_cell_row Tryd.results77 _ _ (w.heap.size + 1) 33 _ (0, 0) _ rfl HG9.out Tryd.underlying33 rfl (hInfo _ hnl)
          · rfl
          · exact ⟨by rw [HO.out], below_grow HI.out.2.2.2 hg9 (by omega) (Array.getElem?_eq_some_iff.1 HI.out.2.1).1⟩
end Go.Proofs.YtdjmebfjanophaaDoor
