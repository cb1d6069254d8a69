/- The laws of sha: what is awake. -/
import Derived.Test.YtkcnakijfmemlaaDoorShaO
import Derived.Test.YtkcnakijfmemlaaDoorShaT
import Derived.Lib.SlBytesConst
namespace Go.Proofs.YtkcnakijfmemlaaDoor
open Go.RowKit Sha

theorem sum_abc : Sha.sum [97, 98, 99] = outB (blk begin0 (pad [97, 98, 99])) := by
  have h : (pad [97, 98, 99]).length / 64 = 1 := rfl
  rw [Sha.sum, h]
  show outB (blk begin0 (((pad [97, 98, 99]).drop (64 * 0)).take 64)) = _
  rw [show ((pad [97, 98, 99]).drop (64 * 0)).take 64 = pad [97, 98, 99] from rfl]
theorem abc_bytes : (Sha.sum [97, 98, 99])[0]? = some 186 ∧ (Sha.sum [97, 98, 99])[31]? = some 173 ∧ (Sha.sum [97, 98, 99])[1]? = some 120 := by
  rw [sum_abc, abc]
  exact ⟨rfl, rfl, rfl⟩

theorem wpList_guard {P : Program} {ops : Array Oper} {rest : List Oper} {o : Oper} {a : Act} {w : World} {Q : Exit → Act → World → Prop} (hg : Region.wanted o (yielded ops a.tmps) = true)
    (h : wpList P ops Q ({ o with guard := none } :: rest) a w) : wpList P ops Q (o :: rest) a w := by
  unfold wpList at h ⊢
  rw [if_pos hg]
  exact h
theorem run_index_h (A : Array Value) (v : Value) (w : World) (h : A[1]? = some v) (hs : A.size = 32) :
    (Instr.index 25 (.agg A) (.int .i64 1)).run Tryd.prog w = .ok v w := by
  simp [Instr.index, asIntOf, part, Sem.run_bind, Tryd.runUnderlying25, Tryd.sizeOf5, Tryd.isAgg5, hs]
  exact (Array.getElem?_eq_some_iff.1 h).2
theorem rd_abc (w : World) : Rd (w.alloc (.cells #[.int .u8 97, .int .u8 98, .int .u8 99] 5 (3, 4))) 1 (.slice (some ⟨w.heap.size, 0, none⟩) 3 3) ([97, 98, 99] : List UInt8).length (bv [97, 98, 99]) := by
  refine ⟨rfl, bv_one _, .inr ⟨⟨w.heap.size, 0, none⟩, 3, rfl, Nat.le_refl _, fun j u hu => ?_⟩⟩
  have h : (w.alloc (.cells #[.int .u8 97, .int .u8 98, .int .u8 99] 5 (3, 4))).heap[w.heap.size]? = some (.cells #[.int .u8 97, .int .u8 98, .int .u8 99] 5 (3, 4)) := heap_alloc_new _ _
  have hcell (k : Nat) : (w.alloc (.cells #[.int .u8 97, .int .u8 98, .int .u8 99] 5 (3, 4))).cell? ⟨w.heap.size, k, none⟩ = (#[.int .u8 97, .int .u8 98, .int .u8 99] : Array Value)[k]? := by
    simp only [World.cell?]
    rw [h]; rfl
  rw [Addr.add_lit, hcell, Nat.zero_add, ← hu]
  match j with
  | 0 => rfl
  | 1 => rfl
  | 2 => rfl
  | j + 3 => rfl

set_option maxHeartbeats 4000000 in
set_option maxRecDepth 100000 in
theorem awake03_any (w : World) (hG : Tabs w) :
    Calls Tryd.prog 12 #[] w fun e w' => e = .returned (.bool true) ∧ Below w.heap.size w w' := by
  have hz := (zero_of_info info32).1
  have hg3 : w.heap.size ≥ 3 := hG.size
  go_enter Tryd.func12, Tryd.ntmps12
  have hcv := Lib.run_convert_bytes_const (P := Tryd.prog) w 22 5 #[.int .u8 97, .int .u8 98, .int .u8 99] 3 3 Tryd.underlying22 Tryd.underlying5
  go_wp2_with fail
  clear hcv
  have hb1 : Below w.heap.size w (w.alloc (.cells #[.int .u8 97, .int .u8 98, .int .u8 99] 5 (3, 4))) := (Below.refl _ _).alloc (Nat.le_refl _) _
  refine (shaSum_any [97, 98, 99] _ _ (by simp) (rd_abc w) (hG.keepB hb1)).mono ?_
  rintro e w1 ⟨rfl, hb⟩
  have hbw1 := hb1.trans (hb.mono hb1.size)
  have habc := abc_bytes
  have hol := sum_length [97, 98, 99]
  generalize Sha.sum [97, 98, 99] = out at *
  have hnar : (bv (nar out 12)).toArray[1]? = some (.int .u8 112) ∧ (bv (nar out 12)).toArray.size = 32 := by
    refine ⟨?_, by simp [bv_length, nar_length]⟩
    rw [List.getElem?_toArray, bv, List.getElem?_map, nar, bs_get _ _ _ (by omega), List.getD_eq_getElem?_getD, habc.2.2]
    rfl
  have hNar := fun w' => Narrow_any out 12 w' hol (by omega)
  have hclip : clip 12 = 12 := rfl
  rw [hclip] at hNar
  have HN := Lib.hid (And.intro hNar hnar)
  have HA := Lib.hid (And.intro hbw1 (And.intro habc hol))
  clear hNar hnar habc hol hb1 hb hbw1
  go_upto_region 2 with (with_reducible show wpList _ _ _ (⟨none, Op.store _ _ _, _, _, _, _⟩ :: _) _ _; go_loud (refine wpList_store_whole rfl _ _ _ rfl w1.heap.size (bv out) rfl rfl (bv (zs 32)) _ (heap_alloc_new _ _) (hInfo' _ HA.out.2.2) (by rw [bv_length, bv_length, HA.out.2.2]; simp [zs]) (bv_one _) ?_; intro w3 HG3 hg3))
  have hb3 : Below w.heap.size w w3 := below_grow (HA.out.1.alloc HA.out.1.size _) hg3 HA.out.1.size (by simp)
  have hrow := HG3.out
  have hc (j : Nat) (x : UInt8) (hx : out[j]? = some x) : w3.cell? ⟨w1.heap.size, j, none⟩ = some (.int .u8 x.toNat) := by
    rw [cell_of_row _ _ _ _ _ _ hrow, List.getElem?_toArray]; simp [bv, hx]
  have hc0 : w3.cell? ⟨w1.heap.size, 0, none⟩ = some (.int .u8 186) := hc 0 _ HA.out.2.1.1
  have hc31 : w3.cell? ⟨w1.heap.size, 31, none⟩ = some (.int .u8 173) := hc 31 _ HA.out.2.1.2.1
  have H3 := Lib.hid (And.intro hrow hb3)
  clear hc hrow hb3 HG3 hg3
  go_wp2_with (with_reducible show wpList _ _ _ (⟨some 14, _, _, _, _, _⟩ :: _) _ _; refine wpList_guard rfl ?_; refine wpList_load_row rfl _ _ rfl w1.heap.size rfl _ _ (0, 0) _ H3.out.1 Tryd.underlying25 rfl (hInfo _ HA.out.2.2) ?_)
  refine (HN.out.1 _).mono ?_
  rintro e w4 ⟨rfl, hb4⟩
  have hn1 := HN.out.2.1
  have hn2 := HN.out.2.2
  generalize (bv (nar out 12)).toArray = A at *
  have H4 := Lib.hid (H3.out.2.trans (hb4.mono H3.out.2.size))
  have hix := run_index_h A _ w4 hn1 hn2
  go_wp2_with fail
  go_ret
  exact ⟨rfl, H4.out⟩
end Go.Proofs.YtkcnakijfmemlaaDoor
