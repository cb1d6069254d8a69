/- Markers: begun, written. -/
import Derived.Test.YtkcnakijfmemlaaDoorMac
namespace Go.Proofs.YtkcnakijfmemlaaDoor
open Go.RowKit Sha

/-- A key's bytes, xored. -/
def kx (k : List UInt8) (x : UInt8) : List UInt8 := k.map (· ^^^ x)
theorem kx_length (k : List UInt8) (x : UInt8) : (kx k x).length = k.length := by simp [kx]
theorem kx_bs (k : List UInt8) (x : UInt8) : kx k x = bs (fun j => k.getD j 0 ^^^ x) k.length := by
  apply List.ext_getElem?
  intro j
  by_cases h : j < k.length
  · rw [bs_get _ _ _ h, kx, List.getElem?_map, List.getElem?_eq_getElem h, List.getD_eq_getElem?_getD, List.getElem?_eq_getElem h]; rfl
  · rw [List.getElem?_eq_none (by rw [kx_length]; omega), List.getElem?_eq_none (by rw [bs_length]; omega)]
theorem i8_xor (x y : UInt8) : bits .xor .u8 (x.toNat : Int) (y.toNat : Int) = ((x ^^^ y).toNat : Int) := by
  rw [Go.u8_xor_nat _ _ x.toNat_lt y.toNat_lt, UInt8.toNat_xor]
theorem rd_row {w : World} {g n : Nat} {l : List UInt8} {T : TypeId} (h : w.heap[g]? = some (.cells (bv l).toArray T (0, 0))) (hn : l.length = n) : Rd w 1 (.slice (some ⟨g, 0, none⟩) n n) l.length (bv l) := by
  subst hn
  refine ⟨by rw [bv_length]; omega, bv_one _, .inr ⟨_, _, rfl, Nat.le_refl _, fun j u hu => ?_⟩⟩
  rw [Addr.add_lit, Nat.zero_add, cell_of_row _ _ _ _ _ _ h]
  simpa using hu
theorem h64Info (R : List UInt8) (h : R.length = 64) : (Tryd.prog.info? 35).map (·.size) = some (bv R).toArray.size := by
  rw [List.size_toArray, bv_length, h]; kernel_rfl
theorem h64Info' (R : List UInt8) (h : R.length = 64) : (Tryd.prog.info? 35).map (·.size) = some (bv R).length := by
  rw [bv_length, h]; kernel_rfl

set_option maxHeartbeats 4000000 in
set_option maxRecDepth 100000 in
theorem begun_any (k t : List UInt8) (any : Bool) (x : UInt8) (w : World) (hk : k.length = 64) (hG : Tabs w) :
    Calls Tryd.prog 30 #[.agg (mkL k t any).toArray, .int .u8 x.toNat] w fun e w' => e = .returned (.agg (stv (kx k x))) ∧ Below w.heap.size w w' := by
  have hzs := (zero_of_info infoSt).1
  have hz64 := (zero_of_info info64).1
  rw [stv_nil] at hzs
  have hml := mkL_length k t any hk
  have hmd : mkL k t any = [] ++ (bv k ++ (stL t ++ [.bool any])) := rfl
  have HM := Lib.hid hmd
  obtain ⟨M, hM⟩ : ∃ M, M = mkL k t any := ⟨_, rfl⟩
  rw [← hM] at hml HM ⊢
  obtain ⟨A, hA⟩ : ∃ A, A = M.toArray := ⟨_, rfl⟩
  have hsz : A.size = 138 := by rw [hA]; simpa using hml
  rw [← hA]
  have HAM := Lib.hid hA
  clear hM hmd hA
  obtain ⟨s0, hs0⟩ : ∃ s0, s0 = stv [] := ⟨_, rfl⟩
  have HS0 := Lib.hid hs0
  rw [← hs0] at hzs
  clear hs0
  go_enter Tryd.func30, Tryd.ntmps30
  go_upto_region 1 with fail
  obtain ⟨w1, hw1⟩ : ∃ y : World, y = (w.alloc (.cells A 51)).alloc (.cells s0 38) := ⟨_, rfl⟩
  rw [← hw1]
  have hr1 : w1.heap[w.heap.size]? = some (.cells ([] ++ (bv k ++ (stL t ++ [Value.bool any]))).toArray 51 (0, 0)) := by
    rw [← HM.out, ← HAM.out, hw1]; exact (heap_alloc_old _ _ (by simp)).trans (heap_alloc_new _ _)
  have hs1 : w1.heap[w.heap.size + 1]? = some (.cells s0 38 (0, 0)) := by
    rw [hw1]
    have h := heap_alloc_new (w.alloc (.cells A 51)) (.cells s0 38)
    simpa using h
  have hb1 : Below w.heap.size w w1 := by rw [hw1]; exact ((Below.refl _ _).alloc (Nat.le_refl _) _).alloc (by simp) _
  have hlt1 : w.heap.size + 1 < w1.heap.size := (Array.getElem?_eq_some_iff.1 hs1).1
  have hkk := h64Info' k hk
  have hfit : (bv k).length = (bv (zs 64)).length := by rw [bv_length, hk]; simp [bv_length, zs]
  have hrng := range_of_row [] (bv k) (stL t ++ [Value.bool any]) 0 rfl hr1
  obtain ⟨X, hX⟩ : ∃ X, X = bv k := ⟨_, rfl⟩
  rw [← hX] at hkk hfit hrng
  have hX1 : ∀ u ∈ X, u.oneCell' = true := by rw [hX]; exact bv_one _
  have H1 := Lib.hid (And.intro hrng (And.intro hkk (And.intro hfit (And.intro hX1 (And.intro hs1 hb1)))))
  have HX := Lib.hid hX
  clear hw1 hr1 hs1 hb1 hkk hfit hrng hX1 hX hsz
  go_upto_region 2 with (first
    | (with_reducible show wpList _ _ _ (⟨some 8, _, _, _, _, _⟩ :: _) _ _; refine wpList_load_mid rfl _ _ rfl w.heap.size 0 rfl X _ H1.out.1 Tryd.underlying35 rfl H1.out.2.1 ?_)
    | (with_reducible show wpList _ _ _ (⟨none, Op.store _ _ _, _, _, _, _⟩ :: _) _ _; go_loud (refine wpList_store_whole rfl _ _ _ rfl w1.heap.size X rfl rfl (bv (zs 64)) _ (heap_alloc_new _ _) H1.out.2.1 H1.out.2.2.1 H1.out.2.2.2.1 ?_; intro w2 HG2 hg2)))
  have hrow : w2.heap[w1.heap.size]? = some (.cells (bv (bs (fun j => if j < 0 then k.getD j 0 ^^^ x else k.getD j 0) 64)).toArray 35 (0, 0)) := by
    have h := HG2.out
    have e := bs_self k
    rw [hk] at e
    rw [HX.out] at h
    rw [h, bs_congr (fun j => if j < 0 then k.getD j 0 ^^^ x else k.getD j 0) (fun j => k.getD j 0) 64 (fun j _ => if_neg (by omega)), e]
  have hs2 : w2.heap[w.heap.size + 1]? = some (.cells s0 38 (0, 0)) := (hg2.block _ (by simp; omega) (by simp; omega)).trans ((heap_alloc_old _ _ hlt1).trans H1.out.2.2.2.2.1)
  have hb2 : Below w.heap.size w w2 := below_grow (H1.out.2.2.2.2.2.alloc H1.out.2.2.2.2.2.size _) hg2 H1.out.2.2.2.2.2.size (by simp)
  obtain ⟨g5, hg5⟩ : ∃ g5, g5 = w1.heap.size := ⟨_, rfl⟩
  have hg5b : w.heap.size + 1 < g5 := by omega
  rw [← hg5] at hrow ⊢
  have H2 := Lib.hid (And.intro hrow (And.intro hs2 hb2))
  clear hrow hs2 hb2 HG2 hg2 H1 hg5 hlt1
  go_wp2_with fail
  go_loopw [9] (fun s9 wr => ∃ i : Nat, i ≤ 64 ∧ s9 = .int .i64 i ∧ RowKit.Hid (wr.heap[g5]? = some (.cells (bv (bs (fun j => if j < i then k.getD j 0 ^^^ x else k.getD j 0) 64)).toArray 35 (0, 0)) ∧
      wr.heap[w.heap.size + 1]? = some (.cells s0 38 (0, 0)) ∧ Below w.heap.size w wr)) (fun s9 _ => 64 - (intOf s9).toNat)
  case atStart => exact ⟨0, by omega, rfl, H2⟩
  case round =>
    clear H2
    obtain ⟨i, hi, rfl, HI⟩ := hrel
    by_cases hil : i < 64
    · have hiz : (i : Int) < 64 := by omega
      have hi0 : (0 : Int) ≤ (i : Int) := by omega
      obtain ⟨y, hy⟩ : ∃ y, y = k.getD i 0 := ⟨_, rfl⟩
      have hc : wr.cell? ⟨g5, i, none⟩ = some (.int .u8 y.toNat) := by
        rw [cell_of_row _ _ _ _ _ _ HI.out.1, List.getElem?_toArray]
        simp only [bv, List.getElem?_map, bs_get _ _ _ hil]
        rw [if_neg (by omega), hy]; rfl
      have hf := frozen_of_row _ _ i _ _ HI.out.1
      have hxx := i8_xor y x
      have HY := Lib.hid hy
      clear hy
      go_wp2_with fail
      go_roundw
      case rel =>
        have e1 := heap_setCell_same wr g5 i _ _ (.int .u8 (y ^^^ x).toNat) HI.out.1
        rw [rowB_set, bs_set _ (fun j => if j < i + 1 then k.getD j 0 ^^^ x else k.getD j 0) 64 i (y ^^^ x) (by simp [HY.out]) (fun j hj hne => by
          by_cases h1 : j < i
          · simp [h1, show j < i + 1 by omega]
          · simp [h1, show ¬ j < i + 1 by omega])] at e1
        have e2 := (heap_setCell_other wr ⟨g5, i, none⟩ (w.heap.size + 1) (.int .u8 (y ^^^ x).toNat) (by simp; omega)).trans HI.out.2.1
        have e3 := HI.out.2.2.setCell (p := ⟨g5, i, none⟩) (by simp; omega) (.int .u8 (y ^^^ x).toNat)
        exact ⟨i + 1, by omega, by go_num, And.intro e1 (And.intro e2 e3)⟩
      case measure => simp [intOf]; omega
    · have hiz : ¬ (i : Int) < 64 := by omega
      obtain rfl : i = 64 := by omega
      have hrow : wr.heap[g5]? = some (.cells (bv (kx k x)).toArray 35 (0, 0)) := by
        rw [HI.out.1, kx_bs, hk]
        refine congrArg (fun q => some (Obj.cells q 35 (0, 0))) (congrArg (fun q => (bv q).toArray) (bs_congr _ _ 64 fun j hj => ?_))
        rw [if_pos hj]
      have hrd := rd_row hrow (by rw [kx_length, hk])
      have hW := Write_any [] (kx k x) _ wr (by rw [kx_length, hk]; simp) hrd (hG.keepB HI.out.2.2)
      rw [List.nil_append, ← HS0.out, show stv (kx k x) = (stL (kx k x)).toArray from rfl] at hW
      have HW := Lib.hid hW
      have H3 := Lib.hid HI.out.2
      clear hrd hrow hW HI
      have hz64 : ¬ (64 : Int) < 64 := by decide
      go_wp2_with fail
      refine HW.out.mono ?_
      rintro e w4 ⟨rfl, hb4⟩
      have hs4 : w4.heap[w.heap.size + 1]? = some (.cells (stL []).toArray 38 (0, 0)) := by
        have h := (hb4.block _ (Array.getElem?_eq_some_iff.1 H3.out.1).1).trans H3.out.1
        rw [HS0.out] at h; exact h
      have hb4' := H3.out.2.trans (hb4.mono H3.out.2.size)
      have H4 := Lib.hid (And.intro hs4 hb4')
      clear hs4 hb4 hb4' HW H3
      go_wp2_with (with_reducible show wpList _ _ _ (⟨none, Op.store _ _ _, _, _, _, _⟩ :: _) _ _; refine wpList_store_whole rfl _ _ _ rfl (w.heap.size + 1) (stL (kx k x)) rfl rfl (stL []) _ H4.out.1 (stInfo' _ (stL_length _)) (by rw [stL_length, stL_length]) (stL_one _) ?_; intro w9 HG9 hg9)
      have hend : w9.heap[w.heap.size + 1]? = some (.cells (stv (kx k x)) 38 (0, 0)) := HG9.out
      have hszl : (Tryd.prog.info? 38).map (·.size) = some (stv (kx k x)).size := stInfo _ (stL_length _)
      refine bodyPost_ret (v := .agg (stv (kx k x))) ?_ ?_ ?_
      · exact results_cell_row Tryd.results30 _ _ (w.heap.size + 1) 38 _ (0, 0) _ rfl hend Tryd.underlying38 rfl hszl
      · rfl
      · exact ⟨rfl, below_grow H4.out.2 hg9 (by omega) (Array.getElem?_eq_some_iff.1 H4.out.1).1⟩
end Go.Proofs.YtkcnakijfmemlaaDoor
