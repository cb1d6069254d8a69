/- The reference's Peak; Same of equal ranges. (printed by gen/leafx.py) -/
import Derived.Test.YtdjmebfjanophaaDoorLeafW
import Derived.Test.YtdjmebfjanophaaDoorLeafRA
namespace Go.Proofs.YtdjmebfjanophaaDoor
open Go.RowKit Sha Root Ones

/-- What each operation hands on. -/
def rkF (n : Int) (g b off m c i R : Nat) (xs hh nx : List UInt8) : Nat → Value → World → Prop
  | 0, v, _ => v = .int .i64 n
  | 1, v, _ => v = .pointer (some ⟨g, 1, none⟩)
  | 2, v, _ => v = .slice (some ⟨b, off, none⟩) m c
  | 3, v, _ => v = .int .i64 (i : Nat)
  | 4, v, _ => v = .pointer (some ⟨b, off + i * 32, none⟩)
  | 5, v, _ => v = .agg (bv xs).toArray
  | 6, v, _ => v = .agg (bv hh).toArray
  | 7, v, _ => v = .agg (bv nx).toArray
  | 8, _, w => w.heap[R]? = some (.cells (bv nx).toArray 33 (0, 0))
  | _, _, _ => True

set_option maxHeartbeats 16000000 in
set_option maxRecDepth 100000 in
theorem refPeak_any (n : Int) (sz : Nat) (v : Value) (ps : List (List UInt8)) (w : World) (hn : -9223372036854775808 ≤ n ∧ n ≤ 9223372036854775807) (hs : sz < 18446744073709551616) (h32 : ∀ p ∈ ps, p.length = 32) (hl : ps.length ≤ 140737488355328) (hr : Rd w 32 v ps.length (ps.flatMap bv)) (hT : TabsR w) :
    Calls Tryd.prog 23 #[.int .i64 n, .agg #[.int .u64 sz, v]] w fun e w' => e = .returned (peakV n sz ps) ∧ Below w.heap.size w w' := by
  obtain ⟨a, c, rfl⟩ := hr.form
  have hz := (zero_of_info info32).1
  have hri := fun wx => refRight_any sz a ps.length c wx hs hl
  have hdec : (ps.length = pop 64 sz) ∨ ¬ (ps.length = pop 64 sz) := Classical.em _
  unfold peakV
  obtain ⟨g, hg⟩ : ∃ g, g = w.heap.size := ⟨_, rfl⟩
  obtain ⟨w0, hw0⟩ : ∃ x : World, x = (w.alloc (.cells #[.int .u64 sz, .slice a ps.length c] 31)).alloc (.cells (bv (zs 32)).toArray 33) := ⟨_, rfl⟩
  have hb0 : Below g w w0 := by rw [hw0, hg]; exact ((Below.refl _ _).alloc (Nat.le_refl _) _).alloc (by simp) _
  have hrow : w0.heap[g + 1]? = some (.cells (bv (zs 32)).toArray 33 (0, 0)) := by
    rw [hw0, hg]
    have := heap_alloc_new (w.alloc (.cells #[.int .u64 sz, .slice a ps.length c] 31)) (.cells (bv (zs 32)).toArray 33)
    simpa using this
  have hc0 : w0.cell? ⟨g, 0, none⟩ = some (.int .u64 sz) := by rw [hw0, hg]; simp [go_sem]
  have hc1 : w0.cell? ⟨g, 1, none⟩ = some (.slice a ps.length c) := by rw [hw0, hg]; simp [go_sem]
  have hgl : g + 1 < w0.heap.size := by rw [hw0, hg]; simp
  have HW := Lib.hid hw0
  have HG := Lib.hid hg
  have H0 := Lib.hid (And.intro hb0 hrow)
  have HR := Lib.hid (And.intro hr (And.intro h32 hT))
  clear hr hT h32 hw0 hb0 hrow
  rcases hdec with hd | hd
  · rw [if_pos hd]
    rw [decide_eq_true hd] at hri
    clear hd
    obtain ⟨OUT, hOUT⟩ : ∃ x, x = overH n ps := ⟨_, rfl⟩
    rw [← hOUT]
    have hol : OUT.length = 32 := by rw [hOUT]; exact overH_length n ps HR.out.2.1
    have HO := Lib.hid (And.intro hOUT hol)
    clear hOUT hol
    go_enter Tryd.func23, Tryd.ntmps23
    go_upto_region 1 with fail
    rw [← hg, show (w.alloc (.cells #[.int .u64 sz, .slice a ps.length c] 31)).alloc (.cells (bv (zs 32)).toArray 33) = w0 from HW.out.symm]
    clear hg
    go_wp2_with fail
    refine (hri _).mono ?_
    rintro e w1 ⟨rfl, hb1⟩
    have hrow1 := (hb1.block _ hgl).trans H0.out.2
    have hbw1 := H0.out.1.trans (hb1.mono (by omega))
    have hc1' := (hb1.cell (p := ⟨g, 1, none⟩) (show g < w0.heap.size by omega)).trans hc1
    have hgl1 := Nat.lt_of_lt_of_le hgl hb1.size
    have H1 := Lib.hid (And.intro hrow1 (And.intro hbw1 hc1'))
    clear hrow1 hbw1 hb1 hc0 hc1 hri hgl
    by_cases h0 : ps.length = 0
    · have he : ps = [] := List.eq_nil_of_length_eq_zero h0
      subst he
      have hE := refEmpty_any n w1 hn (HR.out.2.2.keepB (HG.out ▸ H1.out.2.1))
      have hOE : OUT = emptyH n := HO.out.1
      rw [← hOE] at hE
      clear hOE h0
      go_wp2_with fail
      refine hE.mono ?_
      rintro e w2 ⟨rfl, hb2⟩
      have hrow2 := (hb2.block _ hgl1).trans H1.out.1
      have hbw2 := H1.out.2.1.trans (hb2.mono (by omega))
      have hgl2 := Nat.lt_of_lt_of_le hgl1 hb2.size
      have H2 := Lib.hid (And.intro hrow2 (And.intro hbw2 hgl2))
      clear hrow2 hbw2 hb2 hc1' hE hgl2
      go_wp2_with (with_reducible show wpList _ _ _ (⟨none, Op.store _ _ _, _, _, _, _⟩ :: _) _ _; refine wpList_store_whole rfl _ _ _ rfl (g + 1) (bv OUT) rfl rfl (bv (zs 32)) _ H2.out.1 (hInfo' _ HO.out.2) (by rw [bv_length, bv_length, HO.out.2]; simp [zs]) (bv_one _) ?_; intro w9 HG9 hg9)
      have hld := run_loadVar_row (P := Tryd.prog) w9 (g + 1) _ 33 _ (0, 0) _ HG9.out Tryd.underlying33 rfl (hInfo _ HO.out.2)
      refine bodyPost_ret (v := .tuple #[.agg (bv OUT).toArray, .int .i64 0]) ?_ rfl ?_
      · simp [results, Tryd.results23, asAddr, hld]
      · refine ⟨rfl, ?_⟩
        have := below_grow H2.out.2.1 hg9 (by omega) H2.out.2.2
        rwa [HG.out] at this
    · obtain ⟨m, hm⟩ : ∃ m, m = ps.length := ⟨_, rfl⟩
      obtain ⟨b, off, c', hv, hcc, hcell⟩ := (HR.out.1.keep (HG.out ▸ H1.out.2.1)).atN (show 0 < ps.length by omega) (by omega)
      simp only [Value.slice.injEq, true_and] at hv
      obtain ⟨rfl, rfl⟩ := hv
      have hrg : ∀ (j : Nat) (x : List UInt8), ps[j]? = some x → w1.rangeAt b (off + j * 32) (bv x) := fun j x hx i u hu => by
        have hx32 := HR.out.2.1 x (List.mem_of_getElem? hx)
        have hi : i < 32 := by have := (List.getElem?_eq_some_iff.1 hu).1; rwa [bv_length, hx32] at this
        have := hcell (j * 32 + i) u (by rw [flat_at32 _ j i x HR.out.2.1 hx hi]; exact hu)
        rwa [← Nat.add_assoc] at this
      have hbg : b < g := by
        obtain ⟨b2, off2, c2, hv2, _, hcell2⟩ := HR.out.1.atN (show 0 < ps.length by omega) (by omega)
        simp only [Value.slice.injEq, Option.some.injEq, Addr.mk.injEq, true_and, and_true] at hv2
        rw [hv2.1.1, HG.out]
        have hll : 0 < (ps.flatMap bv).length := by rw [HR.out.1.1]; omega
        exact World.block_lt_of_cell? w _ (hcell2 0 _ (List.getElem?_eq_getElem hll))
      obtain ⟨xl, hxl⟩ : ∃ x, ps[m - 1]? = some x := ⟨_, List.getElem?_eq_getElem (by omega)⟩
      have hx32 := HR.out.2.1 xl (List.mem_of_getElem? hxl)
      have hk1 : IntKind.i64.wrap ((m : Int) - 1) = ((m - 1 : Nat) : Int) := by rw [IntWalk.i64_in _ (by omega)]; omega
      have hk2 : (0 : Int) ≤ ((m - 1 : Nat) : Int) := by omega
      have hk3 : ((m - 1 : Nat) : Int) < (m : Int) := by omega
      have hk4 : ¬ (m : Int) = 0 := by omega
      rw [← hm] at hc1' H1 ⊢
      obtain ⟨M1, hM1⟩ : ∃ k, k = m - 1 := ⟨_, rfl⟩
      rw [← hM1] at hk1 hk2 hk3 hxl
      have HRGA := Lib.hid hrg
      have HXL := Lib.hid (And.intro hxl (And.intro hx32 (And.intro hM1 hm)))
      have hrgl := hrg _ _ hxl
      have HRL := Lib.hid hrgl
      have hmb : m ≤ 140737488355328 := by omega
      have hm1 : 1 ≤ m := by omega
      obtain ⟨Rb, hRb⟩ : ∃ r, r = w1.heap.size := ⟨_, rfl⟩
      have H7 := Lib.hid (heap_alloc_new w1 (.cells (bv (zs 32)).toArray 33))
      clear hcell hrg hxl hx32 hrgl h0 hl hm hM1
      go_wp2_with (first
        | (with_reducible show wpList _ _ _ (⟨some 25, _, _, _, _, _⟩ :: _) _ _; refine wpList_load_mid rfl _ _ rfl b (off + M1 * 32) rfl (bv xl) _ HRL.out Tryd.underlying33 rfl (hInfo' _ HXL.out.2.1) ?_)
        | (with_reducible show wpList _ _ _ (⟨none, Op.store _ _ _, _, _, _, _⟩ :: _) _ _; refine wpList_store_whole rfl _ _ _ rfl w1.heap.size (bv xl) rfl rfl (bv (zs 32)) _ H7.out (hInfo' _ HXL.out.2.1) (by rw [bv_length, bv_length, HXL.out.2.1]; simp [zs]) (bv_one _) ?_; intro w2 HG2 hg2))
      obtain ⟨R, hR⟩ : ∃ r, r = w1.heap.size := ⟨_, rfl⟩
      rw [← hR]
      have k2 : Below w1.heap.size w1 w2 := below_grow ((Below.refl _ _).alloc (Nat.le_refl _) _) hg2 (Nat.le_refl _) (by simp)
      rw [← hR] at k2
      have hgR : g + 1 < R := by rw [hR]; exact hgl1
      have hcw2 := (k2.cell (p := ⟨g, 1, none⟩) (show g < R by omega)).trans H1.out.2.2
      have hrow2 : w2.heap[R]? = some (.cells (bv xl).toArray 33 (0, 0)) := by rw [hR]; exact HG2.out
      have hg1 := (k2.block (g + 1) hgR).trans H1.out.1
      have hbw2 := H1.out.2.1.trans (k2.mono (by omega))
      have hR2 : R ≤ w2.heap.size := by rw [hR]; have := (Array.getElem?_eq_some_iff.1 HG2.out).1; omega
      have hbR : b < R := by omega
      have hrg2 : ∀ (j : Nat) (x : List UInt8), ps[j]? = some x → w2.rangeAt b (off + j * 32) (bv x) := fun j x hx q u hu => (k2.cell (p := ⟨b, off + j * 32 + q, none⟩) (show b < R by omega)).trans (HRGA.out j x hx q u hu)
      have hov : ∀ j, j < m → overH n (ps.drop j) = if j + 1 = m then xl else nodeH n (ps.getD j []) (overH n (ps.drop (j + 1))) := fun j hj => by
        have hm := HXL.out.2.2.2
        have hM := HXL.out.2.2.1
        have hd : ps.drop j = ps[j] :: ps.drop (j + 1) := List.drop_eq_getElem_cons (by omega)
        split
        · rename_i hjm
          have hj2 : j = M1 := by omega
          subst hj2
          have e := HXL.out.1
          rw [List.getElem?_eq_getElem (by omega)] at e
          rw [hd, Option.some.inj e, List.drop_of_length_le (by omega)]; rfl
        · rename_i hjm
          rw [hd]
          unfold overH
          rw [overL_cons _ _ _ _ (fun e => by have := congrArg List.length e; simp at this; omega), List.getD_eq_getElem?_getD, List.getElem?_eq_getElem (by omega)]; rfl
      have hlen : ∀ j, (overH n (ps.drop j)).length = 32 := fun j => overH_length n _ (fun p hp => HR.out.2.1 p (List.mem_of_mem_drop hp))
      have hnd0 : ∀ wx, Below R w2 wx → ∀ xs ys : List UInt8, xs.length = 32 → ys.length = 32 → Calls Tryd.prog 50 #[.int .i64 n, .agg (bv xs).toArray, .agg (bv ys).toArray] wx fun e w' => e = .returned (.agg (bv (nodeH n xs ys)).toArray) ∧ Below wx.heap.size wx w' := fun wx h xs ys hx hy => refNode_any n xs ys wx hx hy hn (HR.out.2.2.keepB (HG.out ▸ hbw2.trans (h.mono (by omega))))
      have HF := Lib.hid (And.intro hcw2 (And.intro hg1 (And.intro hbw2 (And.intro hrg2 (And.intro hov (And.intro hlen hnd0))))))
      have hstart : overH n (ps.drop (m - 1 - 0)) = xl := by rw [hov (m - 1 - 0) (by omega), if_pos (by omega)]
      have HST := Lib.hid (And.intro hstart hrow2)
      have hw0 : IntKind.i64.wrap ((m : Int) - 2) = (m : Int) - 2 := IntWalk.i64_in _ (by omega)
      clear hcw2 hg1 hbw2 hrg2 hov hlen hnd0 hstart hrow2 k2 hg2 HG2 hc1' hR hk1 hk2 hk3 hk4
      go_wp2_with fail
      go_loopw [8] (fun s8 wr => ∃ k : Nat, k + 1 ≤ m ∧ s8 = .int .i64 ((m : Int) - 2 - k) ∧ wr.heap[R]? = some (.cells (bv (overH n (ps.drop (m - 1 - k)))).toArray 33 (0, 0)) ∧ Below R w2 wr) (fun i _ => (intOf i + 1).toNat)
      case atStart => exact ⟨0, by omega, by simp, by rw [HST.out.1]; exact HST.out.2, Below.refl _ _⟩
      case round =>
        obtain ⟨k, hk, rfl, hrowR, hbr⟩ := hrel
        clear hw0
        have hRs : R ≤ wr.heap.size := Nat.le_trans hR2 hbr.size
        by_cases hlt : k + 2 ≤ m
        · obtain ⟨i, hi⟩ : ∃ i : Nat, i = m - 2 - k := ⟨_, rfl⟩
          have hiz : ((m : Int) - 2 - (k : Int)) = (i : Int) := by omega
          have him : i + 1 < m := by omega
          have hi1 : m - 1 - k = i + 1 := by omega
          have hi2 : m - 1 - (k + 1) = i := by omega
          obtain ⟨xs, hx⟩ : ∃ x, ps[i]? = some x := ⟨_, List.getElem?_eq_getElem (by have := HXL.out.2.2.2; omega)⟩
          have hx32 := HR.out.2.1 xs (List.mem_of_getElem? hx)
          rw [hi1] at hrowR
          obtain ⟨hh, hhh⟩ : ∃ hh, hh = overH n (ps.drop (i + 1)) := ⟨_, rfl⟩
          rw [← hhh] at hrowR
          have hh32 : hh.length = 32 := by rw [hhh]; exact HF.out.2.2.2.2.2.1 _
          obtain ⟨nx, hnx⟩ : ∃ nx, nx = nodeH n xs hh := ⟨_, rfl⟩
          have hnx32 : nx.length = 32 := by rw [hnx]; exact nodeH_length _ _ _
          have hnv : nx = overH n (ps.drop (m - 1 - (k + 1))) := by
            rw [hi2, HF.out.2.2.2.2.1 i (by omega), if_neg (by omega), ← hhh, hnx, List.getD_eq_getElem?_getD, hx]; rfl
          have hnd : ∀ wx, Below R wr wx → Calls Tryd.prog 50 #[.int .i64 n, .agg (bv xs).toArray, .agg (bv hh).toArray] wx fun e w' => e = .returned (.agg (bv nx).toArray) ∧ Below wx.heap.size wx w' := fun wx hx => by
            rw [hnx]; exact HF.out.2.2.2.2.2.2 wx (hbr.trans hx) xs hh hx32 hh32
          have HC := Lib.hid ((hbr.cell (p := ⟨g, 1, none⟩) (show g < R by omega)).trans HF.out.1)
          have hrg : wr.rangeAt b (off + i * 32) (bv xs) := fun q u hu => (hbr.cell (p := ⟨b, off + i * 32 + q, none⟩) hbR).trans (HF.out.2.2.2.1 i xs hx q u hu)
          have HRG := Lib.hid hrg
          have HXY := Lib.hid (And.intro hx32 hh32)
          have HNX := Lib.hid hnx32
          have HND := Lib.hid hnd
          have HNV := Lib.hid hnv
          have HI := Lib.hid hi
          have HBR := Lib.hid hbr
          rw [hiz]
          have z0 : (0 : Int) ≤ (i : Int) := by omega
          clear hrg hx32 hh32 hnx32 hnd hnv hbr hx hhh hnx hi1 hi2 hi hiz
          go_upto_region 10 with fail
          refine wp_region_until [some 32, some 33, some 34, some 35, some 36, some 37, some 38, some 39, none] [] 8 (fun wx => wx.heap[R]? = some (.cells (bv hh).toArray 33 (0, 0))) [0, 1, 2, 3, 4, 5, 6, 7, 8] (rkF n g b off m c i R xs hh nx) (kOne 8 R) (fun wx => Below R wr wx) (by kernel_rfl) (by kernel_rfl) rfl (by kernel_rfl) (by kernel_rfl) (Below.refl _ _).drew hrowR ((fun _ hj _ _ k h => ((kOne_below hj k).block _ (Array.getElem?_eq_some_iff.1 h).1).trans h)) (fun _ _ => kOne_refl _ _ _ _) (fun _ _ _ h k => h.trans (kOne_base (Nat.le_trans hRs h.size) k)) ?hF ?hstep ?hend
          case hF =>
            exact ⟨fun _ _ _ _ _ _ h => h, ⟨fun _ _ _ _ _ _ h => h, ⟨fun _ _ _ _ _ _ h => h, ⟨fun _ _ _ _ _ _ h => h, ⟨fun _ _ _ _ _ _ h => h, ⟨fun _ _ _ _ _ _ h => h, ⟨fun _ _ _ _ _ _ h => h, ⟨fun _ _ _ _ _ _ h => h, ⟨fun j hg _ _ _ k h => ((kOne_below (fun e => by subst e; exact absurd hg (by rw [show goneB _ 8 8 = true by kernel_rfl]; simp)) k).block _ (Array.getElem?_eq_some_iff.1 h).1).trans h, trivial⟩⟩⟩⟩⟩⟩⟩⟩⟩
          case hstep =>
            -- operation 0: Op.move (tmp 0)
            refine ⟨fun r wx hG hs hq hf => ?_, ?_⟩
            · have hQ := hq rfl
              have e0 : r 0 = .int .i64 n := hs 0 rfl
              refine (if_pos rfl).symm ▸ ?_
              clear hs hq hf
              unfold gives
              go_simp
              exact ⟨kOne_refl _ _ _ _, rfl⟩
            -- operation 1: Op.fieldAddr 39 (tmp 3) 1
            refine ⟨fun r wx hG hs hq hf => ?_, ?_⟩
            · have hQ := hq rfl
              have e3 : r 3 = .pointer (some ⟨g, 0, none⟩) := hs 3 rfl
              refine (if_pos rfl).symm ▸ ?_
              clear hs hq hf
              unfold gives
              go_simp
              exact ⟨kOne_refl _ _ _ _, rfl⟩
            -- operation 2: Op.load 30 (tmp 33)
            refine ⟨fun r wx hG hs hq hf => ?_, ?_⟩
            · have hQ := hq rfl
              have h1 : r 33 = .pointer (some ⟨g, 1, none⟩) := hf.1
              refine (if_pos rfl).symm ▸ ?_
              clear hs hq hf
              unfold gives
              have hc1 := (hG.cell (p := ⟨g, 1, none⟩) (show g < R by omega)).trans HC.out
              go_simp
              exact ⟨kOne_refl _ _ _ _, rfl⟩
            -- operation 3: Op.move (tmp 8)
            refine ⟨fun r wx hG hs hq hf => ?_, ?_⟩
            · have hQ := hq rfl
              have e8 : r 8 = .int .i64 i := hs 8 rfl
              refine (if_pos rfl).symm ▸ ?_
              clear hs hq hf
              unfold gives
              go_simp
              exact ⟨kOne_refl _ _ _ _, rfl⟩
            -- operation 4: Op.indexAddr 30 (tmp 34) (tmp 35)
            refine ⟨fun r wx hG hs hq hf => ?_, ?_⟩
            · have hQ := hq rfl
              have h2 : r 34 = .slice (some ⟨b, off, none⟩) m c := hf.1
              have h3 : r 35 = .int .i64 (i : Nat) := hf.2.1
              refine (if_pos rfl).symm ▸ ?_
              clear hs hq hf
              unfold gives
              have z0 : (0 : Int) ≤ (i : Int) := by omega
              have z1 : (i : Int) < (m : Int) := by omega
              go_simp
              exact ⟨kOne_refl _ _ _ _, rfl⟩
            -- operation 5: Op.load 24 (tmp 36)
            refine ⟨fun r wx hG hs hq hf => ?_, ?_⟩
            · have hQ := hq rfl
              have h4 : r 36 = .pointer (some ⟨b, off + i * 32, none⟩) := hf.1
              refine (if_pos rfl).symm ▸ ?_
              clear hs hq hf
              unfold gives
              refine gives_load_mid 33 _ rfl b (off + i * 32) h4 (bv xs) _ (fun q u hu => (hG.cell (p := ⟨b, off + i * 32 + q, none⟩) (show b < R by omega)).trans (HRG.out q u hu)) Tryd.underlying33 rfl (hInfo' _ HXY.out.1) ⟨kOne_refl _ _ _ _, rfl⟩
            -- operation 6: Op.load 24 (tmp 7)
            refine ⟨fun r wx hG hs hq hf => ?_, ?_⟩
            · have hQ := hq rfl
              have e7 : r 7 = .pointer (some ⟨R, 0, none⟩) := hs 7 rfl
              refine (if_pos rfl).symm ▸ ?_
              clear hs hq hf
              unfold gives
              refine gives_load_row 33 _ rfl R e7 33 _ (0, 0) _ hQ Tryd.underlying33 rfl (hInfo _ HXY.out.2) ⟨kOne_refl _ _ _ _, rfl⟩
            -- operation 7: Op.call ( callee := Callee.value (func 15), args := #[tmp 32, tmp 37, tmp 38], argTypes := #[3, 24, 24] )
            refine ⟨fun r wx hG hs hq hf => ?_, ?_⟩
            · have hQ := hq rfl
              have h0 : r 32 = .int .i64 n := hf.1
              have h5 : r 37 = .agg (bv xs).toArray := hf.2.1
              have h6 : r 38 = .agg (bv hh).toArray := hf.2.2.1
              refine (if_pos rfl).symm ▸ ?_
              clear hs hq hf
              unfold gives
              go_simp
              refine (HND.out wx hG).mono ?_
              rintro e wy ⟨rfl, hb1⟩
              exact ⟨_, rfl, kOne_of rfl hb1, rfl⟩
            -- operation 8: Op.store 24 (tmp 7) (tmp 39)
            refine ⟨fun r wx hG hs hq hf => ?_, ?_⟩
            · have hQ := hq rfl
              have e7 : r 7 = .pointer (some ⟨R, 0, none⟩) := hs 7 rfl
              have h7 : r 39 = .agg (bv nx).toArray := hf.1
              refine (if_pos rfl).symm ▸ ?_
              clear hs hq hf
              unfold gives
              refine gives_store_row 33 _ _ rfl R (bv nx) e7 h7 (bv hh) 33 hQ (hInfo' _ HNX.out) (by rw [bv_length, bv_length, HNX.out, HXY.out.2]) (bv_one _) ?_
              intro wy h1 h2
              exact ⟨kOne_at (below_grow (Below.refl _ _) h2 (Nat.le_refl _) (Array.getElem?_eq_some_iff.1 hQ).1), h1⟩
            exact trivial
          case hend =>
            intro u wz hG hfin
            have z8 : wz.heap[R]? = some (.cells (bv nx).toArray 33 (0, 0)) := hfin 8 (by decide) (by kernel_rfl)
            clear hfin
            simp only [fill]
            have HZ := Lib.hid (And.intro z8 hG)
            clear z8 hG
            go_simp
            go_wp2_with fail
            go_roundw
            case rel =>
              refine ⟨k + 1, by omega, congrArg (Value.int .i64) (by have := HI.out; omega), ?_, HBR.out.trans HZ.out.2⟩
              rw [← HNV.out]; exact HZ.out.1
            case measure => simp [intOf]
        · have hke : k + 1 = m := by omega
          have hz0 : ¬ (0 : Int) ≤ (m : Int) - 2 - (k : Int) := by omega
          rw [show m - 1 - k = 0 by omega, List.drop_zero, ← HO.out.1] at hrowR
          have hg1r := (hbr.block (g + 1) hgR).trans HF.out.2.1
          have hbwr := HF.out.2.2.1.trans (hbr.mono (by omega))
          have HZ := Lib.hid (And.intro hrowR (And.intro hg1r hbwr))
          clear hrowR hg1r hbwr hbr hke
          go_wp2_with (first
            | (with_reducible show wpList _ _ _ (⟨some 40, _, _, _, _, _⟩ :: _) _ _; refine wpList_load_row rfl _ _ rfl R rfl _ _ (0, 0) _ HZ.out.1 Tryd.underlying33 rfl (hInfo _ HO.out.2) ?_)
            | (with_reducible show wpList _ _ _ (⟨none, Op.store _ _ _, _, _, _, _⟩ :: _) _ _; refine wpList_store_whole rfl _ _ _ rfl (g + 1) (bv OUT) rfl rfl (bv (zs 32)) _ HZ.out.2.1 (hInfo' _ HO.out.2) (by rw [bv_length, bv_length, HO.out.2]; simp [zs]) (bv_one _) ?_; intro w9 HG9 hg9))
          have hld := run_loadVar_row (P := Tryd.prog) w9 (g + 1) _ 33 _ (0, 0) _ HG9.out Tryd.underlying33 rfl (hInfo _ HO.out.2)
          refine bodyPost_ret (v := .tuple #[.agg (bv OUT).toArray, .int .i64 0]) ?_ rfl ?_
          · simp [results, Tryd.results23, asAddr, hld]
          · refine ⟨rfl, ?_⟩
            have := below_grow HZ.out.2.2 hg9 (by omega) (Array.getElem?_eq_some_iff.1 HZ.out.2.1).1
            rwa [HG.out] at this
  · rw [if_neg hd]
    rw [decide_eq_false hd] at hri
    clear hd
    go_enter Tryd.func23, Tryd.ntmps23
    go_upto_region 1 with fail
    rw [← hg, show (w.alloc (.cells #[.int .u64 sz, .slice a ps.length c] 31)).alloc (.cells (bv (zs 32)).toArray 33) = w0 from HW.out.symm]
    clear hg
    go_wp2_with fail
    refine (hri _).mono ?_
    rintro e w1 ⟨rfl, hb1⟩
    have hrow1 := (hb1.block _ hgl).trans H0.out.2
    have hbw1 := H0.out.1.trans (hb1.mono (by omega))
    have hgl1 := Nat.lt_of_lt_of_le hgl hb1.size
    have H1 := Lib.hid (And.intro hrow1 (And.intro hbw1 hgl1))
    clear hrow1 hbw1 hb1 hc0 hc1 hri hgl hgl1
    have hzl : (zs 32).length = 32 := by simp [zs]
    go_wp2_with (with_reducible show wpList _ _ _ (⟨none, Op.store _ _ _, _, _, _, _⟩ :: _) _ _; refine wpList_store_whole rfl _ _ _ rfl (g + 1) (bv (zs 32)) rfl rfl (bv (zs 32)) _ H1.out.1 (hInfo' _ hzl) rfl (bv_one _) ?_; intro w9 HG9 hg9)
    have hld := run_loadVar_row (P := Tryd.prog) w9 (g + 1) _ 33 _ (0, 0) _ HG9.out Tryd.underlying33 rfl (hInfo _ hzl)
    refine bodyPost_ret (v := .tuple #[.agg (bv (zs 32)).toArray, .int .i64 1]) ?_ rfl ?_
    · simp [results, Tryd.results23, asAddr, hld]
    · refine ⟨rfl, ?_⟩
      have := below_grow H1.out.2.1 hg9 (by omega) H1.out.2.2
      rwa [HG.out] at this

set_option maxHeartbeats 4000000 in
theorem Same_any (sz : Nat) (ls : List (List UInt8)) (u v : Value) (w : World) (h32 : ∀ p ∈ ls, p.length = 32) (hl : ls.length ≤ 140737488355328) (hu : Rd w 32 u ls.length (ls.flatMap bv)) (hv : Rd w 32 v ls.length (ls.flatMap bv)) :
    Calls Tryd.prog 26 #[.agg #[.int .u64 sz, u], .agg #[.int .u64 sz, v]] w fun e w' => e = .returned (.bool true) ∧ Below w.heap.size w w' := by
  obtain ⟨ua, uc, rfl⟩ := hu.form
  obtain ⟨va, vc, rfl⟩ := hv.form
  have hH := fun wx (h : Below w.heap.size w wx) => Hashes_any ls _ _ wx h32 hl (hu.keep h) (hv.keep h)
  have hb2 : Below w.heap.size w ((w.alloc (.cells #[.int .u64 sz, .slice ua ls.length uc] 31)).alloc (.cells #[.int .u64 sz, .slice va ls.length vc] 31)) := ((Below.refl _ _).alloc (Nat.le_refl _) _).alloc (by simp) _
  clear hu hv h32
  go_enter Tryd.func26, Tryd.ntmps26
  go_wp2_with fail
  refine (hH _ hb2).mono ?_
  rintro e w1 ⟨rfl, hb1⟩
  have hb1 := hb2.trans (hb1.mono hb2.size)
  clear hH hb2
  go_wp2_with fail
  go_ret
  exact ⟨rfl, hb1⟩
end Go.Proofs.YtdjmebfjanophaaDoor
