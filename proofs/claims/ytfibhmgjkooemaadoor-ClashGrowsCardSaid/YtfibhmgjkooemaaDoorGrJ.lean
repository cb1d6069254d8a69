/- The reference's show. (printed by gen/grj.py) -/
import Derived.Test.YtfibhmgjkooemaaDoorGrH
import Derived.Test.YtfibhmgjkooemaaDoorPathE0
import Derived.Test.YtfibhmgjkooemaaDoorRegV
namespace Go.Proofs.YtfibhmgjkooemaaDoor
open Go.RowKit Sha Root Path Growth

/-- What each operation hands on. -/
def sh3P (_B : Nat) (root : List UInt8) : Nat → Value → Prop
  | 0, v => v = .agg (bv root).toArray
  | 1, v => v = .agg (bv root).toArray
  | _, _ => True
def sh3O (_B : Nat) (root : List UInt8) : Nat → Obj
  | 2 => .cells (bv root).toArray 35 (0, 0)
  | 3 => .cells (bv root).toArray 35 (0, 0)
  | _ => default
/-- What each operation hands on. -/
def sh4P (_B b off L c : Nat) (p0 : List UInt8) : Nat → Value → Prop
  | 0, v => v = .slice (some ⟨b, off, none⟩) L c
  | 1, v => v = .pointer (some ⟨b, off, none⟩)
  | 2, v => v = .agg (bv p0).toArray
  | 3, v => v = .slice (some ⟨b, off, none⟩) L c
  | 4, v => v = .pointer (some ⟨b, off, none⟩)
  | 5, v => v = .agg (bv p0).toArray
  | _, _ => True
def sh4O (_B _b _off _L _c : Nat) (p0 : List UInt8) : Nat → Obj
  | 6 => .cells (bv p0).toArray 35 (0, 0)
  | 7 => .cells (bv p0).toArray 35 (0, 0)
  | _ => default
/-- What each operation hands on. -/
def sh9P (W : Int) (_B m K b off L c z : Nat) (old : Bool) (root o rr : List UInt8) (_w2 : World) : Nat → Value → Prop
  | 0, v => v = .int .i64 W
  | 1, v => v = .int .u64 m
  | 2, v => v = .int .u64 K
  | 3, v => v = .agg (bv root).toArray
  | 4, v => v = .slice (some ⟨b, off, none⟩) L c
  | 5, v => v = .int .i64 (z : Nat)
  | 6, v => v = .slice (some ⟨b, off, none⟩) z c
  | 7, v => v = .bool old
  | 8, v => v = .tuple #[.agg (bv o).toArray, .agg (bv rr).toArray]
  | 9, v => v = .tuple #[.agg (bv o).toArray, .agg (bv rr).toArray]
  | 10, v => v = .agg (bv o).toArray
  | 11, v => v = .agg (bv rr).toArray
  | _, _ => True
def sh9O (_W : Int) (_B _m _K _b _off _L _c _z : Nat) (_old : Bool) (_root o rr : List UInt8) (_w2 : World) : Nat → Obj
  | 12 => .cells (bv (zs 32)).toArray 35 (0, 0)
  | 13 => .cells (bv (zs 32)).toArray 35 (0, 0)
  | 14 => .cells (bv o).toArray 35 (0, 0)
  | 15 => .cells (bv rr).toArray 35 (0, 0)
  | _ => default
/-- What each operation hands on. -/
def sh10P (W : Int) (_b12 _b13 _g17 _g18 _g16 : Nat) (o rr pl nd : List UInt8) : Nat → Value → Prop
  | 0, v => v = .agg (bv o).toArray
  | 1, v => v = .int .i64 W
  | 2, v => v = .agg (bv rr).toArray
  | 3, v => v = .agg (bv pl).toArray
  | 4, v => v = .agg (bv nd).toArray
  | _, _ => True
def sh10O (_W : Int) (_b12 _b13 _g17 _g18 _g16 : Nat) (o _rr _pl nd : List UInt8) : Nat → Obj
  | 5 => .cells (bv o).toArray 35 (0, 0)
  | 6 => .cells (bv nd).toArray 35 (0, 0)
  | _ => default
/-- What each operation hands on. -/
def sh11P (W : Int) (_B m n K b off L c z : Nat) (root o rr : List UInt8) (_w2 : World) : Nat → Value → Prop
  | 0, v => v = .int .i64 W
  | 1, v => v = .int .u64 m
  | 2, v => v = .int .u64 K
  | 3, v => v = .int .u64 ((m - K : Nat) : Int)
  | 4, v => v = .int .u64 n
  | 5, v => v = .int .u64 K
  | 6, v => v = .int .u64 ((n - K : Nat) : Int)
  | 7, v => v = .agg (bv root).toArray
  | 8, v => v = .slice (some ⟨b, off, none⟩) L c
  | 9, v => v = .int .i64 (z : Nat)
  | 10, v => v = .slice (some ⟨b, off, none⟩) z c
  | 11, v => v = .tuple #[.agg (bv o).toArray, .agg (bv rr).toArray]
  | 12, v => v = .tuple #[.agg (bv o).toArray, .agg (bv rr).toArray]
  | 13, v => v = .agg (bv o).toArray
  | 14, v => v = .agg (bv rr).toArray
  | _, _ => True
def sh11O (_W : Int) (_B _m _n _K _b _off _L _c _z : Nat) (_root o rr : List UInt8) (_w2 : World) : Nat → Obj
  | 15 => .cells (bv (zs 32)).toArray 35 (0, 0)
  | 16 => .cells (bv (zs 32)).toArray 35 (0, 0)
  | 17 => .cells (bv o).toArray 35 (0, 0)
  | 18 => .cells (bv rr).toArray 35 (0, 0)
  | _ => default
/-- What each operation hands on. -/
def sh12P (W : Int) (_b12 _b13 _g19 _g20 _g16 : Nat) (o rr pl na nb : List UInt8) : Nat → Value → Prop
  | 0, v => v = .int .i64 W
  | 1, v => v = .agg (bv pl).toArray
  | 2, v => v = .agg (bv o).toArray
  | 3, v => v = .agg (bv na).toArray
  | 4, v => v = .int .i64 W
  | 5, v => v = .agg (bv pl).toArray
  | 6, v => v = .agg (bv rr).toArray
  | 7, v => v = .agg (bv nb).toArray
  | _, _ => True
def sh12O (_W : Int) (_b12 _b13 _g19 _g20 _g16 : Nat) (_o _rr _pl na nb : List UInt8) : Nat → Obj
  | 8 => .cells (bv na).toArray 35 (0, 0)
  | 9 => .cells (bv nb).toArray 35 (0, 0)
  | _ => default

theorem showG_32 (W : Int) (m n : Nat) (root : List UInt8) (old : Bool) (ps : List (List UInt8)) (ho : root.length = 32) (h32 : ∀ p ∈ ps, p.length = 32) : (showG (nodeH W) m n root old ps).1.length = 32 ∧ (showG (nodeH W) m n root old ps).2.length = 32 := by
  have hh : (ps.headD root).length = 32 := by
    cases ps with
    | nil => exact ho
    | cons x r => exact h32 x (by simp)
  unfold showG
  split
  · exact runW_32 W _ _ _ ho ho
  · exact runW_32 W _ _ _ hh hh
set_option maxHeartbeats 16000000 in
set_option maxRecDepth 100000 in
theorem show_any (W : Int) (hW : -9223372036854775808 ≤ W ∧ W ≤ 9223372036854775807) : ∀ (f : Nat) (root : List UInt8) (m n : Nat) (old : Bool) (ps : List (List UInt8)) (a : Option Addr) (c : Nat) (w : World), n ≤ f → root.length = 32 → 1 ≤ m → m ≤ n → n < 18446744073709551616 →
    (∀ p ∈ ps, p.length = 32) → ps.length = szG m n old → Rd w 32 (.slice a ps.length c) ps.length (ps.flatMap bv) → TabsR w →
    Calls Tryd.prog 66 #[.int .i64 W, .int .u64 m, .int .u64 n, .agg (bv root).toArray, .slice a ps.length c, .bool old] w fun e w' => e = .returned (.tuple #[.agg (bv (showG (nodeH W) m n root old ps).1).toArray, .agg (bv (showG (nodeH W) m n root old ps).2).toArray]) ∧ Below w.heap.size w w' := by
  intro f
  induction f with
  | zero => intro root m n old ps a c w hf; intros; omega
  | succ f ih =>
    intro root m n old ps a c w hf hh hm1 hmn hn h32 hps hr hT
    have hz := (zero_of_info info32).1
    have HZ32 := Lib.hid (show (zs 32).length = 32 by simp [zs])
    obtain ⟨w0, hw0⟩ : ∃ x : World, x = ((w.alloc (.cells (bv root).toArray 35)).alloc (.cells (bv (zs 32)).toArray 35)).alloc (.cells (bv (zs 32)).toArray 35) := ⟨_, rfl⟩
    have hr0 : w0.heap[w.heap.size]? = some (.cells (bv root).toArray 35 (0, 0)) := by
      rw [hw0, heap_alloc_old _ _ (by simp; omega), heap_alloc_old _ _ (by simp)]; exact heap_alloc_new _ _
    have hr1 : w0.heap[w.heap.size + 1]? = some (.cells (bv (zs 32)).toArray 35 (0, 0)) := by
      rw [hw0, heap_alloc_old _ _ (by simp)]
      have := heap_alloc_new (w.alloc (.cells (bv root).toArray 35)) (.cells (bv (zs 32)).toArray 35)
      simpa using this
    have hr2 : w0.heap[w.heap.size + 1 + 1]? = some (.cells (bv (zs 32)).toArray 35 (0, 0)) := by
      rw [hw0]
      have := heap_alloc_new ((w.alloc (.cells (bv root).toArray 35)).alloc (.cells (bv (zs 32)).toArray 35)) (.cells (bv (zs 32)).toArray 35)
      simpa using this
    have hbw0 : Below w.heap.size w w0 := by rw [hw0]; exact (((Below.refl _ _).alloc (Nat.le_refl _) _).alloc (by simp) _).alloc (by simp; omega) _
    have HW0 := Lib.hid hw0
    have H0sz := Lib.hid hbw0.size
    have H0 := Lib.hid (And.intro hr0 (And.intro hr1 (And.intro hr2 hbw0)))
    clear hw0 hr0 hr1 hr2 hbw0
    have HRT := Lib.hid hh
    by_cases h1 : m = n
    · subst h1
      have y1 : ((m : Int) == (m : Int)) = true := by simp
      rw [show_same]
      rw [szG_same] at hps
      cases old with
      | true =>
        rw [if_pos rfl]
        clear hps hr hT h32 ih hh
        go_enter Tryd.func66, Tryd.ntmps66
        go_upto_region 1 with fail
        rw [show ((w.alloc (.cells (bv root).toArray 35)).alloc (.cells (bv (zs 32)).toArray 35)).alloc (.cells (bv (zs 32)).toArray 35) = w0 from HW0.out.symm]
        go_upto_region 3 with fail
        refine wp_region_desc [some 25, some 26, none, none] [] [(2, 0), (3, 1)] [(0, 0), (0, 0), (2, 0), (2, 1)] [] [2, 3] [w.heap.size + 1, w.heap.size + 1 + 1] [.cells (bv ((zs 32))).toArray 35 (0, 0), .cells (bv ((zs 32))).toArray 35 (0, 0)] (sh3P w.heap.size root) (fun _ _ _ => True) (sh3O w.heap.size root) (by kernel_rfl) (by kernel_rfl) rfl (by kernel_rfl) (by kernel_rfl) (by kernel_rfl) rfl ⟨H0.out.2.1, H0.out.2.2.1, trivial⟩ (by simp; try omega) rfl (fun i hi => (no4 (by kernel_rfl) i hi).elim) ?hstep ?hend
        case hstep =>
          refine ⟨fun r wx hG hs hq hf => ?_, ?_⟩
          · have e9 : r 9 = .pointer (some ⟨w.heap.size, 0, none⟩) := hs 9 rfl
            clear hs hq hf
            refine wanted_pos rfl ?_
            unfold gives
            refine gives_load_row 35 _ rfl w.heap.size e9 35 _ (0, 0) _ (hG.row (by simp; try omega) H0.out.1) Tryd.underlying35 rfl (hInfo _ HRT.out) ?_
            exact obC_q (Below.refl _ _) rfl
          refine ⟨fun r wx hG hs hq hf => ?_, ?_⟩
          · have e9 : r 9 = .pointer (some ⟨w.heap.size, 0, none⟩) := hs 9 rfl
            clear hs hq hf
            refine wanted_pos rfl ?_
            unfold gives
            refine gives_load_row 35 _ rfl w.heap.size e9 35 _ (0, 0) _ (hG.row (by simp; try omega) H0.out.1) Tryd.underlying35 rfl (hInfo _ HRT.out) ?_
            exact obC_q (Below.refl _ _) rfl
          refine ⟨fun r wx hG hs hq hf => ?_, ?_⟩
          · have e12 : r 12 = .pointer (some ⟨w.heap.size + 1, 0, none⟩) := hs 12 rfl
            have h0 : r 25 = .agg (bv root).toArray := hf.1
            clear hs hf
            refine wanted_pos rfl ?_
            unfold gives
            refine gives_store_row 35 _ _ rfl (w.heap.size + 1) (bv root) e12 h0 (bv ((zs 32))) 35 (hq 0 rfl) (hInfo' _ HRT.out) (by rw [bv_length, bv_length, HRT.out, HZ32.out]) (bv_one _) ?_
            intro wy h1 h2
            exact obC_st h1 h2
          refine ⟨fun r wx hG hs hq hf => ?_, ?_⟩
          · have e13 : r 13 = .pointer (some ⟨w.heap.size + 1 + 1, 0, none⟩) := hs 13 rfl
            have h1 : r 26 = .agg (bv root).toArray := hf.1
            have h2 : wx.heap[w.heap.size + 1]? = some (.cells (bv root).toArray 35 (0, 0)) := hf.2.1
            clear hs hf
            refine wanted_pos rfl ?_
            unfold gives
            refine gives_store_row 35 _ _ rfl (w.heap.size + 1 + 1) (bv root) e13 h1 (bv ((zs 32))) 35 (hq 1 rfl) (hInfo' _ HRT.out) (by rw [bv_length, bv_length, HRT.out, HZ32.out]) (bv_one _) ?_
            intro wy h1 h2
            exact obC_st h1 h2
          exact trivial
        case hend =>
          intro u wz hG hfin
          have z2 : wz.heap[w.heap.size + 1]? = some (.cells (bv root).toArray 35 (0, 0)) := hfin 2 (by decide) (by kernel_rfl)
          have z3 : wz.heap[w.heap.size + 1 + 1]? = some (.cells (bv root).toArray 35 (0, 0)) := hfin 3 (by decide) (by kernel_rfl)
          clear hfin
          simp only [fill]
          have HZ := Lib.hid (And.intro z2 (And.intro z3 hG))
          clear z2 z3 hG
          go_simp
          have hld1 := run_loadVar_row (P := Tryd.prog) wz (w.heap.size + 1) _ 35 _ (0, 0) _ HZ.out.1 Tryd.underlying35 rfl (hInfo _ HRT.out)
          have hld2 := run_loadVar_row (P := Tryd.prog) wz (w.heap.size + 1 + 1) _ 35 _ (0, 0) _ HZ.out.2.1 Tryd.underlying35 rfl (hInfo _ HRT.out)
          go_wp2_with fail
          refine bodyPost_ret (v := .tuple #[.agg (bv root).toArray, .agg (bv root).toArray]) ?_ ?_ ?_
          · simp [results, Tryd.results66, asAddr, hld1, hld2]
          · rfl
          · exact ⟨rfl, H0.out.2.2.2.trans (HZ.out.2.2.below (by have := H0.out.2.2.2.size; omega) (by simp; try omega))⟩
      | false =>
        rw [if_neg (by decide)]
        rw [if_neg (by decide)] at hps
        obtain ⟨p0, rfl⟩ : ∃ p, ps = [p] := List.length_eq_one_iff.1 hps
        have HP0 := Lib.hid (h32 p0 (by simp))
        obtain ⟨b, off, c', hv, hcap, hcell⟩ := hr.atN (by simp) (by omega)
        simp only [Value.slice.injEq, true_and] at hv
        obtain ⟨rfl, rfl⟩ := hv
        have HRG0 := Lib.hid (show w.rangeAt b off (bv p0) by have := range_at (w := w) (i := 0) h32 rfl hcell; simpa using this)
        have HRG := Lib.hid (fun wx (hb : KeptT [w.heap.size + 1, w.heap.size + 1 + 1] w0 wx) => range_keep HRG0.out (H0.out.2.2.2.trans (hb.below H0sz.out (by simp; try omega))))
        rw [show [p0].headD root = p0 from rfl, show [p0].length = 1 from rfl]
        obtain ⟨L, hL⟩ : ∃ L, L = 1 := ⟨_, rfl⟩
        rw [← hL]
        clear hps hr hT h32 ih hh hcell hcap
        go_enter Tryd.func66, Tryd.ntmps66
        go_upto_region 1 with fail
        rw [show ((w.alloc (.cells (bv root).toArray 35)).alloc (.cells (bv (zs 32)).toArray 35)).alloc (.cells (bv (zs 32)).toArray 35) = w0 from HW0.out.symm]
        go_upto_region 4 with fail
        refine wp_region_desc [some 27, some 28, some 29, some 30, some 31, some 32, none, none] [] [(6, 0), (7, 1)] [(0, 0), (0, 0), (0, 0), (0, 0), (0, 0), (0, 0), (2, 0), (2, 1)] [] [6, 7] [w.heap.size + 1, w.heap.size + 1 + 1] [.cells (bv ((zs 32))).toArray 35 (0, 0), .cells (bv ((zs 32))).toArray 35 (0, 0)] (sh4P w.heap.size b off L c p0) (fun _ _ _ => True) (sh4O w.heap.size b off L c p0) (by kernel_rfl) (by kernel_rfl) rfl (by kernel_rfl) (by kernel_rfl) (by kernel_rfl) rfl ⟨H0.out.2.1, H0.out.2.2.1, trivial⟩ (by simp; try omega) rfl (fun i hi => (no4 (by kernel_rfl) i hi).elim) ?hstep ?hend
        case hstep =>
          refine ⟨fun r wx hG hs hq hf => ?_, ?_⟩
          · have e4 : r 4 = .slice (some ⟨b, off, none⟩) L c := hs 4 rfl
            clear hs hq hf
            refine wanted_pos rfl ?_
            unfold gives
            go_simp
            exact obC_q (Below.refl _ _) rfl
          refine ⟨fun r wx hG hs hq hf => ?_, ?_⟩
          · have h0 : r 27 = .slice (some ⟨b, off, none⟩) L c := hf.1
            clear hs hq hf
            refine wanted_pos rfl ?_
            unfold gives
            have z1 : (0 : Int) < (L : Int) := by omega
            go_simp
            exact obC_q (Below.refl _ _) rfl
          refine ⟨fun r wx hG hs hq hf => ?_, ?_⟩
          · have h1 : r 28 = .pointer (some ⟨b, off, none⟩) := hf.1
            clear hs hq hf
            refine wanted_pos rfl ?_
            unfold gives
            refine gives_load_mid 35 _ rfl b (off) h1 (bv p0) _ (HRG.out wx hG) Tryd.underlying35 rfl (hInfo' _ HP0.out) ?_
            exact obC_q (Below.refl _ _) rfl
          refine ⟨fun r wx hG hs hq hf => ?_, ?_⟩
          · have e4 : r 4 = .slice (some ⟨b, off, none⟩) L c := hs 4 rfl
            clear hs hq hf
            refine wanted_pos rfl ?_
            unfold gives
            go_simp
            exact obC_q (Below.refl _ _) rfl
          refine ⟨fun r wx hG hs hq hf => ?_, ?_⟩
          · have h3 : r 30 = .slice (some ⟨b, off, none⟩) L c := hf.1
            clear hs hq hf
            refine wanted_pos rfl ?_
            unfold gives
            have z1 : (0 : Int) < (L : Int) := by omega
            go_simp
            exact obC_q (Below.refl _ _) rfl
          refine ⟨fun r wx hG hs hq hf => ?_, ?_⟩
          · have h4 : r 31 = .pointer (some ⟨b, off, none⟩) := hf.1
            clear hs hq hf
            refine wanted_pos rfl ?_
            unfold gives
            refine gives_load_mid 35 _ rfl b (off) h4 (bv p0) _ (HRG.out wx hG) Tryd.underlying35 rfl (hInfo' _ HP0.out) ?_
            exact obC_q (Below.refl _ _) rfl
          refine ⟨fun r wx hG hs hq hf => ?_, ?_⟩
          · have e12 : r 12 = .pointer (some ⟨w.heap.size + 1, 0, none⟩) := hs 12 rfl
            have h2 : r 29 = .agg (bv p0).toArray := hf.1
            clear hs hf
            refine wanted_pos rfl ?_
            unfold gives
            refine gives_store_row 35 _ _ rfl (w.heap.size + 1) (bv p0) e12 h2 (bv ((zs 32))) 35 (hq 0 rfl) (hInfo' _ HP0.out) (by rw [bv_length, bv_length, HP0.out, HZ32.out]) (bv_one _) ?_
            intro wy h1 h2
            exact obC_st h1 h2
          refine ⟨fun r wx hG hs hq hf => ?_, ?_⟩
          · have e13 : r 13 = .pointer (some ⟨w.heap.size + 1 + 1, 0, none⟩) := hs 13 rfl
            have h5 : r 32 = .agg (bv p0).toArray := hf.1
            have h6 : wx.heap[w.heap.size + 1]? = some (.cells (bv p0).toArray 35 (0, 0)) := hf.2.1
            clear hs hf
            refine wanted_pos rfl ?_
            unfold gives
            refine gives_store_row 35 _ _ rfl (w.heap.size + 1 + 1) (bv p0) e13 h5 (bv ((zs 32))) 35 (hq 1 rfl) (hInfo' _ HP0.out) (by rw [bv_length, bv_length, HP0.out, HZ32.out]) (bv_one _) ?_
            intro wy h1 h2
            exact obC_st h1 h2
          exact trivial
        case hend =>
          intro u wz hG hfin
          have z6 : wz.heap[w.heap.size + 1]? = some (.cells (bv p0).toArray 35 (0, 0)) := hfin 6 (by decide) (by kernel_rfl)
          have z7 : wz.heap[w.heap.size + 1 + 1]? = some (.cells (bv p0).toArray 35 (0, 0)) := hfin 7 (by decide) (by kernel_rfl)
          clear hfin
          simp only [fill]
          have HZ := Lib.hid (And.intro z6 (And.intro z7 hG))
          clear z6 z7 hG
          go_simp
          have hld1 := run_loadVar_row (P := Tryd.prog) wz (w.heap.size + 1) _ 35 _ (0, 0) _ HZ.out.1 Tryd.underlying35 rfl (hInfo _ HP0.out)
          have hld2 := run_loadVar_row (P := Tryd.prog) wz (w.heap.size + 1 + 1) _ 35 _ (0, 0) _ HZ.out.2.1 Tryd.underlying35 rfl (hInfo _ HP0.out)
          go_wp2_with fail
          refine bodyPost_ret (v := .tuple #[.agg (bv p0).toArray, .agg (bv p0).toArray]) ?_ ?_ ?_
          · simp [results, Tryd.results66, asAddr, hld1, hld2]
          · rfl
          · exact ⟨rfl, H0.out.2.2.2.trans (HZ.out.2.2.below (by have := H0.out.2.2.2.size; omega) (by simp; try omega))⟩
    · have h2 : 2 ≤ n := by omega
      have hlt : m < n := by omega
      have y1 : ((m : Int) == (n : Int)) = false := by simp; omega
      obtain ⟨z, hm⟩ : ∃ z, ps.length = z + 1 := by
        rcases Nat.lt_or_ge (top n) m with h | h
        · exact ⟨_, hps.trans (szG_right m n old hlt h)⟩
        · exact ⟨_, hps.trans (szG_left m n old hm1 hlt h)⟩
      obtain ⟨pl, hpl⟩ : ∃ p, ps[z]? = some p := ⟨ps[z], List.getElem?_eq_getElem (by omega)⟩
      have hpl32 := h32 pl (List.mem_of_getElem? hpl)
      have hqs : ps = ps.take z ++ [pl] := by
        have := List.take_append_drop z ps
        rw [List.drop_eq_getElem_cons (by omega), List.drop_of_length_le (by omega), (List.getElem?_eq_some_iff.1 hpl).2] at this
        exact this.symm
      have hql : (ps.take z).length = z := by rw [List.length_take]; omega
      obtain ⟨b, off, c', hv, hcap, hcell⟩ := hr.atN (by omega) (by omega)
      simp only [Value.slice.injEq, true_and] at hv
      obtain ⟨rfl, rfl⟩ := hv
      have hrg := range_at (w := w) h32 hpl hcell
      have hrq : Rd w 32 (.slice (some ⟨b, off, none⟩) z c) z ((ps.take z).flatMap bv) := by rw [flat_take32 _ _ h32]; exact rd_take hr z (by omega)
      have hq32 : ∀ p ∈ ps.take z, p.length = 32 := fun p hp => h32 p (List.mem_of_mem_take hp)
      have hcap2 : z + 1 ≤ c := by rw [← hm]; exact hcap
      have hzb : z ≤ 65 := by have := szG_le m n old hm1 hmn (by omega); omega
      have hor := showG_32 W m n root old ps hh h32
      obtain ⟨L, hL⟩ : ∃ L, L = ps.length := ⟨_, rfl⟩
      rw [← hL] at hm hcap ⊢
      obtain ⟨qs, hqe⟩ : ∃ q, q = ps.take z := ⟨_, rfl⟩
      rw [← hqe] at hqs hql hrq hq32
      have hsp := fun wx => Split64_any n wx h2 hn
      have hK1 := top_lt n h2
      have hK0 := top_pos n
      have hk2 := top_le2 n
      rcases Nat.lt_or_ge (top n) m with htop | htop
      · have hct := show_right (nodeH W) m n root old qs pl hlt htop (by rw [← hps, hql, ← hL, hm])
        have hup := fun wx (hb : Below w.heap.size w wx) => ih root (m - top n) (n - top n) false qs (some ⟨b, off, none⟩) c wx (by omega) hh (by omega) (by omega) (by omega) hq32 (by have := szG_right m n old hlt htop; omega) (by rw [hql]; exact hrq.keep hb) (hT.keepB hb)
        have ho32 := (showG_32 W (m - top n) (n - top n) root false qs hh hq32)
        rw [hql] at hup
        rw [← hqs] at hct
        rw [hct]
        rw [hct] at hor
        obtain ⟨K, hK⟩ : ∃ k, k = top n := ⟨_, rfl⟩
        rw [← hK] at hup hsp hK1 hK0 htop ho32 hor hk2 ⊢
        obtain ⟨or_, hrt⟩ : ∃ x, x = showG (nodeH W) (m - K) (n - K) root false qs := ⟨_, rfl⟩
        rw [← hrt] at hup ho32 hor ⊢
        obtain ⟨o, rr⟩ := or_
        obtain ⟨ho32, hr32⟩ := ho32
        have hna0 := fun wx (hb : Below w.heap.size w wx) => refNode_any W pl o wx hpl32 ho32 hW (hT.keepB hb)
        have hnb0 := fun wx (hb : Below w.heap.size w wx) => refNode_any W pl rr wx hpl32 hr32 hW (hT.keepB hb)
        simp only at hup hor ⊢
        obtain ⟨na, hna⟩ : ∃ x, x = nodeH W pl o := ⟨_, rfl⟩
        obtain ⟨nb, hnb⟩ : ∃ x, x = nodeH W pl rr := ⟨_, rfl⟩
        rw [← hna] at hna0 hor ⊢
        rw [← hnb] at hnb0 hor ⊢
        have HNA0 := Lib.hid hna0
        have HNB0 := Lib.hid hnb0
        have HND32 := Lib.hid hor
        have HSP := Lib.hid hsp
        clear hna hnb hna0 hnb0
        have y2 : ¬ (m : Int) ≤ (K : Int) := by omega
        have y3 : IntKind.i64.wrap ((L : Int) - 1) = (z : Int) := (IntWalk.i64_in _ (by omega)).trans (by omega)
        have y4 : (0 : Int) ≤ (z : Int) := by omega
        have y5 : (z : Int) < (L : Int) := by omega
        have HUP0 := Lib.hid hup
        have HPL := Lib.hid hpl32
        have HO := Lib.hid (And.intro ho32 hr32)
        have HRG0 := Lib.hid hrg
        have HT := Lib.hid hT
        skip
        clear hup hrg hrq hq32 hql hqe hqs hpl hps hL hr hT hcell hcap hm h32 hsp hK ho32 hr32 hpl32 hrt ih hct htop hor
        go_enter Tryd.func66, Tryd.ntmps66
        go_upto_region 1 with fail
        rw [show ((w.alloc (.cells (bv root).toArray 35)).alloc (.cells (bv (zs 32)).toArray 35)).alloc (.cells (bv (zs 32)).toArray 35) = w0 from HW0.out.symm]
        go_wp2_with fail
        refine (HSP.out _).mono ?_
        rintro e w1 ⟨rfl, hb1⟩
        have H1 := Lib.hid (And.intro ((hb1.block _ (Array.getElem?_eq_some_iff.1 H0.out.1).1).trans H0.out.1) (And.intro ((hb1.block _ (Array.getElem?_eq_some_iff.1 H0.out.2.1).1).trans H0.out.2.1) (And.intro ((hb1.block _ (Array.getElem?_eq_some_iff.1 H0.out.2.2.1).1).trans H0.out.2.2.1) (H0.out.2.2.2.trans (hb1.mono H0.out.2.2.2.size)))))
        have H7 := Lib.hid (heap_alloc_new w1 (.cells (bv (zs 32)).toArray 35))
        have hl1 : w.heap.size + 1 + 1 < w1.heap.size := (Array.getElem?_eq_some_iff.1 H1.out.2.2.1).1
        have hb1sz := Lib.hid hb1.size
        clear hb1
        have HRG1 := Lib.hid (show w1.rangeAt b (off + z * 32) (bv pl) from range_keep HRG0.out H1.out.2.2.2)
        go_upto_region 11 with (first
          | (with_reducible show wpList _ _ _ (⟨some 41, _, _, _, _, _⟩ :: _) _ _; refine wpList_load_mid rfl _ _ rfl b (off + z * 32) rfl (bv pl) _ HRG1.out Tryd.underlying35 rfl (hInfo' _ HPL.out) ?_)
          | (with_reducible show wpList _ _ _ (⟨none, Op.store _ _ _, _, _, _, _⟩ :: _) _ _; refine wpList_store_whole rfl _ _ _ rfl w1.heap.size (bv pl) rfl rfl (bv (zs 32)) _ H7.out (hInfo' _ HPL.out) (by rw [bv_length, bv_length, HPL.out, HZ32.out]) (bv_one _) ?_; intro w2 HG2 hg2))
        have k2 : Below w1.heap.size w1 w2 := below_grow ((Below.refl _ _).alloc (Nat.le_refl _) _) hg2 (Nat.le_refl _) (by simp)
        have H2sz := Lib.hid (show w0.heap.size ≤ w2.heap.size from Nat.le_trans hb1sz.out k2.size)
        have H2 := Lib.hid (And.intro ((k2.block _ (Array.getElem?_eq_some_iff.1 H1.out.1).1).trans H1.out.1) (And.intro ((k2.block _ (Array.getElem?_eq_some_iff.1 H1.out.2.1).1).trans H1.out.2.1) (And.intro ((k2.block _ (Array.getElem?_eq_some_iff.1 H1.out.2.2.1).1).trans H1.out.2.2.1) (And.intro HG2.out (H1.out.2.2.2.trans (k2.mono H1.out.2.2.2.size))))))
        have hl2 : w1.heap.size < w2.heap.size := (Array.getElem?_eq_some_iff.1 HG2.out).1
        clear k2 HG2 hg2
        have HUP := Lib.hid (fun wx (hb : KeptT [] w2 wx) => HUP0.out wx (H2.out.2.2.2.2.trans (hb.below (Nat.le_trans H0sz.out H2sz.out) (by simp))))
        refine wp_region_desc [some 63, some 64, some 65, some 66, some 67, some 68, some 69, some 70, some 71, some 72, some 73, some 74, some 62, some 75, some 76, some 19, some 20, none, none] [] [] [(0, 0), (0, 0), (0, 0), (0, 0), (0, 0), (0, 0), (0, 0), (0, 0), (0, 0), (0, 0), (0, 0), (0, 0), (0, 0), (0, 0), (0, 0), (1, 0), (1, 0), (3, 15), (3, 16)] [15, 16] [] [] [] (sh11P W w.heap.size m n K b off L c z root o rr w2) (fun _ _ _ => True) (sh11O W w.heap.size m n K b off L c z root o rr w2) (by kernel_rfl) (by kernel_rfl) rfl (by kernel_rfl) (by kernel_rfl) (by kernel_rfl) rfl trivial (by simp; try omega) rfl (fun i hi => (no4 (by kernel_rfl) i hi).elim) ?hstep ?hend
        case hstep =>
          refine ⟨fun r wx hG hs hq hf => ?_, ?_⟩
          · have e0 : r 0 = .int .i64 W := hs 0 rfl
            clear hs hq hf
            refine wanted_pos rfl ?_
            unfold gives
            go_simp
            exact obC_q (Below.refl _ _) rfl
          refine ⟨fun r wx hG hs hq hf => ?_, ?_⟩
          · have e1 : r 1 = .int .u64 m := hs 1 rfl
            clear hs hq hf
            refine wanted_pos rfl ?_
            unfold gives
            go_simp
            exact obC_q (Below.refl _ _) rfl
          refine ⟨fun r wx hG hs hq hf => ?_, ?_⟩
          · have e14 : r 14 = .int .u64 K := hs 14 rfl
            clear hs hq hf
            refine wanted_pos rfl ?_
            unfold gives
            go_simp
            exact obC_q (Below.refl _ _) rfl
          refine ⟨fun r wx hG hs hq hf => ?_, ?_⟩
          · have h1 : r 64 = .int .u64 m := hf.1
            have h2 : r 65 = .int .u64 K := hf.2.1
            clear hs hq hf
            refine wanted_pos rfl ?_
            unfold gives
            have zw : IntKind.u64.wrap ((m : Int) - (K : Int)) = ((m - K : Nat) : Int) := (IntWalk.u64_in _ (by omega)).trans (by omega)
            go_simp
            exact obC_q (Below.refl _ _) rfl
          refine ⟨fun r wx hG hs hq hf => ?_, ?_⟩
          · have e2 : r 2 = .int .u64 n := hs 2 rfl
            clear hs hq hf
            refine wanted_pos rfl ?_
            unfold gives
            go_simp
            exact obC_q (Below.refl _ _) rfl
          refine ⟨fun r wx hG hs hq hf => ?_, ?_⟩
          · have e14 : r 14 = .int .u64 K := hs 14 rfl
            clear hs hq hf
            refine wanted_pos rfl ?_
            unfold gives
            go_simp
            exact obC_q (Below.refl _ _) rfl
          refine ⟨fun r wx hG hs hq hf => ?_, ?_⟩
          · have h4 : r 67 = .int .u64 n := hf.1
            have h5 : r 68 = .int .u64 K := hf.2.1
            clear hs hq hf
            refine wanted_pos rfl ?_
            unfold gives
            have zw : IntKind.u64.wrap ((n : Int) - (K : Int)) = ((n - K : Nat) : Int) := (IntWalk.u64_in _ (by omega)).trans (by omega)
            go_simp
            exact obC_q (Below.refl _ _) rfl
          refine ⟨fun r wx hG hs hq hf => ?_, ?_⟩
          · have e9 : r 9 = .pointer (some ⟨w.heap.size, 0, none⟩) := hs 9 rfl
            clear hs hq hf
            refine wanted_pos rfl ?_
            unfold gives
            refine gives_load_row 35 _ rfl w.heap.size e9 35 _ (0, 0) _ (hG.row (by simp; try omega) H2.out.1) Tryd.underlying35 rfl (hInfo _ HRT.out) ?_
            exact obC_q (Below.refl _ _) rfl
          refine ⟨fun r wx hG hs hq hf => ?_, ?_⟩
          · have e4 : r 4 = .slice (some ⟨b, off, none⟩) L c := hs 4 rfl
            clear hs hq hf
            refine wanted_pos rfl ?_
            unfold gives
            go_simp
            exact obC_q (Below.refl _ _) rfl
          refine ⟨fun r wx hG hs hq hf => ?_, ?_⟩
          · have e15 : r 15 = .int .i64 (z : Nat) := hs 15 rfl
            clear hs hq hf
            refine wanted_pos rfl ?_
            unfold gives
            go_simp
            exact obC_q (Below.refl _ _) rfl
          refine ⟨fun r wx hG hs hq hf => ?_, ?_⟩
          · have h8 : r 71 = .slice (some ⟨b, off, none⟩) L c := hf.1
            have h9 : r 72 = .int .i64 (z : Nat) := hf.2.1
            clear hs hq hf
            refine wanted_pos rfl ?_
            unfold gives
            have z0 : (0 : Int) ≤ (z : Int) := by omega
            have z1 : (z : Int) ≤ (c : Int) := by omega
            go_simp
            exact obC_q (Below.refl _ _) rfl
          refine ⟨fun r wx hG hs hq hf => ?_, ?_⟩
          · have h0 : r 63 = .int .i64 W := hf.1
            have h3 : r 66 = .int .u64 ((m - K : Nat) : Int) := hf.2.1
            have h6 : r 69 = .int .u64 ((n - K : Nat) : Int) := hf.2.2.1
            have h7 : r 70 = .agg (bv root).toArray := hf.2.2.2.1
            have h10 : r 73 = .slice (some ⟨b, off, none⟩) z c := hf.2.2.2.2.1
            clear hs hq hf
            refine wanted_pos rfl ?_
            unfold gives
            go_simp
            refine (HUP.out wx hG).mono ?_
            rintro e wy ⟨rfl, hb1⟩
            exact ⟨_, rfl, obC_q hb1 rfl⟩
          refine ⟨fun r wx hG hs hq hf => ?_, ?_⟩
          · have h11 : r 74 = .tuple #[.agg (bv o).toArray, .agg (bv rr).toArray] := hf.1
            clear hs hq hf
            refine wanted_pos rfl ?_
            unfold gives
            go_simp
            exact obC_q (Below.refl _ _) rfl
          refine ⟨fun r wx hG hs hq hf => ?_, ?_⟩
          · have h12 : r 62 = .tuple #[.agg (bv o).toArray, .agg (bv rr).toArray] := hf.1
            clear hs hq hf
            refine wanted_pos rfl ?_
            unfold gives
            go_simp
            exact obC_q (Below.refl _ _) rfl
          refine ⟨fun r wx hG hs hq hf => ?_, ?_⟩
          · have h12 : r 62 = .tuple #[.agg (bv o).toArray, .agg (bv rr).toArray] := hf.1
            clear hs hq hf
            refine wanted_pos rfl ?_
            unfold gives
            go_simp
            exact obC_q (Below.refl _ _) rfl
          refine ⟨fun r wx hG hs hq hf => ?_, ?_⟩
          · clear hs hq hf
            refine wanted_pos rfl ?_
            unfold gives
            go_simp
            exact obC_al rfl (Nat.le_refl _) (heap_alloc_new _ _) ((Below.refl _ _).alloc (Nat.le_refl _) _)
          refine ⟨fun r wx hG hs hq hf => ?_, ?_⟩
          · clear hs hq hf
            refine wanted_pos rfl ?_
            unfold gives
            go_simp
            exact obC_al rfl (Nat.le_refl _) (heap_alloc_new _ _) ((Below.refl _ _).alloc (Nat.le_refl _) _)
          refine ⟨fun r wx hG hs hq hf => ?_, ?_⟩
          · have h15 : ∃ g, r 19 = .pointer (some ⟨g, 0, none⟩) ∧ w2.heap.size ≤ g ∧ wx.heap[g]? = some (.cells (bv (zs 32)).toArray 35 (0, 0)) := hf.1
            have h13 : r 75 = .agg (bv o).toArray := hf.2.1
            clear hs hq hf
            refine wanted_pos rfl ?_
            unfold gives
            obtain ⟨g, hg1, hg2, hg3⟩ := h15
            refine gives_store_row 35 _ _ rfl g (bv o) hg1 h13 (bv (zs 32)) 35 hg3 (hInfo' _ HO.out.1) (by rw [bv_length, bv_length, HO.out.1]; simp [zs]) (bv_one _) ?_
            intro wy h1 h2
            exact obC_sa hg1 hg2 h2 h1
          refine ⟨fun r wx hG hs hq hf => ?_, ?_⟩
          · have h16 : ∃ g, r 20 = .pointer (some ⟨g, 0, none⟩) ∧ w2.heap.size ≤ g ∧ wx.heap[g]? = some (.cells (bv (zs 32)).toArray 35 (0, 0)) := hf.1
            have h14 : r 76 = .agg (bv rr).toArray := hf.2.1
            have h17 : ∃ g, r 19 = .pointer (some ⟨g, 0, none⟩) ∧ w2.heap.size ≤ g ∧ wx.heap[g]? = some (.cells (bv o).toArray 35 (0, 0)) := hf.2.2.1
            clear hs hq hf
            refine wanted_pos rfl ?_
            unfold gives
            obtain ⟨g, hg1, hg2, hg3⟩ := h16
            refine gives_store_row 35 _ _ rfl g (bv rr) hg1 h14 (bv (zs 32)) 35 hg3 (hInfo' _ HO.out.2) (by rw [bv_length, bv_length, HO.out.2]; simp [zs]) (bv_one _) ?_
            intro wy h1 h2
            exact obC_sa hg1 hg2 h2 h1
          exact trivial
        case hend =>
          intro u w9 hG hfin
          have z17 : ∃ g, u 15 = .pointer (some ⟨g, 0, none⟩) ∧ w2.heap.size ≤ g ∧ w9.heap[g]? = some (.cells (bv o).toArray 35 (0, 0)) := hfin 17 (by decide) (by kernel_rfl)
          have z18 : ∃ g, u 16 = .pointer (some ⟨g, 0, none⟩) ∧ w2.heap.size ≤ g ∧ w9.heap[g]? = some (.cells (bv rr).toArray 35 (0, 0)) := hfin 18 (by decide) (by kernel_rfl)
          clear hfin
          obtain ⟨ga15, hga15, hgb15, hgr15⟩ := z17
          obtain ⟨ga16, hga16, hgb16, hgr16⟩ := z18
          simp only [fill]
          have HZ9 := Lib.hid (And.intro hgr15 (And.intro hgr16 (H2.out.2.2.2.2.trans (hG.below (Nat.le_trans H0sz.out H2sz.out) (by simp)))))
          have HR9 := Lib.hid (And.intro (hG.row (by simp) H2.out.2.1) (And.intro (hG.row (by simp) H2.out.2.2.1) (hG.row (by simp) H2.out.2.2.2.1)))
          have HN9 := Lib.hid hG.size
          clear hG
          go_simp
          clear hgr15 hgr16
          go_upto_region 12 with fail
          have HNA := Lib.hid (fun wx (hb : KeptT [w.heap.size + 1, w.heap.size + 1 + 1] w9 wx) => HNA0.out wx (HZ9.out.2.2.trans (hb.below (Nat.le_trans (Nat.le_trans H0sz.out H2sz.out) HN9.out) (by simp; try omega))))
          have HNB := Lib.hid (fun wx (hb : KeptT [w.heap.size + 1, w.heap.size + 1 + 1] w9 wx) => HNB0.out wx (HZ9.out.2.2.trans (hb.below (Nat.le_trans (Nat.le_trans H0sz.out H2sz.out) HN9.out) (by simp; try omega))))
          refine wp_region_desc [some 77, some 78, some 79, some 80, some 81, some 82, some 83, some 84, none, none] [] [(8, 0), (9, 1)] [(0, 0), (0, 0), (0, 0), (0, 0), (0, 0), (0, 0), (0, 0), (0, 0), (2, 0), (2, 1)] [] [8, 9] [w.heap.size + 1, w.heap.size + 1 + 1] [.cells (bv ((zs 32))).toArray 35 (0, 0), .cells (bv ((zs 32))).toArray 35 (0, 0)] (sh12P W (w.heap.size + 1) (w.heap.size + 1 + 1) ga15 ga16 w1.heap.size o rr pl na nb) (fun _ _ _ => True) (sh12O W (w.heap.size + 1) (w.heap.size + 1 + 1) ga15 ga16 w1.heap.size o rr pl na nb) (by kernel_rfl) (by kernel_rfl) rfl (by kernel_rfl) (by kernel_rfl) (by kernel_rfl) rfl ⟨HR9.out.1, HR9.out.2.1, trivial⟩ (by simp; try omega) rfl (fun i hi => (no4 (by kernel_rfl) i hi).elim) ?hstep ?hend
          case hstep =>
            refine ⟨fun r wx hG hs hq hf => ?_, ?_⟩
            · have e0 : r 0 = .int .i64 W := hs 0 rfl
              clear hs hq hf
              refine wanted_pos rfl ?_
              unfold gives
              go_simp
              exact obC_q (Below.refl _ _) rfl
            refine ⟨fun r wx hG hs hq hf => ?_, ?_⟩
            · have e16 : r 16 = .pointer (some ⟨w1.heap.size, 0, none⟩) := hs 16 rfl
              clear hs hq hf
              refine wanted_pos rfl ?_
              unfold gives
              refine gives_load_row 35 _ rfl w1.heap.size e16 35 _ (0, 0) _ (hG.row (by simp; try omega) HR9.out.2.2) Tryd.underlying35 rfl (hInfo _ HPL.out) ?_
              exact obC_q (Below.refl _ _) rfl
            refine ⟨fun r wx hG hs hq hf => ?_, ?_⟩
            · have e19 : r 19 = .pointer (some ⟨ga15, 0, none⟩) := hs 19 rfl
              clear hs hq hf
              refine wanted_pos rfl ?_
              unfold gives
              refine gives_load_row 35 _ rfl ga15 e19 35 _ (0, 0) _ (hG.row (by simp; try omega) HZ9.out.1) Tryd.underlying35 rfl (hInfo _ HO.out.1) ?_
              exact obC_q (Below.refl _ _) rfl
            refine ⟨fun r wx hG hs hq hf => ?_, ?_⟩
            · have h0 : r 77 = .int .i64 W := hf.1
              have h1 : r 78 = .agg (bv pl).toArray := hf.2.1
              have h2 : r 79 = .agg (bv o).toArray := hf.2.2.1
              clear hs hq hf
              refine wanted_pos rfl ?_
              unfold gives
              go_simp
              refine (HNA.out wx hG).mono ?_
              rintro e wy ⟨rfl, hb1⟩
              exact ⟨_, rfl, obC_q hb1 rfl⟩
            refine ⟨fun r wx hG hs hq hf => ?_, ?_⟩
            · have e0 : r 0 = .int .i64 W := hs 0 rfl
              clear hs hq hf
              refine wanted_pos rfl ?_
              unfold gives
              go_simp
              exact obC_q (Below.refl _ _) rfl
            refine ⟨fun r wx hG hs hq hf => ?_, ?_⟩
            · have e16 : r 16 = .pointer (some ⟨w1.heap.size, 0, none⟩) := hs 16 rfl
              clear hs hq hf
              refine wanted_pos rfl ?_
              unfold gives
              refine gives_load_row 35 _ rfl w1.heap.size e16 35 _ (0, 0) _ (hG.row (by simp; try omega) HR9.out.2.2) Tryd.underlying35 rfl (hInfo _ HPL.out) ?_
              exact obC_q (Below.refl _ _) rfl
            refine ⟨fun r wx hG hs hq hf => ?_, ?_⟩
            · have e20 : r 20 = .pointer (some ⟨ga16, 0, none⟩) := hs 20 rfl
              clear hs hq hf
              refine wanted_pos rfl ?_
              unfold gives
              refine gives_load_row 35 _ rfl ga16 e20 35 _ (0, 0) _ (hG.row (by simp; try omega) HZ9.out.2.1) Tryd.underlying35 rfl (hInfo _ HO.out.2) ?_
              exact obC_q (Below.refl _ _) rfl
            refine ⟨fun r wx hG hs hq hf => ?_, ?_⟩
            · have h4 : r 81 = .int .i64 W := hf.1
              have h5 : r 82 = .agg (bv pl).toArray := hf.2.1
              have h6 : r 83 = .agg (bv rr).toArray := hf.2.2.1
              clear hs hq hf
              refine wanted_pos rfl ?_
              unfold gives
              go_simp
              refine (HNB.out wx hG).mono ?_
              rintro e wy ⟨rfl, hb1⟩
              exact ⟨_, rfl, obC_q hb1 rfl⟩
            refine ⟨fun r wx hG hs hq hf => ?_, ?_⟩
            · have e12 : r 12 = .pointer (some ⟨w.heap.size + 1, 0, none⟩) := hs 12 rfl
              have h3 : r 80 = .agg (bv na).toArray := hf.1
              clear hs hf
              refine wanted_pos rfl ?_
              unfold gives
              refine gives_store_row 35 _ _ rfl (w.heap.size + 1) (bv na) e12 h3 (bv ((zs 32))) 35 (hq 0 rfl) (hInfo' _ HND32.out.1) (by rw [bv_length, bv_length, HND32.out.1, HZ32.out]) (bv_one _) ?_
              intro wy h1 h2
              exact obC_st h1 h2
            refine ⟨fun r wx hG hs hq hf => ?_, ?_⟩
            · have e13 : r 13 = .pointer (some ⟨w.heap.size + 1 + 1, 0, none⟩) := hs 13 rfl
              have h7 : r 84 = .agg (bv nb).toArray := hf.1
              have h8 : wx.heap[w.heap.size + 1]? = some (.cells (bv na).toArray 35 (0, 0)) := hf.2.1
              clear hs hf
              refine wanted_pos rfl ?_
              unfold gives
              refine gives_store_row 35 _ _ rfl (w.heap.size + 1 + 1) (bv nb) e13 h7 (bv ((zs 32))) 35 (hq 1 rfl) (hInfo' _ HND32.out.2) (by rw [bv_length, bv_length, HND32.out.2, HZ32.out]) (bv_one _) ?_
              intro wy h1 h2
              exact obC_st h1 h2
            exact trivial
          case hend =>
            intro u wz hG hfin
            have z8 : wz.heap[w.heap.size + 1]? = some (.cells (bv na).toArray 35 (0, 0)) := hfin 8 (by decide) (by kernel_rfl)
            have z9 : wz.heap[w.heap.size + 1 + 1]? = some (.cells (bv nb).toArray 35 (0, 0)) := hfin 9 (by decide) (by kernel_rfl)
            clear hfin
            simp only [fill]
            have HZ := Lib.hid (And.intro z8 (And.intro z9 hG))
            clear z8 z9 hG
            go_simp
            have hld1 := run_loadVar_row (P := Tryd.prog) wz (w.heap.size + 1) _ 35 _ (0, 0) _ HZ.out.1 Tryd.underlying35 rfl (hInfo _ HND32.out.1)
            have hld2 := run_loadVar_row (P := Tryd.prog) wz (w.heap.size + 1 + 1) _ 35 _ (0, 0) _ HZ.out.2.1 Tryd.underlying35 rfl (hInfo _ HND32.out.2)
            go_wp2_with fail
            refine bodyPost_ret (v := .tuple #[.agg (bv na).toArray, .agg (bv nb).toArray]) ?_ ?_ ?_
            · simp [results, Tryd.results66, asAddr, hld1, hld2]
            · rfl
            · exact ⟨rfl, HZ9.out.2.2.trans (HZ.out.2.2.below (Nat.le_trans (Nat.le_trans H0sz.out H2sz.out) HN9.out) (by simp; try omega))⟩
      · have hct := show_left (nodeH W) m n root old qs pl hm1 hlt htop (by rw [← hps, hql, ← hL, hm])
        have hup := fun wx (hb : Below w.heap.size w wx) => ih root m (top n) old qs (some ⟨b, off, none⟩) c wx (by omega) hh hm1 htop (by omega) hq32 (by have := szG_left m n old hm1 hlt htop; omega) (by rw [hql]; exact hrq.keep hb) (hT.keepB hb)
        have ho32 := (showG_32 W m (top n) root old qs hh hq32)
        rw [hql] at hup
        rw [← hqs] at hct
        rw [hct]
        rw [hct] at hor
        obtain ⟨K, hK⟩ : ∃ k, k = top n := ⟨_, rfl⟩
        rw [← hK] at hup hsp hK1 hK0 htop ho32 hor hk2 ⊢
        obtain ⟨or_, hrt⟩ : ∃ x, x = showG (nodeH W) m K root old qs := ⟨_, rfl⟩
        rw [← hrt] at hup ho32 hor ⊢
        obtain ⟨o, rr⟩ := or_
        obtain ⟨ho32, hr32⟩ := ho32
        have hnd0 := fun wx (hb : Below w.heap.size w wx) => refNode_any W rr pl wx hr32 hpl32 hW (hT.keepB hb)
        simp only at hup hor ⊢
        obtain ⟨nd, hnd⟩ : ∃ x, x = nodeH W rr pl := ⟨_, rfl⟩
        rw [← hnd] at hnd0 hor ⊢
        have HND0 := Lib.hid hnd0
        have HND32 := Lib.hid hor.2
        have HSP := Lib.hid hsp
        clear hnd hnd0
        have y2 : (m : Int) ≤ (K : Int) := by omega
        have y3 : IntKind.i64.wrap ((L : Int) - 1) = (z : Int) := (IntWalk.i64_in _ (by omega)).trans (by omega)
        have y4 : (0 : Int) ≤ (z : Int) := by omega
        have y5 : (z : Int) < (L : Int) := by omega
        have HUP0 := Lib.hid hup
        have HPL := Lib.hid hpl32
        have HO := Lib.hid (And.intro ho32 hr32)
        have HRG0 := Lib.hid hrg
        have HT := Lib.hid hT
        skip
        clear hup hrg hrq hq32 hql hqe hqs hpl hps hL hr hT hcell hcap hm h32 hsp hK ho32 hr32 hpl32 hrt ih hct htop hor
        go_enter Tryd.func66, Tryd.ntmps66
        go_upto_region 1 with fail
        rw [show ((w.alloc (.cells (bv root).toArray 35)).alloc (.cells (bv (zs 32)).toArray 35)).alloc (.cells (bv (zs 32)).toArray 35) = w0 from HW0.out.symm]
        go_wp2_with fail
        refine (HSP.out _).mono ?_
        rintro e w1 ⟨rfl, hb1⟩
        have H1 := Lib.hid (And.intro ((hb1.block _ (Array.getElem?_eq_some_iff.1 H0.out.1).1).trans H0.out.1) (And.intro ((hb1.block _ (Array.getElem?_eq_some_iff.1 H0.out.2.1).1).trans H0.out.2.1) (And.intro ((hb1.block _ (Array.getElem?_eq_some_iff.1 H0.out.2.2.1).1).trans H0.out.2.2.1) (H0.out.2.2.2.trans (hb1.mono H0.out.2.2.2.size)))))
        have H7 := Lib.hid (heap_alloc_new w1 (.cells (bv (zs 32)).toArray 35))
        have hl1 : w.heap.size + 1 + 1 < w1.heap.size := (Array.getElem?_eq_some_iff.1 H1.out.2.2.1).1
        have hb1sz := Lib.hid hb1.size
        clear hb1
        have HRG1 := Lib.hid (show w1.rangeAt b (off + z * 32) (bv pl) from range_keep HRG0.out H1.out.2.2.2)
        go_upto_region 9 with (first
          | (with_reducible show wpList _ _ _ (⟨some 41, _, _, _, _, _⟩ :: _) _ _; refine wpList_load_mid rfl _ _ rfl b (off + z * 32) rfl (bv pl) _ HRG1.out Tryd.underlying35 rfl (hInfo' _ HPL.out) ?_)
          | (with_reducible show wpList _ _ _ (⟨none, Op.store _ _ _, _, _, _, _⟩ :: _) _ _; refine wpList_store_whole rfl _ _ _ rfl w1.heap.size (bv pl) rfl rfl (bv (zs 32)) _ H7.out (hInfo' _ HPL.out) (by rw [bv_length, bv_length, HPL.out, HZ32.out]) (bv_one _) ?_; intro w2 HG2 hg2))
        have k2 : Below w1.heap.size w1 w2 := below_grow ((Below.refl _ _).alloc (Nat.le_refl _) _) hg2 (Nat.le_refl _) (by simp)
        have H2sz := Lib.hid (show w0.heap.size ≤ w2.heap.size from Nat.le_trans hb1sz.out k2.size)
        have H2 := Lib.hid (And.intro ((k2.block _ (Array.getElem?_eq_some_iff.1 H1.out.1).1).trans H1.out.1) (And.intro ((k2.block _ (Array.getElem?_eq_some_iff.1 H1.out.2.1).1).trans H1.out.2.1) (And.intro ((k2.block _ (Array.getElem?_eq_some_iff.1 H1.out.2.2.1).1).trans H1.out.2.2.1) (And.intro HG2.out (H1.out.2.2.2.trans (k2.mono H1.out.2.2.2.size))))))
        have hl2 : w1.heap.size < w2.heap.size := (Array.getElem?_eq_some_iff.1 HG2.out).1
        clear k2 HG2 hg2
        have HUP := Lib.hid (fun wx (hb : KeptT [] w2 wx) => HUP0.out wx (H2.out.2.2.2.2.trans (hb.below (Nat.le_trans H0sz.out H2sz.out) (by simp))))
        refine wp_region_desc [some 46, some 47, some 48, some 49, some 50, some 51, some 52, some 53, some 54, some 45, some 55, some 56, some 17, some 18, none, none] [] [] [(0, 0), (0, 0), (0, 0), (0, 0), (0, 0), (0, 0), (0, 0), (0, 0), (0, 0), (0, 0), (0, 0), (0, 0), (1, 0), (1, 0), (3, 12), (3, 13)] [12, 13] [] [] [] (sh9P W w.heap.size m K b off L c z old root o rr w2) (fun _ _ _ => True) (sh9O W w.heap.size m K b off L c z old root o rr w2) (by kernel_rfl) (by kernel_rfl) rfl (by kernel_rfl) (by kernel_rfl) (by kernel_rfl) rfl trivial (by simp; try omega) rfl (fun i hi => (no4 (by kernel_rfl) i hi).elim) ?hstep ?hend
        case hstep =>
          refine ⟨fun r wx hG hs hq hf => ?_, ?_⟩
          · have e0 : r 0 = .int .i64 W := hs 0 rfl
            clear hs hq hf
            refine wanted_pos rfl ?_
            unfold gives
            go_simp
            exact obC_q (Below.refl _ _) rfl
          refine ⟨fun r wx hG hs hq hf => ?_, ?_⟩
          · have e1 : r 1 = .int .u64 m := hs 1 rfl
            clear hs hq hf
            refine wanted_pos rfl ?_
            unfold gives
            go_simp
            exact obC_q (Below.refl _ _) rfl
          refine ⟨fun r wx hG hs hq hf => ?_, ?_⟩
          · have e14 : r 14 = .int .u64 K := hs 14 rfl
            clear hs hq hf
            refine wanted_pos rfl ?_
            unfold gives
            go_simp
            exact obC_q (Below.refl _ _) rfl
          refine ⟨fun r wx hG hs hq hf => ?_, ?_⟩
          · have e9 : r 9 = .pointer (some ⟨w.heap.size, 0, none⟩) := hs 9 rfl
            clear hs hq hf
            refine wanted_pos rfl ?_
            unfold gives
            refine gives_load_row 35 _ rfl w.heap.size e9 35 _ (0, 0) _ (hG.row (by simp; try omega) H2.out.1) Tryd.underlying35 rfl (hInfo _ HRT.out) ?_
            exact obC_q (Below.refl _ _) rfl
          refine ⟨fun r wx hG hs hq hf => ?_, ?_⟩
          · have e4 : r 4 = .slice (some ⟨b, off, none⟩) L c := hs 4 rfl
            clear hs hq hf
            refine wanted_pos rfl ?_
            unfold gives
            go_simp
            exact obC_q (Below.refl _ _) rfl
          refine ⟨fun r wx hG hs hq hf => ?_, ?_⟩
          · have e15 : r 15 = .int .i64 (z : Nat) := hs 15 rfl
            clear hs hq hf
            refine wanted_pos rfl ?_
            unfold gives
            go_simp
            exact obC_q (Below.refl _ _) rfl
          refine ⟨fun r wx hG hs hq hf => ?_, ?_⟩
          · have h4 : r 50 = .slice (some ⟨b, off, none⟩) L c := hf.1
            have h5 : r 51 = .int .i64 (z : Nat) := hf.2.1
            clear hs hq hf
            refine wanted_pos rfl ?_
            unfold gives
            have z0 : (0 : Int) ≤ (z : Int) := by omega
            have z1 : (z : Int) ≤ (c : Int) := by omega
            go_simp
            exact obC_q (Below.refl _ _) rfl
          refine ⟨fun r wx hG hs hq hf => ?_, ?_⟩
          · have e5 : r 5 = .bool old := hs 5 rfl
            clear hs hq hf
            refine wanted_pos rfl ?_
            unfold gives
            go_simp
            exact obC_q (Below.refl _ _) rfl
          refine ⟨fun r wx hG hs hq hf => ?_, ?_⟩
          · have h0 : r 46 = .int .i64 W := hf.1
            have h1 : r 47 = .int .u64 m := hf.2.1
            have h2 : r 48 = .int .u64 K := hf.2.2.1
            have h3 : r 49 = .agg (bv root).toArray := hf.2.2.2.1
            have h6 : r 52 = .slice (some ⟨b, off, none⟩) z c := hf.2.2.2.2.1
            have h7 : r 53 = .bool old := hf.2.2.2.2.2.1
            clear hs hq hf
            refine wanted_pos rfl ?_
            unfold gives
            go_simp
            refine (HUP.out wx hG).mono ?_
            rintro e wy ⟨rfl, hb1⟩
            exact ⟨_, rfl, obC_q hb1 rfl⟩
          refine ⟨fun r wx hG hs hq hf => ?_, ?_⟩
          · have h8 : r 54 = .tuple #[.agg (bv o).toArray, .agg (bv rr).toArray] := hf.1
            clear hs hq hf
            refine wanted_pos rfl ?_
            unfold gives
            go_simp
            exact obC_q (Below.refl _ _) rfl
          refine ⟨fun r wx hG hs hq hf => ?_, ?_⟩
          · have h9 : r 45 = .tuple #[.agg (bv o).toArray, .agg (bv rr).toArray] := hf.1
            clear hs hq hf
            refine wanted_pos rfl ?_
            unfold gives
            go_simp
            exact obC_q (Below.refl _ _) rfl
          refine ⟨fun r wx hG hs hq hf => ?_, ?_⟩
          · have h9 : r 45 = .tuple #[.agg (bv o).toArray, .agg (bv rr).toArray] := hf.1
            clear hs hq hf
            refine wanted_pos rfl ?_
            unfold gives
            go_simp
            exact obC_q (Below.refl _ _) rfl
          refine ⟨fun r wx hG hs hq hf => ?_, ?_⟩
          · clear hs hq hf
            refine wanted_pos rfl ?_
            unfold gives
            go_simp
            exact obC_al rfl (Nat.le_refl _) (heap_alloc_new _ _) ((Below.refl _ _).alloc (Nat.le_refl _) _)
          refine ⟨fun r wx hG hs hq hf => ?_, ?_⟩
          · clear hs hq hf
            refine wanted_pos rfl ?_
            unfold gives
            go_simp
            exact obC_al rfl (Nat.le_refl _) (heap_alloc_new _ _) ((Below.refl _ _).alloc (Nat.le_refl _) _)
          refine ⟨fun r wx hG hs hq hf => ?_, ?_⟩
          · have h12 : ∃ g, r 17 = .pointer (some ⟨g, 0, none⟩) ∧ w2.heap.size ≤ g ∧ wx.heap[g]? = some (.cells (bv (zs 32)).toArray 35 (0, 0)) := hf.1
            have h10 : r 55 = .agg (bv o).toArray := hf.2.1
            clear hs hq hf
            refine wanted_pos rfl ?_
            unfold gives
            obtain ⟨g, hg1, hg2, hg3⟩ := h12
            refine gives_store_row 35 _ _ rfl g (bv o) hg1 h10 (bv (zs 32)) 35 hg3 (hInfo' _ HO.out.1) (by rw [bv_length, bv_length, HO.out.1]; simp [zs]) (bv_one _) ?_
            intro wy h1 h2
            exact obC_sa hg1 hg2 h2 h1
          refine ⟨fun r wx hG hs hq hf => ?_, ?_⟩
          · have h13 : ∃ g, r 18 = .pointer (some ⟨g, 0, none⟩) ∧ w2.heap.size ≤ g ∧ wx.heap[g]? = some (.cells (bv (zs 32)).toArray 35 (0, 0)) := hf.1
            have h11 : r 56 = .agg (bv rr).toArray := hf.2.1
            have h14 : ∃ g, r 17 = .pointer (some ⟨g, 0, none⟩) ∧ w2.heap.size ≤ g ∧ wx.heap[g]? = some (.cells (bv o).toArray 35 (0, 0)) := hf.2.2.1
            clear hs hq hf
            refine wanted_pos rfl ?_
            unfold gives
            obtain ⟨g, hg1, hg2, hg3⟩ := h13
            refine gives_store_row 35 _ _ rfl g (bv rr) hg1 h11 (bv (zs 32)) 35 hg3 (hInfo' _ HO.out.2) (by rw [bv_length, bv_length, HO.out.2]; simp [zs]) (bv_one _) ?_
            intro wy h1 h2
            exact obC_sa hg1 hg2 h2 h1
          exact trivial
        case hend =>
          intro u w9 hG hfin
          have z14 : ∃ g, u 12 = .pointer (some ⟨g, 0, none⟩) ∧ w2.heap.size ≤ g ∧ w9.heap[g]? = some (.cells (bv o).toArray 35 (0, 0)) := hfin 14 (by decide) (by kernel_rfl)
          have z15 : ∃ g, u 13 = .pointer (some ⟨g, 0, none⟩) ∧ w2.heap.size ≤ g ∧ w9.heap[g]? = some (.cells (bv rr).toArray 35 (0, 0)) := hfin 15 (by decide) (by kernel_rfl)
          clear hfin
          obtain ⟨ga12, hga12, hgb12, hgr12⟩ := z14
          obtain ⟨ga13, hga13, hgb13, hgr13⟩ := z15
          simp only [fill]
          have HZ9 := Lib.hid (And.intro hgr12 (And.intro hgr13 (H2.out.2.2.2.2.trans (hG.below (Nat.le_trans H0sz.out H2sz.out) (by simp)))))
          have HR9 := Lib.hid (And.intro (hG.row (by simp) H2.out.2.1) (And.intro (hG.row (by simp) H2.out.2.2.1) (hG.row (by simp) H2.out.2.2.2.1)))
          have HN9 := Lib.hid hG.size
          clear hG
          go_simp
          clear hgr12 hgr13
          go_upto_region 10 with fail
          have HND := Lib.hid (fun wx (hb : KeptT [w.heap.size + 1, w.heap.size + 1 + 1] w9 wx) => HND0.out wx (HZ9.out.2.2.trans (hb.below (Nat.le_trans (Nat.le_trans H0sz.out H2sz.out) HN9.out) (by simp; try omega))))
          refine wp_region_desc [some 57, some 58, some 59, some 60, some 61, none, none] [] [(5, 0), (6, 1)] [(0, 0), (0, 0), (0, 0), (0, 0), (0, 0), (2, 0), (2, 1)] [] [5, 6] [w.heap.size + 1, w.heap.size + 1 + 1] [.cells (bv ((zs 32))).toArray 35 (0, 0), .cells (bv ((zs 32))).toArray 35 (0, 0)] (sh10P W (w.heap.size + 1) (w.heap.size + 1 + 1) ga12 ga13 w1.heap.size o rr pl nd) (fun _ _ _ => True) (sh10O W (w.heap.size + 1) (w.heap.size + 1 + 1) ga12 ga13 w1.heap.size o rr pl nd) (by kernel_rfl) (by kernel_rfl) rfl (by kernel_rfl) (by kernel_rfl) (by kernel_rfl) rfl ⟨HR9.out.1, HR9.out.2.1, trivial⟩ (by simp; try omega) rfl (fun i hi => (no4 (by kernel_rfl) i hi).elim) ?hstep ?hend
          case hstep =>
            refine ⟨fun r wx hG hs hq hf => ?_, ?_⟩
            · have e17 : r 17 = .pointer (some ⟨ga12, 0, none⟩) := hs 17 rfl
              clear hs hq hf
              refine wanted_pos rfl ?_
              unfold gives
              refine gives_load_row 35 _ rfl ga12 e17 35 _ (0, 0) _ (hG.row (by simp; try omega) HZ9.out.1) Tryd.underlying35 rfl (hInfo _ HO.out.1) ?_
              exact obC_q (Below.refl _ _) rfl
            refine ⟨fun r wx hG hs hq hf => ?_, ?_⟩
            · have e0 : r 0 = .int .i64 W := hs 0 rfl
              clear hs hq hf
              refine wanted_pos rfl ?_
              unfold gives
              go_simp
              exact obC_q (Below.refl _ _) rfl
            refine ⟨fun r wx hG hs hq hf => ?_, ?_⟩
            · have e18 : r 18 = .pointer (some ⟨ga13, 0, none⟩) := hs 18 rfl
              clear hs hq hf
              refine wanted_pos rfl ?_
              unfold gives
              refine gives_load_row 35 _ rfl ga13 e18 35 _ (0, 0) _ (hG.row (by simp; try omega) HZ9.out.2.1) Tryd.underlying35 rfl (hInfo _ HO.out.2) ?_
              exact obC_q (Below.refl _ _) rfl
            refine ⟨fun r wx hG hs hq hf => ?_, ?_⟩
            · have e16 : r 16 = .pointer (some ⟨w1.heap.size, 0, none⟩) := hs 16 rfl
              clear hs hq hf
              refine wanted_pos rfl ?_
              unfold gives
              refine gives_load_row 35 _ rfl w1.heap.size e16 35 _ (0, 0) _ (hG.row (by simp; try omega) HR9.out.2.2) Tryd.underlying35 rfl (hInfo _ HPL.out) ?_
              exact obC_q (Below.refl _ _) rfl
            refine ⟨fun r wx hG hs hq hf => ?_, ?_⟩
            · have h1 : r 58 = .int .i64 W := hf.1
              have h2 : r 59 = .agg (bv rr).toArray := hf.2.1
              have h3 : r 60 = .agg (bv pl).toArray := hf.2.2.1
              clear hs hq hf
              refine wanted_pos rfl ?_
              unfold gives
              go_simp
              refine (HND.out wx hG).mono ?_
              rintro e wy ⟨rfl, hb1⟩
              exact ⟨_, rfl, obC_q hb1 rfl⟩
            refine ⟨fun r wx hG hs hq hf => ?_, ?_⟩
            · have e12 : r 12 = .pointer (some ⟨w.heap.size + 1, 0, none⟩) := hs 12 rfl
              have h0 : r 57 = .agg (bv o).toArray := hf.1
              clear hs hf
              refine wanted_pos rfl ?_
              unfold gives
              refine gives_store_row 35 _ _ rfl (w.heap.size + 1) (bv o) e12 h0 (bv ((zs 32))) 35 (hq 0 rfl) (hInfo' _ HO.out.1) (by rw [bv_length, bv_length, HO.out.1, HZ32.out]) (bv_one _) ?_
              intro wy h1 h2
              exact obC_st h1 h2
            refine ⟨fun r wx hG hs hq hf => ?_, ?_⟩
            · have e13 : r 13 = .pointer (some ⟨w.heap.size + 1 + 1, 0, none⟩) := hs 13 rfl
              have h4 : r 61 = .agg (bv nd).toArray := hf.1
              have h5 : wx.heap[w.heap.size + 1]? = some (.cells (bv o).toArray 35 (0, 0)) := hf.2.1
              clear hs hf
              refine wanted_pos rfl ?_
              unfold gives
              refine gives_store_row 35 _ _ rfl (w.heap.size + 1 + 1) (bv nd) e13 h4 (bv ((zs 32))) 35 (hq 1 rfl) (hInfo' _ HND32.out) (by rw [bv_length, bv_length, HND32.out, HZ32.out]) (bv_one _) ?_
              intro wy h1 h2
              exact obC_st h1 h2
            exact trivial
          case hend =>
            intro u wz hG hfin
            have z5 : wz.heap[w.heap.size + 1]? = some (.cells (bv o).toArray 35 (0, 0)) := hfin 5 (by decide) (by kernel_rfl)
            have z6 : wz.heap[w.heap.size + 1 + 1]? = some (.cells (bv nd).toArray 35 (0, 0)) := hfin 6 (by decide) (by kernel_rfl)
            clear hfin
            simp only [fill]
            have HZ := Lib.hid (And.intro z5 (And.intro z6 hG))
            clear z5 z6 hG
            go_simp
            have hld1 := run_loadVar_row (P := Tryd.prog) wz (w.heap.size + 1) _ 35 _ (0, 0) _ HZ.out.1 Tryd.underlying35 rfl (hInfo _ HO.out.1)
            have hld2 := run_loadVar_row (P := Tryd.prog) wz (w.heap.size + 1 + 1) _ 35 _ (0, 0) _ HZ.out.2.1 Tryd.underlying35 rfl (hInfo _ HND32.out)
            go_wp2_with fail
            refine bodyPost_ret (v := .tuple #[.agg (bv o).toArray, .agg (bv nd).toArray]) ?_ ?_ ?_
            · simp [results, Tryd.results66, asAddr, hld1, hld2]
            · rfl
            · exact ⟨rfl, HZ9.out.2.2.trans (HZ.out.2.2.below (Nat.le_trans (Nat.le_trans H0sz.out H2sz.out) HN9.out) (by simp; try omega))⟩
end Go.Proofs.YtfibhmgjkooemaaDoor
