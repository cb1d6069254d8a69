/- The reference's newer. (printed by gen/clh.py) · The reference's Growth. (printed by gen/clk.py) -/
import Derived.Test.YtfibhmgjkooemaaDoorClG
import Derived.Test.YtfibhmgjkooemaaDoorGrK
import Derived.Test.YtfibhmgjkooemaaDoorClJ
namespace Go.Proofs.YtfibhmgjkooemaaDoor
open Go.RowKit Sha Root Path Growth

/-- What each operation hands on. -/
def nwLF (W : Int) (g9 m n K b off z c R : Nat) (wh : Bool) (old ru pl rt : List UInt8) : Nat → Value → World → Prop
  | 0, v, _ => v = .int .i64 W
  | 1, v, _ => v = .int .i64 W
  | 2, v, _ => v = .int .u64 m
  | 3, v, _ => v = .int .u64 K
  | 4, v, _ => v = .agg (bv old).toArray
  | 5, v, _ => v = .slice (some ⟨b, off, none⟩) (z + 1) c
  | 6, v, _ => v = .int .i64 (z : Nat)
  | 7, v, _ => v = .slice (some ⟨b, off, none⟩) z c
  | 8, v, _ => v = .bool wh
  | 9, v, _ => v = .agg (bv ru).toArray
  | 10, v, _ => v = .slice (some ⟨b, off, none⟩) (z + 1) c
  | 11, v, _ => v = .int .i64 (z : Nat)
  | 12, v, _ => v = .pointer (some ⟨b, off + z * 32, none⟩)
  | 13, v, _ => v = .agg (bv pl).toArray
  | 14, v, _ => v = .agg (bv rt).toArray
  | 15, _, w => w.heap[R]? = some (.cells (bv rt).toArray 35 (0, 0))
  | _, _, _ => True

/-- What each operation hands on. -/
def nwRF (W : Int) (g9 m n K b off z c R : Nat) (wh : Bool) (old ru pl rt : List UInt8) : Nat → Value → World → Prop
  | 0, v, _ => v = .int .i64 W
  | 1, v, _ => v = .slice (some ⟨b, off, none⟩) (z + 1) c
  | 2, v, _ => v = .int .i64 (z : Nat)
  | 3, v, _ => v = .pointer (some ⟨b, off + z * 32, none⟩)
  | 4, v, _ => v = .agg (bv pl).toArray
  | 5, v, _ => v = .int .i64 W
  | 6, v, _ => v = .int .u64 m
  | 7, v, _ => v = .int .u64 K
  | 8, v, _ => v = .int .u64 ((m - K : Nat) : Int)
  | 9, v, _ => v = .int .u64 n
  | 10, v, _ => v = .int .u64 K
  | 11, v, _ => v = .int .u64 ((n - K : Nat) : Int)
  | 12, v, _ => v = .agg (bv old).toArray
  | 13, v, _ => v = .slice (some ⟨b, off, none⟩) (z + 1) c
  | 14, v, _ => v = .int .i64 (z : Nat)
  | 15, v, _ => v = .slice (some ⟨b, off, none⟩) z c
  | 16, v, _ => v = .agg (bv ru).toArray
  | 17, v, _ => v = .agg (bv rt).toArray
  | 18, _, w => w.heap[R]? = some (.cells (bv rt).toArray 35 (0, 0))
  | _, _, _ => True

set_option maxHeartbeats 16000000 in
set_option maxRecDepth 100000 in
theorem newer_any (W : Int) (hW : -9223372036854775808 ≤ W ∧ W ≤ 9223372036854775807) : ∀ (f : Nat) (old : List UInt8) (m n : Nat) (wh : Bool) (ps : List (List UInt8)) (a : Option Addr) (c : Nat) (w : World), n ≤ f → old.length = 32 → 1 ≤ m → m ≤ n → n < 18446744073709551616 →
    (∀ p ∈ ps, p.length = 32) → ps.length = szG m n wh → Rd w 32 (.slice a ps.length c) ps.length (ps.flatMap bv) → TabsR w →
    Calls Tryd.prog 38 #[.int .i64 W, .int .u64 m, .int .u64 n, .agg (bv old).toArray, .slice a ps.length c, .bool wh] w fun e w' => e = .returned (.agg (bv (showG (nodeH W) m n old wh ps).2).toArray) ∧ Below w.heap.size w w' := by
  intro f
  induction f with
  | zero => intro old m n wh ps a c w hf; intros; omega
  | succ f ih =>
    intro old m n wh ps a c w hf hh hm1 hmn hn h32 hps hr hT
    have hz := (zero_of_info info32).1
    have HZ := Lib.hid (show (zs 32).length = 32 by simp [zs])
    obtain ⟨w0, hw0⟩ : ∃ x : World, x = (w.alloc (.cells (bv old).toArray 35)).alloc (.cells (bv (zs 32)).toArray 35) := ⟨_, rfl⟩
    have hbox : w0.heap[w.heap.size]? = some (.cells (bv old).toArray 35 (0, 0)) := by
      rw [hw0, heap_alloc_old _ _ (by simp)]; exact heap_alloc_new _ _
    have hrow : w0.heap[w.heap.size + 1]? = some (.cells (bv (zs 32)).toArray 35 (0, 0)) := by
      rw [hw0]
      have := heap_alloc_new (w.alloc (.cells (bv old).toArray 35)) (.cells (bv (zs 32)).toArray 35)
      simpa using this
    have hbw0 : Below w.heap.size w w0 := by rw [hw0]; exact ((Below.refl _ _).alloc (Nat.le_refl _) _).alloc (by simp) _
    have HW0 := Lib.hid hw0
    have H0 := Lib.hid (And.intro hbox (And.intro hrow hbw0))
    clear hw0 hbox hrow hbw0
    by_cases h1 : m = n
    · subst h1
      have y1 : ((m : Int) == (m : Int)) = true := by simp
      rw [show_same]
      rw [szG_same] at hps
      cases wh with
      | true =>
        rw [if_pos rfl]
        have HH := Lib.hid hh
        clear hps hr hT h32 ih hh
        go_enter Tryd.func38, Tryd.ntmps38
        go_upto_region 1 with fail
        rw [show (w.alloc (.cells (bv old).toArray 35)).alloc (.cells (bv (zs 32)).toArray 35) = w0 from HW0.out.symm]
        go_wp2_with (first
          | (with_reducible show wpList _ _ _ (⟨some 19, _, _, _, _, _⟩ :: _) _ _; refine wpList_load_row rfl _ _ rfl w.heap.size rfl _ _ (0, 0) _ H0.out.1 Tryd.underlying35 rfl (hInfo _ HH.out) ?_)
          | (with_reducible show wpList _ _ _ (⟨none, Op.store _ _ _, _, _, _, _⟩ :: _) _ _; refine wpList_store_whole rfl _ _ _ rfl (w.heap.size + 1) (bv old) rfl rfl (bv (zs 32)) _ H0.out.2.1 (hInfo' _ HH.out) (by rw [bv_length, bv_length, HH.out]; simp [zs]) (bv_one _) ?_; intro w9 HG9 hg9))
        refine bodyPost_ret (v := .agg (bv old).toArray) ?_ ?_ ?_
        · exact results_cell_row Tryd.results38 _ _ (w.heap.size + 1) 35 _ (0, 0) _ rfl HG9.out Tryd.underlying35 rfl (hInfo _ HH.out)
        · rfl
        · exact ⟨rfl, below_grow H0.out.2.2 hg9 (by omega) (Array.getElem?_eq_some_iff.1 H0.out.2.1).1⟩
      | false =>
        rw [if_neg (by decide)]
        rw [if_neg (by decide)] at hps
        obtain ⟨p0, rfl⟩ : ∃ p, ps = [p] := List.length_eq_one_iff.1 hps
        have HH := Lib.hid (h32 p0 (by simp))
        obtain ⟨b, off, c', hv, hcap, hcell⟩ := hr.atN (by simp) (by omega)
        simp only [Value.slice.injEq, true_and] at hv
        obtain ⟨rfl, rfl⟩ := hv
        have HRG := Lib.hid (show w0.rangeAt b off (bv p0) from range_keep (by have := range_at (w := w) (i := 0) h32 rfl hcell; simpa using this) H0.out.2.2)
        rw [show [p0].headD old = p0 from rfl, show [p0].length = 1 from rfl]
        obtain ⟨L, hL⟩ : ∃ L, L = 1 := ⟨_, rfl⟩
        have z1 : (0 : Int) < (L : Int) := by omega
        rw [← hL]
        clear hps hr hT h32 ih hh hcell hcap hL
        go_enter Tryd.func38, Tryd.ntmps38
        go_upto_region 1 with fail
        rw [show (w.alloc (.cells (bv old).toArray 35)).alloc (.cells (bv (zs 32)).toArray 35) = w0 from HW0.out.symm]
        go_wp2_with (first
          | (with_reducible show wpList _ _ _ (⟨some 22, _, _, _, _, _⟩ :: _) _ _; refine wpList_load_mid rfl _ _ rfl b off rfl (bv p0) _ HRG.out Tryd.underlying35 rfl (hInfo' _ HH.out) ?_)
          | (with_reducible show wpList _ _ _ (⟨none, Op.store _ _ _, _, _, _, _⟩ :: _) _ _; refine wpList_store_whole rfl _ _ _ rfl (w.heap.size + 1) (bv p0) rfl rfl (bv (zs 32)) _ H0.out.2.1 (hInfo' _ HH.out) (by rw [bv_length, bv_length, HH.out]; simp [zs]) (bv_one _) ?_; intro w9 HG9 hg9))
        refine bodyPost_ret (v := .agg (bv p0).toArray) ?_ ?_ ?_
        · exact results_cell_row Tryd.results38 _ _ (w.heap.size + 1) 35 _ (0, 0) _ rfl HG9.out Tryd.underlying35 rfl (hInfo _ HH.out)
        · rfl
        · exact ⟨rfl, below_grow H0.out.2.2 hg9 (by omega) (Array.getElem?_eq_some_iff.1 H0.out.2.1).1⟩
    · have h2 : 2 ≤ n := by omega
      have hlt : m < n := by omega
      have y1 : ((m : Int) == (n : Int)) = false := by simp; omega
      obtain ⟨z, hm⟩ : ∃ z, ps.length = z + 1 := by
        rcases Nat.lt_or_ge (top n) m with h | h
        · exact ⟨_, hps.trans (szG_right m n wh hlt h)⟩
        · exact ⟨_, hps.trans (szG_left m n wh hm1 hlt h)⟩
      obtain ⟨pl, hpl⟩ : ∃ p, ps[z]? = some p := ⟨ps[z], List.getElem?_eq_getElem (by omega)⟩
      have hpl32 := h32 pl (List.mem_of_getElem? hpl)
      have hqs : ps = ps.take z ++ [pl] := by
        have := List.take_append_drop z ps
        rw [List.drop_eq_getElem_cons (by omega), List.drop_of_length_le (by omega), (List.getElem?_eq_some_iff.1 hpl).2] at this
        exact this.symm
      have hql : (ps.take z).length = z := by rw [List.length_take]; omega
      obtain ⟨b, off, c', hv, hcap, hcell⟩ := hr.atN (by omega) (by omega)
      simp only [Value.slice.injEq, true_and] at hv
      obtain ⟨rfl, rfl⟩ := hv
      have hrg := range_at (w := w) h32 hpl hcell
      have hrq : Rd w 32 (.slice (some ⟨b, off, none⟩) z c) z ((ps.take z).flatMap bv) := by rw [flat_take32 _ _ h32]; exact rd_take hr z (by omega)
      have hq32 : ∀ p ∈ ps.take z, p.length = 32 := fun p hp => h32 p (List.mem_of_mem_take hp)
      have hcap2 : z + 1 ≤ c := by rw [← hm]; exact hcap
      have hzb : z ≤ 65 := by have := szG_le m n wh hm1 hmn (by omega); omega
      obtain ⟨rt, hrt⟩ : ∃ x, x = (showG (nodeH W) m n old wh ps).2 := ⟨_, rfl⟩
      have hrt32 : rt.length = 32 := by rw [hrt]; exact (showG_32 W m n old wh ps hh h32).2
      rw [← hrt]
      have hct := hrt
      obtain ⟨L, hL⟩ : ∃ L, L = ps.length := ⟨_, rfl⟩
      rw [← hL] at hm
      obtain ⟨qs, hqe⟩ : ∃ q, q = ps.take z := ⟨_, rfl⟩
      rw [← hqe] at hqs hql hrq hq32
      rw [hqs] at hct
      have hK1 := top_lt n h2
      have hK0 := top_pos n
      have hk2 := top_le2 n
      have y2 : IntKind.i64.wrap (((z + 1 : Nat) : Int) - 1) = (z : Int) := (IntWalk.i64_in _ (by omega)).trans (by omega)
      have y3 : IntKind.i64.wrap ((z : Int) + 1 - 1) = (z : Int) := (IntWalk.i64_in _ (by omega)).trans (by omega)
      rw [← hL, hm]
      have hps' : qs.length + 1 = szG m n wh := by rw [hql, ← hps, ← hL, hm]
      obtain ⟨K, hK⟩ : ∃ k, k = top n := ⟨_, rfl⟩
      have hsp := fun wx => Split64_any n wx h2 hn
      rw [← hK] at hK1 hK0 hk2 hsp
      have HSP := Lib.hid hsp
      clear hsp
      rcases Nat.lt_or_ge K m with htop | htop
      · rw [show_right (nodeH W) m n old wh qs pl hlt (by omega) hps', ← hK] at hct
        have hup := fun wx (hb : Below w.heap.size w wx) => ih old (m - K) (n - K) false qs (some ⟨b, off, none⟩) c wx (by omega) hh (by omega) (by omega) (by omega) hq32 (by have := szG_right m n wh hlt (by omega); rw [hK]; omega) (by rw [hql]; exact hrq.keep hb) (hT.keepB hb)
        rw [hql] at hup
        obtain ⟨ru, hru⟩ : ∃ x, x = (showG (nodeH W) (m - K) (n - K) old false qs).2 := ⟨_, rfl⟩
        have hru32 : ru.length = 32 := by rw [hru]; exact (showG_32 W _ _ _ _ _ hh hq32).2
        rw [← hru] at hup hct
        have hnd := fun wx (hb : Below w.heap.size w wx) => refNode_any W pl ru wx hpl32 hru32 hW (hT.keepB hb)
        rw [show nodeH W pl ru = rt from hct.symm] at hnd
        have y4 : ¬ (m : Int) ≤ (K : Int) := by omega
        clear hK
        have HUP0 := Lib.hid hup
        have HND0 := Lib.hid hnd
        have HLN := Lib.hid (And.intro hh (And.intro hpl32 hrt32))
        have HRG0 := Lib.hid hrg
        clear hup hnd hh hpl32 hrt32 hrg hru hru32 hrt hct ih hps hr hT h32 hcell hcap hqs hqe hq32 hrq hql hW hpl hL hm hps'
        go_enter Tryd.func38, Tryd.ntmps38
        go_upto_region 1 with fail
        rw [show (w.alloc (.cells (bv old).toArray 35)).alloc (.cells (bv (zs 32)).toArray 35) = w0 from HW0.out.symm]
        go_wp2_with fail
        refine (HSP.out _).mono ?_
        rintro e w1 ⟨rfl, hb1⟩
        have H1 := Lib.hid (And.intro ((hb1.block _ (Array.getElem?_eq_some_iff.1 H0.out.1).1).trans H0.out.1) (And.intro ((hb1.block _ (Array.getElem?_eq_some_iff.1 H0.out.2.1).1).trans H0.out.2.1) (H0.out.2.2.trans (hb1.mono H0.out.2.2.size))))
        clear hb1
        obtain ⟨R, hRe⟩ : ∃ R, R = w.heap.size + 1 := ⟨_, rfl⟩
        obtain ⟨g9, hg9e⟩ : ∃ g, g = w.heap.size := ⟨_, rfl⟩
        have hrow0 : w1.heap[R]? = some (.cells (bv (zs 32)).toArray 35 (0, 0)) := by rw [hRe]; exact H1.out.2.1
        have hRs : R ≤ w1.heap.size := Nat.le_of_lt (Array.getElem?_eq_some_iff.1 hrow0).1
        have hgR : g9 < R := by omega
        have HBW := Lib.hid H1.out.2.2
        have HRE := Lib.hid hRe
        have HBX := Lib.hid (fun wx (hb : Below R w1 wx) => (hb.block g9 hgR).trans (show w1.heap[g9]? = some (.cells (bv old).toArray 35 (0, 0)) by rw [hg9e]; exact H1.out.1))
        have HUP := Lib.hid (fun wx (hb : Below R w1 wx) => HUP0.out wx (HBW.out.trans (hb.mono (by have := HRE.out; omega))))
        have HND := Lib.hid (fun wx (hb : Below R w1 wx) => HND0.out wx (HBW.out.trans (hb.mono (by have := HRE.out; omega))))
        have HRG := Lib.hid (fun wx (hb : Below R w1 wx) => range_keep HRG0.out (HBW.out.trans (hb.mono (by have := HRE.out; omega))))
        rw [← hRe, ← hg9e]
        clear hRe hg9e
        go_upto_region 9 with fail
        refine wp_region_until [some 46, some 47, some 48, some 49, some 50, some 51, some 52, some 53, some 54, some 55, some 56, some 57, some 58, some 59, some 60, some 61, some 62, some 63, none] [] 18 (fun wx => wx.heap[R]? = some (.cells (bv (zs 32)).toArray 35 (0, 0))) [0, 1, 2, 3, 4, 5, 6, 7, 8, 9, 10, 11, 12, 13, 14, 15, 16, 17, 18] (nwRF W g9 m n K b off z c R wh old ru pl rt) (kOne 18 R) (fun wx => Below R w1 wx) (by kernel_rfl) (by kernel_rfl) rfl (by kernel_rfl) (by kernel_rfl) (Below.refl _ _).drew hrow0 ((fun _ hj _ _ k h => ((kOne_below hj k).block _ (Array.getElem?_eq_some_iff.1 h).1).trans h)) (fun _ _ => kOne_refl _ _ _ _) (fun _ _ _ h k => h.trans (kOne_base (Nat.le_trans hRs h.size) k)) ?hF ?hstep ?hend
        case hF =>
          exact ⟨fun _ _ _ _ _ _ h => h, ⟨fun _ _ _ _ _ _ h => h, ⟨fun _ _ _ _ _ _ h => h, ⟨fun _ _ _ _ _ _ h => h, ⟨fun _ _ _ _ _ _ h => h, ⟨fun _ _ _ _ _ _ h => h, ⟨fun _ _ _ _ _ _ h => h, ⟨fun _ _ _ _ _ _ h => h, ⟨fun _ _ _ _ _ _ h => h, ⟨fun _ _ _ _ _ _ h => h, ⟨fun _ _ _ _ _ _ h => h, ⟨fun _ _ _ _ _ _ h => h, ⟨fun _ _ _ _ _ _ h => h, ⟨fun _ _ _ _ _ _ h => h, ⟨fun _ _ _ _ _ _ h => h, ⟨fun _ _ _ _ _ _ h => h, ⟨fun _ _ _ _ _ _ h => h, ⟨fun _ _ _ _ _ _ h => h, ⟨fun j hg _ _ _ k h => ((kOne_below (fun e => by subst e; exact absurd hg (by rw [show goneB _ 18 18 = true by kernel_rfl]; simp)) k).block _ (Array.getElem?_eq_some_iff.1 h).1).trans h, trivial⟩⟩⟩⟩⟩⟩⟩⟩⟩⟩⟩⟩⟩⟩⟩⟩⟩⟩⟩
        case hstep =>
          refine ⟨fun r wx hG hs hq hf => ?_, ?_⟩
          · have hQ := hq rfl
            have e0 : r 0 = .int .i64 W := hs 0 rfl
            refine (if_pos rfl).symm ▸ ?_
            clear hs hq hf
            unfold gives
            go_simp
            exact ⟨kOne_refl _ _ _ _, rfl⟩
          refine ⟨fun r wx hG hs hq hf => ?_, ?_⟩
          · have hQ := hq rfl
            have e4 : r 4 = .slice (some ⟨b, off, none⟩) (z + 1) c := hs 4 rfl
            refine (if_pos rfl).symm ▸ ?_
            clear hs hq hf
            unfold gives
            go_simp
            exact ⟨kOne_refl _ _ _ _, rfl⟩
          refine ⟨fun r wx hG hs hq hf => ?_, ?_⟩
          · have hQ := hq rfl
            have e14 : r 14 = .int .i64 z := hs 14 rfl
            refine (if_pos rfl).symm ▸ ?_
            clear hs hq hf
            unfold gives
            go_simp
            exact ⟨kOne_refl _ _ _ _, rfl⟩
          refine ⟨fun r wx hG hs hq hf => ?_, ?_⟩
          · have hQ := hq rfl
            have h1 : r 47 = .slice (some ⟨b, off, none⟩) (z + 1) c := hf.1
            have h2 : r 48 = .int .i64 (z : Nat) := hf.2.1
            refine (if_pos rfl).symm ▸ ?_
            clear hs hq hf
            unfold gives
            have z0 : (0 : Int) ≤ (z : Int) := by omega
            have z1 : (z : Int) < ((z + 1 : Nat) : Int) := by omega
            have z2 : (z : Int) < (z : Int) + 1 := by omega
            go_simp
            exact ⟨kOne_refl _ _ _ _, rfl⟩
          refine ⟨fun r wx hG hs hq hf => ?_, ?_⟩
          · have hQ := hq rfl
            have h3 : r 49 = .pointer (some ⟨b, off + z * 32, none⟩) := hf.1
            refine (if_pos rfl).symm ▸ ?_
            clear hs hq hf
            unfold gives
            refine gives_load_mid 35 _ rfl b (off + z * 32) h3 (bv pl) _ (HRG.out wx hG) Tryd.underlying35 rfl (hInfo' _ HLN.out.2.1) ⟨kOne_refl _ _ _ _, rfl⟩
          refine ⟨fun r wx hG hs hq hf => ?_, ?_⟩
          · have hQ := hq rfl
            have e0 : r 0 = .int .i64 W := hs 0 rfl
            refine (if_pos rfl).symm ▸ ?_
            clear hs hq hf
            unfold gives
            go_simp
            exact ⟨kOne_refl _ _ _ _, rfl⟩
          refine ⟨fun r wx hG hs hq hf => ?_, ?_⟩
          · have hQ := hq rfl
            have e1 : r 1 = .int .u64 m := hs 1 rfl
            refine (if_pos rfl).symm ▸ ?_
            clear hs hq hf
            unfold gives
            go_simp
            exact ⟨kOne_refl _ _ _ _, rfl⟩
          refine ⟨fun r wx hG hs hq hf => ?_, ?_⟩
          · have hQ := hq rfl
            have e13 : r 13 = .int .u64 K := hs 13 rfl
            refine (if_pos rfl).symm ▸ ?_
            clear hs hq hf
            unfold gives
            go_simp
            exact ⟨kOne_refl _ _ _ _, rfl⟩
          refine ⟨fun r wx hG hs hq hf => ?_, ?_⟩
          · have hQ := hq rfl
            have h6 : r 52 = .int .u64 m := hf.1
            have h7 : r 53 = .int .u64 K := hf.2.1
            refine (if_pos rfl).symm ▸ ?_
            clear hs hq hf
            unfold gives
            have zw : IntKind.u64.wrap ((m : Int) - (K : Int)) = ((m - K : Nat) : Int) := (IntWalk.u64_in _ (by omega)).trans (by omega)
            go_simp
            exact ⟨kOne_refl _ _ _ _, rfl⟩
          refine ⟨fun r wx hG hs hq hf => ?_, ?_⟩
          · have hQ := hq rfl
            have e2 : r 2 = .int .u64 n := hs 2 rfl
            refine (if_pos rfl).symm ▸ ?_
            clear hs hq hf
            unfold gives
            go_simp
            exact ⟨kOne_refl _ _ _ _, rfl⟩
          refine ⟨fun r wx hG hs hq hf => ?_, ?_⟩
          · have hQ := hq rfl
            have e13 : r 13 = .int .u64 K := hs 13 rfl
            refine (if_pos rfl).symm ▸ ?_
            clear hs hq hf
            unfold gives
            go_simp
            exact ⟨kOne_refl _ _ _ _, rfl⟩
          refine ⟨fun r wx hG hs hq hf => ?_, ?_⟩
          · have hQ := hq rfl
            have h9 : r 55 = .int .u64 n := hf.1
            have h10 : r 56 = .int .u64 K := hf.2.1
            refine (if_pos rfl).symm ▸ ?_
            clear hs hq hf
            unfold gives
            have zw : IntKind.u64.wrap ((n : Int) - (K : Int)) = ((n - K : Nat) : Int) := (IntWalk.u64_in _ (by omega)).trans (by omega)
            go_simp
            exact ⟨kOne_refl _ _ _ _, rfl⟩
          refine ⟨fun r wx hG hs hq hf => ?_, ?_⟩
          · have hQ := hq rfl
            have e9 : r 9 = .pointer (some ⟨g9, 0, none⟩) := hs 9 rfl
            refine (if_pos rfl).symm ▸ ?_
            clear hs hq hf
            unfold gives
            refine gives_load_row 35 _ rfl g9 e9 35 _ (0, 0) _ (HBX.out wx hG) Tryd.underlying35 rfl (hInfo _ HLN.out.1) ?_
            exact ⟨kOne_refl _ _ _ _, rfl⟩
          refine ⟨fun r wx hG hs hq hf => ?_, ?_⟩
          · have hQ := hq rfl
            have e4 : r 4 = .slice (some ⟨b, off, none⟩) (z + 1) c := hs 4 rfl
            refine (if_pos rfl).symm ▸ ?_
            clear hs hq hf
            unfold gives
            go_simp
            exact ⟨kOne_refl _ _ _ _, rfl⟩
          refine ⟨fun r wx hG hs hq hf => ?_, ?_⟩
          · have hQ := hq rfl
            have e14 : r 14 = .int .i64 z := hs 14 rfl
            refine (if_pos rfl).symm ▸ ?_
            clear hs hq hf
            unfold gives
            go_simp
            exact ⟨kOne_refl _ _ _ _, rfl⟩
          refine ⟨fun r wx hG hs hq hf => ?_, ?_⟩
          · have hQ := hq rfl
            have h13 : r 59 = .slice (some ⟨b, off, none⟩) (z + 1) c := hf.1
            have h14 : r 60 = .int .i64 (z : Nat) := hf.2.1
            refine (if_pos rfl).symm ▸ ?_
            clear hs hq hf
            unfold gives
            have z0 : (0 : Int) ≤ (z : Int) := by omega
            have z1 : (z : Int) ≤ (c : Int) := by omega
            go_simp
            exact ⟨kOne_refl _ _ _ _, rfl⟩
          refine ⟨fun r wx hG hs hq hf => ?_, ?_⟩
          · have hQ := hq rfl
            have h5 : r 51 = .int .i64 W := hf.1
            have h8 : r 54 = .int .u64 ((m - K : Nat) : Int) := hf.2.1
            have h11 : r 57 = .int .u64 ((n - K : Nat) : Int) := hf.2.2.1
            have h12 : r 58 = .agg (bv old).toArray := hf.2.2.2.1
            have h15 : r 61 = .slice (some ⟨b, off, none⟩) z c := hf.2.2.2.2.1
            refine (if_pos rfl).symm ▸ ?_
            clear hs hq hf
            unfold gives
            go_simp
            refine (HUP.out wx hG).mono ?_
            rintro e wy ⟨rfl, hb1⟩
            exact ⟨_, rfl, kOne_of rfl hb1, rfl⟩
          refine ⟨fun r wx hG hs hq hf => ?_, ?_⟩
          · have hQ := hq rfl
            have h0 : r 46 = .int .i64 W := hf.1
            have h4 : r 50 = .agg (bv pl).toArray := hf.2.1
            have h16 : r 62 = .agg (bv ru).toArray := hf.2.2.1
            refine (if_pos rfl).symm ▸ ?_
            clear hs hq hf
            unfold gives
            go_simp
            refine (HND.out wx hG).mono ?_
            rintro e wy ⟨rfl, hb1⟩
            exact ⟨_, rfl, kOne_of rfl hb1, rfl⟩
          refine ⟨fun r wx hG hs hq hf => ?_, ?_⟩
          · have hQ := hq rfl
            have e12 : r 12 = .pointer (some ⟨R, 0, none⟩) := hs 12 rfl
            have h17 : r 63 = .agg (bv rt).toArray := hf.1
            refine (if_pos rfl).symm ▸ ?_
            clear hs hq hf
            unfold gives
            refine gives_store_row 35 _ _ rfl R (bv rt) e12 h17 (bv (zs 32)) 35 hQ (hInfo' _ HLN.out.2.2) (by rw [bv_length, bv_length, HLN.out.2.2]; simp [zs]) (bv_one _) ?_
            intro wy h1 h2
            exact ⟨kOne_at (below_grow (Below.refl _ _) h2 (Nat.le_refl _) (Array.getElem?_eq_some_iff.1 hQ).1), h1⟩
          exact trivial
        case hend =>
          intro u wz hG hfin
          have z18 : wz.heap[R]? = some (.cells (bv rt).toArray 35 (0, 0)) := hfin 18 (by decide) (by kernel_rfl)
          clear hfin
          simp only [fill]
          have HZR := Lib.hid z18
          clear z18
          go_simp
          go_wp2_with fail
          refine bodyPost_ret (v := .agg (bv rt).toArray) ?_ ?_ ?_
          · exact results_cell_row Tryd.results38 _ _ R 35 _ (0, 0) _ rfl HZR.out Tryd.underlying35 rfl (hInfo _ HLN.out.2.2)
          · rfl
          · exact ⟨rfl, HBW.out.trans (hG.mono (by have := HRE.out; omega))⟩
      · rw [show_left (nodeH W) m n old wh qs pl hm1 hlt (by omega) hps', ← hK] at hct
        have hup := fun wx (hb : Below w.heap.size w wx) => ih old m K wh qs (some ⟨b, off, none⟩) c wx (by omega) hh hm1 htop (by omega) hq32 (by have := szG_left m n wh hm1 hlt (by omega); rw [hK]; omega) (by rw [hql]; exact hrq.keep hb) (hT.keepB hb)
        rw [hql] at hup
        obtain ⟨ru, hru⟩ : ∃ x, x = (showG (nodeH W) m K old wh qs).2 := ⟨_, rfl⟩
        have hru32 : ru.length = 32 := by rw [hru]; exact (showG_32 W _ _ _ _ _ hh hq32).2
        rw [← hru] at hup hct
        have hnd := fun wx (hb : Below w.heap.size w wx) => refNode_any W ru pl wx hru32 hpl32 hW (hT.keepB hb)
        rw [show nodeH W ru pl = rt from hct.symm] at hnd
        have y4 : (m : Int) ≤ (K : Int) := by omega
        clear hK
        have HUP0 := Lib.hid hup
        have HND0 := Lib.hid hnd
        have HLN := Lib.hid (And.intro hh (And.intro hpl32 hrt32))
        have HRG0 := Lib.hid hrg
        clear hup hnd hh hpl32 hrt32 hrg hru hru32 hrt hct ih hps hr hT h32 hcell hcap hqs hqe hq32 hrq hql hW hpl hL hm hps'
        go_enter Tryd.func38, Tryd.ntmps38
        go_upto_region 1 with fail
        rw [show (w.alloc (.cells (bv old).toArray 35)).alloc (.cells (bv (zs 32)).toArray 35) = w0 from HW0.out.symm]
        go_wp2_with fail
        refine (HSP.out _).mono ?_
        rintro e w1 ⟨rfl, hb1⟩
        have H1 := Lib.hid (And.intro ((hb1.block _ (Array.getElem?_eq_some_iff.1 H0.out.1).1).trans H0.out.1) (And.intro ((hb1.block _ (Array.getElem?_eq_some_iff.1 H0.out.2.1).1).trans H0.out.2.1) (H0.out.2.2.trans (hb1.mono H0.out.2.2.size))))
        clear hb1
        obtain ⟨R, hRe⟩ : ∃ R, R = w.heap.size + 1 := ⟨_, rfl⟩
        obtain ⟨g9, hg9e⟩ : ∃ g, g = w.heap.size := ⟨_, rfl⟩
        have hrow0 : w1.heap[R]? = some (.cells (bv (zs 32)).toArray 35 (0, 0)) := by rw [hRe]; exact H1.out.2.1
        have hRs : R ≤ w1.heap.size := Nat.le_of_lt (Array.getElem?_eq_some_iff.1 hrow0).1
        have hgR : g9 < R := by omega
        have HBW := Lib.hid H1.out.2.2
        have HRE := Lib.hid hRe
        have HBX := Lib.hid (fun wx (hb : Below R w1 wx) => (hb.block g9 hgR).trans (show w1.heap[g9]? = some (.cells (bv old).toArray 35 (0, 0)) by rw [hg9e]; exact H1.out.1))
        have HUP := Lib.hid (fun wx (hb : Below R w1 wx) => HUP0.out wx (HBW.out.trans (hb.mono (by have := HRE.out; omega))))
        have HND := Lib.hid (fun wx (hb : Below R w1 wx) => HND0.out wx (HBW.out.trans (hb.mono (by have := HRE.out; omega))))
        have HRG := Lib.hid (fun wx (hb : Below R w1 wx) => range_keep HRG0.out (HBW.out.trans (hb.mono (by have := HRE.out; omega))))
        rw [← hRe, ← hg9e]
        clear hRe hg9e
        go_upto_region 8 with fail
        refine wp_region_until [some 31, some 32, some 33, some 34, some 35, some 36, some 37, some 38, some 39, some 40, some 41, some 42, some 43, some 44, some 45, none] [] 15 (fun wx => wx.heap[R]? = some (.cells (bv (zs 32)).toArray 35 (0, 0))) [0, 1, 2, 3, 4, 5, 6, 7, 8, 9, 10, 11, 12, 13, 14, 15] (nwLF W g9 m n K b off z c R wh old ru pl rt) (kOne 15 R) (fun wx => Below R w1 wx) (by kernel_rfl) (by kernel_rfl) rfl (by kernel_rfl) (by kernel_rfl) (Below.refl _ _).drew hrow0 ((fun _ hj _ _ k h => ((kOne_below hj k).block _ (Array.getElem?_eq_some_iff.1 h).1).trans h)) (fun _ _ => kOne_refl _ _ _ _) (fun _ _ _ h k => h.trans (kOne_base (Nat.le_trans hRs h.size) k)) ?hF ?hstep ?hend
        case hF =>
          exact ⟨fun _ _ _ _ _ _ h => h, ⟨fun _ _ _ _ _ _ h => h, ⟨fun _ _ _ _ _ _ h => h, ⟨fun _ _ _ _ _ _ h => h, ⟨fun _ _ _ _ _ _ h => h, ⟨fun _ _ _ _ _ _ h => h, ⟨fun _ _ _ _ _ _ h => h, ⟨fun _ _ _ _ _ _ h => h, ⟨fun _ _ _ _ _ _ h => h, ⟨fun _ _ _ _ _ _ h => h, ⟨fun _ _ _ _ _ _ h => h, ⟨fun _ _ _ _ _ _ h => h, ⟨fun _ _ _ _ _ _ h => h, ⟨fun _ _ _ _ _ _ h => h, ⟨fun _ _ _ _ _ _ h => h, ⟨fun j hg _ _ _ k h => ((kOne_below (fun e => by subst e; exact absurd hg (by rw [show goneB _ 15 15 = true by kernel_rfl]; simp)) k).block _ (Array.getElem?_eq_some_iff.1 h).1).trans h, trivial⟩⟩⟩⟩⟩⟩⟩⟩⟩⟩⟩⟩⟩⟩⟩⟩
        case hstep =>
          refine ⟨fun r wx hG hs hq hf => ?_, ?_⟩
          · have hQ := hq rfl
            have e0 : r 0 = .int .i64 W := hs 0 rfl
            refine (if_pos rfl).symm ▸ ?_
            clear hs hq hf
            unfold gives
            go_simp
            exact ⟨kOne_refl _ _ _ _, rfl⟩
          refine ⟨fun r wx hG hs hq hf => ?_, ?_⟩
          · have hQ := hq rfl
            have e0 : r 0 = .int .i64 W := hs 0 rfl
            refine (if_pos rfl).symm ▸ ?_
            clear hs hq hf
            unfold gives
            go_simp
            exact ⟨kOne_refl _ _ _ _, rfl⟩
          refine ⟨fun r wx hG hs hq hf => ?_, ?_⟩
          · have hQ := hq rfl
            have e1 : r 1 = .int .u64 m := hs 1 rfl
            refine (if_pos rfl).symm ▸ ?_
            clear hs hq hf
            unfold gives
            go_simp
            exact ⟨kOne_refl _ _ _ _, rfl⟩
          refine ⟨fun r wx hG hs hq hf => ?_, ?_⟩
          · have hQ := hq rfl
            have e13 : r 13 = .int .u64 K := hs 13 rfl
            refine (if_pos rfl).symm ▸ ?_
            clear hs hq hf
            unfold gives
            go_simp
            exact ⟨kOne_refl _ _ _ _, rfl⟩
          refine ⟨fun r wx hG hs hq hf => ?_, ?_⟩
          · have hQ := hq rfl
            have e9 : r 9 = .pointer (some ⟨g9, 0, none⟩) := hs 9 rfl
            refine (if_pos rfl).symm ▸ ?_
            clear hs hq hf
            unfold gives
            refine gives_load_row 35 _ rfl g9 e9 35 _ (0, 0) _ (HBX.out wx hG) Tryd.underlying35 rfl (hInfo _ HLN.out.1) ?_
            exact ⟨kOne_refl _ _ _ _, rfl⟩
          refine ⟨fun r wx hG hs hq hf => ?_, ?_⟩
          · have hQ := hq rfl
            have e4 : r 4 = .slice (some ⟨b, off, none⟩) (z + 1) c := hs 4 rfl
            refine (if_pos rfl).symm ▸ ?_
            clear hs hq hf
            unfold gives
            go_simp
            exact ⟨kOne_refl _ _ _ _, rfl⟩
          refine ⟨fun r wx hG hs hq hf => ?_, ?_⟩
          · have hQ := hq rfl
            have e14 : r 14 = .int .i64 z := hs 14 rfl
            refine (if_pos rfl).symm ▸ ?_
            clear hs hq hf
            unfold gives
            go_simp
            exact ⟨kOne_refl _ _ _ _, rfl⟩
          refine ⟨fun r wx hG hs hq hf => ?_, ?_⟩
          · have hQ := hq rfl
            have h5 : r 36 = .slice (some ⟨b, off, none⟩) (z + 1) c := hf.1
            have h6 : r 37 = .int .i64 (z : Nat) := hf.2.1
            refine (if_pos rfl).symm ▸ ?_
            clear hs hq hf
            unfold gives
            have z0 : (0 : Int) ≤ (z : Int) := by omega
            have z1 : (z : Int) ≤ (c : Int) := by omega
            go_simp
            exact ⟨kOne_refl _ _ _ _, rfl⟩
          refine ⟨fun r wx hG hs hq hf => ?_, ?_⟩
          · have hQ := hq rfl
            have e5 : r 5 = .bool wh := hs 5 rfl
            refine (if_pos rfl).symm ▸ ?_
            clear hs hq hf
            unfold gives
            go_simp
            exact ⟨kOne_refl _ _ _ _, rfl⟩
          refine ⟨fun r wx hG hs hq hf => ?_, ?_⟩
          · have hQ := hq rfl
            have h1 : r 32 = .int .i64 W := hf.1
            have h2 : r 33 = .int .u64 m := hf.2.1
            have h3 : r 34 = .int .u64 K := hf.2.2.1
            have h4 : r 35 = .agg (bv old).toArray := hf.2.2.2.1
            have h7 : r 38 = .slice (some ⟨b, off, none⟩) z c := hf.2.2.2.2.1
            have h8 : r 39 = .bool wh := hf.2.2.2.2.2.1
            refine (if_pos rfl).symm ▸ ?_
            clear hs hq hf
            unfold gives
            go_simp
            refine (HUP.out wx hG).mono ?_
            rintro e wy ⟨rfl, hb1⟩
            exact ⟨_, rfl, kOne_of rfl hb1, rfl⟩
          refine ⟨fun r wx hG hs hq hf => ?_, ?_⟩
          · have hQ := hq rfl
            have e4 : r 4 = .slice (some ⟨b, off, none⟩) (z + 1) c := hs 4 rfl
            refine (if_pos rfl).symm ▸ ?_
            clear hs hq hf
            unfold gives
            go_simp
            exact ⟨kOne_refl _ _ _ _, rfl⟩
          refine ⟨fun r wx hG hs hq hf => ?_, ?_⟩
          · have hQ := hq rfl
            have e14 : r 14 = .int .i64 z := hs 14 rfl
            refine (if_pos rfl).symm ▸ ?_
            clear hs hq hf
            unfold gives
            go_simp
            exact ⟨kOne_refl _ _ _ _, rfl⟩
          refine ⟨fun r wx hG hs hq hf => ?_, ?_⟩
          · have hQ := hq rfl
            have h10 : r 41 = .slice (some ⟨b, off, none⟩) (z + 1) c := hf.1
            have h11 : r 42 = .int .i64 (z : Nat) := hf.2.1
            refine (if_pos rfl).symm ▸ ?_
            clear hs hq hf
            unfold gives
            have z0 : (0 : Int) ≤ (z : Int) := by omega
            have z1 : (z : Int) < ((z + 1 : Nat) : Int) := by omega
            have z2 : (z : Int) < (z : Int) + 1 := by omega
            go_simp
            exact ⟨kOne_refl _ _ _ _, rfl⟩
          refine ⟨fun r wx hG hs hq hf => ?_, ?_⟩
          · have hQ := hq rfl
            have h12 : r 43 = .pointer (some ⟨b, off + z * 32, none⟩) := hf.1
            refine (if_pos rfl).symm ▸ ?_
            clear hs hq hf
            unfold gives
            refine gives_load_mid 35 _ rfl b (off + z * 32) h12 (bv pl) _ (HRG.out wx hG) Tryd.underlying35 rfl (hInfo' _ HLN.out.2.1) ⟨kOne_refl _ _ _ _, rfl⟩
          refine ⟨fun r wx hG hs hq hf => ?_, ?_⟩
          · have hQ := hq rfl
            have h0 : r 31 = .int .i64 W := hf.1
            have h9 : r 40 = .agg (bv ru).toArray := hf.2.1
            have h13 : r 44 = .agg (bv pl).toArray := hf.2.2.1
            refine (if_pos rfl).symm ▸ ?_
            clear hs hq hf
            unfold gives
            go_simp
            refine (HND.out wx hG).mono ?_
            rintro e wy ⟨rfl, hb1⟩
            exact ⟨_, rfl, kOne_of rfl hb1, rfl⟩
          refine ⟨fun r wx hG hs hq hf => ?_, ?_⟩
          · have hQ := hq rfl
            have e12 : r 12 = .pointer (some ⟨R, 0, none⟩) := hs 12 rfl
            have h14 : r 45 = .agg (bv rt).toArray := hf.1
            refine (if_pos rfl).symm ▸ ?_
            clear hs hq hf
            unfold gives
            refine gives_store_row 35 _ _ rfl R (bv rt) e12 h14 (bv (zs 32)) 35 hQ (hInfo' _ HLN.out.2.2) (by rw [bv_length, bv_length, HLN.out.2.2]; simp [zs]) (bv_one _) ?_
            intro wy h1 h2
            exact ⟨kOne_at (below_grow (Below.refl _ _) h2 (Nat.le_refl _) (Array.getElem?_eq_some_iff.1 hQ).1), h1⟩
          exact trivial
        case hend =>
          intro u wz hG hfin
          have z15 : wz.heap[R]? = some (.cells (bv rt).toArray 35 (0, 0)) := hfin 15 (by decide) (by kernel_rfl)
          clear hfin
          simp only [fill]
          have HZR := Lib.hid z15
          clear z15
          go_simp
          go_wp2_with fail
          refine bodyPost_ret (v := .agg (bv rt).toArray) ?_ ?_ ?_
          · exact results_cell_row Tryd.results38 _ _ R 35 _ (0, 0) _ rfl HZR.out Tryd.underlying35 rfl (hInfo _ HLN.out.2.2)
          · rfl
          · exact ⟨rfl, HBW.out.trans (hG.mono (by have := HRE.out; omega))⟩

end Go.Proofs.YtfibhmgjkooemaaDoor
namespace Go.Proofs.YtfibhmgjkooemaaDoor
open Go.RowKit Sha Root Path Growth Clash

/-- What each operation hands on. -/
def q5aF (W : Int) (B g13 g14 tb tf tc n : Nat) (ga gb old rl : List UInt8) : Nat → Value → World → Prop
  | 0, v, _ => v = .agg (bv ga).toArray
  | 1, v, _ => v = .agg (bv old).toArray
  | 2, v, _ => v = .bool true
  | 3, v, _ => v = .bool true
  | 4, v, _ => v = undef
  | 5, v, _ => v = undef
  | 6, v, _ => v = undef
  | 7, v, _ => v = undef
  | 8, v, _ => v = undef
  | 9, v, _ => v = .bool true
  | _, _, _ => True
/-- What each operation hands on. -/
def q5bF (W : Int) (B g13 g14 tb tf tc n : Nat) (ga gb old rl : List UInt8) : Nat → Value → World → Prop
  | 0, v, _ => v = .agg (bv ga).toArray
  | 1, v, _ => v = .agg (bv old).toArray
  | 2, v, _ => v = .bool false
  | 3, v, _ => v = .bool false
  | 4, v, _ => v = .agg (bv gb).toArray
  | 5, v, _ => v = .int .i64 W
  | 6, v, _ => v = .slice (some ⟨tb, tf, none⟩) n tc
  | 7, v, _ => v = .agg (bv rl).toArray
  | 8, v, _ => v = .bool true
  | 9, v, _ => v = .bool true
  | _, _, _ => True
/-- What each operation hands on. -/
def q5cF (W : Int) (B g13 g14 tb tf tc n : Nat) (ga gb old rl : List UInt8) : Nat → Value → World → Prop
  | 0, v, _ => v = .agg (bv ga).toArray
  | 1, v, _ => v = .agg (bv old).toArray
  | 2, v, _ => v = .bool false
  | 3, v, _ => v = .bool false
  | 4, v, _ => v = .agg (bv gb).toArray
  | 5, v, _ => v = .int .i64 W
  | 6, v, _ => v = .slice (some ⟨tb, tf, none⟩) n tc
  | 7, v, _ => v = .agg (bv rl).toArray
  | 8, v, _ => v = .bool false
  | 9, v, _ => v = .bool false
  | _, _, _ => True
/-- What each operation hands on. -/
def q7yF (W : Int) (B tb tf tc n m : Nat) (old rm : List UInt8) : Nat → Value → World → Prop
  | 0, v, _ => v = .agg (bv old).toArray
  | 1, v, _ => v = .int .i64 W
  | 2, v, _ => v = .slice (some ⟨tb, tf, none⟩) n tc
  | 3, v, _ => v = .int .u64 m
  | 4, v, _ => v = .slice (some ⟨tb, tf, none⟩) m tc
  | 5, v, _ => v = .agg (bv rm).toArray
  | 6, v, _ => v = .bool true
  | _, _, _ => True
/-- What each operation hands on. -/
def q7nF (W : Int) (B tb tf tc n m : Nat) (old rm : List UInt8) : Nat → Value → World → Prop
  | 0, v, _ => v = .agg (bv old).toArray
  | 1, v, _ => v = .int .i64 W
  | 2, v, _ => v = .slice (some ⟨tb, tf, none⟩) n tc
  | 3, v, _ => v = .int .u64 m
  | 4, v, _ => v = .slice (some ⟨tb, tf, none⟩) m tc
  | 5, v, _ => v = .agg (bv rm).toArray
  | 6, v, _ => v = .bool false
  | _, _, _ => True
/-- What each operation hands on. -/
def q16F (W : Int) (g8 lb lo_ lc k j pb po pc z K : Nat) (wh : Bool) (old ru ph : List UInt8) : Nat → Value → World → Prop
  | 0, v, _ => v = .int .i64 W
  | 1, v, _ => v = .int .u64 j
  | 2, v, _ => v = .int .i64 K
  | 3, v, _ => v = .int .u64 K
  | 4, v, _ => v = .agg (bv old).toArray
  | 5, v, _ => v = .slice (some ⟨pb, po, none⟩) (z + 1) pc
  | 6, v, _ => v = .int .i64 z
  | 7, v, _ => v = .slice (some ⟨pb, po, none⟩) z pc
  | 8, v, _ => v = .bool wh
  | 9, v, _ => v = .agg (bv ru).toArray
  | 10, v, _ => v = .slice (some ⟨pb, po, none⟩) (z + 1) pc
  | 11, v, _ => v = .int .i64 z
  | 12, v, _ => v = .pointer (some ⟨pb, po + z * 32, none⟩)
  | 13, v, _ => v = .agg (bv ph).toArray
  | 14, v, w => Rd w 1 v 65 (bv (1 :: (ru ++ ph)))
  | 15, v, w => Rd w 1 v 65 (bv (1 :: (ru ++ ph)))
  | _, _, _ => True
/-- What each operation hands on. -/
def q17F (W : Int) (g8 lb lo_ lc k j pb po pc z K : Nat) (wh : Bool) (old ru ph : List UInt8) : Nat → Value → World → Prop
  | 0, v, _ => v = .slice (some ⟨pb, po, none⟩) (z + 1) pc
  | 1, v, _ => v = .int .i64 z
  | 2, v, _ => v = .pointer (some ⟨pb, po + z * 32, none⟩)
  | 3, v, _ => v = .agg (bv ph).toArray
  | 4, v, _ => v = .int .i64 W
  | 5, v, _ => v = .int .u64 j
  | 6, v, _ => v = .int .i64 K
  | 7, v, _ => v = .int .u64 K
  | 8, v, _ => v = .int .u64 ((j - K : Nat) : Int)
  | 9, v, _ => v = .slice (some ⟨lb, lo_, none⟩) k lc
  | 10, v, _ => v = .int .i64 (k : Nat)
  | 11, v, _ => v = .int .i64 K
  | 12, v, _ => v = .int .i64 ((k - K : Nat) : Int)
  | 13, v, _ => v = .int .u64 ((k - K : Nat) : Int)
  | 14, v, _ => v = .agg (bv old).toArray
  | 15, v, _ => v = .slice (some ⟨pb, po, none⟩) (z + 1) pc
  | 16, v, _ => v = .int .i64 z
  | 17, v, _ => v = .slice (some ⟨pb, po, none⟩) z pc
  | 18, v, _ => v = .agg (bv ru).toArray
  | 19, v, w => Rd w 1 v 65 (bv (1 :: (ph ++ ru)))
  | 20, v, w => Rd w 1 v 65 (bv (1 :: (ph ++ ru)))
  | _, _, _ => True

set_option maxHeartbeats 16000000 in
set_option maxRecDepth 100000 in
theorem r17Growth_any (W : Int) (l : List (List UInt8)) (m : Nat) (old : List UInt8) (ps : List (List UInt8)) (v : Value) (a : Option Addr) (c : Nat) (w : World) (hW : -9223372036854775808 ≤ W ∧ W ≤ 9223372036854775807) (hl : l.length ≤ 1000000) (hts : ∀ t ∈ l, t.length ≤ 140737488351232) (hm64 : m < 18446744073709551616) (ho : old.length = 32) (h32 : ∀ p ∈ ps, p.length = 32) (hpl : ps.length ≤ 140737488355328)
    (hv : Txw w v l) (hr : Rd w 32 (.slice a ps.length c) ps.length (ps.flatMap bv)) (hT : TabsR w) :
    Calls Tryd.prog 14 #[.int .i64 W, v, .int .u64 m, .agg (bv old).toArray, .slice a ps.length c] w fun e w' => PairE w w' (ansG W l m old ps) e := by
  have hz := (zero_of_info info32).1
  have HZ32 := Lib.hid (show (zs 32).length = 32 by simp [zs])
  obtain ⟨va, vc, rfl⟩ := hv.form
  obtain ⟨n, hn⟩ : ∃ n, n = l.length := ⟨_, rfl⟩
  obtain ⟨L, hL⟩ : ∃ n, n = ps.length := ⟨_, rfl⟩
  obtain ⟨w1, hw1⟩ : ∃ x : World, x = (w.alloc (.cells (bv old).toArray 35)).alloc (.cells #[.slice none 0 0, .slice none 0 0] 27) := ⟨_, rfl⟩
  have hB : Below w.heap.size w w1 := by rw [hw1]; exact ((Below.refl _ _).alloc (Nat.le_refl _) _).alloc (by simp) _
  have r0 : w1.heap[w.heap.size]? = some (.cells (bv old).toArray 35 (0, 0)) := by
    rw [hw1, heap_alloc_old _ _ (by simp)]; exact heap_alloc_new _ _
  have r1 : w1.heap[w.heap.size + 1]? = some (.cells #[.slice none 0 0, .slice none 0 0] 27 (0, 0)) := by
    rw [hw1]
    have := heap_alloc_new (w.alloc (.cells (bv old).toArray 35)) (.cells #[.slice none 0 0, .slice none 0 0] 27)
    simpa using this
  have HW1 := Lib.hid hw1
  have R1 := Lib.hid (And.intro r0 (And.intro r1 hB))
  have HCL := Lib.hid (refGClimb_any W m n old ps a c w1 hW ho hm64 (by omega) h32 hpl (hr.keep hB) (hT.keepB hB))
  have HRO0 := Lib.hid (fun wx (hb : Below w.heap.size w wx) => r17root_any W l (.slice va l.length vc) wx hW hl hts (hv.keep hb) (hT.keepB hb))
  have hgs := gS_32 W m n old ps ho h32
  have HARG := Lib.hid (And.intro hv (And.intro hr (And.intro hT (And.intro hts (And.intro h32 (And.intro hW (And.intro hn hL)))))))
  rw [← hn] at HRO0 hl ⊢
  rw [← hL] at HCL hpl ⊢
  have HO := Lib.hid ho
  obtain ⟨ER, hER⟩ : ∃ x, x = gE m n L := ⟨_, rfl⟩
  obtain ⟨gab, hgab⟩ : ∃ x, x = gS W m n old ps := ⟨_, rfl⟩
  rw [← hgab] at HCL hgs
  rw [← hER] at HCL
  obtain ⟨ga, gb⟩ := gab
  simp only at HCL hgs
  obtain ⟨rl, hrl⟩ : ∃ x, x = rt (hw W) l := ⟨_, rfl⟩
  obtain ⟨lm, hlm⟩ : ∃ x, x = l.take m := ⟨_, rfl⟩
  obtain ⟨rm, hrm⟩ : ∃ x, x = rt (hw W) lm := ⟨_, rfl⟩
  obtain ⟨GF, hGF⟩ : ∃ x, x = growF (hw W) n l m old ps true := ⟨_, rfl⟩
  obtain ⟨AN, hAN⟩ : ∃ x, x = ansG W l m old ps := ⟨_, rfl⟩
  have hee : AN = (if ER ≠ 0 then (ER, [], []) else if ga ≠ old ∨ gb ≠ rl then (3, [], []) else if old = rm then (8, [], []) else ansT GF : Int × List UInt8 × List UInt8) := by
    rw [hAN, ansG, ← hn, ← hL, ← hER, ← hgab, ← hlm, ← hrm, ← hrl, ← hGF]
  rw [← hAN]
  rw [← hrl] at HRO0
  have HEE := Lib.hid hee
  have HLN := Lib.hid (And.intro hgs.1 (And.intro hgs.2 (And.intro ho (show rl.length = 32 by rw [hrl]; exact rt32 W l))))
  have HRL := Lib.hid (And.intro hrl (And.intro hlm (And.intro hrm hGF)))
  have HER := Lib.hid hER
  have zc : IntKind.u64.wrap (n : Int) = (n : Int) := IntWalk.u64_in _ (by omega)
  have FIN := Lib.hid (fun (wz : World) (E : Int) (hA : AN = (E, [], [])) (h1 : wz.heap[w.heap.size + 1]? = some (.cells #[.slice none 0 0, .slice none 0 0] 27 (0, 0))) (h3 : Below w.heap.size w wz) =>
    (show (loadVar 27 ⟨w.heap.size + 1, 0, none⟩).run Tryd.prog ((wz.setCell ⟨w.heap.size + 1, 0, none⟩ (.slice none 0 0)).setCell ⟨w.heap.size + 1, 1, none⟩ (.slice none 0 0)) = .ok (.agg #[.slice none 0 0, .slice none 0 0]) ((wz.setCell ⟨w.heap.size + 1, 0, none⟩ (.slice none 0 0)).setCell ⟨w.heap.size + 1, 1, none⟩ (.slice none 0 0)) ∧
      PairE w ((wz.setCell ⟨w.heap.size + 1, 0, none⟩ (.slice none 0 0)).setCell ⟨w.heap.size + 1, 1, none⟩ (.slice none 0 0)) AN (.returned (.tuple #[.agg #[.slice none 0 0, .slice none 0 0], .int .i64 E])) from by
        have hs := s2_facts (a := .slice none 0 0) (b := .slice none 0 0) h1
        exact ⟨pair_ld Tryd.prog _ (w.heap.size + 1) _ _ _ 27 hs.1 Tryd.underlying27 rfl pairInfo, by rw [hA]; exact ⟨none, 0, none, 0, rfl, Rd.nil _ _, Rd.nil _ _, below_ofp h3 (by omega) hs.2⟩⟩))
  clear hv hr hT hts h32 hW hgs hgab hER hrl hlm hrm hGF hAN hee hw1 hB r0 r1 hpl ho hn hL
  go_enter Tryd.func14, Tryd.ntmps14
  go_upto_region 1 with fail
  rw [show (w.alloc (.cells (bv old).toArray 35)).alloc (.cells #[.slice none 0 0, .slice none 0 0] 27) = w1 from HW1.out.symm]
  go_wp2_with (with_reducible show wpList _ _ _ (⟨some 28, _, _, _, _, _⟩ :: _) _ _; refine wpList_load_row rfl _ _ rfl w.heap.size rfl _ _ (0, 0) _ R1.out.1 Tryd.underlying35 rfl (hInfo _ HO.out) ?_)
  refine HCL.out.mono ?_
  rintro e w2 ⟨rfl, hb2⟩
  have R2 := Lib.hid (And.intro ((hb2.block _ (Array.getElem?_eq_some_iff.1 R1.out.1).1).trans R1.out.1) (And.intro ((hb2.block _ (Array.getElem?_eq_some_iff.1 R1.out.2.1).1).trans R1.out.2.1) (R1.out.2.2.trans (hb2.mono R1.out.2.2.size))))
  clear hb2
  obtain ⟨w3, hw3⟩ : ∃ x : World, x = (w2.alloc (.cells (bv (zs 32)).toArray 35)).alloc (.cells (bv (zs 32)).toArray 35) := ⟨_, rfl⟩
  have hb3 : Below w2.heap.size w2 w3 := by rw [hw3]; exact ((Below.refl _ _).alloc (Nat.le_refl _) _).alloc (by simp) _
  have q1 : w3.heap[w2.heap.size]? = some (.cells (bv (zs 32)).toArray 35 (0, 0)) := by rw [hw3, heap_alloc_old _ _ (by simp)]; exact heap_alloc_new _ _
  have q2 : w3.heap[w2.heap.size + 1]? = some (.cells (bv (zs 32)).toArray 35 (0, 0)) := by
    rw [hw3]
    have := heap_alloc_new (w2.alloc (.cells (bv (zs 32)).toArray 35)) (.cells (bv (zs 32)).toArray 35)
    simpa using this
  have HW3 := Lib.hid hw3
  have R3 := Lib.hid (And.intro q1 (And.intro q2 hb3))
  clear hw3 hb3 q1 q2
  have HST := Lib.hid (fun (w4 : World) (hg4 : w3.grownBy w4 (some w2.heap.size)) => (show w4.heap[w2.heap.size + 1]? = some (.cells (bv (zs 32)).toArray 35 (0, 0)) from (hg4.block _ (Array.getElem?_eq_some_iff.1 R3.out.2.1).1 (by simp)).trans R3.out.2.1))
  have HQ5 := Lib.hid (fun (w4 w5 : World) (hg4 : w3.grownBy w4 (some w2.heap.size)) (hg5 : w4.grownBy w5 (some (w2.heap.size + 1))) => (show Below w2.heap.size w2 w5 from below_growp (below_growp R3.out.2.2 (Nat.le_refl _) hg4) (by omega) hg5))
  go_upto_region 3 with (first
    | (with_reducible show wpList _ _ _ (⟨none, Op.store _ _ _, _, _, _, _⟩ :: _) _ (World.alloc (World.alloc w2 _) _); rw [show (w2.alloc (.cells (bv (zs 32)).toArray 35)).alloc (.cells (bv (zs 32)).toArray 35) = w3 from HW3.out.symm]; refine wpList_store_whole rfl _ _ _ rfl w2.heap.size (bv ga) rfl rfl (bv (zs 32)) _ R3.out.1 (hInfo' _ HLN.out.1) (by rw [bv_length, bv_length, HLN.out.1, HZ32.out]) (bv_one _) ?_; intro w4 HG4 hg4; have HH4 := Lib.hid (And.intro HG4 hg4); clear HG4 hg4)
    | (with_reducible show wpList _ _ _ (⟨none, Op.store _ _ _, _, _, _, _⟩ :: _) _ _; refine wpList_store_whole rfl _ _ _ rfl (w2.heap.size + 1) (bv gb) rfl rfl (bv (zs 32)) _ (HST.out _ HH4.out.2) (hInfo' _ HLN.out.2.1) (by rw [bv_length, bv_length, HLN.out.2.1, HZ32.out]) (bv_one _) ?_; intro w5 HG5 hg5))
  have hb5 := HQ5.out _ _ HH4.out.2 hg5
  obtain ⟨g13, hg13⟩ : ∃ g, g = w2.heap.size := ⟨_, rfl⟩
  obtain ⟨g14, hg14⟩ : ∃ g, g = w2.heap.size + 1 := ⟨_, rfl⟩
  have hr13 : w5.heap[g13]? = some (.cells (bv ga).toArray 35 (0, 0)) := by rw [hg13]; exact (hg5.block _ (Array.getElem?_eq_some_iff.1 HH4.out.1.out).1 (by simp)).trans HH4.out.1.out
  have hr14 : w5.heap[g14]? = some (.cells (bv gb).toArray 35 (0, 0)) := by rw [hg14]; exact HG5.out
  have R5 := Lib.hid (And.intro ((hb5.block _ (Array.getElem?_eq_some_iff.1 R2.out.1).1).trans R2.out.1) (And.intro ((hb5.block _ (Array.getElem?_eq_some_iff.1 R2.out.2.1).1).trans R2.out.2.1) (R2.out.2.2.trans (hb5.mono R2.out.2.2.size))))
  have HR := Lib.hid (fun wx (hb : Below w5.heap.size w5 wx) => And.intro ((hb.block _ (Array.getElem?_eq_some_iff.1 hr13).1).trans hr13) (And.intro ((hb.block _ (Array.getElem?_eq_some_iff.1 hr14).1).trans hr14) ((hb.block _ (Array.getElem?_eq_some_iff.1 R5.out.1).1).trans R5.out.1)))
  rw [← hg14, ← hg13]
  clear hr13 hr14 hg13 hg14 hb5 HG5 hg5
  by_cases hE0 : ER = 0
  · subst hE0
    have HE0 := Lib.hid (show (0 : Int) = 0 from rfl)
    have hmn : 1 ≤ m ∧ m ≤ n ∧ L = szG m n true := by
      have h := HER.out
      unfold gE at h
      split at h
      · simp at h
      · split at h
        · simp at h
        · split at h
          · simp at h
          · omega
    have hlpos : 0 < l.length := by have := HARG.out.2.2.2.2.2.2.1; omega
    obtain ⟨tb, tf, tc, hvs, hvc, _⟩ := HARG.out.1.at hlpos
    simp only [Value.slice.injEq] at hvs
    obtain ⟨rfl, -, htc⟩ := hvs
    have htc2 := htc.symm
    subst htc2
    have htcn : n ≤ tc := by rw [HARG.out.2.2.2.2.2.2.1]; exact hvc
    have HRO := Lib.hid (fun wx (hb : Below w5.heap.size w5 wx) => HRO0.out wx (R5.out.2.2.trans (hb.mono R5.out.2.2.size)))
    have HRM0 := Lib.hid (fun wx (hb : Below w.heap.size w wx) => (show Calls Tryd.prog 29 #[.int .i64 W, .slice (some ⟨tb, tf, none⟩) m tc] wx fun e w' => e = .returned (.agg (bv rm).toArray) ∧ Below wx.heap.size wx w' by
      rw [HRL.out.2.2.1, HRL.out.2.1]
      exact r17root_any W (l.take m) _ wx HARG.out.2.2.2.2.2.1 (by rw [List.length_take]; omega) (fun t h => HARG.out.2.2.2.1 t (List.mem_of_mem_take h)) ((HARG.out.1.take rfl m (by have := HARG.out.2.2.2.2.2.2.1; omega)).keep hb) (HARG.out.2.2.1.keepB hb)))
    have HLM0 := Lib.hid (show rm.length = 32 by rw [HRL.out.2.2.1]; exact rt32 W _)
    have hm1 := hmn.1
    have hm2 := hmn.2.1
    have HMN := Lib.hid hmn.2.2
    clear hmn hlpos hvc
    by_cases hqa : ga = old
    · have HQA := Lib.hid (show (ga == old) = true from beq_iff_eq.2 hqa)
      have HQA2 := Lib.hid hqa
      clear hqa
      by_cases hqb : gb = rl
      · have HQB := Lib.hid (show (gb == rl) = true from beq_iff_eq.2 hqb)
        have HQB2 := Lib.hid hqb
        clear hqb
        go_upto_region 5 with fail
        refine wp_region_steps [some 38, some 39, some 40, some 41, some 42, some 43, some 44, some 45, some 46, some 47] [] (q5cF W w.heap.size g13 g14 tb tf tc n ga gb old rl) (fun _ wx wy => Below wx.heap.size wx wy) (fun wx => Below w5.heap.size w5 wx) (by kernel_rfl) (by kernel_rfl) rfl (by kernel_rfl) (Below.refl _ _).drew (fun _ wx => Below.refl _ _) (fun _ wx wy h k => h.trans (k.mono h.size)) ?hF ?hstep ?hend
        case hF =>
          exact ⟨fun _ _ _ _ _ _ h => h, ⟨fun _ _ _ _ _ _ h => h, ⟨fun _ _ _ _ _ _ h => h, ⟨fun _ _ _ _ _ _ h => h, ⟨fun _ _ _ _ _ _ h => h, ⟨fun _ _ _ _ _ _ h => h, ⟨fun _ _ _ _ _ _ h => h, ⟨fun _ _ _ _ _ _ h => h, ⟨fun _ _ _ _ _ _ h => h, ⟨fun _ _ _ _ _ _ h => h, trivial⟩⟩⟩⟩⟩⟩⟩⟩⟩⟩
        case hstep =>
          refine ⟨fun r wx hG hs hq hf => ?_, ?_⟩
          · have e13 : r 13 = .pointer (some ⟨g13, 0, none⟩) := hs 13 rfl
            refine (if_pos rfl).symm ▸ ?_
            clear hs hq hf
            unfold gives
            refine gives_load_row 35 _ rfl g13 e13 35 _ (0, 0) _ (HR.out wx hG).1 Tryd.underlying35 rfl (hInfo _ HLN.out.1) ?_
            exact ⟨Below.refl _ _, rfl⟩
          refine ⟨fun r wx hG hs hq hf => ?_, ?_⟩
          · have e8 : r 8 = .pointer (some ⟨w.heap.size, 0, none⟩) := hs 8 rfl
            refine (if_pos rfl).symm ▸ ?_
            clear hs hq hf
            unfold gives
            refine gives_load_row 35 _ rfl w.heap.size e8 35 _ (0, 0) _ (HR.out wx hG).2.2 Tryd.underlying35 rfl (hInfo _ HLN.out.2.2.1) ?_
            exact ⟨Below.refl _ _, rfl⟩
          refine ⟨fun r wx hG hs hq hf => ?_, ?_⟩
          · have h0 : r 38 = .agg (bv ga).toArray := hf.1
            have h1 : r 39 = .agg (bv old).toArray := hf.2.1
            refine (if_pos rfl).symm ▸ ?_
            clear hs hq hf
            unfold gives
            have hqe := eqIn_hash ga old HLN.out.1 HLN.out.2.2.1 wx
            rw [HQA.out] at hqe
            have hgd := eq_guard
            go_simp
            exact ⟨Below.refl _ _, rfl⟩
          refine ⟨fun r wx hG hs hq hf => ?_, ?_⟩
          · have h2 : r 40 = .bool false := hf.1
            refine (if_pos rfl).symm ▸ ?_
            clear hs hq hf
            unfold gives
            go_simp
            exact ⟨Below.refl _ _, rfl⟩
          refine ⟨fun r wx hG hs hq hf => ?_, ?_⟩
          · have e14 : r 14 = .pointer (some ⟨g14, 0, none⟩) := hs 14 rfl
            have h3 : r 41 = .bool false := hf.1
            have hy : ydD [some 38, some 39, some 40, some 41, some 42, some 43, some 44, some 45, some 46, some 47] r 3 = some false := by show (match r 41 with | .bool b => some b | _ => none) = some false; rw [h3]
            simp only [Region.wanted, hy, beq_self_eq_true, if_true]
            clear hs hq hf hy
            unfold gives
            refine gives_load_row 35 _ rfl g14 e14 35 _ (0, 0) _ (HR.out wx hG).2.1 Tryd.underlying35 rfl (hInfo _ HLN.out.2.1) ?_
            exact ⟨Below.refl _ _, rfl⟩
          refine ⟨fun r wx hG hs hq hf => ?_, ?_⟩
          · have e0 : r 0 = .int .i64 W := hs 0 rfl
            have h3 : r 41 = .bool false := hf.1
            have hy : ydD [some 38, some 39, some 40, some 41, some 42, some 43, some 44, some 45, some 46, some 47] r 3 = some false := by show (match r 41 with | .bool b => some b | _ => none) = some false; rw [h3]
            simp only [Region.wanted, hy, beq_self_eq_true, if_true]
            clear hs hq hf hy
            unfold gives
            go_simp
            exact ⟨Below.refl _ _, rfl⟩
          refine ⟨fun r wx hG hs hq hf => ?_, ?_⟩
          · have e1 : r 1 = .slice (some ⟨tb, tf, none⟩) n tc := hs 1 rfl
            have h3 : r 41 = .bool false := hf.1
            have hy : ydD [some 38, some 39, some 40, some 41, some 42, some 43, some 44, some 45, some 46, some 47] r 3 = some false := by show (match r 41 with | .bool b => some b | _ => none) = some false; rw [h3]
            simp only [Region.wanted, hy, beq_self_eq_true, if_true]
            clear hs hq hf hy
            unfold gives
            go_simp
            exact ⟨Below.refl _ _, rfl⟩
          refine ⟨fun r wx hG hs hq hf => ?_, ?_⟩
          · have h5 : r 43 = .int .i64 W := hf.1
            have h6 : r 44 = .slice (some ⟨tb, tf, none⟩) n tc := hf.2.1
            have h3 : r 41 = .bool false := hf.2.2.1
            have hy : ydD [some 38, some 39, some 40, some 41, some 42, some 43, some 44, some 45, some 46, some 47] r 3 = some false := by show (match r 41 with | .bool b => some b | _ => none) = some false; rw [h3]
            simp only [Region.wanted, hy, beq_self_eq_true, if_true]
            clear hs hq hf hy
            unfold gives
            go_simp
            refine (HRO.out wx hG).mono ?_
            rintro e wy ⟨rfl, hb1⟩
            exact ⟨_, rfl, hb1, rfl⟩
          refine ⟨fun r wx hG hs hq hf => ?_, ?_⟩
          · have h4 : r 42 = .agg (bv gb).toArray := hf.1
            have h7 : r 45 = .agg (bv rl).toArray := hf.2.1
            have h3 : r 41 = .bool false := hf.2.2.1
            have hy : ydD [some 38, some 39, some 40, some 41, some 42, some 43, some 44, some 45, some 46, some 47] r 3 = some false := by show (match r 41 with | .bool b => some b | _ => none) = some false; rw [h3]
            simp only [Region.wanted, hy, beq_self_eq_true, if_true]
            clear hs hq hf hy
            unfold gives
            have hqe := eqIn_hash gb rl HLN.out.2.1 HLN.out.2.2.2 wx
            rw [HQB.out] at hqe
            have hgd := eq_guard
            go_simp
            exact ⟨Below.refl _ _, rfl⟩
          refine ⟨fun r wx hG hs hq hf => ?_, ?_⟩
          · have h3 : r 41 = .bool false := hf.1
            have h8 : r 46 = .bool false := hf.2.1
            refine (if_pos rfl).symm ▸ ?_
            clear hs hq hf
            unfold gives
            go_simp
            exact ⟨Below.refl _ _, rfl⟩
          exact trivial
        case hend =>
          intro u wz hG hfin
          have z9 : u 9 = .bool false := hfin 9 (by decide) (by kernel_rfl)
          clear hfin
          simp only [fill]
          have R6 := Lib.hid (And.intro ((hG.block _ (Array.getElem?_eq_some_iff.1 R5.out.1).1).trans R5.out.1) (And.intro ((hG.block _ (Array.getElem?_eq_some_iff.1 R5.out.2.1).1).trans R5.out.2.1) (R5.out.2.2.trans (hG.mono R5.out.2.2.size))))
          have HG56 := Lib.hid hG
          clear hG
          obtain ⟨w6, hw6⟩ : ∃ x, x = wz := ⟨_, rfl⟩
          subst hw6
          go_simp
          have HR := Lib.hid (fun wx (hb : Below w6.heap.size w6 wx) => HR.out wx (HG56.out.trans (hb.mono HG56.out.size)))
          have HRM := Lib.hid (fun wx (hb : Below w6.heap.size w6 wx) => HRM0.out wx (R6.out.2.2.trans (hb.mono R6.out.2.2.size)))
          have HLM := Lib.hid HLM0.out
          by_cases hqm : old = rm
          · have HQM := Lib.hid (show (old == rm) = true from beq_iff_eq.2 hqm)
            have HQE := Lib.hid hqm
            clear hqm
            go_upto_region 7 with fail
            refine wp_region_steps [some 49, some 50, some 51, some 52, some 53, some 54, some 55] [] (q7yF W w.heap.size tb tf tc n m old rm) (fun _ wx wy => Below wx.heap.size wx wy) (fun wx => Below w6.heap.size w6 wx) (by kernel_rfl) (by kernel_rfl) rfl (by kernel_rfl) (Below.refl _ _).drew (fun _ wx => Below.refl _ _) (fun _ wx wy h k => h.trans (k.mono h.size)) ?hF ?hstep ?hend
            case hF =>
              exact ⟨fun _ _ _ _ _ _ h => h, ⟨fun _ _ _ _ _ _ h => h, ⟨fun _ _ _ _ _ _ h => h, ⟨fun _ _ _ _ _ _ h => h, ⟨fun _ _ _ _ _ _ h => h, ⟨fun _ _ _ _ _ _ h => h, ⟨fun _ _ _ _ _ _ h => h, trivial⟩⟩⟩⟩⟩⟩⟩
            case hstep =>
              refine ⟨fun r wx hG hs hq hf => ?_, ?_⟩
              · have e8 : r 8 = .pointer (some ⟨w.heap.size, 0, none⟩) := hs 8 rfl
                refine (if_pos rfl).symm ▸ ?_
                clear hs hq hf
                unfold gives
                refine gives_load_row 35 _ rfl w.heap.size e8 35 _ (0, 0) _ (HR.out wx hG).2.2 Tryd.underlying35 rfl (hInfo _ HLN.out.2.2.1) ?_
                exact ⟨Below.refl _ _, rfl⟩
              refine ⟨fun r wx hG hs hq hf => ?_, ?_⟩
              · have e0 : r 0 = .int .i64 W := hs 0 rfl
                refine (if_pos rfl).symm ▸ ?_
                clear hs hq hf
                unfold gives
                go_simp
                exact ⟨Below.refl _ _, rfl⟩
              refine ⟨fun r wx hG hs hq hf => ?_, ?_⟩
              · have e1 : r 1 = .slice (some ⟨tb, tf, none⟩) n tc := hs 1 rfl
                refine (if_pos rfl).symm ▸ ?_
                clear hs hq hf
                unfold gives
                go_simp
                exact ⟨Below.refl _ _, rfl⟩
              refine ⟨fun r wx hG hs hq hf => ?_, ?_⟩
              · have e2 : r 2 = .int .u64 m := hs 2 rfl
                refine (if_pos rfl).symm ▸ ?_
                clear hs hq hf
                unfold gives
                go_simp
                exact ⟨Below.refl _ _, rfl⟩
              refine ⟨fun r wx hG hs hq hf => ?_, ?_⟩
              · have h2 : r 51 = .slice (some ⟨tb, tf, none⟩) n tc := hf.1
                have h3 : r 52 = .int .u64 m := hf.2.1
                refine (if_pos rfl).symm ▸ ?_
                clear hs hq hf
                unfold gives
                have y1 : (0 : Int) ≤ (m : Int) := by omega
                have y2 : (m : Int) ≤ (tc : Int) := by omega
                go_simp
                exact ⟨Below.refl _ _, rfl⟩
              refine ⟨fun r wx hG hs hq hf => ?_, ?_⟩
              · have h1 : r 50 = .int .i64 W := hf.1
                have h4 : r 53 = .slice (some ⟨tb, tf, none⟩) m tc := hf.2.1
                refine (if_pos rfl).symm ▸ ?_
                clear hs hq hf
                unfold gives
                go_simp
                refine (HRM.out wx hG).mono ?_
                rintro e wy ⟨rfl, hb1⟩
                exact ⟨_, rfl, hb1, rfl⟩
              refine ⟨fun r wx hG hs hq hf => ?_, ?_⟩
              · have h0 : r 49 = .agg (bv old).toArray := hf.1
                have h5 : r 54 = .agg (bv rm).toArray := hf.2.1
                refine (if_pos rfl).symm ▸ ?_
                clear hs hq hf
                unfold gives
                have hqe := eqIn_hash old rm HLN.out.2.2.1 HLM.out wx
                rw [HQM.out] at hqe
                have hgd := eq_guard
                go_simp
                exact ⟨Below.refl _ _, rfl⟩
              exact trivial
            case hend =>
              intro u wz hG hfin
              have z6 : u 6 = .bool true := hfin 6 (by decide) (by kernel_rfl)
              clear hfin
              simp only [fill]
              have R7 := Lib.hid (And.intro ((hG.block _ (Array.getElem?_eq_some_iff.1 R6.out.1).1).trans R6.out.1) (And.intro ((hG.block _ (Array.getElem?_eq_some_iff.1 R6.out.2.1).1).trans R6.out.2.1) (R6.out.2.2.trans (hG.mono R6.out.2.2.size))))
              have HG67 := Lib.hid hG
              clear hG
              obtain ⟨w7, hw7⟩ : ∃ x, x = wz := ⟨_, rfl⟩
              subst hw7
              go_simp
              have h60 : w7.cell? ⟨w.heap.size + 1, 0, none⟩ = some (.slice none 0 0) := cell_of_rowp R7.out.2.1 rfl
              have h61 : w7.cell? ⟨w.heap.size + 1, 1, none⟩ = some (.slice none 0 0) := cell_of_rowp R7.out.2.1 rfl
              have z60 : w7.frozen? ⟨w.heap.size + 1, 0, none⟩ = false := by simp [World.frozen?, R7.out.2.1]
              have z61 : w7.frozen? ⟨w.heap.size + 1, 1, none⟩ = false := by simp [World.frozen?, R7.out.2.1]
              have HE := Lib.hid (FIN.out w7 8 (by rw [HEE.out, if_neg (by simp), if_neg (by rw [HQA2.out, HQB2.out]; simp), if_pos HQE.out]) R7.out.2.1 R7.out.2.2)
              go_wp2_with fail
              obtain ⟨hld, fin⟩ := HE.out
              obtain ⟨w9, hw9⟩ : ∃ x, x = (w7.setCell ⟨w.heap.size + 1, 0, none⟩ (.slice none 0 0)).setCell ⟨w.heap.size + 1, 1, none⟩ (.slice none 0 0) := ⟨_, rfl⟩
              rw [← hw9] at hld fin ⊢
              refine bodyPost_ret (v := .tuple #[.agg #[.slice none 0 0, .slice none 0 0], .int .i64 8]) ?_ ?_ ?_
              · simp [results, Tryd.results14, asAddr, hld]
              · rfl
              · exact fin
          · have HQM := Lib.hid (show (old == rm) = false from beq_eq_false_iff_ne.2 hqm)
            have HQE := Lib.hid hqm
            clear hqm
            go_upto_region 7 with fail
            refine wp_region_steps [some 49, some 50, some 51, some 52, some 53, some 54, some 55] [] (q7nF W w.heap.size tb tf tc n m old rm) (fun _ wx wy => Below wx.heap.size wx wy) (fun wx => Below w6.heap.size w6 wx) (by kernel_rfl) (by kernel_rfl) rfl (by kernel_rfl) (Below.refl _ _).drew (fun _ wx => Below.refl _ _) (fun _ wx wy h k => h.trans (k.mono h.size)) ?hF ?hstep ?hend
            case hF =>
              exact ⟨fun _ _ _ _ _ _ h => h, ⟨fun _ _ _ _ _ _ h => h, ⟨fun _ _ _ _ _ _ h => h, ⟨fun _ _ _ _ _ _ h => h, ⟨fun _ _ _ _ _ _ h => h, ⟨fun _ _ _ _ _ _ h => h, ⟨fun _ _ _ _ _ _ h => h, trivial⟩⟩⟩⟩⟩⟩⟩
            case hstep =>
              refine ⟨fun r wx hG hs hq hf => ?_, ?_⟩
              · have e8 : r 8 = .pointer (some ⟨w.heap.size, 0, none⟩) := hs 8 rfl
                refine (if_pos rfl).symm ▸ ?_
                clear hs hq hf
                unfold gives
                refine gives_load_row 35 _ rfl w.heap.size e8 35 _ (0, 0) _ (HR.out wx hG).2.2 Tryd.underlying35 rfl (hInfo _ HLN.out.2.2.1) ?_
                exact ⟨Below.refl _ _, rfl⟩
              refine ⟨fun r wx hG hs hq hf => ?_, ?_⟩
              · have e0 : r 0 = .int .i64 W := hs 0 rfl
                refine (if_pos rfl).symm ▸ ?_
                clear hs hq hf
                unfold gives
                go_simp
                exact ⟨Below.refl _ _, rfl⟩
              refine ⟨fun r wx hG hs hq hf => ?_, ?_⟩
              · have e1 : r 1 = .slice (some ⟨tb, tf, none⟩) n tc := hs 1 rfl
                refine (if_pos rfl).symm ▸ ?_
                clear hs hq hf
                unfold gives
                go_simp
                exact ⟨Below.refl _ _, rfl⟩
              refine ⟨fun r wx hG hs hq hf => ?_, ?_⟩
              · have e2 : r 2 = .int .u64 m := hs 2 rfl
                refine (if_pos rfl).symm ▸ ?_
                clear hs hq hf
                unfold gives
                go_simp
                exact ⟨Below.refl _ _, rfl⟩
              refine ⟨fun r wx hG hs hq hf => ?_, ?_⟩
              · have h2 : r 51 = .slice (some ⟨tb, tf, none⟩) n tc := hf.1
                have h3 : r 52 = .int .u64 m := hf.2.1
                refine (if_pos rfl).symm ▸ ?_
                clear hs hq hf
                unfold gives
                have y1 : (0 : Int) ≤ (m : Int) := by omega
                have y2 : (m : Int) ≤ (tc : Int) := by omega
                go_simp
                exact ⟨Below.refl _ _, rfl⟩
              refine ⟨fun r wx hG hs hq hf => ?_, ?_⟩
              · have h1 : r 50 = .int .i64 W := hf.1
                have h4 : r 53 = .slice (some ⟨tb, tf, none⟩) m tc := hf.2.1
                refine (if_pos rfl).symm ▸ ?_
                clear hs hq hf
                unfold gives
                go_simp
                refine (HRM.out wx hG).mono ?_
                rintro e wy ⟨rfl, hb1⟩
                exact ⟨_, rfl, hb1, rfl⟩
              refine ⟨fun r wx hG hs hq hf => ?_, ?_⟩
              · have h0 : r 49 = .agg (bv old).toArray := hf.1
                have h5 : r 54 = .agg (bv rm).toArray := hf.2.1
                refine (if_pos rfl).symm ▸ ?_
                clear hs hq hf
                unfold gives
                have hqe := eqIn_hash old rm HLN.out.2.2.1 HLM.out wx
                rw [HQM.out] at hqe
                have hgd := eq_guard
                go_simp
                exact ⟨Below.refl _ _, rfl⟩
              exact trivial
            case hend =>
              intro u wz hG hfin
              have z6 : u 6 = .bool false := hfin 6 (by decide) (by kernel_rfl)
              clear hfin
              simp only [fill]
              have R7 := Lib.hid (And.intro ((hG.block _ (Array.getElem?_eq_some_iff.1 R6.out.1).1).trans R6.out.1) (And.intro ((hG.block _ (Array.getElem?_eq_some_iff.1 R6.out.2.1).1).trans R6.out.2.1) (R6.out.2.2.trans (hG.mono R6.out.2.2.size))))
              have HG67 := Lib.hid hG
              clear hG
              obtain ⟨w7, hw7⟩ : ∃ x, x = wz := ⟨_, rfl⟩
              subst hw7
              go_simp
              have HAN := Lib.hid (show AN = ansT GF by rw [HEE.out, if_neg (by simp), if_neg (by rw [HQA2.out, HQB2.out]; simp), if_neg HQE.out])
              have HB7 := Lib.hid R7.out.2.2
              go_wp2_with fail
              go_loopw [1, 2, 4, 16] (fun s1 s2 s4 s16 wr => ∃ (f k j zL : Nat) (ll : List (List UInt8)) (pp : List (List UInt8)) (wh : Bool) (la pa : Option Addr) (lc pc : Nat), s1 = .slice la k lc ∧ s2 = .int .u64 j ∧ s4 = .slice pa zL pc ∧ s16 = .bool wh ∧ k ≤ n ∧ 1 ≤ j ∧ j ≤ k ∧
                Hid (ll.length = k ∧ pp.length = zL ∧ k ≤ f ∧ (∀ t ∈ ll, t ∈ l) ∧ (∀ p ∈ pp, p.length = 32) ∧ zL = szG j k wh ∧ growF (hw W) f ll j old pp wh = GF ∧ Txw wr (.slice la k lc) ll ∧ Rd wr 32 (.slice pa zL pc) zL (pp.flatMap bv) ∧ Below w7.heap.size w7 wr)) (fun s1 _ _ _ _ => (match s1 with | .slice _ k _ => k | _ => 0))
              case atStart =>
                refine ⟨n, n, m, L, l, ps, true, _, _, _, _, rfl, rfl, rfl, rfl, Nat.le_refl _, hm1, hm2, Lib.hid ⟨HARG.out.2.2.2.2.2.2.1.symm, HARG.out.2.2.2.2.2.2.2.symm, Nat.le_refl _, fun t h => h, HARG.out.2.2.2.2.1, HMN.out, HRL.out.2.2.2.symm, ?_, ?_, Below.refl _ _⟩⟩
                · have := HARG.out.1.keep HB7.out; rwa [← HARG.out.2.2.2.2.2.2.1] at this
                · have := HARG.out.2.1.keep HB7.out; rwa [← HARG.out.2.2.2.2.2.2.2] at this
              case round =>
                obtain ⟨f, k, j, zL, ll, pp, wh, la, pa, lc, pc, rfl, rfl, rfl, rfl, hkn, hj1, hjk, HI⟩ := hrel
                have yc : IntKind.u64.wrap (k : Int) = (k : Int) := IntWalk.u64_in _ (by omega)
                by_cases hjk2 : j = k
                · have y1 : ((j : Int) != (k : Int)) = false := by simp; omega
                  have hgn : GF = none := by
                    rw [← HI.out.2.2.2.2.2.2.1, hjk2, ← HI.out.1]; exact grow_end _ _ _ _ _ _
                  have HGN := Lib.hid hgn
                  have R8 := Lib.hid (And.intro True.intro (And.intro ((HI.out.2.2.2.2.2.2.2.2.2.block _ (Array.getElem?_eq_some_iff.1 R7.out.2.1).1).trans R7.out.2.1) (R7.out.2.2.trans (HI.out.2.2.2.2.2.2.2.2.2.mono R7.out.2.2.size))))
                  clear hgn
                  have h60 : wr.cell? ⟨w.heap.size + 1, 0, none⟩ = some (.slice none 0 0) := cell_of_rowp R8.out.2.1 rfl
                  have h61 : wr.cell? ⟨w.heap.size + 1, 1, none⟩ = some (.slice none 0 0) := cell_of_rowp R8.out.2.1 rfl
                  have z60 : wr.frozen? ⟨w.heap.size + 1, 0, none⟩ = false := by simp [World.frozen?, R8.out.2.1]
                  have z61 : wr.frozen? ⟨w.heap.size + 1, 1, none⟩ = false := by simp [World.frozen?, R8.out.2.1]
                  have HE := Lib.hid (FIN.out wr 8 (by rw [HAN.out, HGN.out]; rfl) R8.out.2.1 R8.out.2.2)
                  go_wp2_with fail
                  obtain ⟨hld, fin⟩ := HE.out
                  obtain ⟨w9, hw9⟩ : ∃ x, x = (wr.setCell ⟨w.heap.size + 1, 0, none⟩ (.slice none 0 0)).setCell ⟨w.heap.size + 1, 1, none⟩ (.slice none 0 0) := ⟨_, rfl⟩
                  rw [← hw9] at hld fin ⊢
                  refine bodyPost_ret (v := .tuple #[.agg #[.slice none 0 0, .slice none 0 0], .int .i64 8]) ?_ ?_ ?_
                  · simp [results, Tryd.results14, asAddr, hld]
                  · rfl
                  · exact fin
                · have y1 : ((j : Int) != (k : Int)) = true := by simp; omega
                  have hlt : j < k := by omega
                  have h2 : 2 ≤ k := by omega
                  have hk0 : k ≤ 1000000 := by omega
                  obtain ⟨f, rfl⟩ : ∃ f', f = f' + 1 := ⟨f - 1, by have := HI.out.2.2.1; omega⟩
                  have HSP := Lib.hid (fun wx => Split_any k wx h2 (by omega))
                  have hK1 := top_lt k h2
                  have hK0 := top_pos k
                  have hk2 := top_le2 k
                  obtain ⟨K, hK⟩ : ∃ q, q = top k := ⟨_, rfl⟩
                  rw [← hK] at HSP hK1 hK0 hk2
                  obtain ⟨z, hz1⟩ : ∃ z, zL = z + 1 := by
                    rcases Nat.lt_or_ge (top k) j with h | h
                    · exact ⟨_, HI.out.2.2.2.2.2.1.trans (szG_right j k wh hlt h)⟩
                    · exact ⟨_, HI.out.2.2.2.2.2.1.trans (szG_left j k wh hj1 hlt h)⟩
                  subst hz1
                  have hzb : z ≤ 65 := by have := szG_le j k wh hj1 (by omega) (by omega); have := HI.out.2.2.2.2.2.1; omega
                  have hpl := HI.out.2.1
                  obtain ⟨ph, hph⟩ : ∃ p, pp[z]? = some p := ⟨pp[z]'(by omega), List.getElem?_eq_getElem _⟩
                  have hph32 := HI.out.2.2.2.2.1 ph (List.mem_of_getElem? hph)
                  have hqs : pp = pp.take z ++ [ph] := by
                    have := List.take_append_drop z pp
                    rw [List.drop_eq_getElem_cons (by omega), List.drop_of_length_le (by omega), (List.getElem?_eq_some_iff.1 hph).2] at this
                    exact this.symm
                  have hrdp := HI.out.2.2.2.2.2.2.2.2.1
                  obtain ⟨pb, po, c', hv, hcap, hcell⟩ := hrdp.atN (by omega) (by omega)
                  simp only [Value.slice.injEq, true_and] at hv
                  obtain ⟨rfl, rfl⟩ := hv
                  have hrg := range_at (w := wr) HI.out.2.2.2.2.1 hph hcell
                  have hrq : Rd wr 32 (.slice (some ⟨pb, po, none⟩) z pc) z ((pp.take z).flatMap bv) := by rw [flat_take32 _ _ HI.out.2.2.2.2.1]; exact rd_take hrdp z (by omega)
                  have hq32 : ∀ p ∈ pp.take z, p.length = 32 := fun p hp => HI.out.2.2.2.2.1 p (List.mem_of_mem_take hp)
                  have hql : (pp.take z).length = z := by rw [List.length_take]; omega
                  have hcap2 : z + 1 ≤ pc := hcap
                  obtain ⟨qs, hqe⟩ : ∃ q, q = pp.take z := ⟨_, rfl⟩
                  rw [← hqe] at hqs hrq hq32 hql
                  have htxv := HI.out.2.2.2.2.2.2.2.1
                  obtain ⟨lb, lo_, lc', hv, hlcap, _⟩ := htxv.at (by rw [HI.out.1]; omega)
                  simp only [Value.slice.injEq] at hv
                  obtain ⟨rfl, -, rfl⟩ := hv
                  have hlcap2 : k ≤ lc := by rw [← HI.out.1]; exact hlcap
                  have hts := fun t (h : t ∈ ll) => HARG.out.2.2.2.1 t (HI.out.2.2.2.1 t h)
                  have hBr : Below w.heap.size w wr := R7.out.2.2.trans (HI.out.2.2.2.2.2.2.2.2.2.mono R7.out.2.2.size)
                  have HHS := Lib.hid (fun wx (hb : Below wr.heap.size wr wx) => hashed_any W ll (.slice (some ⟨lb, lo_, none⟩) k lc) wx HARG.out.2.2.2.2.2.1 (by rw [HI.out.1]; omega) (by rw [HI.out.1]; omega) hts (htxv.keep hb) ((HARG.out.2.2.1.keepB hBr).keepB hb))
                  have htx65 := tx_length (hw W) (hw32 W) ll (by rw [HI.out.1]; exact h2)
                  rw [htx65] at HHS
                  have HT65 := Lib.hid htx65
                  have hgf := HI.out.2.2.2.2.2.2.1
                  rw [hqs] at hgf
                  have y2 : IntKind.i64.wrap (((z + 1 : Nat) : Int) - 1) = (z : Int) := (IntWalk.i64_in _ (by omega)).trans (by omega)
                  have y3 : IntKind.i64.wrap ((z : Int) + 1 - 1) = (z : Int) := (IntWalk.i64_in _ (by omega)).trans (by omega)
                  have yK : IntKind.u64.wrap (K : Int) = (K : Int) := IntWalk.u64_in _ (by omega)
                  have hps' : qs.length + 1 = szG j k wh := by rw [hql]; exact HI.out.2.2.2.2.2.1
                  have HPQ := Lib.hid (And.intro hrg (And.intro hrq (And.intro hq32 hql)))
                  have HBr := Lib.hid hBr
                  have HTV := Lib.hid htxv
                  have hkl := HI.out.1
                  rcases Nat.lt_or_ge K j with htop | htop
                  · rw [grow_right (hw W) f ll j old qs ph wh (by omega) (by rw [hkl, ← hK]; omega), hkl, ← hK] at hgf
                    have hsz := szG_right j k wh hlt (by omega)
                    have HNW0 := Lib.hid (fun wx (hb : Below wr.heap.size wr wx) => (show Calls Tryd.prog 38 #[.int .i64 W, .int .u64 ((j - K : Nat) : Int), .int .u64 ((k - K : Nat) : Int), .agg (bv old).toArray, .slice (some ⟨pb, po, none⟩) z pc, .bool false] wx fun e w' => e = .returned (.agg (bv (showG (nodeH W) (j - K) (k - K) old false qs).2).toArray) ∧ Below wx.heap.size wx w' by
                      have h := newer_any W HARG.out.2.2.2.2.2.1 (k - K) old (j - K) (k - K) false qs (some ⟨pb, po, none⟩) pc wx (Nat.le_refl _) HLN.out.2.2.1 (by omega) (by omega) (by omega) hq32 (by rw [hK]; omega) (by rw [hql]; exact hrq.keep hb) ((HARG.out.2.2.1.keepB HBr.out).keepB hb)
                      rwa [hql] at h))
                    have hru32 := (showG_32 W (j - K) (k - K) old false qs HLN.out.2.2.1 hq32).2
                    obtain ⟨ru, hru⟩ : ∃ x, x = (showG (nodeH W) (j - K) (k - K) old false qs).2 := ⟨_, rfl⟩
                    rw [← hru] at HNW0 hru32
                    have HGF := Lib.hid (show (if 1 :: (ph ++ ru) ≠ tx (hw W) ll then some (tx (hw W) ll, 1 :: (ph ++ ru)) else growF (hw W) f (ll.drop K) (j - K) old qs false) = GF by rw [← hgf, hru]; rfl)
                    have HPR := Lib.hid (And.intro hph32 hru32)
                    have HSZ := Lib.hid (show z = szG (j - K) (k - K) false by rw [hK]; omega)
                    have yj : ¬ (j : Int) ≤ (K : Int) := by omega
                    clear hgf hru hru32 hsz hrg hrq hq32 hql hph32 hqs hqe hps' hcell hcap hph hpl hrdp htxv hlcap hts hBr htx65 hkl hK
                    go_wp2_with fail
                    refine (HSP.out _).mono ?_
                    rintro e ws ⟨rfl, hbs⟩
                    have HBs := Lib.hid hbs
                    clear hbs
                    go_wp2_with fail
                    refine (HHS.out _ HBs.out).mono ?_
                    rintro e wa ⟨vh, rfl, hhr, hba⟩
                    obtain ⟨ha, hc, rfl⟩ := hhr.form
                    obtain ⟨wb, hwb⟩ : ∃ x : World, x = wa.alloc (.cells #[] 5) := ⟨_, rfl⟩
                    have hbb : Below wa.heap.size wa wb := by rw [hwb]; exact (Below.refl _ _).alloc (Nat.le_refl _) _
                    have HBB := Lib.hid ((HBs.out.trans (hba.mono HBs.out.size)).trans (hbb.mono (HBs.out.trans (hba.mono HBs.out.size)).size))
                    have HHR := Lib.hid (hhr.keep hbb)
                    have HWB := Lib.hid hwb
                    clear hhr hba hbb hwb
                    go_upto_region 17 with fail
                    rw [show wa.alloc (.cells #[] 5) = wb from HWB.out.symm]
                    have HBX := Lib.hid (fun wx (hb : Below wb.heap.size wb wx) => (show wx.heap[w.heap.size]? = some (.cells (bv old).toArray 35 (0, 0)) by
                      have h1 := (HI.out.2.2.2.2.2.2.2.2.2.block _ (Array.getElem?_eq_some_iff.1 R7.out.1).1).trans R7.out.1
                      have h2 := (HBB.out.block _ (Array.getElem?_eq_some_iff.1 h1).1).trans h1
                      exact (hb.block _ (Array.getElem?_eq_some_iff.1 h2).1).trans h2))
                    have HOL := Lib.hid HLN.out.2.2.1
                    have HRG := Lib.hid (fun wx (hb : Below wb.heap.size wb wx) => range_keep HPQ.out.1 (HBB.out.trans (hb.mono HBB.out.size)))
                    have HNW := Lib.hid (fun wx (hb : Below wb.heap.size wb wx) => HNW0.out wx (HBB.out.trans (hb.mono HBB.out.size)))
                    refine wp_region_steps [some 91, some 92, some 93, some 94, some 95, some 96, some 97, some 98, some 99, some 100, some 101, some 102, some 103, some 104, some 105, some 106, some 107, some 108, some 109, some 110, some 20] [] (q17F W w.heap.size lb lo_ lc k j pb po pc z K wh old ru ph) (fun _ wx wy => Below wx.heap.size wx wy) (fun wx => Below wb.heap.size wb wx) (by kernel_rfl) (by kernel_rfl) rfl (by kernel_rfl) (Below.refl _ _).drew (fun _ wx => Below.refl _ _) (fun _ wx wy h k => h.trans (k.mono h.size)) ?hF ?hstep ?hend
                    case hF =>
                      exact ⟨fun _ _ _ _ _ _ h => h, ⟨fun _ _ _ _ _ _ h => h, ⟨fun _ _ _ _ _ _ h => h, ⟨fun _ _ _ _ _ _ h => h, ⟨fun _ _ _ _ _ _ h => h, ⟨fun _ _ _ _ _ _ h => h, ⟨fun _ _ _ _ _ _ h => h, ⟨fun _ _ _ _ _ _ h => h, ⟨fun _ _ _ _ _ _ h => h, ⟨fun _ _ _ _ _ _ h => h, ⟨fun _ _ _ _ _ _ h => h, ⟨fun _ _ _ _ _ _ h => h, ⟨fun _ _ _ _ _ _ h => h, ⟨fun _ _ _ _ _ _ h => h, ⟨fun _ _ _ _ _ _ h => h, ⟨fun _ _ _ _ _ _ h => h, ⟨fun _ _ _ _ _ _ h => h, ⟨fun _ _ _ _ _ _ h => h, ⟨fun _ _ _ _ _ _ h => h, ⟨fun _ _ _ _ _ k h => Rd.keep h k, ⟨fun _ _ _ _ _ k h => Rd.keep h k, trivial⟩⟩⟩⟩⟩⟩⟩⟩⟩⟩⟩⟩⟩⟩⟩⟩⟩⟩⟩⟩⟩
                    case hstep =>
                      refine ⟨fun r wx hG hs hq hf => ?_, ?_⟩
                      · have e4 : r 4 = .slice (some ⟨pb, po, none⟩) (z + 1) pc := hs 4 rfl
                        refine (if_pos rfl).symm ▸ ?_
                        clear hs hq hf
                        unfold gives
                        go_simp
                        exact ⟨Below.refl _ _, rfl⟩
                      refine ⟨fun r wx hG hs hq hf => ?_, ?_⟩
                      · have e18 : r 18 = .int .i64 z := hs 18 rfl
                        refine (if_pos rfl).symm ▸ ?_
                        clear hs hq hf
                        unfold gives
                        go_simp
                        exact ⟨Below.refl _ _, rfl⟩
                      refine ⟨fun r wx hG hs hq hf => ?_, ?_⟩
                      · have h0 : r 91 = .slice (some ⟨pb, po, none⟩) (z + 1) pc := hf.1
                        have h1 : r 92 = .int .i64 z := hf.2.1
                        refine (if_pos rfl).symm ▸ ?_
                        clear hs hq hf
                        unfold gives
                        have z0 : (0 : Int) ≤ (z : Int) := by omega
                        have z1 : (z : Int) < ((z + 1 : Nat) : Int) := by omega
                        have z2 : (z : Int) < (z : Int) + 1 := by omega
                        go_simp
                        exact ⟨Below.refl _ _, rfl⟩
                      refine ⟨fun r wx hG hs hq hf => ?_, ?_⟩
                      · have h2 : r 93 = .pointer (some ⟨pb, po + z * 32, none⟩) := hf.1
                        refine (if_pos rfl).symm ▸ ?_
                        clear hs hq hf
                        unfold gives
                        refine gives_load_mid 35 _ rfl pb (po + z * 32) h2 (bv ph) _ (HRG.out wx hG) Tryd.underlying35 rfl (hInfo' _ HPR.out.1) ?_
                        exact ⟨Below.refl _ _, rfl⟩
                      refine ⟨fun r wx hG hs hq hf => ?_, ?_⟩
                      · have e0 : r 0 = .int .i64 W := hs 0 rfl
                        refine (if_pos rfl).symm ▸ ?_
                        clear hs hq hf
                        unfold gives
                        go_simp
                        exact ⟨Below.refl _ _, rfl⟩
                      refine ⟨fun r wx hG hs hq hf => ?_, ?_⟩
                      · have e2 : r 2 = .int .u64 j := hs 2 rfl
                        refine (if_pos rfl).symm ▸ ?_
                        clear hs hq hf
                        unfold gives
                        go_simp
                        exact ⟨Below.refl _ _, rfl⟩
                      refine ⟨fun r wx hG hs hq hf => ?_, ?_⟩
                      · have e17 : r 17 = .int .i64 K := hs 17 rfl
                        refine (if_pos rfl).symm ▸ ?_
                        clear hs hq hf
                        unfold gives
                        go_simp
                        exact ⟨Below.refl _ _, rfl⟩
                      refine ⟨fun r wx hG hs hq hf => ?_, ?_⟩
                      · have h6 : r 97 = .int .i64 K := hf.1
                        refine (if_pos rfl).symm ▸ ?_
                        clear hs hq hf
                        unfold gives
                        have zw : IntKind.u64.wrap (K : Int) = (K : Int) := IntWalk.u64_in _ (by omega)
                        go_simp
                        exact ⟨Below.refl _ _, rfl⟩
                      refine ⟨fun r wx hG hs hq hf => ?_, ?_⟩
                      · have h5 : r 96 = .int .u64 j := hf.1
                        have h7 : r 98 = .int .u64 K := hf.2.1
                        refine (if_pos rfl).symm ▸ ?_
                        clear hs hq hf
                        unfold gives
                        have zw : IntKind.u64.wrap ((j : Int) - (K : Int)) = ((j - K : Nat) : Int) := (IntWalk.u64_in _ (by omega)).trans (by omega)
                        go_simp
                        exact ⟨Below.refl _ _, rfl⟩
                      refine ⟨fun r wx hG hs hq hf => ?_, ?_⟩
                      · have e1 : r 1 = .slice (some ⟨lb, lo_, none⟩) k lc := hs 1 rfl
                        refine (if_pos rfl).symm ▸ ?_
                        clear hs hq hf
                        unfold gives
                        go_simp
                        exact ⟨Below.refl _ _, rfl⟩
                      refine ⟨fun r wx hG hs hq hf => ?_, ?_⟩
                      · have h9 : r 100 = .slice (some ⟨lb, lo_, none⟩) k lc := hf.1
                        refine (if_pos rfl).symm ▸ ?_
                        clear hs hq hf
                        unfold gives
                        go_simp
                        exact ⟨Below.refl _ _, rfl⟩
                      refine ⟨fun r wx hG hs hq hf => ?_, ?_⟩
                      · have e17 : r 17 = .int .i64 K := hs 17 rfl
                        refine (if_pos rfl).symm ▸ ?_
                        clear hs hq hf
                        unfold gives
                        go_simp
                        exact ⟨Below.refl _ _, rfl⟩
                      refine ⟨fun r wx hG hs hq hf => ?_, ?_⟩
                      · have h10 : r 101 = .int .i64 (k : Nat) := hf.1
                        have h11 : r 102 = .int .i64 K := hf.2.1
                        refine (if_pos rfl).symm ▸ ?_
                        clear hs hq hf
                        unfold gives
                        have zw : IntKind.i64.wrap ((k : Int) - (K : Int)) = ((k - K : Nat) : Int) := (IntWalk.i64_in _ (by omega)).trans (by omega)
                        go_simp
                        exact ⟨Below.refl _ _, rfl⟩
                      refine ⟨fun r wx hG hs hq hf => ?_, ?_⟩
                      · have h12 : r 103 = .int .i64 ((k - K : Nat) : Int) := hf.1
                        refine (if_pos rfl).symm ▸ ?_
                        clear hs hq hf
                        unfold gives
                        have zw : IntKind.u64.wrap ((k - K : Nat) : Int) = ((k - K : Nat) : Int) := IntWalk.u64_in _ (by omega)
                        go_simp
                        exact ⟨Below.refl _ _, rfl⟩
                      refine ⟨fun r wx hG hs hq hf => ?_, ?_⟩
                      · have e8 : r 8 = .pointer (some ⟨w.heap.size, 0, none⟩) := hs 8 rfl
                        refine (if_pos rfl).symm ▸ ?_
                        clear hs hq hf
                        unfold gives
                        refine gives_load_row 35 _ rfl w.heap.size e8 35 _ (0, 0) _ (HBX.out wx hG) Tryd.underlying35 rfl (hInfo _ HOL.out) ?_
                        exact ⟨Below.refl _ _, rfl⟩
                      refine ⟨fun r wx hG hs hq hf => ?_, ?_⟩
                      · have e4 : r 4 = .slice (some ⟨pb, po, none⟩) (z + 1) pc := hs 4 rfl
                        refine (if_pos rfl).symm ▸ ?_
                        clear hs hq hf
                        unfold gives
                        go_simp
                        exact ⟨Below.refl _ _, rfl⟩
                      refine ⟨fun r wx hG hs hq hf => ?_, ?_⟩
                      · have e18 : r 18 = .int .i64 z := hs 18 rfl
                        refine (if_pos rfl).symm ▸ ?_
                        clear hs hq hf
                        unfold gives
                        go_simp
                        exact ⟨Below.refl _ _, rfl⟩
                      refine ⟨fun r wx hG hs hq hf => ?_, ?_⟩
                      · have h15 : r 106 = .slice (some ⟨pb, po, none⟩) (z + 1) pc := hf.1
                        have h16 : r 107 = .int .i64 z := hf.2.1
                        refine (if_pos rfl).symm ▸ ?_
                        clear hs hq hf
                        unfold gives
                        have z0 : (0 : Int) ≤ (z : Int) := by omega
                        have z1 : (z : Int) ≤ (pc : Int) := by omega
                        go_simp
                        exact ⟨Below.refl _ _, rfl⟩
                      refine ⟨fun r wx hG hs hq hf => ?_, ?_⟩
                      · have h4 : r 95 = .int .i64 W := hf.1
                        have h8 : r 99 = .int .u64 ((j - K : Nat) : Int) := hf.2.1
                        have h13 : r 104 = .int .u64 ((k - K : Nat) : Int) := hf.2.2.1
                        have h14 : r 105 = .agg (bv old).toArray := hf.2.2.2.1
                        have h17 : r 108 = .slice (some ⟨pb, po, none⟩) z pc := hf.2.2.2.2.1
                        refine (if_pos rfl).symm ▸ ?_
                        clear hs hq hf
                        unfold gives
                        go_simp
                        refine (HNW.out wx hG).mono ?_
                        rintro e wy ⟨rfl, hb1⟩
                        exact ⟨_, rfl, hb1, rfl⟩
                      refine ⟨fun r wx hG hs hq hf => ?_, ?_⟩
                      · have h3 : r 94 = .agg (bv ph).toArray := hf.1
                        have h18 : r 109 = .agg (bv ru).toArray := hf.2.1
                        refine (if_pos rfl).symm ▸ ?_
                        clear hs hq hf
                        unfold gives
                        go_simp
                        refine (refNodeText_any ph ru wx HPR.out.1 HPR.out.2).mono ?_
                        rintro e wy ⟨v', rfl, hq1, hb1⟩
                        rw [show (1 :: (ph ++ ru)).length = 65 by simp [HPR.out.1, HPR.out.2]] at hq1
                        exact ⟨_, rfl, hb1, hq1⟩
                      refine ⟨fun r wx hG hs hq hf => ?_, ?_⟩
                      · have h19 : Rd wx 1 (r 110) 65 (bv (1 :: (ph ++ ru))) := hf.1
                        refine (if_pos rfl).symm ▸ ?_
                        clear hs hq hf
                        unfold gives
                        go_simp
                        exact ⟨Below.refl _ _, h19⟩
                      exact trivial
                    case hend =>
                      intro u wz hG hfin
                      have z20 : Rd wz 1 (u 20) 65 (bv (1 :: (ph ++ ru))) := hfin 20 (by decide) (by kernel_rfl)
                      clear hfin
                      simp only [fill]
                      have HZ := Lib.hid (And.intro z20 (And.intro (HHR.out.keep hG) (HBB.out.trans (hG.mono HBB.out.size))))
                      obtain ⟨xa, xc, hxf⟩ := z20.form
                      rw [hxf] at HZ ⊢
                      clear z20 hG hxf
                      have hs1 := string_of_bytes (P := Tryd.prog) (w := wz) Tryd.underlying25 Tryd.underlying5 Tryd.underlying9 (l := 1 :: (ph ++ ru)) (v := .slice xa 65 xc) (by rw [show (1 :: (ph ++ ru)).length = 65 by simp [HPR.out.1, HPR.out.2]]; exact HZ.out.1)
                      have hs2 := string_of_bytes (P := Tryd.prog) (w := wz) Tryd.underlying25 Tryd.underlying5 Tryd.underlying9 (l := tx (hw W) ll) (v := .slice ha 65 hc) (by rw [HT65.out]; exact HZ.out.2.1)
                      obtain ⟨xT, hxT⟩ : ∃ x, x = 1 :: (ph ++ ru) := ⟨_, rfl⟩
                      obtain ⟨xR, hxR⟩ : ∃ x, x = tx (hw W) ll := ⟨_, rfl⟩
                      rw [← hxT] at hs1
                      rw [← hxR] at hs2
                      have HXX := Lib.hid (And.intro hxT hxR)
                      have RZ := Lib.hid (And.intro True.intro (And.intro (((HI.out.2.2.2.2.2.2.2.2.2.trans (HZ.out.2.2.mono HI.out.2.2.2.2.2.2.2.2.2.size)).block _ (Array.getElem?_eq_some_iff.1 R7.out.2.1).1).trans R7.out.2.1) (HBr.out.trans (HZ.out.2.2.mono HBr.out.size))))
                      by_cases hq : xT = xR
                      · have hqb : (xT == xR) = true := beq_iff_eq.2 hq
                        have HQX := Lib.hid hq
                        clear hq hxT hxR
                        go_simp
                        go_wp2_with fail
                        go_roundw
                        case rel =>
                          refine ⟨f, k - K, j - K, z, ll.drop K, qs, false, _, _, _, _, by first | rfl | go_num, by first | rfl | go_num, rfl, rfl, by omega, by omega, by omega, Lib.hid ⟨?_, HPQ.out.2.2.2, by have := HI.out.2.2.1; omega, fun t h => HI.out.2.2.2.1 t (List.mem_of_mem_drop h), HPQ.out.2.2.1, HSZ.out, ?_, ?_, HPQ.out.2.1.keep HZ.out.2.2, HI.out.2.2.2.2.2.2.2.2.2.trans (HZ.out.2.2.mono HI.out.2.2.2.2.2.2.2.2.2.size)⟩⟩
                          · rw [List.length_drop, HI.out.1]
                          · have h := HGF.out
                            rwa [if_neg (by rw [← HXX.out.1, ← HXX.out.2]; simp [HQX.out])] at h
                          · exact (HTV.out.drop HI.out.1 K (by omega)).keep HZ.out.2.2
                        case measure => simp; omega
                      · have hqb : (xT == xR) = false := beq_eq_false_iff_ne.2 hq
                        have HGF2 := Lib.hid (show GF = some (xR, xT) by
                          have h := HGF.out
                          rw [if_pos (by rw [← HXX.out.1, ← HXX.out.2]; exact hq)] at h
                          rw [← h, HXX.out.1, HXX.out.2])
                        have hlT : xT.length = 65 := by rw [hxT]; simp [HPR.out.1, HPR.out.2]
                        have hlR : xR.length = 65 := by rw [hxR]; exact HT65.out
                        have hx1 : Rd wz 1 (.slice ha 65 hc) 65 (bv xR) := by rw [hxR]; exact HZ.out.2.1
                        have hx2 : Rd wz 1 (.slice xa 65 xc) 65 (bv xT) := by rw [hxT]; exact HZ.out.1
                        have h60 : wz.cell? ⟨w.heap.size + 1, 0, none⟩ = some (.slice none 0 0) := cell_of_rowp RZ.out.2.1 rfl
                        have h61 : wz.cell? ⟨w.heap.size + 1, 1, none⟩ = some (.slice none 0 0) := cell_of_rowp RZ.out.2.1 rfl
                        have z60 : wz.frozen? ⟨w.heap.size + 1, 0, none⟩ = false := by simp [World.frozen?, RZ.out.2.1]
                        have z61 : wz.frozen? ⟨w.heap.size + 1, 1, none⟩ = false := by simp [World.frozen?, RZ.out.2.1]
                        have hs6 := s2_facts (a := .slice ha 65 hc) (b := .slice xa 65 xc) RZ.out.2.1
                        have k1 := hx1.s2 (a := .slice ha 65 hc) (b := .slice xa 65 xc) RZ.out.2.1
                        have k2 := hx2.s2 (a := .slice ha 65 hc) (b := .slice xa 65 xc) RZ.out.2.1
                        have HS6 := Lib.hid (And.intro hs6 (And.intro k1 (And.intro k2 (And.intro hlT hlR))))
                        clear hs6 k1 k2 hx1 hx2 hlT hlR hq hxT hxR
                        go_simp
                        go_wp2_with fail
                        have hld := pair_ld Tryd.prog _ (w.heap.size + 1) _ _ _ 27 HS6.out.1.1 Tryd.underlying27 rfl pairInfo
                        have hbz := below_ofp RZ.out.2.2 (by omega) HS6.out.1.2
                        have k1 := HS6.out.2.1
                        have k2 := HS6.out.2.2.1
                        obtain ⟨w9, hw9⟩ : ∃ x, x = (wz.setCell ⟨w.heap.size + 1, 0, none⟩ (.slice ha 65 hc)).setCell ⟨w.heap.size + 1, 1, none⟩ (.slice xa 65 xc) := ⟨_, rfl⟩
                        rw [← hw9] at hld hbz k1 k2 ⊢
                        refine bodyPost_ret (v := .tuple #[.agg #[.slice ha 65 hc, .slice xa 65 xc], .int .i64 0]) ?_ ?_ ?_
                        · simp [results, Tryd.results14, asAddr, hld]
                        · rfl
                        · refine (show PairE w w9 AN _ from ?_)
                          rw [HAN.out, HGF2.out]
                          refine ⟨ha, hc, xa, xc, ?_, ?_, ?_, hbz⟩
                          · show _ = Ending.returned (.tuple #[.agg #[.slice ha xR.length hc, .slice xa xT.length xc], .int .i64 0])
                            rw [HS6.out.2.2.2.1, HS6.out.2.2.2.2]
                          · show Rd w9 1 (.slice ha xR.length hc) xR.length (bv xR)
                            rw [HS6.out.2.2.2.2]; exact k1
                          · show Rd w9 1 (.slice xa xT.length xc) xT.length (bv xT)
                            rw [HS6.out.2.2.2.1]; exact k2
                  · rw [grow_left (hw W) f ll j old qs ph wh (by omega) (by rw [hkl, ← hK]; omega), hkl, ← hK] at hgf
                    have hsz := szG_left j k wh hj1 hlt (by omega)
                    have HNW0 := Lib.hid (fun wx (hb : Below wr.heap.size wr wx) => (show Calls Tryd.prog 38 #[.int .i64 W, .int .u64 j, .int .u64 K, .agg (bv old).toArray, .slice (some ⟨pb, po, none⟩) z pc, .bool wh] wx fun e w' => e = .returned (.agg (bv (showG (nodeH W) j K old wh qs).2).toArray) ∧ Below wx.heap.size wx w' by
                      have h := newer_any W HARG.out.2.2.2.2.2.1 K old j K wh qs (some ⟨pb, po, none⟩) pc wx (Nat.le_refl _) HLN.out.2.2.1 hj1 htop (by omega) hq32 (by rw [hK]; omega) (by rw [hql]; exact hrq.keep hb) ((HARG.out.2.2.1.keepB HBr.out).keepB hb)
                      rwa [hql] at h))
                    have hru32 := (showG_32 W j K old wh qs HLN.out.2.2.1 hq32).2
                    obtain ⟨ru, hru⟩ : ∃ x, x = (showG (nodeH W) j K old wh qs).2 := ⟨_, rfl⟩
                    rw [← hru] at HNW0 hru32
                    have HGF := Lib.hid (show (if 1 :: (ru ++ ph) ≠ tx (hw W) ll then some (tx (hw W) ll, 1 :: (ru ++ ph)) else growF (hw W) f (ll.take K) j old qs wh) = GF by rw [← hgf, hru]; rfl)
                    have HPR := Lib.hid (And.intro hph32 hru32)
                    have HSZ := Lib.hid (show z = szG j K wh by rw [hK]; omega)
                    have yj : (j : Int) ≤ (K : Int) := by omega
                    clear hgf hru hru32 hsz hrg hrq hq32 hql hph32 hqs hqe hps' hcell hcap hph hpl hrdp htxv hlcap hts hBr htx65 hkl hK
                    go_wp2_with fail
                    refine (HSP.out _).mono ?_
                    rintro e ws ⟨rfl, hbs⟩
                    have HBs := Lib.hid hbs
                    clear hbs
                    go_wp2_with fail
                    refine (HHS.out _ HBs.out).mono ?_
                    rintro e wa ⟨vh, rfl, hhr, hba⟩
                    obtain ⟨ha, hc, rfl⟩ := hhr.form
                    obtain ⟨wb, hwb⟩ : ∃ x : World, x = wa.alloc (.cells #[] 5) := ⟨_, rfl⟩
                    have hbb : Below wa.heap.size wa wb := by rw [hwb]; exact (Below.refl _ _).alloc (Nat.le_refl _) _
                    have HBB := Lib.hid ((HBs.out.trans (hba.mono HBs.out.size)).trans (hbb.mono (HBs.out.trans (hba.mono HBs.out.size)).size))
                    have HHR := Lib.hid (hhr.keep hbb)
                    have HWB := Lib.hid hwb
                    clear hhr hba hbb hwb
                    go_upto_region 16 with fail
                    rw [show wa.alloc (.cells #[] 5) = wb from HWB.out.symm]
                    have HBX := Lib.hid (fun wx (hb : Below wb.heap.size wb wx) => (show wx.heap[w.heap.size]? = some (.cells (bv old).toArray 35 (0, 0)) by
                      have h1 := (HI.out.2.2.2.2.2.2.2.2.2.block _ (Array.getElem?_eq_some_iff.1 R7.out.1).1).trans R7.out.1
                      have h2 := (HBB.out.block _ (Array.getElem?_eq_some_iff.1 h1).1).trans h1
                      exact (hb.block _ (Array.getElem?_eq_some_iff.1 h2).1).trans h2))
                    have HOL := Lib.hid HLN.out.2.2.1
                    have HRG := Lib.hid (fun wx (hb : Below wb.heap.size wb wx) => range_keep HPQ.out.1 (HBB.out.trans (hb.mono HBB.out.size)))
                    have HNW := Lib.hid (fun wx (hb : Below wb.heap.size wb wx) => HNW0.out wx (HBB.out.trans (hb.mono HBB.out.size)))
                    refine wp_region_steps [some 76, some 77, some 78, some 79, some 80, some 81, some 82, some 83, some 84, some 85, some 86, some 87, some 88, some 89, some 90, some 20] [] (q16F W w.heap.size lb lo_ lc k j pb po pc z K wh old ru ph) (fun _ wx wy => Below wx.heap.size wx wy) (fun wx => Below wb.heap.size wb wx) (by kernel_rfl) (by kernel_rfl) rfl (by kernel_rfl) (Below.refl _ _).drew (fun _ wx => Below.refl _ _) (fun _ wx wy h k => h.trans (k.mono h.size)) ?hF ?hstep ?hend
                    case hF =>
                      exact ⟨fun _ _ _ _ _ _ h => h, ⟨fun _ _ _ _ _ _ h => h, ⟨fun _ _ _ _ _ _ h => h, ⟨fun _ _ _ _ _ _ h => h, ⟨fun _ _ _ _ _ _ h => h, ⟨fun _ _ _ _ _ _ h => h, ⟨fun _ _ _ _ _ _ h => h, ⟨fun _ _ _ _ _ _ h => h, ⟨fun _ _ _ _ _ _ h => h, ⟨fun _ _ _ _ _ _ h => h, ⟨fun _ _ _ _ _ _ h => h, ⟨fun _ _ _ _ _ _ h => h, ⟨fun _ _ _ _ _ _ h => h, ⟨fun _ _ _ _ _ _ h => h, ⟨fun _ _ _ _ _ k h => Rd.keep h k, ⟨fun _ _ _ _ _ k h => Rd.keep h k, trivial⟩⟩⟩⟩⟩⟩⟩⟩⟩⟩⟩⟩⟩⟩⟩⟩
                    case hstep =>
                      refine ⟨fun r wx hG hs hq hf => ?_, ?_⟩
                      · have e0 : r 0 = .int .i64 W := hs 0 rfl
                        refine (if_pos rfl).symm ▸ ?_
                        clear hs hq hf
                        unfold gives
                        go_simp
                        exact ⟨Below.refl _ _, rfl⟩
                      refine ⟨fun r wx hG hs hq hf => ?_, ?_⟩
                      · have e2 : r 2 = .int .u64 j := hs 2 rfl
                        refine (if_pos rfl).symm ▸ ?_
                        clear hs hq hf
                        unfold gives
                        go_simp
                        exact ⟨Below.refl _ _, rfl⟩
                      refine ⟨fun r wx hG hs hq hf => ?_, ?_⟩
                      · have e17 : r 17 = .int .i64 K := hs 17 rfl
                        refine (if_pos rfl).symm ▸ ?_
                        clear hs hq hf
                        unfold gives
                        go_simp
                        exact ⟨Below.refl _ _, rfl⟩
                      refine ⟨fun r wx hG hs hq hf => ?_, ?_⟩
                      · have h2 : r 78 = .int .i64 K := hf.1
                        refine (if_pos rfl).symm ▸ ?_
                        clear hs hq hf
                        unfold gives
                        have zw : IntKind.u64.wrap (K : Int) = (K : Int) := IntWalk.u64_in _ (by omega)
                        go_simp
                        exact ⟨Below.refl _ _, rfl⟩
                      refine ⟨fun r wx hG hs hq hf => ?_, ?_⟩
                      · have e8 : r 8 = .pointer (some ⟨w.heap.size, 0, none⟩) := hs 8 rfl
                        refine (if_pos rfl).symm ▸ ?_
                        clear hs hq hf
                        unfold gives
                        refine gives_load_row 35 _ rfl w.heap.size e8 35 _ (0, 0) _ (HBX.out wx hG) Tryd.underlying35 rfl (hInfo _ HOL.out) ?_
                        exact ⟨Below.refl _ _, rfl⟩
                      refine ⟨fun r wx hG hs hq hf => ?_, ?_⟩
                      · have e4 : r 4 = .slice (some ⟨pb, po, none⟩) (z + 1) pc := hs 4 rfl
                        refine (if_pos rfl).symm ▸ ?_
                        clear hs hq hf
                        unfold gives
                        go_simp
                        exact ⟨Below.refl _ _, rfl⟩
                      refine ⟨fun r wx hG hs hq hf => ?_, ?_⟩
                      · have e18 : r 18 = .int .i64 z := hs 18 rfl
                        refine (if_pos rfl).symm ▸ ?_
                        clear hs hq hf
                        unfold gives
                        go_simp
                        exact ⟨Below.refl _ _, rfl⟩
                      refine ⟨fun r wx hG hs hq hf => ?_, ?_⟩
                      · have h5 : r 81 = .slice (some ⟨pb, po, none⟩) (z + 1) pc := hf.1
                        have h6 : r 82 = .int .i64 z := hf.2.1
                        refine (if_pos rfl).symm ▸ ?_
                        clear hs hq hf
                        unfold gives
                        have z0 : (0 : Int) ≤ (z : Int) := by omega
                        have z1 : (z : Int) ≤ (pc : Int) := by omega
                        go_simp
                        exact ⟨Below.refl _ _, rfl⟩
                      refine ⟨fun r wx hG hs hq hf => ?_, ?_⟩
                      · have e16 : r 16 = .bool wh := hs 16 rfl
                        refine (if_pos rfl).symm ▸ ?_
                        clear hs hq hf
                        unfold gives
                        go_simp
                        exact ⟨Below.refl _ _, rfl⟩
                      refine ⟨fun r wx hG hs hq hf => ?_, ?_⟩
                      · have h0 : r 76 = .int .i64 W := hf.1
                        have h1 : r 77 = .int .u64 j := hf.2.1
                        have h3 : r 79 = .int .u64 K := hf.2.2.1
                        have h4 : r 80 = .agg (bv old).toArray := hf.2.2.2.1
                        have h7 : r 83 = .slice (some ⟨pb, po, none⟩) z pc := hf.2.2.2.2.1
                        have h8 : r 84 = .bool wh := hf.2.2.2.2.2.1
                        refine (if_pos rfl).symm ▸ ?_
                        clear hs hq hf
                        unfold gives
                        go_simp
                        refine (HNW.out wx hG).mono ?_
                        rintro e wy ⟨rfl, hb1⟩
                        exact ⟨_, rfl, hb1, rfl⟩
                      refine ⟨fun r wx hG hs hq hf => ?_, ?_⟩
                      · have e4 : r 4 = .slice (some ⟨pb, po, none⟩) (z + 1) pc := hs 4 rfl
                        refine (if_pos rfl).symm ▸ ?_
                        clear hs hq hf
                        unfold gives
                        go_simp
                        exact ⟨Below.refl _ _, rfl⟩
                      refine ⟨fun r wx hG hs hq hf => ?_, ?_⟩
                      · have e18 : r 18 = .int .i64 z := hs 18 rfl
                        refine (if_pos rfl).symm ▸ ?_
                        clear hs hq hf
                        unfold gives
                        go_simp
                        exact ⟨Below.refl _ _, rfl⟩
                      refine ⟨fun r wx hG hs hq hf => ?_, ?_⟩
                      · have h10 : r 86 = .slice (some ⟨pb, po, none⟩) (z + 1) pc := hf.1
                        have h11 : r 87 = .int .i64 z := hf.2.1
                        refine (if_pos rfl).symm ▸ ?_
                        clear hs hq hf
                        unfold gives
                        have z0 : (0 : Int) ≤ (z : Int) := by omega
                        have z1 : (z : Int) < ((z + 1 : Nat) : Int) := by omega
                        have z2 : (z : Int) < (z : Int) + 1 := by omega
                        go_simp
                        exact ⟨Below.refl _ _, rfl⟩
                      refine ⟨fun r wx hG hs hq hf => ?_, ?_⟩
                      · have h12 : r 88 = .pointer (some ⟨pb, po + z * 32, none⟩) := hf.1
                        refine (if_pos rfl).symm ▸ ?_
                        clear hs hq hf
                        unfold gives
                        refine gives_load_mid 35 _ rfl pb (po + z * 32) h12 (bv ph) _ (HRG.out wx hG) Tryd.underlying35 rfl (hInfo' _ HPR.out.1) ?_
                        exact ⟨Below.refl _ _, rfl⟩
                      refine ⟨fun r wx hG hs hq hf => ?_, ?_⟩
                      · have h9 : r 85 = .agg (bv ru).toArray := hf.1
                        have h13 : r 89 = .agg (bv ph).toArray := hf.2.1
                        refine (if_pos rfl).symm ▸ ?_
                        clear hs hq hf
                        unfold gives
                        go_simp
                        refine (refNodeText_any ru ph wx HPR.out.2 HPR.out.1).mono ?_
                        rintro e wy ⟨v', rfl, hq1, hb1⟩
                        rw [show (1 :: (ru ++ ph)).length = 65 by simp [HPR.out.1, HPR.out.2]] at hq1
                        exact ⟨_, rfl, hb1, hq1⟩
                      refine ⟨fun r wx hG hs hq hf => ?_, ?_⟩
                      · have h14 : Rd wx 1 (r 90) 65 (bv (1 :: (ru ++ ph))) := hf.1
                        refine (if_pos rfl).symm ▸ ?_
                        clear hs hq hf
                        unfold gives
                        go_simp
                        exact ⟨Below.refl _ _, h14⟩
                      exact trivial
                    case hend =>
                      intro u wz hG hfin
                      have z15 : Rd wz 1 (u 15) 65 (bv (1 :: (ru ++ ph))) := hfin 15 (by decide) (by kernel_rfl)
                      clear hfin
                      simp only [fill]
                      have HZ := Lib.hid (And.intro z15 (And.intro (HHR.out.keep hG) (HBB.out.trans (hG.mono HBB.out.size))))
                      obtain ⟨xa, xc, hxf⟩ := z15.form
                      rw [hxf] at HZ ⊢
                      clear z15 hG hxf
                      have hs1 := string_of_bytes (P := Tryd.prog) (w := wz) Tryd.underlying25 Tryd.underlying5 Tryd.underlying9 (l := 1 :: (ru ++ ph)) (v := .slice xa 65 xc) (by rw [show (1 :: (ru ++ ph)).length = 65 by simp [HPR.out.1, HPR.out.2]]; exact HZ.out.1)
                      have hs2 := string_of_bytes (P := Tryd.prog) (w := wz) Tryd.underlying25 Tryd.underlying5 Tryd.underlying9 (l := tx (hw W) ll) (v := .slice ha 65 hc) (by rw [HT65.out]; exact HZ.out.2.1)
                      obtain ⟨xT, hxT⟩ : ∃ x, x = 1 :: (ru ++ ph) := ⟨_, rfl⟩
                      obtain ⟨xR, hxR⟩ : ∃ x, x = tx (hw W) ll := ⟨_, rfl⟩
                      rw [← hxT] at hs1
                      rw [← hxR] at hs2
                      have HXX := Lib.hid (And.intro hxT hxR)
                      have RZ := Lib.hid (And.intro True.intro (And.intro (((HI.out.2.2.2.2.2.2.2.2.2.trans (HZ.out.2.2.mono HI.out.2.2.2.2.2.2.2.2.2.size)).block _ (Array.getElem?_eq_some_iff.1 R7.out.2.1).1).trans R7.out.2.1) (HBr.out.trans (HZ.out.2.2.mono HBr.out.size))))
                      by_cases hq : xT = xR
                      · have hqb : (xT == xR) = true := beq_iff_eq.2 hq
                        have HQX := Lib.hid hq
                        clear hq hxT hxR
                        go_simp
                        go_wp2_with fail
                        go_roundw
                        case rel =>
                          refine ⟨f, K, j, z, ll.take K, qs, wh, _, _, _, _, by first | rfl | go_num, by first | rfl | go_num, rfl, rfl, by omega, by omega, by omega, Lib.hid ⟨?_, HPQ.out.2.2.2, by have := HI.out.2.2.1; omega, fun t h => HI.out.2.2.2.1 t (List.mem_of_mem_take h), HPQ.out.2.2.1, HSZ.out, ?_, ?_, HPQ.out.2.1.keep HZ.out.2.2, HI.out.2.2.2.2.2.2.2.2.2.trans (HZ.out.2.2.mono HI.out.2.2.2.2.2.2.2.2.2.size)⟩⟩
                          · rw [List.length_take, HI.out.1]; omega
                          · have h := HGF.out
                            rwa [if_neg (by rw [← HXX.out.1, ← HXX.out.2]; simp [HQX.out])] at h
                          · exact (HTV.out.take HI.out.1 K (by omega)).keep HZ.out.2.2
                        case measure => simp; omega
                      · have hqb : (xT == xR) = false := beq_eq_false_iff_ne.2 hq
                        have HGF2 := Lib.hid (show GF = some (xR, xT) by
                          have h := HGF.out
                          rw [if_pos (by rw [← HXX.out.1, ← HXX.out.2]; exact hq)] at h
                          rw [← h, HXX.out.1, HXX.out.2])
                        have hlT : xT.length = 65 := by rw [hxT]; simp [HPR.out.1, HPR.out.2]
                        have hlR : xR.length = 65 := by rw [hxR]; exact HT65.out
                        have hx1 : Rd wz 1 (.slice ha 65 hc) 65 (bv xR) := by rw [hxR]; exact HZ.out.2.1
                        have hx2 : Rd wz 1 (.slice xa 65 xc) 65 (bv xT) := by rw [hxT]; exact HZ.out.1
                        have h60 : wz.cell? ⟨w.heap.size + 1, 0, none⟩ = some (.slice none 0 0) := cell_of_rowp RZ.out.2.1 rfl
                        have h61 : wz.cell? ⟨w.heap.size + 1, 1, none⟩ = some (.slice none 0 0) := cell_of_rowp RZ.out.2.1 rfl
                        have z60 : wz.frozen? ⟨w.heap.size + 1, 0, none⟩ = false := by simp [World.frozen?, RZ.out.2.1]
                        have z61 : wz.frozen? ⟨w.heap.size + 1, 1, none⟩ = false := by simp [World.frozen?, RZ.out.2.1]
                        have hs6 := s2_facts (a := .slice ha 65 hc) (b := .slice xa 65 xc) RZ.out.2.1
                        have k1 := hx1.s2 (a := .slice ha 65 hc) (b := .slice xa 65 xc) RZ.out.2.1
                        have k2 := hx2.s2 (a := .slice ha 65 hc) (b := .slice xa 65 xc) RZ.out.2.1
                        have HS6 := Lib.hid (And.intro hs6 (And.intro k1 (And.intro k2 (And.intro hlT hlR))))
                        clear hs6 k1 k2 hx1 hx2 hlT hlR hq hxT hxR
                        go_simp
                        go_wp2_with fail
                        have hld := pair_ld Tryd.prog _ (w.heap.size + 1) _ _ _ 27 HS6.out.1.1 Tryd.underlying27 rfl pairInfo
                        have hbz := below_ofp RZ.out.2.2 (by omega) HS6.out.1.2
                        have k1 := HS6.out.2.1
                        have k2 := HS6.out.2.2.1
                        obtain ⟨w9, hw9⟩ : ∃ x, x = (wz.setCell ⟨w.heap.size + 1, 0, none⟩ (.slice ha 65 hc)).setCell ⟨w.heap.size + 1, 1, none⟩ (.slice xa 65 xc) := ⟨_, rfl⟩
                        rw [← hw9] at hld hbz k1 k2 ⊢
                        refine bodyPost_ret (v := .tuple #[.agg #[.slice ha 65 hc, .slice xa 65 xc], .int .i64 0]) ?_ ?_ ?_
                        · simp [results, Tryd.results14, asAddr, hld]
                        · rfl
                        · refine (show PairE w w9 AN _ from ?_)
                          rw [HAN.out, HGF2.out]
                          refine ⟨ha, hc, xa, xc, ?_, ?_, ?_, hbz⟩
                          · show _ = Ending.returned (.tuple #[.agg #[.slice ha xR.length hc, .slice xa xT.length xc], .int .i64 0])
                            rw [HS6.out.2.2.2.1, HS6.out.2.2.2.2]
                          · show Rd w9 1 (.slice ha xR.length hc) xR.length (bv xR)
                            rw [HS6.out.2.2.2.2]; exact k1
                          · show Rd w9 1 (.slice xa xT.length xc) xT.length (bv xT)
                            rw [HS6.out.2.2.2.1]; exact k2
      · have HQB := Lib.hid (show (gb == rl) = false from beq_eq_false_iff_ne.2 hqb)
        clear hqb
        go_upto_region 5 with fail
        refine wp_region_steps [some 38, some 39, some 40, some 41, some 42, some 43, some 44, some 45, some 46, some 47] [] (q5bF W w.heap.size g13 g14 tb tf tc n ga gb old rl) (fun _ wx wy => Below wx.heap.size wx wy) (fun wx => Below w5.heap.size w5 wx) (by kernel_rfl) (by kernel_rfl) rfl (by kernel_rfl) (Below.refl _ _).drew (fun _ wx => Below.refl _ _) (fun _ wx wy h k => h.trans (k.mono h.size)) ?hF ?hstep ?hend
        case hF =>
          exact ⟨fun _ _ _ _ _ _ h => h, ⟨fun _ _ _ _ _ _ h => h, ⟨fun _ _ _ _ _ _ h => h, ⟨fun _ _ _ _ _ _ h => h, ⟨fun _ _ _ _ _ _ h => h, ⟨fun _ _ _ _ _ _ h => h, ⟨fun _ _ _ _ _ _ h => h, ⟨fun _ _ _ _ _ _ h => h, ⟨fun _ _ _ _ _ _ h => h, ⟨fun _ _ _ _ _ _ h => h, trivial⟩⟩⟩⟩⟩⟩⟩⟩⟩⟩
        case hstep =>
          refine ⟨fun r wx hG hs hq hf => ?_, ?_⟩
          · have e13 : r 13 = .pointer (some ⟨g13, 0, none⟩) := hs 13 rfl
            refine (if_pos rfl).symm ▸ ?_
            clear hs hq hf
            unfold gives
            refine gives_load_row 35 _ rfl g13 e13 35 _ (0, 0) _ (HR.out wx hG).1 Tryd.underlying35 rfl (hInfo _ HLN.out.1) ?_
            exact ⟨Below.refl _ _, rfl⟩
          refine ⟨fun r wx hG hs hq hf => ?_, ?_⟩
          · have e8 : r 8 = .pointer (some ⟨w.heap.size, 0, none⟩) := hs 8 rfl
            refine (if_pos rfl).symm ▸ ?_
            clear hs hq hf
            unfold gives
            refine gives_load_row 35 _ rfl w.heap.size e8 35 _ (0, 0) _ (HR.out wx hG).2.2 Tryd.underlying35 rfl (hInfo _ HLN.out.2.2.1) ?_
            exact ⟨Below.refl _ _, rfl⟩
          refine ⟨fun r wx hG hs hq hf => ?_, ?_⟩
          · have h0 : r 38 = .agg (bv ga).toArray := hf.1
            have h1 : r 39 = .agg (bv old).toArray := hf.2.1
            refine (if_pos rfl).symm ▸ ?_
            clear hs hq hf
            unfold gives
            have hqe := eqIn_hash ga old HLN.out.1 HLN.out.2.2.1 wx
            rw [HQA.out] at hqe
            have hgd := eq_guard
            go_simp
            exact ⟨Below.refl _ _, rfl⟩
          refine ⟨fun r wx hG hs hq hf => ?_, ?_⟩
          · have h2 : r 40 = .bool false := hf.1
            refine (if_pos rfl).symm ▸ ?_
            clear hs hq hf
            unfold gives
            go_simp
            exact ⟨Below.refl _ _, rfl⟩
          refine ⟨fun r wx hG hs hq hf => ?_, ?_⟩
          · have e14 : r 14 = .pointer (some ⟨g14, 0, none⟩) := hs 14 rfl
            have h3 : r 41 = .bool false := hf.1
            have hy : ydD [some 38, some 39, some 40, some 41, some 42, some 43, some 44, some 45, some 46, some 47] r 3 = some false := by show (match r 41 with | .bool b => some b | _ => none) = some false; rw [h3]
            simp only [Region.wanted, hy, beq_self_eq_true, if_true]
            clear hs hq hf hy
            unfold gives
            refine gives_load_row 35 _ rfl g14 e14 35 _ (0, 0) _ (HR.out wx hG).2.1 Tryd.underlying35 rfl (hInfo _ HLN.out.2.1) ?_
            exact ⟨Below.refl _ _, rfl⟩
          refine ⟨fun r wx hG hs hq hf => ?_, ?_⟩
          · have e0 : r 0 = .int .i64 W := hs 0 rfl
            have h3 : r 41 = .bool false := hf.1
            have hy : ydD [some 38, some 39, some 40, some 41, some 42, some 43, some 44, some 45, some 46, some 47] r 3 = some false := by show (match r 41 with | .bool b => some b | _ => none) = some false; rw [h3]
            simp only [Region.wanted, hy, beq_self_eq_true, if_true]
            clear hs hq hf hy
            unfold gives
            go_simp
            exact ⟨Below.refl _ _, rfl⟩
          refine ⟨fun r wx hG hs hq hf => ?_, ?_⟩
          · have e1 : r 1 = .slice (some ⟨tb, tf, none⟩) n tc := hs 1 rfl
            have h3 : r 41 = .bool false := hf.1
            have hy : ydD [some 38, some 39, some 40, some 41, some 42, some 43, some 44, some 45, some 46, some 47] r 3 = some false := by show (match r 41 with | .bool b => some b | _ => none) = some false; rw [h3]
            simp only [Region.wanted, hy, beq_self_eq_true, if_true]
            clear hs hq hf hy
            unfold gives
            go_simp
            exact ⟨Below.refl _ _, rfl⟩
          refine ⟨fun r wx hG hs hq hf => ?_, ?_⟩
          · have h5 : r 43 = .int .i64 W := hf.1
            have h6 : r 44 = .slice (some ⟨tb, tf, none⟩) n tc := hf.2.1
            have h3 : r 41 = .bool false := hf.2.2.1
            have hy : ydD [some 38, some 39, some 40, some 41, some 42, some 43, some 44, some 45, some 46, some 47] r 3 = some false := by show (match r 41 with | .bool b => some b | _ => none) = some false; rw [h3]
            simp only [Region.wanted, hy, beq_self_eq_true, if_true]
            clear hs hq hf hy
            unfold gives
            go_simp
            refine (HRO.out wx hG).mono ?_
            rintro e wy ⟨rfl, hb1⟩
            exact ⟨_, rfl, hb1, rfl⟩
          refine ⟨fun r wx hG hs hq hf => ?_, ?_⟩
          · have h4 : r 42 = .agg (bv gb).toArray := hf.1
            have h7 : r 45 = .agg (bv rl).toArray := hf.2.1
            have h3 : r 41 = .bool false := hf.2.2.1
            have hy : ydD [some 38, some 39, some 40, some 41, some 42, some 43, some 44, some 45, some 46, some 47] r 3 = some false := by show (match r 41 with | .bool b => some b | _ => none) = some false; rw [h3]
            simp only [Region.wanted, hy, beq_self_eq_true, if_true]
            clear hs hq hf hy
            unfold gives
            have hqe := eqIn_hash gb rl HLN.out.2.1 HLN.out.2.2.2 wx
            rw [HQB.out] at hqe
            have hgd := eq_guard
            go_simp
            exact ⟨Below.refl _ _, rfl⟩
          refine ⟨fun r wx hG hs hq hf => ?_, ?_⟩
          · have h3 : r 41 = .bool false := hf.1
            have h8 : r 46 = .bool true := hf.2.1
            refine (if_pos rfl).symm ▸ ?_
            clear hs hq hf
            unfold gives
            go_simp
            exact ⟨Below.refl _ _, rfl⟩
          exact trivial
        case hend =>
          intro u wz hG hfin
          have z9 : u 9 = .bool true := hfin 9 (by decide) (by kernel_rfl)
          clear hfin
          simp only [fill]
          have R6 := Lib.hid (And.intro ((hG.block _ (Array.getElem?_eq_some_iff.1 R5.out.1).1).trans R5.out.1) (And.intro ((hG.block _ (Array.getElem?_eq_some_iff.1 R5.out.2.1).1).trans R5.out.2.1) (R5.out.2.2.trans (hG.mono R5.out.2.2.size))))
          have HG56 := Lib.hid hG
          clear hG
          obtain ⟨w6, hw6⟩ : ∃ x, x = wz := ⟨_, rfl⟩
          subst hw6
          go_simp
          have h60 : w6.cell? ⟨w.heap.size + 1, 0, none⟩ = some (.slice none 0 0) := cell_of_rowp R6.out.2.1 rfl
          have h61 : w6.cell? ⟨w.heap.size + 1, 1, none⟩ = some (.slice none 0 0) := cell_of_rowp R6.out.2.1 rfl
          have z60 : w6.frozen? ⟨w.heap.size + 1, 0, none⟩ = false := by simp [World.frozen?, R6.out.2.1]
          have z61 : w6.frozen? ⟨w.heap.size + 1, 1, none⟩ = false := by simp [World.frozen?, R6.out.2.1]
          have HE := Lib.hid (FIN.out w6 3 (by rw [HEE.out, if_neg (by simp), if_pos (.inr (beq_eq_false_iff_ne.1 HQB.out))]) R6.out.2.1 R6.out.2.2)
          go_wp2_with fail
          obtain ⟨hld, fin⟩ := HE.out
          obtain ⟨w9, hw9⟩ : ∃ x, x = (w6.setCell ⟨w.heap.size + 1, 0, none⟩ (.slice none 0 0)).setCell ⟨w.heap.size + 1, 1, none⟩ (.slice none 0 0) := ⟨_, rfl⟩
          rw [← hw9] at hld fin ⊢
          refine bodyPost_ret (v := .tuple #[.agg #[.slice none 0 0, .slice none 0 0], .int .i64 3]) ?_ ?_ ?_
          · simp [results, Tryd.results14, asAddr, hld]
          · rfl
          · exact fin
    · have HQA := Lib.hid (show (ga == old) = false from beq_eq_false_iff_ne.2 hqa)
      clear hqa
      go_upto_region 5 with fail
      refine wp_region_steps [some 38, some 39, some 40, some 41, some 42, some 43, some 44, some 45, some 46, some 47] [] (q5aF W w.heap.size g13 g14 tb tf tc n ga gb old rl) (fun _ wx wy => Below wx.heap.size wx wy) (fun wx => Below w5.heap.size w5 wx) (by kernel_rfl) (by kernel_rfl) rfl (by kernel_rfl) (Below.refl _ _).drew (fun _ wx => Below.refl _ _) (fun _ wx wy h k => h.trans (k.mono h.size)) ?hF ?hstep ?hend
      case hF =>
        exact ⟨fun _ _ _ _ _ _ h => h, ⟨fun _ _ _ _ _ _ h => h, ⟨fun _ _ _ _ _ _ h => h, ⟨fun _ _ _ _ _ _ h => h, ⟨fun _ _ _ _ _ _ h => h, ⟨fun _ _ _ _ _ _ h => h, ⟨fun _ _ _ _ _ _ h => h, ⟨fun _ _ _ _ _ _ h => h, ⟨fun _ _ _ _ _ _ h => h, ⟨fun _ _ _ _ _ _ h => h, trivial⟩⟩⟩⟩⟩⟩⟩⟩⟩⟩
      case hstep =>
        refine ⟨fun r wx hG hs hq hf => ?_, ?_⟩
        · have e13 : r 13 = .pointer (some ⟨g13, 0, none⟩) := hs 13 rfl
          refine (if_pos rfl).symm ▸ ?_
          clear hs hq hf
          unfold gives
          refine gives_load_row 35 _ rfl g13 e13 35 _ (0, 0) _ (HR.out wx hG).1 Tryd.underlying35 rfl (hInfo _ HLN.out.1) ?_
          exact ⟨Below.refl _ _, rfl⟩
        refine ⟨fun r wx hG hs hq hf => ?_, ?_⟩
        · have e8 : r 8 = .pointer (some ⟨w.heap.size, 0, none⟩) := hs 8 rfl
          refine (if_pos rfl).symm ▸ ?_
          clear hs hq hf
          unfold gives
          refine gives_load_row 35 _ rfl w.heap.size e8 35 _ (0, 0) _ (HR.out wx hG).2.2 Tryd.underlying35 rfl (hInfo _ HLN.out.2.2.1) ?_
          exact ⟨Below.refl _ _, rfl⟩
        refine ⟨fun r wx hG hs hq hf => ?_, ?_⟩
        · have h0 : r 38 = .agg (bv ga).toArray := hf.1
          have h1 : r 39 = .agg (bv old).toArray := hf.2.1
          refine (if_pos rfl).symm ▸ ?_
          clear hs hq hf
          unfold gives
          have hqe := eqIn_hash ga old HLN.out.1 HLN.out.2.2.1 wx
          rw [HQA.out] at hqe
          have hgd := eq_guard
          go_simp
          exact ⟨Below.refl _ _, rfl⟩
        refine ⟨fun r wx hG hs hq hf => ?_, ?_⟩
        · have h2 : r 40 = .bool true := hf.1
          refine (if_pos rfl).symm ▸ ?_
          clear hs hq hf
          unfold gives
          go_simp
          exact ⟨Below.refl _ _, rfl⟩
        refine ⟨fun r wx hG hs hq hf => ?_, ?_⟩
        · have e14 : r 14 = .pointer (some ⟨g14, 0, none⟩) := hs 14 rfl
          have h3 : r 41 = .bool true := hf.1
          have hy : ydD [some 38, some 39, some 40, some 41, some 42, some 43, some 44, some 45, some 46, some 47] r 3 = some true := by show (match r 41 with | .bool b => some b | _ => none) = some true; rw [h3]
          simp only [Region.wanted, hy]
          rw [if_neg (show ¬ (some true == some false) = true by decide)]
          clear hs hq hf hy
          rfl
        refine ⟨fun r wx hG hs hq hf => ?_, ?_⟩
        · have e0 : r 0 = .int .i64 W := hs 0 rfl
          have h3 : r 41 = .bool true := hf.1
          have hy : ydD [some 38, some 39, some 40, some 41, some 42, some 43, some 44, some 45, some 46, some 47] r 3 = some true := by show (match r 41 with | .bool b => some b | _ => none) = some true; rw [h3]
          simp only [Region.wanted, hy]
          rw [if_neg (show ¬ (some true == some false) = true by decide)]
          clear hs hq hf hy
          rfl
        refine ⟨fun r wx hG hs hq hf => ?_, ?_⟩
        · have e1 : r 1 = .slice (some ⟨tb, tf, none⟩) n tc := hs 1 rfl
          have h3 : r 41 = .bool true := hf.1
          have hy : ydD [some 38, some 39, some 40, some 41, some 42, some 43, some 44, some 45, some 46, some 47] r 3 = some true := by show (match r 41 with | .bool b => some b | _ => none) = some true; rw [h3]
          simp only [Region.wanted, hy]
          rw [if_neg (show ¬ (some true == some false) = true by decide)]
          clear hs hq hf hy
          rfl
        refine ⟨fun r wx hG hs hq hf => ?_, ?_⟩
        · have h5 : r 43 = undef := hf.1
          have h6 : r 44 = undef := hf.2.1
          have h3 : r 41 = .bool true := hf.2.2.1
          have hy : ydD [some 38, some 39, some 40, some 41, some 42, some 43, some 44, some 45, some 46, some 47] r 3 = some true := by show (match r 41 with | .bool b => some b | _ => none) = some true; rw [h3]
          simp only [Region.wanted, hy]
          rw [if_neg (show ¬ (some true == some false) = true by decide)]
          clear hs hq hf hy
          rfl
        refine ⟨fun r wx hG hs hq hf => ?_, ?_⟩
        · have h4 : r 42 = undef := hf.1
          have h7 : r 45 = undef := hf.2.1
          have h3 : r 41 = .bool true := hf.2.2.1
          have hy : ydD [some 38, some 39, some 40, some 41, some 42, some 43, some 44, some 45, some 46, some 47] r 3 = some true := by show (match r 41 with | .bool b => some b | _ => none) = some true; rw [h3]
          simp only [Region.wanted, hy]
          rw [if_neg (show ¬ (some true == some false) = true by decide)]
          clear hs hq hf hy
          rfl
        refine ⟨fun r wx hG hs hq hf => ?_, ?_⟩
        · have h3 : r 41 = .bool true := hf.1
          have h8 : r 46 = undef := hf.2.1
          refine (if_pos rfl).symm ▸ ?_
          clear hs hq hf
          unfold gives
          go_simp
          exact ⟨Below.refl _ _, rfl⟩
        exact trivial
      case hend =>
        intro u wz hG hfin
        have z9 : u 9 = .bool true := hfin 9 (by decide) (by kernel_rfl)
        clear hfin
        simp only [fill]
        have R6 := Lib.hid (And.intro ((hG.block _ (Array.getElem?_eq_some_iff.1 R5.out.1).1).trans R5.out.1) (And.intro ((hG.block _ (Array.getElem?_eq_some_iff.1 R5.out.2.1).1).trans R5.out.2.1) (R5.out.2.2.trans (hG.mono R5.out.2.2.size))))
        have HG56 := Lib.hid hG
        clear hG
        obtain ⟨w6, hw6⟩ : ∃ x, x = wz := ⟨_, rfl⟩
        subst hw6
        go_simp
        have h60 : w6.cell? ⟨w.heap.size + 1, 0, none⟩ = some (.slice none 0 0) := cell_of_rowp R6.out.2.1 rfl
        have h61 : w6.cell? ⟨w.heap.size + 1, 1, none⟩ = some (.slice none 0 0) := cell_of_rowp R6.out.2.1 rfl
        have z60 : w6.frozen? ⟨w.heap.size + 1, 0, none⟩ = false := by simp [World.frozen?, R6.out.2.1]
        have z61 : w6.frozen? ⟨w.heap.size + 1, 1, none⟩ = false := by simp [World.frozen?, R6.out.2.1]
        have HE := Lib.hid (FIN.out w6 3 (by rw [HEE.out, if_neg (by simp), if_pos (.inl (beq_eq_false_iff_ne.1 HQA.out))]) R6.out.2.1 R6.out.2.2)
        go_wp2_with fail
        obtain ⟨hld, fin⟩ := HE.out
        obtain ⟨w9, hw9⟩ : ∃ x, x = (w6.setCell ⟨w.heap.size + 1, 0, none⟩ (.slice none 0 0)).setCell ⟨w.heap.size + 1, 1, none⟩ (.slice none 0 0) := ⟨_, rfl⟩
        rw [← hw9] at hld fin ⊢
        refine bodyPost_ret (v := .tuple #[.agg #[.slice none 0 0, .slice none 0 0], .int .i64 3]) ?_ ?_ ?_
        · simp [results, Tryd.results14, asAddr, hld]
        · rfl
        · exact fin
  · have y1 : (ER != 0) = true := by simp [hE0]
    have HE0 := Lib.hid hE0
    clear hE0
    have h60 : w5.cell? ⟨w.heap.size + 1, 0, none⟩ = some (.slice none 0 0) := cell_of_rowp R5.out.2.1 rfl
    have h61 : w5.cell? ⟨w.heap.size + 1, 1, none⟩ = some (.slice none 0 0) := cell_of_rowp R5.out.2.1 rfl
    have z60 : w5.frozen? ⟨w.heap.size + 1, 0, none⟩ = false := by simp [World.frozen?, R5.out.2.1]
    have z61 : w5.frozen? ⟨w.heap.size + 1, 1, none⟩ = false := by simp [World.frozen?, R5.out.2.1]
    have HE := Lib.hid (FIN.out w5 ER (by rw [HEE.out, if_pos HE0.out]) R5.out.2.1 R5.out.2.2)
    go_wp2_with fail
    obtain ⟨hld, fin⟩ := HE.out
    obtain ⟨w9, hw9⟩ : ∃ x, x = (w5.setCell ⟨w.heap.size + 1, 0, none⟩ (.slice none 0 0)).setCell ⟨w.heap.size + 1, 1, none⟩ (.slice none 0 0) := ⟨_, rfl⟩
    rw [← hw9] at hld fin ⊢
    refine bodyPost_ret (v := .tuple #[.agg #[.slice none 0 0, .slice none 0 0], .int .i64 ER]) ?_ ?_ ?_
    · simp [results, Tryd.results14, asAddr, hld]
    · rfl
    · exact fin
end Go.Proofs.YtfibhmgjkooemaaDoor
