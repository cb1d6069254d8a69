/- The reference's climb; path.Check. (printed by gen/pathe.py) -/
import Derived.Test.YtfibhmgjkooemaaDoorPathE0
namespace Go.Proofs.YtfibhmgjkooemaaDoor
open Go.RowKit Sha Root Ones Path

/-- What each operation hands on. -/
def upaF (W : Int) (_g6 i _n K b off m c R : Nat) (h ru pl rt : List UInt8) : Nat → Value → World → Prop
  | 0, v, _ => v = .int .i64 W
  | 1, v, _ => v = .int .i64 W
  | 2, v, _ => v = .agg (bv h).toArray
  | 3, v, _ => v = .int .u64 i
  | 4, v, _ => v = .int .u64 K
  | 5, v, _ => v = .slice (some ⟨b, off, none⟩) (m + 1) c
  | 6, v, _ => v = .int .i64 (m : Nat)
  | 7, v, _ => v = .slice (some ⟨b, off, none⟩) m c
  | 8, v, _ => v = .agg (bv ru).toArray
  | 9, v, _ => v = .slice (some ⟨b, off, none⟩) (m + 1) c
  | 10, v, _ => v = .int .i64 (m : Nat)
  | 11, v, _ => v = .pointer (some ⟨b, off + m * 32, none⟩)
  | 12, v, _ => v = .agg (bv pl).toArray
  | 13, v, _ => v = .agg (bv rt).toArray
  | 14, _, w => w.heap[R]? = some (.cells (bv rt).toArray 35 (0, 0))
  | _, _, _ => True

/-- What each operation hands on. -/
def upbF (W : Int) (_g6 i n K b off m c R : Nat) (h ru pl rt : List UInt8) : Nat → Value → World → Prop
  | 0, v, _ => v = .int .i64 W
  | 1, v, _ => v = .slice (some ⟨b, off, none⟩) (m + 1) c
  | 2, v, _ => v = .int .i64 (m : Nat)
  | 3, v, _ => v = .pointer (some ⟨b, off + m * 32, none⟩)
  | 4, v, _ => v = .agg (bv pl).toArray
  | 5, v, _ => v = .int .i64 W
  | 6, v, _ => v = .agg (bv h).toArray
  | 7, v, _ => v = .int .u64 i
  | 8, v, _ => v = .int .u64 K
  | 9, v, _ => v = .int .u64 ((i - K : Nat) : Int)
  | 10, v, _ => v = .int .u64 n
  | 11, v, _ => v = .int .u64 K
  | 12, v, _ => v = .int .u64 ((n - K : Nat) : Int)
  | 13, v, _ => v = .slice (some ⟨b, off, none⟩) (m + 1) c
  | 14, v, _ => v = .int .i64 (m : Nat)
  | 15, v, _ => v = .slice (some ⟨b, off, none⟩) m c
  | 16, v, _ => v = .agg (bv ru).toArray
  | 17, v, _ => v = .agg (bv rt).toArray
  | 18, _, w => w.heap[R]? = some (.cells (bv rt).toArray 35 (0, 0))
  | _, _, _ => True

set_option maxHeartbeats 16000000 in
set_option maxRecDepth 100000 in
theorem up_any (W : Int) (hW : -9223372036854775808 ≤ W ∧ W ≤ 9223372036854775807) : ∀ (f : Nat) (h : List UInt8) (i n : Nat) (ps : List (List UInt8)) (a : Option Addr) (c : Nat) (w : World), n ≤ f → h.length = 32 → i < n → n < 18446744073709551616 →
    (∀ p ∈ ps, p.length = 32) → ps.length = sizeN i n → Rd w 32 (.slice a ps.length c) ps.length (ps.flatMap bv) → TabsR w →
    Calls Tryd.prog 72 #[.int .i64 W, .agg (bv h).toArray, .int .u64 i, .int .u64 n, .slice a ps.length c] w fun e w' => e = .returned (.agg (bv (cl (nodeH W) 64 i (n - 1) h ps)).toArray) ∧ Below w.heap.size w w' := by
  intro f
  induction f with
  | zero => intro h i n ps a c w hf; intros; omega
  | succ f ih =>
    intro h i n ps a c w hf hh hi hn h32 hps hr hT
    have hz := (zero_of_info info32).1
    have HZ := Lib.hid (show (zs 32).length = 32 by simp [zs])
    obtain ⟨w0, hw0⟩ : ∃ x : World, x = (w.alloc (.cells (bv h).toArray 35)).alloc (.cells (bv (zs 32)).toArray 35) := ⟨_, rfl⟩
    have hbox : w0.heap[w.heap.size]? = some (.cells (bv h).toArray 35 (0, 0)) := by
      rw [hw0, heap_alloc_old _ _ (by simp)]; exact heap_alloc_new _ _
    have hrow : w0.heap[w.heap.size + 1]? = some (.cells (bv (zs 32)).toArray 35 (0, 0)) := by
      rw [hw0]
      have := heap_alloc_new (w.alloc (.cells (bv h).toArray 35)) (.cells (bv (zs 32)).toArray 35)
      simpa using this
    have hbw0 : Below w.heap.size w w0 := by rw [hw0]; exact ((Below.refl _ _).alloc (Nat.le_refl _) _).alloc (by simp) _
    have HW0 := Lib.hid hw0
    have H0 := Lib.hid (And.intro hbox (And.intro hrow hbw0))
    clear hw0 hbox hrow hbw0
    by_cases h1 : n = 1
    · subst h1
      have e0 : cl (nodeH W) 64 i (1 - 1) h ps = h := by
        have h0 : ps = [] := by
          apply List.eq_nil_of_length_eq_zero
          rw [hps, sizeN, if_pos hi, show i = 0 by omega]; exact sz_zero 64
        rw [h0, cl_nil]
      rw [e0]
      have HH := Lib.hid hh
      clear hps hr hT h32 ih e0 hh
      go_enter Tryd.func72, Tryd.ntmps72
      go_upto_region 1 with fail
      rw [show (w.alloc (.cells (bv h).toArray 35)).alloc (.cells (bv (zs 32)).toArray 35) = w0 from HW0.out.symm]
      go_wp2_with (first
        | (with_reducible show wpList _ _ _ (⟨some 15, _, _, _, _, _⟩ :: _) _ _; refine wpList_load_row rfl _ _ rfl w.heap.size rfl _ _ (0, 0) _ H0.out.1 Tryd.underlying35 rfl (hInfo _ HH.out) ?_)
        | (with_reducible show wpList _ _ _ (⟨none, Op.store _ _ _, _, _, _, _⟩ :: _) _ _; refine wpList_store_whole rfl _ _ _ rfl (w.heap.size + 1) (bv h) rfl rfl (bv (zs 32)) _ H0.out.2.1 (hInfo' _ HH.out) (by rw [bv_length, bv_length, HH.out]; simp [zs]) (bv_one _) ?_; intro w9 HG9 hg9))
      refine bodyPost_ret (v := .agg (bv h).toArray) ?_ ?_ ?_
      · exact results_cell_row Tryd.results72 _ _ (w.heap.size + 1) 35 _ (0, 0) _ rfl HG9.out Tryd.underlying35 rfl (hInfo _ HH.out)
      · rfl
      · exact ⟨rfl, below_grow H0.out.2.2 hg9 (by omega) (Array.getElem?_eq_some_iff.1 H0.out.2.1).1⟩
    · have h2 : 2 ≤ n := by omega
      have hsz : ps.length = sz 64 i (n - 1) := by rw [hps, sizeN, if_pos hi]
      have htop := sz_top i n h2 (by omega) hi
      obtain ⟨m, hm⟩ : ∃ m, ps.length = m + 1 := ⟨ps.length - 1, by omega⟩
      obtain ⟨pl, hpl⟩ : ∃ p, ps[m]? = some p := ⟨ps[m], List.getElem?_eq_getElem (by omega)⟩
      have hpl32 := h32 pl (List.mem_of_getElem? hpl)
      have hqs : ps = ps.take m ++ [pl] := by
        have := List.take_append_drop m ps
        rw [List.drop_eq_getElem_cons (by omega), List.drop_of_length_le (by omega), (List.getElem?_eq_some_iff.1 hpl).2] at this
        exact this.symm
      have hql : (ps.take m).length = m := by rw [List.length_take]; omega
      have hct := cl_top (nodeH W) i n h pl (ps.take m) h2 (by omega) hi (by rw [hql]; omega)
      rw [← hqs] at hct
      obtain ⟨b, off, c', hv, hcap, hcell⟩ := hr.atN (by omega) (by omega)
      simp only [Value.slice.injEq, true_and] at hv
      obtain ⟨rfl, rfl⟩ := hv
      have hrg := range_at (w := w) h32 hpl hcell
      have hrq : Rd w 32 (.slice (some ⟨b, off, none⟩) m c) m ((ps.take m).flatMap bv) := by rw [flat_take32 _ _ h32]; exact rd_take hr m (by omega)
      have hq32 : ∀ p ∈ ps.take m, p.length = 32 := fun p hp => h32 p (List.mem_of_mem_take hp)
      have hcap2 : m + 1 ≤ c := by rw [← hm]; exact hcap
      have hm64 : m ≤ 64 := by have := sz_le 64 i (n - 1); omega
      rw [hm]
      obtain ⟨qs, hqe⟩ : ∃ q, q = ps.take m := ⟨_, rfl⟩
      rw [← hqe] at hct hql hrq hq32
      have hsp := fun wx => Split64_any n wx h2 hn
      have hK1 := top_lt n h2
      have hK0 := top_pos n
      rw [hsz] at hm
      obtain ⟨K, hK⟩ : ∃ k, k = top n := ⟨_, rfl⟩
      rw [← hK] at hct hsp hK1 hK0 htop
      obtain ⟨rt, hrt⟩ : ∃ x, x = cl (nodeH W) 64 i (n - 1) h ps := ⟨_, rfl⟩
      have hrt32 : rt.length = 32 := by rw [hrt]; exact cl_32 W _ _ _ _ _ hh
      rw [← hrt] at hct ⊢
      have HSP := Lib.hid hsp
      have y1 : ((n : Int) == 1) = false := by simp; omega
      have y2 : IntKind.i64.wrap (((m + 1 : Nat) : Int) - 1) = (m : Int) := (IntWalk.i64_in _ (by omega)).trans (by omega)
      have y3 : IntKind.i64.wrap ((m : Int) + 1 - 1) = (m : Int) := (IntWalk.i64_in _ (by omega)).trans (by omega)
      by_cases hik : i < K
      · rw [if_pos hik] at hct htop
        have hup := fun wx (hb : Below w.heap.size w wx) => ih h i K qs (some ⟨b, off, none⟩) c wx (by omega) hh hik (by omega) hq32 (by rw [hql, sizeN, if_pos hik]; omega) (by rw [hql]; exact hrq.keep hb) (hT.keepB hb)
        rw [hql] at hup
        obtain ⟨ru, hru⟩ : ∃ x, x = cl (nodeH W) 64 i (K - 1) h qs := ⟨_, rfl⟩
        have hru32 : ru.length = 32 := by rw [hru]; exact cl_32 W _ _ _ _ _ hh
        rw [← hru] at hup hct
        have hnd := fun wx (hb : Below w.heap.size w wx) => refNode_any W ru pl wx hru32 hpl32 hW (hT.keepB hb)
        rw [← hct] at hnd
        have y4 : (i : Int) < (K : Int) := by omega
        have hrow0' := H0.out.2.1
        have HUP0 := Lib.hid hup
        have HND0 := Lib.hid hnd
        have HLN := Lib.hid (And.intro hh (And.intro hpl32 hrt32))
        have HRG0 := Lib.hid hrg
        clear hup hnd hrg hrq hq32 hql hqe hqs hpl hct hsz htop hru hru32 hrt hrt32 hpl32 hsp ih h32 hps hr hT hcell hcap hm hrow0' hK hh
        go_enter Tryd.func72, Tryd.ntmps72
        go_upto_region 1 with fail
        rw [show (w.alloc (.cells (bv h).toArray 35)).alloc (.cells (bv (zs 32)).toArray 35) = w0 from HW0.out.symm]
        go_wp2_with fail
        refine (HSP.out _).mono ?_
        rintro e w1 ⟨rfl, hb1⟩
        obtain ⟨R, hR⟩ : ∃ R, R = w.heap.size + 1 := ⟨_, rfl⟩
        obtain ⟨g6, hg6⟩ : ∃ g, g = w.heap.size := ⟨_, rfl⟩
        have hrow0 : w1.heap[R]? = some (.cells (bv (zs 32)).toArray 35 (0, 0)) := by rw [hR]; exact (hb1.block _ (Array.getElem?_eq_some_iff.1 H0.out.2.1).1).trans H0.out.2.1
        have hbox0 : w1.heap[g6]? = some (.cells (bv h).toArray 35 (0, 0)) := by rw [hg6]; exact (hb1.block _ (Array.getElem?_eq_some_iff.1 H0.out.1).1).trans H0.out.1
        have hbw : Below w.heap.size w w1 := H0.out.2.2.trans (hb1.mono H0.out.2.2.size)
        have hRs : R ≤ w1.heap.size := Nat.le_of_lt (Array.getElem?_eq_some_iff.1 hrow0).1
        have hgR : g6 < R := by omega
        have hsub : ∀ wx, Below R w1 wx → Below w.heap.size w wx := fun wx hx => hbw.trans (hx.mono (by omega))
        have HBW := Lib.hid hbw
        have HRE := Lib.hid hR
        have HUP := Lib.hid (fun wx (hx : Below R w1 wx) => HUP0.out wx (hsub wx hx))
        have HND := Lib.hid (fun wx (hx : Below R w1 wx) => HND0.out wx (hsub wx hx))
        have HRG := Lib.hid (fun wx (hx : Below R w1 wx) => show wx.rangeAt b (off + m * 32) (bv pl) from fun q u hu => ((hsub wx hx).cell (World.block_lt_of_cell? w _ (HRG0.out q u hu))).trans (HRG0.out q u hu))
        have HBX := Lib.hid (fun wx (hx : Below R w1 wx) => (hx.block g6 hgR).trans hbox0)
        rw [← hR, ← hg6]
        clear hb1 hbw hR hsub HUP0 HND0 HRG0 HSP hbox0 hg6
        go_upto_region 6 with fail
        refine wp_region_until [some 24, some 25, some 26, some 27, some 28, some 29, some 30, some 31, some 32, some 33, some 34, some 35, some 36, some 37, none] [] 14 (fun wx => wx.heap[R]? = some (.cells (bv (zs 32)).toArray 35 (0, 0))) [0, 1, 2, 3, 4, 5, 6, 7, 8, 9, 10, 11, 12, 13, 14] (upaF W g6 i n K b off m c R h ru pl rt) (kOne 14 R) (fun wx => Below R w1 wx) (by kernel_rfl) (by kernel_rfl) rfl (by kernel_rfl) (by kernel_rfl) (Below.refl _ _).drew hrow0 ((fun _ hj _ _ k h => ((kOne_below hj k).block _ (Array.getElem?_eq_some_iff.1 h).1).trans h)) (fun _ _ => kOne_refl _ _ _ _) (fun _ _ _ h k => h.trans (kOne_base (Nat.le_trans hRs h.size) k)) ?hF ?hstep ?hend
        case hF =>
          exact ⟨fun _ _ _ _ _ _ h => h, ⟨fun _ _ _ _ _ _ h => h, ⟨fun _ _ _ _ _ _ h => h, ⟨fun _ _ _ _ _ _ h => h, ⟨fun _ _ _ _ _ _ h => h, ⟨fun _ _ _ _ _ _ h => h, ⟨fun _ _ _ _ _ _ h => h, ⟨fun _ _ _ _ _ _ h => h, ⟨fun _ _ _ _ _ _ h => h, ⟨fun _ _ _ _ _ _ h => h, ⟨fun _ _ _ _ _ _ h => h, ⟨fun _ _ _ _ _ _ h => h, ⟨fun _ _ _ _ _ _ h => h, ⟨fun _ _ _ _ _ _ h => h, ⟨fun j hg _ _ _ k h => ((kOne_below (fun e => by subst e; exact absurd hg (by rw [show goneB _ 14 14 = true by kernel_rfl]; simp)) k).block _ (Array.getElem?_eq_some_iff.1 h).1).trans h, trivial⟩⟩⟩⟩⟩⟩⟩⟩⟩⟩⟩⟩⟩⟩⟩
        case hstep =>
          refine ⟨fun r wx hG hs hq hf => ?_, ?_⟩
          · have hQ := hq rfl
            have e0 : r 0 = .int .i64 W := hs 0 rfl
            refine (if_pos rfl).symm ▸ ?_
            clear hs hq hf
            unfold gives
            go_simp
            exact ⟨kOne_refl _ _ _ _, rfl⟩
          refine ⟨fun r wx hG hs hq hf => ?_, ?_⟩
          · have hQ := hq rfl
            have e0 : r 0 = .int .i64 W := hs 0 rfl
            refine (if_pos rfl).symm ▸ ?_
            clear hs hq hf
            unfold gives
            go_simp
            exact ⟨kOne_refl _ _ _ _, rfl⟩
          refine ⟨fun r wx hG hs hq hf => ?_, ?_⟩
          · have hQ := hq rfl
            have e6 : r 6 = .pointer (some ⟨g6, 0, none⟩) := hs 6 rfl
            refine (if_pos rfl).symm ▸ ?_
            clear hs hq hf
            unfold gives
            refine gives_load_row 35 _ rfl g6 e6 35 _ (0, 0) _ (HBX.out wx hG) Tryd.underlying35 rfl (hInfo _ HLN.out.1) ?_
            exact ⟨kOne_refl _ _ _ _, rfl⟩
          refine ⟨fun r wx hG hs hq hf => ?_, ?_⟩
          · have hQ := hq rfl
            have e2 : r 2 = .int .u64 i := hs 2 rfl
            refine (if_pos rfl).symm ▸ ?_
            clear hs hq hf
            unfold gives
            go_simp
            exact ⟨kOne_refl _ _ _ _, rfl⟩
          refine ⟨fun r wx hG hs hq hf => ?_, ?_⟩
          · have hQ := hq rfl
            have e11 : r 11 = .int .u64 K := hs 11 rfl
            refine (if_pos rfl).symm ▸ ?_
            clear hs hq hf
            unfold gives
            go_simp
            exact ⟨kOne_refl _ _ _ _, rfl⟩
          refine ⟨fun r wx hG hs hq hf => ?_, ?_⟩
          · have hQ := hq rfl
            have e4 : r 4 = .slice (some ⟨b, off, none⟩) (m + 1) c := hs 4 rfl
            refine (if_pos rfl).symm ▸ ?_
            clear hs hq hf
            unfold gives
            go_simp
            exact ⟨kOne_refl _ _ _ _, rfl⟩
          refine ⟨fun r wx hG hs hq hf => ?_, ?_⟩
          · have hQ := hq rfl
            have e12 : r 12 = .int .i64 m := hs 12 rfl
            refine (if_pos rfl).symm ▸ ?_
            clear hs hq hf
            unfold gives
            go_simp
            exact ⟨kOne_refl _ _ _ _, rfl⟩
          refine ⟨fun r wx hG hs hq hf => ?_, ?_⟩
          · have hQ := hq rfl
            have h5 : r 29 = .slice (some ⟨b, off, none⟩) (m + 1) c := hf.1
            have h6 : r 30 = .int .i64 (m : Nat) := hf.2.1
            refine (if_pos rfl).symm ▸ ?_
            clear hs hq hf
            unfold gives
            have z0 : (0 : Int) ≤ (m : Int) := by omega
            have z1 : (m : Int) ≤ (c : Int) := by omega
            go_simp
            exact ⟨kOne_refl _ _ _ _, rfl⟩
          refine ⟨fun r wx hG hs hq hf => ?_, ?_⟩
          · have hQ := hq rfl
            have h1 : r 25 = .int .i64 W := hf.1
            have h2 : r 26 = .agg (bv h).toArray := hf.2.1
            have h3 : r 27 = .int .u64 i := hf.2.2.1
            have h4 : r 28 = .int .u64 K := hf.2.2.2.1
            have h7 : r 31 = .slice (some ⟨b, off, none⟩) m c := hf.2.2.2.2.1
            refine (if_pos rfl).symm ▸ ?_
            clear hs hq hf
            unfold gives
            go_simp
            refine (HUP.out wx hG).mono ?_
            rintro e wy ⟨rfl, hb1⟩
            exact ⟨_, rfl, kOne_of rfl hb1, rfl⟩
          refine ⟨fun r wx hG hs hq hf => ?_, ?_⟩
          · have hQ := hq rfl
            have e4 : r 4 = .slice (some ⟨b, off, none⟩) (m + 1) c := hs 4 rfl
            refine (if_pos rfl).symm ▸ ?_
            clear hs hq hf
            unfold gives
            go_simp
            exact ⟨kOne_refl _ _ _ _, rfl⟩
          refine ⟨fun r wx hG hs hq hf => ?_, ?_⟩
          · have hQ := hq rfl
            have e12 : r 12 = .int .i64 m := hs 12 rfl
            refine (if_pos rfl).symm ▸ ?_
            clear hs hq hf
            unfold gives
            go_simp
            exact ⟨kOne_refl _ _ _ _, rfl⟩
          refine ⟨fun r wx hG hs hq hf => ?_, ?_⟩
          · have hQ := hq rfl
            have h9 : r 33 = .slice (some ⟨b, off, none⟩) (m + 1) c := hf.1
            have h10 : r 34 = .int .i64 (m : Nat) := hf.2.1
            refine (if_pos rfl).symm ▸ ?_
            clear hs hq hf
            unfold gives
            have z0 : (0 : Int) ≤ (m : Int) := by omega
            have z1 : (m : Int) < ((m + 1 : Nat) : Int) := by omega
            have z2 : (m : Int) < (m : Int) + 1 := by omega
            go_simp
            exact ⟨kOne_refl _ _ _ _, rfl⟩
          refine ⟨fun r wx hG hs hq hf => ?_, ?_⟩
          · have hQ := hq rfl
            have h11 : r 35 = .pointer (some ⟨b, off + m * 32, none⟩) := hf.1
            refine (if_pos rfl).symm ▸ ?_
            clear hs hq hf
            unfold gives
            refine gives_load_mid 35 _ rfl b (off + m * 32) h11 (bv pl) _ (HRG.out wx hG) Tryd.underlying35 rfl (hInfo' _ HLN.out.2.1) ⟨kOne_refl _ _ _ _, rfl⟩
          refine ⟨fun r wx hG hs hq hf => ?_, ?_⟩
          · have hQ := hq rfl
            have h0 : r 24 = .int .i64 W := hf.1
            have h8 : r 32 = .agg (bv ru).toArray := hf.2.1
            have h12 : r 36 = .agg (bv pl).toArray := hf.2.2.1
            refine (if_pos rfl).symm ▸ ?_
            clear hs hq hf
            unfold gives
            go_simp
            refine (HND.out wx hG).mono ?_
            rintro e wy ⟨rfl, hb1⟩
            exact ⟨_, rfl, kOne_of rfl hb1, rfl⟩
          refine ⟨fun r wx hG hs hq hf => ?_, ?_⟩
          · have hQ := hq rfl
            have e10 : r 10 = .pointer (some ⟨R, 0, none⟩) := hs 10 rfl
            have h13 : r 37 = .agg (bv rt).toArray := hf.1
            refine (if_pos rfl).symm ▸ ?_
            clear hs hq hf
            unfold gives
            refine gives_store_row 35 _ _ rfl R (bv rt) e10 h13 (bv (zs 32)) 35 hQ (hInfo' _ HLN.out.2.2) (by rw [bv_length, bv_length, HLN.out.2.2]; simp [zs]) (bv_one _) ?_
            intro wy h1 h2
            exact ⟨kOne_at (below_grow (Below.refl _ _) h2 (Nat.le_refl _) (Array.getElem?_eq_some_iff.1 hQ).1), h1⟩
          exact trivial
        case hend =>
          intro u wz hG hfin
          have z14 : wz.heap[R]? = some (.cells (bv rt).toArray 35 (0, 0)) := hfin 14 (by decide) (by kernel_rfl)
          clear hfin
          simp only [fill]
          have HZR := Lib.hid z14
          clear z14
          go_simp
          go_wp2_with fail
          refine bodyPost_ret (v := .agg (bv rt).toArray) ?_ ?_ ?_
          · exact results_cell_row Tryd.results72 _ _ R 35 _ (0, 0) _ rfl HZR.out Tryd.underlying35 rfl (hInfo _ HLN.out.2.2)
          · rfl
          · exact ⟨rfl, HBW.out.trans (hG.mono (by have := HRE.out; omega))⟩
      · rw [if_neg hik] at hct htop
        have hup := fun wx (hb : Below w.heap.size w wx) => ih h (i - K) (n - K) qs (some ⟨b, off, none⟩) c wx (by omega) hh (by omega) (by omega) hq32 (by rw [hql, sizeN, if_pos (by omega)]; omega) (by rw [hql]; exact hrq.keep hb) (hT.keepB hb)
        rw [hql] at hup
        obtain ⟨ru, hru⟩ : ∃ x, x = cl (nodeH W) 64 (i - K) (n - K - 1) h qs := ⟨_, rfl⟩
        have hru32 : ru.length = 32 := by rw [hru]; exact cl_32 W _ _ _ _ _ hh
        rw [← hru] at hup hct
        have hnd := fun wx (hb : Below w.heap.size w wx) => refNode_any W pl ru wx hpl32 hru32 hW (hT.keepB hb)
        rw [← hct] at hnd
        have y4 : ¬ (i : Int) < (K : Int) := by omega
        have hrow0' := H0.out.2.1
        have HUP0 := Lib.hid hup
        have HND0 := Lib.hid hnd
        have HLN := Lib.hid (And.intro hh (And.intro hpl32 hrt32))
        have HRG0 := Lib.hid hrg
        clear hup hnd hrg hrq hq32 hql hqe hqs hpl hct hsz htop hru hru32 hrt hrt32 hpl32 hsp ih h32 hps hr hT hcell hcap hm hrow0' hK hh
        go_enter Tryd.func72, Tryd.ntmps72
        go_upto_region 1 with fail
        rw [show (w.alloc (.cells (bv h).toArray 35)).alloc (.cells (bv (zs 32)).toArray 35) = w0 from HW0.out.symm]
        go_wp2_with fail
        refine (HSP.out _).mono ?_
        rintro e w1 ⟨rfl, hb1⟩
        obtain ⟨R, hR⟩ : ∃ R, R = w.heap.size + 1 := ⟨_, rfl⟩
        obtain ⟨g6, hg6⟩ : ∃ g, g = w.heap.size := ⟨_, rfl⟩
        have hrow0 : w1.heap[R]? = some (.cells (bv (zs 32)).toArray 35 (0, 0)) := by rw [hR]; exact (hb1.block _ (Array.getElem?_eq_some_iff.1 H0.out.2.1).1).trans H0.out.2.1
        have hbox0 : w1.heap[g6]? = some (.cells (bv h).toArray 35 (0, 0)) := by rw [hg6]; exact (hb1.block _ (Array.getElem?_eq_some_iff.1 H0.out.1).1).trans H0.out.1
        have hbw : Below w.heap.size w w1 := H0.out.2.2.trans (hb1.mono H0.out.2.2.size)
        have hRs : R ≤ w1.heap.size := Nat.le_of_lt (Array.getElem?_eq_some_iff.1 hrow0).1
        have hgR : g6 < R := by omega
        have hsub : ∀ wx, Below R w1 wx → Below w.heap.size w wx := fun wx hx => hbw.trans (hx.mono (by omega))
        have HBW := Lib.hid hbw
        have HRE := Lib.hid hR
        have HUP := Lib.hid (fun wx (hx : Below R w1 wx) => HUP0.out wx (hsub wx hx))
        have HND := Lib.hid (fun wx (hx : Below R w1 wx) => HND0.out wx (hsub wx hx))
        have HRG := Lib.hid (fun wx (hx : Below R w1 wx) => show wx.rangeAt b (off + m * 32) (bv pl) from fun q u hu => ((hsub wx hx).cell (World.block_lt_of_cell? w _ (HRG0.out q u hu))).trans (HRG0.out q u hu))
        have HBX := Lib.hid (fun wx (hx : Below R w1 wx) => (hx.block g6 hgR).trans hbox0)
        rw [← hR, ← hg6]
        clear hb1 hbw hR hsub HUP0 HND0 HRG0 HSP hbox0 hg6
        go_upto_region 7 with fail
        refine wp_region_until [some 38, some 39, some 40, some 41, some 42, some 43, some 44, some 45, some 46, some 47, some 48, some 49, some 50, some 51, some 52, some 53, some 54, some 55, none] [] 18 (fun wx => wx.heap[R]? = some (.cells (bv (zs 32)).toArray 35 (0, 0))) [0, 1, 2, 3, 4, 5, 6, 7, 8, 9, 10, 11, 12, 13, 14, 15, 16, 17, 18] (upbF W g6 i n K b off m c R h ru pl rt) (kOne 18 R) (fun wx => Below R w1 wx) (by kernel_rfl) (by kernel_rfl) rfl (by kernel_rfl) (by kernel_rfl) (Below.refl _ _).drew hrow0 ((fun _ hj _ _ k h => ((kOne_below hj k).block _ (Array.getElem?_eq_some_iff.1 h).1).trans h)) (fun _ _ => kOne_refl _ _ _ _) (fun _ _ _ h k => h.trans (kOne_base (Nat.le_trans hRs h.size) k)) ?hF ?hstep ?hend
        case hF =>
          exact ⟨fun _ _ _ _ _ _ h => h, ⟨fun _ _ _ _ _ _ h => h, ⟨fun _ _ _ _ _ _ h => h, ⟨fun _ _ _ _ _ _ h => h, ⟨fun _ _ _ _ _ _ h => h, ⟨fun _ _ _ _ _ _ h => h, ⟨fun _ _ _ _ _ _ h => h, ⟨fun _ _ _ _ _ _ h => h, ⟨fun _ _ _ _ _ _ h => h, ⟨fun _ _ _ _ _ _ h => h, ⟨fun _ _ _ _ _ _ h => h, ⟨fun _ _ _ _ _ _ h => h, ⟨fun _ _ _ _ _ _ h => h, ⟨fun _ _ _ _ _ _ h => h, ⟨fun _ _ _ _ _ _ h => h, ⟨fun _ _ _ _ _ _ h => h, ⟨fun _ _ _ _ _ _ h => h, ⟨fun _ _ _ _ _ _ h => h, ⟨fun j hg _ _ _ k h => ((kOne_below (fun e => by subst e; exact absurd hg (by rw [show goneB _ 18 18 = true by kernel_rfl]; simp)) k).block _ (Array.getElem?_eq_some_iff.1 h).1).trans h, trivial⟩⟩⟩⟩⟩⟩⟩⟩⟩⟩⟩⟩⟩⟩⟩⟩⟩⟩⟩
        case hstep =>
          refine ⟨fun r wx hG hs hq hf => ?_, ?_⟩
          · have hQ := hq rfl
            have e0 : r 0 = .int .i64 W := hs 0 rfl
            refine (if_pos rfl).symm ▸ ?_
            clear hs hq hf
            unfold gives
            go_simp
            exact ⟨kOne_refl _ _ _ _, rfl⟩
          refine ⟨fun r wx hG hs hq hf => ?_, ?_⟩
          · have hQ := hq rfl
            have e4 : r 4 = .slice (some ⟨b, off, none⟩) (m + 1) c := hs 4 rfl
            refine (if_pos rfl).symm ▸ ?_
            clear hs hq hf
            unfold gives
            go_simp
            exact ⟨kOne_refl _ _ _ _, rfl⟩
          refine ⟨fun r wx hG hs hq hf => ?_, ?_⟩
          · have hQ := hq rfl
            have e12 : r 12 = .int .i64 m := hs 12 rfl
            refine (if_pos rfl).symm ▸ ?_
            clear hs hq hf
            unfold gives
            go_simp
            exact ⟨kOne_refl _ _ _ _, rfl⟩
          refine ⟨fun r wx hG hs hq hf => ?_, ?_⟩
          · have hQ := hq rfl
            have h1 : r 39 = .slice (some ⟨b, off, none⟩) (m + 1) c := hf.1
            have h2 : r 40 = .int .i64 (m : Nat) := hf.2.1
            refine (if_pos rfl).symm ▸ ?_
            clear hs hq hf
            unfold gives
            have z0 : (0 : Int) ≤ (m : Int) := by omega
            have z1 : (m : Int) < ((m + 1 : Nat) : Int) := by omega
            have z2 : (m : Int) < (m : Int) + 1 := by omega
            go_simp
            exact ⟨kOne_refl _ _ _ _, rfl⟩
          refine ⟨fun r wx hG hs hq hf => ?_, ?_⟩
          · have hQ := hq rfl
            have h3 : r 41 = .pointer (some ⟨b, off + m * 32, none⟩) := hf.1
            refine (if_pos rfl).symm ▸ ?_
            clear hs hq hf
            unfold gives
            refine gives_load_mid 35 _ rfl b (off + m * 32) h3 (bv pl) _ (HRG.out wx hG) Tryd.underlying35 rfl (hInfo' _ HLN.out.2.1) ⟨kOne_refl _ _ _ _, rfl⟩
          refine ⟨fun r wx hG hs hq hf => ?_, ?_⟩
          · have hQ := hq rfl
            have e0 : r 0 = .int .i64 W := hs 0 rfl
            refine (if_pos rfl).symm ▸ ?_
            clear hs hq hf
            unfold gives
            go_simp
            exact ⟨kOne_refl _ _ _ _, rfl⟩
          refine ⟨fun r wx hG hs hq hf => ?_, ?_⟩
          · have hQ := hq rfl
            have e6 : r 6 = .pointer (some ⟨g6, 0, none⟩) := hs 6 rfl
            refine (if_pos rfl).symm ▸ ?_
            clear hs hq hf
            unfold gives
            refine gives_load_row 35 _ rfl g6 e6 35 _ (0, 0) _ (HBX.out wx hG) Tryd.underlying35 rfl (hInfo _ HLN.out.1) ?_
            exact ⟨kOne_refl _ _ _ _, rfl⟩
          refine ⟨fun r wx hG hs hq hf => ?_, ?_⟩
          · have hQ := hq rfl
            have e2 : r 2 = .int .u64 i := hs 2 rfl
            refine (if_pos rfl).symm ▸ ?_
            clear hs hq hf
            unfold gives
            go_simp
            exact ⟨kOne_refl _ _ _ _, rfl⟩
          refine ⟨fun r wx hG hs hq hf => ?_, ?_⟩
          · have hQ := hq rfl
            have e11 : r 11 = .int .u64 K := hs 11 rfl
            refine (if_pos rfl).symm ▸ ?_
            clear hs hq hf
            unfold gives
            go_simp
            exact ⟨kOne_refl _ _ _ _, rfl⟩
          refine ⟨fun r wx hG hs hq hf => ?_, ?_⟩
          · have hQ := hq rfl
            have h7 : r 45 = .int .u64 i := hf.1
            have h8 : r 46 = .int .u64 K := hf.2.1
            refine (if_pos rfl).symm ▸ ?_
            clear hs hq hf
            unfold gives
            have zw : IntKind.u64.wrap ((i : Int) - (K : Int)) = ((i - K : Nat) : Int) := (IntWalk.u64_in _ (by omega)).trans (by omega)
            go_simp
            exact ⟨kOne_refl _ _ _ _, rfl⟩
          refine ⟨fun r wx hG hs hq hf => ?_, ?_⟩
          · have hQ := hq rfl
            have e3 : r 3 = .int .u64 n := hs 3 rfl
            refine (if_pos rfl).symm ▸ ?_
            clear hs hq hf
            unfold gives
            go_simp
            exact ⟨kOne_refl _ _ _ _, rfl⟩
          refine ⟨fun r wx hG hs hq hf => ?_, ?_⟩
          · have hQ := hq rfl
            have e11 : r 11 = .int .u64 K := hs 11 rfl
            refine (if_pos rfl).symm ▸ ?_
            clear hs hq hf
            unfold gives
            go_simp
            exact ⟨kOne_refl _ _ _ _, rfl⟩
          refine ⟨fun r wx hG hs hq hf => ?_, ?_⟩
          · have hQ := hq rfl
            have h10 : r 48 = .int .u64 n := hf.1
            have h11 : r 49 = .int .u64 K := hf.2.1
            refine (if_pos rfl).symm ▸ ?_
            clear hs hq hf
            unfold gives
            have zw : IntKind.u64.wrap ((n : Int) - (K : Int)) = ((n - K : Nat) : Int) := (IntWalk.u64_in _ (by omega)).trans (by omega)
            go_simp
            exact ⟨kOne_refl _ _ _ _, rfl⟩
          refine ⟨fun r wx hG hs hq hf => ?_, ?_⟩
          · have hQ := hq rfl
            have e4 : r 4 = .slice (some ⟨b, off, none⟩) (m + 1) c := hs 4 rfl
            refine (if_pos rfl).symm ▸ ?_
            clear hs hq hf
            unfold gives
            go_simp
            exact ⟨kOne_refl _ _ _ _, rfl⟩
          refine ⟨fun r wx hG hs hq hf => ?_, ?_⟩
          · have hQ := hq rfl
            have e12 : r 12 = .int .i64 m := hs 12 rfl
            refine (if_pos rfl).symm ▸ ?_
            clear hs hq hf
            unfold gives
            go_simp
            exact ⟨kOne_refl _ _ _ _, rfl⟩
          refine ⟨fun r wx hG hs hq hf => ?_, ?_⟩
          · have hQ := hq rfl
            have h13 : r 51 = .slice (some ⟨b, off, none⟩) (m + 1) c := hf.1
            have h14 : r 52 = .int .i64 (m : Nat) := hf.2.1
            refine (if_pos rfl).symm ▸ ?_
            clear hs hq hf
            unfold gives
            have z0 : (0 : Int) ≤ (m : Int) := by omega
            have z1 : (m : Int) ≤ (c : Int) := by omega
            go_simp
            exact ⟨kOne_refl _ _ _ _, rfl⟩
          refine ⟨fun r wx hG hs hq hf => ?_, ?_⟩
          · have hQ := hq rfl
            have h5 : r 43 = .int .i64 W := hf.1
            have h6 : r 44 = .agg (bv h).toArray := hf.2.1
            have h9 : r 47 = .int .u64 ((i - K : Nat) : Int) := hf.2.2.1
            have h12 : r 50 = .int .u64 ((n - K : Nat) : Int) := hf.2.2.2.1
            have h15 : r 53 = .slice (some ⟨b, off, none⟩) m c := hf.2.2.2.2.1
            refine (if_pos rfl).symm ▸ ?_
            clear hs hq hf
            unfold gives
            go_simp
            refine (HUP.out wx hG).mono ?_
            rintro e wy ⟨rfl, hb1⟩
            exact ⟨_, rfl, kOne_of rfl hb1, rfl⟩
          refine ⟨fun r wx hG hs hq hf => ?_, ?_⟩
          · have hQ := hq rfl
            have h0 : r 38 = .int .i64 W := hf.1
            have h4 : r 42 = .agg (bv pl).toArray := hf.2.1
            have h16 : r 54 = .agg (bv ru).toArray := hf.2.2.1
            refine (if_pos rfl).symm ▸ ?_
            clear hs hq hf
            unfold gives
            go_simp
            refine (HND.out wx hG).mono ?_
            rintro e wy ⟨rfl, hb1⟩
            exact ⟨_, rfl, kOne_of rfl hb1, rfl⟩
          refine ⟨fun r wx hG hs hq hf => ?_, ?_⟩
          · have hQ := hq rfl
            have e10 : r 10 = .pointer (some ⟨R, 0, none⟩) := hs 10 rfl
            have h17 : r 55 = .agg (bv rt).toArray := hf.1
            refine (if_pos rfl).symm ▸ ?_
            clear hs hq hf
            unfold gives
            refine gives_store_row 35 _ _ rfl R (bv rt) e10 h17 (bv (zs 32)) 35 hQ (hInfo' _ HLN.out.2.2) (by rw [bv_length, bv_length, HLN.out.2.2]; simp [zs]) (bv_one _) ?_
            intro wy h1 h2
            exact ⟨kOne_at (below_grow (Below.refl _ _) h2 (Nat.le_refl _) (Array.getElem?_eq_some_iff.1 hQ).1), h1⟩
          exact trivial
        case hend =>
          intro u wz hG hfin
          have z18 : wz.heap[R]? = some (.cells (bv rt).toArray 35 (0, 0)) := hfin 18 (by decide) (by kernel_rfl)
          clear hfin
          simp only [fill]
          have HZR := Lib.hid z18
          clear z18
          go_simp
          go_wp2_with fail
          refine bodyPost_ret (v := .agg (bv rt).toArray) ?_ ?_ ?_
          · exact results_cell_row Tryd.results72 _ _ R 35 _ (0, 0) _ rfl HZR.out Tryd.underlying35 rfl (hInfo _ HLN.out.2.2)
          · rfl
          · exact ⟨rfl, HBW.out.trans (hG.mono (by have := HRE.out; omega))⟩

set_option maxHeartbeats 8000000 in
set_option maxRecDepth 100000 in
theorem refClimb_any (W : Int) (h : List UInt8) (i n : Nat) (ps : List (List UInt8)) (a : Option Addr) (c : Nat) (w : World) (hW : -9223372036854775808 ≤ W ∧ W ≤ 9223372036854775807) (hh : h.length = 32) (hi : i < 18446744073709551616) (hn : n < 18446744073709551616)
    (h32 : ∀ p ∈ ps, p.length = 32) (hl0 : ps.length ≤ 140737488355328) (hr : Rd w 32 (.slice a ps.length c) ps.length (ps.flatMap bv)) (hT : TabsR w) :
    Calls Tryd.prog 49 #[.int .i64 W, .agg (bv h).toArray, .int .u64 i, .int .u64 n, .slice a ps.length c] w fun e w' => e = .returned (.tuple #[.agg (bv (climbH W h i n ps)).toArray, .int .i64 (climbE i n ps.length)]) ∧ Below w.heap.size w w' := by
  have hl := hl0
  clear hl0
  have hz := (zero_of_info info32).1
  have HZ := Lib.hid (show (zs 32).length = 32 by simp [zs])
  obtain ⟨w0, hw0⟩ : ∃ x : World, x = (w.alloc (.cells (bv h).toArray 35)).alloc (.cells (bv (zs 32)).toArray 35) := ⟨_, rfl⟩
  have hbox : w0.heap[w.heap.size]? = some (.cells (bv h).toArray 35 (0, 0)) := by
    rw [hw0, heap_alloc_old _ _ (by simp)]; exact heap_alloc_new _ _
  have hrow : w0.heap[w.heap.size + 1]? = some (.cells (bv (zs 32)).toArray 35 (0, 0)) := by
    rw [hw0]
    have := heap_alloc_new (w.alloc (.cells (bv h).toArray 35)) (.cells (bv (zs 32)).toArray 35)
    simpa using this
  have hbw0 : Below w.heap.size w w0 := by rw [hw0]; exact ((Below.refl _ _).alloc (Nat.le_refl _) _).alloc (by simp) _
  have HW0 := Lib.hid hw0
  have H0 := Lib.hid (And.intro hbox (And.intro hrow hbw0))
  clear hw0 hbox hrow hbw0
  by_cases hni : n ≤ i
  · have eE : climbE i n ps.length = 9 := if_pos hni
    have eH : climbH W h i n ps = zs 32 := by rw [climbH, eE]; rfl
    rw [eE, eH]
    have z1 : (n : Int) ≤ (i : Int) := by omega
    clear hr hT h32 eE eH
    go_enter Tryd.func49, Tryd.ntmps49
    go_upto_region 1 with fail
    rw [show (w.alloc (.cells (bv h).toArray 35)).alloc (.cells (bv (zs 32)).toArray 35) = w0 from HW0.out.symm]
    go_wp2_with (with_reducible show wpList _ _ _ (⟨none, Op.store _ _ _, _, _, _, _⟩ :: _) _ _; refine wpList_store_whole rfl _ _ _ rfl (w.heap.size + 1) (bv (zs 32)) rfl rfl (bv (zs 32)) _ H0.out.2.1 (hInfo' _ HZ.out) rfl (bv_one _) ?_; intro w9 HG9 hg9)
    have hld := run_loadVar_row (P := Tryd.prog) w9 (w.heap.size + 1) _ 35 _ (0, 0) _ HG9.out Tryd.underlying35 rfl (hInfo _ HZ.out)
    refine bodyPost_ret (v := .tuple #[.agg (bv (zs 32)).toArray, .int .i64 9]) ?_ ?_ ?_
    · simp [results, Tryd.results49, asAddr, hld]
    · rfl
    · exact ⟨rfl, below_grow H0.out.2.2 hg9 (by omega) (Array.getElem?_eq_some_iff.1 H0.out.2.1).1⟩
  have hlt : i < n := by omega
  have hsz := fun wx => refSize_any n i n wx (Nat.le_refl _) hi hn
  have z1 : ¬ (n : Int) ≤ (i : Int) := by omega
  have hle := sizeN_le i n
  by_cases hsh : ps.length < sizeN i n
  · have eE : climbE i n ps.length = 2 := by rw [climbE, if_neg hni, if_pos hsh]
    have eH : climbH W h i n ps = zs 32 := by rw [climbH, eE]; rfl
    rw [eE, eH]
    obtain ⟨m, hm⟩ : ∃ m, m = ps.length := ⟨_, rfl⟩
    obtain ⟨S, hS⟩ : ∃ S, S = sizeN i n := ⟨_, rfl⟩
    rw [← hm, ← hS] at hsh
    rw [← hS] at hsz hle
    rw [← hm] at hl ⊢
    have HSZ := Lib.hid hsz
    have z2 : (m : Int) < (S : Int) := by omega
    clear hr hT h32 eE eH hm hsz hS
    go_enter Tryd.func49, Tryd.ntmps49
    go_upto_region 1 with fail
    rw [show (w.alloc (.cells (bv h).toArray 35)).alloc (.cells (bv (zs 32)).toArray 35) = w0 from HW0.out.symm]
    go_wp2_with fail
    refine (HSZ.out _).mono ?_
    rintro e w1 ⟨rfl, hb1⟩
    have hrow1 := (hb1.block _ (Array.getElem?_eq_some_iff.1 H0.out.2.1).1).trans H0.out.2.1
    have hbox1 := (hb1.block _ (Array.getElem?_eq_some_iff.1 H0.out.1).1).trans H0.out.1
    have H1 := Lib.hid (And.intro hbox1 (And.intro hrow1 (H0.out.2.2.trans (hb1.mono H0.out.2.2.size))))
    clear hrow1 hb1 hbox1
    go_wp2_with (with_reducible show wpList _ _ _ (⟨none, Op.store _ _ _, _, _, _, _⟩ :: _) _ _; refine wpList_store_whole rfl _ _ _ rfl (w.heap.size + 1) (bv (zs 32)) rfl rfl (bv (zs 32)) _ H1.out.2.1 (hInfo' _ HZ.out) rfl (bv_one _) ?_; intro w9 HG9 hg9)
    have hld := run_loadVar_row (P := Tryd.prog) w9 (w.heap.size + 1) _ 35 _ (0, 0) _ HG9.out Tryd.underlying35 rfl (hInfo _ HZ.out)
    refine bodyPost_ret (v := .tuple #[.agg (bv (zs 32)).toArray, .int .i64 2]) ?_ ?_ ?_
    · simp [results, Tryd.results49, asAddr, hld]
    · rfl
    · exact ⟨rfl, below_grow H1.out.2.2 hg9 (by omega) (Array.getElem?_eq_some_iff.1 H1.out.2.1).1⟩
  by_cases hlo : sizeN i n < ps.length
  · have eE : climbE i n ps.length = 4 := by rw [climbE, if_neg hni, if_neg hsh, if_pos hlo]
    have eH : climbH W h i n ps = zs 32 := by rw [climbH, eE]; rfl
    rw [eE, eH]
    obtain ⟨m, hm⟩ : ∃ m, m = ps.length := ⟨_, rfl⟩
    obtain ⟨S, hS⟩ : ∃ S, S = sizeN i n := ⟨_, rfl⟩
    rw [← hm, ← hS] at hsh hlo
    rw [← hS] at hsz hle
    rw [← hm] at hl ⊢
    have HSZ := Lib.hid hsz
    have z2 : ¬ (m : Int) < (S : Int) := by omega
    have z3 : (S : Int) < (m : Int) := by omega
    clear hr hT h32 eE eH hm hsz hS
    go_enter Tryd.func49, Tryd.ntmps49
    go_upto_region 1 with fail
    rw [show (w.alloc (.cells (bv h).toArray 35)).alloc (.cells (bv (zs 32)).toArray 35) = w0 from HW0.out.symm]
    go_wp2_with fail
    refine (HSZ.out _).mono ?_
    rintro e w1 ⟨rfl, hb1⟩
    have hrow1 := (hb1.block _ (Array.getElem?_eq_some_iff.1 H0.out.2.1).1).trans H0.out.2.1
    have hbox1 := (hb1.block _ (Array.getElem?_eq_some_iff.1 H0.out.1).1).trans H0.out.1
    have H1 := Lib.hid (And.intro hbox1 (And.intro hrow1 (H0.out.2.2.trans (hb1.mono H0.out.2.2.size))))
    clear hrow1 hb1 hbox1
    go_wp2_with fail
    refine (HSZ.out _).mono ?_
    rintro e w2 ⟨rfl, hb2⟩
    have hrow2 := (hb2.block _ (Array.getElem?_eq_some_iff.1 H1.out.2.1).1).trans H1.out.2.1
    have hbox2 := (hb2.block _ (Array.getElem?_eq_some_iff.1 H1.out.1).1).trans H1.out.1
    have H2 := Lib.hid (And.intro hbox2 (And.intro hrow2 (H1.out.2.2.trans (hb2.mono H1.out.2.2.size))))
    clear hrow2 hb2 hbox2
    go_wp2_with (with_reducible show wpList _ _ _ (⟨none, Op.store _ _ _, _, _, _, _⟩ :: _) _ _; refine wpList_store_whole rfl _ _ _ rfl (w.heap.size + 1) (bv (zs 32)) rfl rfl (bv (zs 32)) _ H2.out.2.1 (hInfo' _ HZ.out) rfl (bv_one _) ?_; intro w9 HG9 hg9)
    have hld := run_loadVar_row (P := Tryd.prog) w9 (w.heap.size + 1) _ 35 _ (0, 0) _ HG9.out Tryd.underlying35 rfl (hInfo _ HZ.out)
    refine bodyPost_ret (v := .tuple #[.agg (bv (zs 32)).toArray, .int .i64 4]) ?_ ?_ ?_
    · simp [results, Tryd.results49, asAddr, hld]
    · rfl
    · exact ⟨rfl, below_grow H2.out.2.2 hg9 (by omega) (Array.getElem?_eq_some_iff.1 H2.out.2.1).1⟩
  · have eE : climbE i n ps.length = 0 := by rw [climbE, if_neg hni, if_neg hsh, if_neg hlo]
    have eH : climbH W h i n ps = cl (nodeH W) 64 i (n - 1) h ps := by rw [climbH, eE]; rfl
    have hup := fun wx (hb : Below w.heap.size w wx) => up_any W hW n h i n ps a c wx (Nat.le_refl _) hh hlt hn h32 (by omega) (hr.keep hb) (hT.keepB hb)
    rw [eE, eH]
    have ho32 := cl_32 W 64 i (n - 1) h ps hh
    obtain ⟨out, ho⟩ : ∃ o, o = cl (nodeH W) 64 i (n - 1) h ps := ⟨_, rfl⟩
    rw [← ho] at hup ho32 ⊢
    obtain ⟨m, hm⟩ : ∃ m, m = ps.length := ⟨_, rfl⟩
    obtain ⟨S, hS⟩ : ∃ S, S = sizeN i n := ⟨_, rfl⟩
    rw [← hm, ← hS] at hsh hlo
    rw [← hS] at hsz hle
    rw [← hm] at hl hup ⊢
    have HSZ := Lib.hid hsz
    have HUP := Lib.hid hup
    have HO := Lib.hid ho32
    have HH := Lib.hid hh
    have z2 : ¬ (m : Int) < (S : Int) := by omega
    have z3 : ¬ (S : Int) < (m : Int) := by omega
    clear hr hT h32 eE eH hm hsz hS hup ho ho32 hh
    go_enter Tryd.func49, Tryd.ntmps49
    go_upto_region 1 with fail
    rw [show (w.alloc (.cells (bv h).toArray 35)).alloc (.cells (bv (zs 32)).toArray 35) = w0 from HW0.out.symm]
    go_wp2_with fail
    refine (HSZ.out _).mono ?_
    rintro e w1 ⟨rfl, hb1⟩
    have hrow1 := (hb1.block _ (Array.getElem?_eq_some_iff.1 H0.out.2.1).1).trans H0.out.2.1
    have hbox1 := (hb1.block _ (Array.getElem?_eq_some_iff.1 H0.out.1).1).trans H0.out.1
    have H1 := Lib.hid (And.intro hbox1 (And.intro hrow1 (H0.out.2.2.trans (hb1.mono H0.out.2.2.size))))
    clear hrow1 hb1 hbox1
    go_wp2_with fail
    refine (HSZ.out _).mono ?_
    rintro e w2 ⟨rfl, hb2⟩
    have hrow2 := (hb2.block _ (Array.getElem?_eq_some_iff.1 H1.out.2.1).1).trans H1.out.2.1
    have hbox2 := (hb2.block _ (Array.getElem?_eq_some_iff.1 H1.out.1).1).trans H1.out.1
    have H2 := Lib.hid (And.intro hbox2 (And.intro hrow2 (H1.out.2.2.trans (hb2.mono H1.out.2.2.size))))
    clear hrow2 hb2 hbox2
    go_wp2_with (with_reducible show wpList _ _ _ (⟨some 31, _, _, _, _, _⟩ :: _) _ _; refine wpList_load_row rfl _ _ rfl w.heap.size rfl _ _ (0, 0) _ H2.out.1 Tryd.underlying35 rfl (hInfo _ HH.out) ?_)
    refine (HUP.out _ H2.out.2.2).mono ?_
    rintro e w3 ⟨rfl, hb3⟩
    have hrow3 := (hb3.block _ (Array.getElem?_eq_some_iff.1 H2.out.2.1).1).trans H2.out.2.1
    have H3 := Lib.hid (And.intro hrow3 (H2.out.2.2.trans (hb3.mono H2.out.2.2.size)))
    clear hrow3 hb3
    go_wp2_with (with_reducible show wpList _ _ _ (⟨none, Op.store _ _ _, _, _, _, _⟩ :: _) _ _; refine wpList_store_whole rfl _ _ _ rfl (w.heap.size + 1) (bv out) rfl rfl (bv (zs 32)) _ H3.out.1 (hInfo' _ HO.out) (by rw [bv_length, bv_length, HO.out]; simp [zs]) (bv_one _) ?_; intro w9 HG9 hg9)
    have hld := run_loadVar_row (P := Tryd.prog) w9 (w.heap.size + 1) _ 35 _ (0, 0) _ HG9.out Tryd.underlying35 rfl (hInfo _ HO.out)
    refine bodyPost_ret (v := .tuple #[.agg (bv out).toArray, .int .i64 0]) ?_ ?_ ?_
    · simp [results, Tryd.results49, asAddr, hld]
    · rfl
    · exact ⟨rfl, below_grow H3.out.2 hg9 (by omega) (Array.getElem?_eq_some_iff.1 H3.out.1).1⟩

set_option maxHeartbeats 8000000 in
set_option maxRecDepth 100000 in
theorem Check_any (W : Int) (h root : List UInt8) (i n : Nat) (ps : List (List UInt8)) (a : Option Addr) (c : Nat) (w : World) (hW : -9223372036854775808 ≤ W ∧ W ≤ 9223372036854775807) (hh : h.length = 32) (hrt : root.length = 32) (hi : i < 18446744073709551616) (hn : n < 18446744073709551616)
    (h32 : ∀ p ∈ ps, p.length = 32) (hl : ps.length ≤ 140737488355328) (hr : Rd w 32 (.slice a ps.length c) ps.length (ps.flatMap bv)) (hT : Tabs w) :
    Calls Tryd.prog 21 #[.int .i64 W, .agg (bv h).toArray, .int .u64 i, .int .u64 n, .slice a ps.length c, .agg (bv root).toArray] w fun e w' => e = .returned (.bool (climbE i n ps.length == 0 && climbH W h i n ps == root)) ∧ Below w.heap.size w w' := by
  have hz := (zero_of_info info32).1
  obtain ⟨w0, hw0⟩ : ∃ x : World, x = (w.alloc (.cells (bv h).toArray 35)).alloc (.cells (bv root).toArray 35) := ⟨_, rfl⟩
  have hbox : w0.heap[w.heap.size]? = some (.cells (bv h).toArray 35 (0, 0)) := by
    rw [hw0, heap_alloc_old _ _ (by simp)]; exact heap_alloc_new _ _
  have hrow : w0.heap[w.heap.size + 1]? = some (.cells (bv root).toArray 35 (0, 0)) := by
    rw [hw0]
    have := heap_alloc_new (w.alloc (.cells (bv h).toArray 35)) (.cells (bv root).toArray 35)
    simpa using this
  have hbw0 : Below w.heap.size w w0 := by rw [hw0]; exact ((Below.refl _ _).alloc (Nat.le_refl _) _).alloc (by simp) _
  have hcl := Climb_any W h i n ps a c w0 hW hh hi hn h32 hl (hr.keep hbw0) (hT.keepB hbw0)
  have hc32 := climbH_32 W h i n ps hh
  obtain ⟨out, ho⟩ : ∃ o, o = climbH W h i n ps := ⟨_, rfl⟩
  obtain ⟨E, hE⟩ : ∃ e, e = climbE i n ps.length := ⟨_, rfl⟩
  obtain ⟨m, hm⟩ : ∃ m, m = ps.length := ⟨_, rfl⟩
  rw [← hE] at hcl ⊢
  rw [← ho] at hcl hc32 ⊢
  rw [← hm] at hcl ⊢
  have HW0 := Lib.hid hw0
  have H0 := Lib.hid (And.intro hbox (And.intro hrow hbw0))
  have HH := Lib.hid (And.intro hh (And.intro hrt hc32))
  have hqe := fun w => eqIn_hash out root hc32 hrt w
  have HQ := Lib.hid hqe
  have HC := Lib.hid hcl
  clear hw0 hbox hrow hbw0 hr hT h32 hE ho hm hl hh hrt hc32 hqe hcl
  go_enter Tryd.func21, Tryd.ntmps21
  go_upto_region 1 with fail
  rw [show (w.alloc (.cells (bv h).toArray 35)).alloc (.cells (bv root).toArray 35) = w0 from HW0.out.symm]
  go_wp2_with (with_reducible show wpList _ _ _ (⟨some 17, _, _, _, _, _⟩ :: _) _ _; refine wpList_load_row rfl _ _ rfl w.heap.size rfl _ _ (0, 0) _ H0.out.1 Tryd.underlying35 rfl (hInfo _ HH.out.1) ?_)
  refine HC.out.mono ?_
  rintro e w1 ⟨rfl, hb1⟩
  have hrow1 := (hb1.block _ (Array.getElem?_eq_some_iff.1 H0.out.2.1).1).trans H0.out.2.1
  have hbw1 := H0.out.2.2.trans (hb1.mono H0.out.2.2.size)
  have H1 := Lib.hid (And.intro hrow1 hbw1)
  have H7 := Lib.hid (heap_alloc_new w1 (.cells (bv (zs 32)).toArray 35))
  clear hrow1 hbw1 hb1
  go_upto_region 2 with (with_reducible show wpList _ _ _ (⟨none, Op.store _ _ _, _, _, _, _⟩ :: _) _ _; refine wpList_store_whole rfl _ _ _ rfl w1.heap.size (bv out) rfl rfl (bv (zs 32)) _ H7.out (hInfo' _ HH.out.2.2) (by rw [bv_length, bv_length, HH.out.2.2]; simp [zs]) (bv_one _) ?_; intro w3 HG3 hg3)
  have k3 : Below w1.heap.size w1 w3 := below_grow ((Below.refl _ _).alloc (Nat.le_refl _) _) hg3 (Nat.le_refl _) (by simp)
  have hrow3 := (k3.block _ (Array.getElem?_eq_some_iff.1 H1.out.1).1).trans H1.out.1
  have hbw3 := H1.out.2.trans (k3.mono H1.out.2.size)
  have H3 := Lib.hid (And.intro HG3.out (And.intro hrow3 hbw3))
  clear HG3 hg3 k3 hrow3 hbw3
  by_cases hE : E = 0
  · subst hE
    have hgd := eq_guard
    have hqe := HQ.out w3
    go_wp2_with (first
      | (with_reducible show wpList _ _ _ (⟨some 27, _, _, _, _, _⟩ :: _) _ _; refine wpList_guard rfl ?_; refine wpList_load_row rfl _ _ rfl w1.heap.size rfl _ _ (0, 0) _ H3.out.1 Tryd.underlying35 rfl (hInfo _ HH.out.2.2) ?_)
      | (with_reducible show wpList _ _ _ (⟨some 28, _, _, _, _, _⟩ :: _) _ _; refine wpList_guard rfl ?_; refine wpList_load_row rfl _ _ rfl (w.heap.size + 1) rfl _ _ (0, 0) _ H3.out.2.1 Tryd.underlying35 rfl (hInfo _ HH.out.2.1) ?_))
    go_ret
    exact ⟨by simp, H3.out.2.2⟩
  · have hEb : (E == 0) = false := by simp [hE]
    go_wp2_with fail
    go_ret
    exact ⟨by simp [hEb], H3.out.2.2⟩
end Go.Proofs.YtfibhmgjkooemaaDoor
