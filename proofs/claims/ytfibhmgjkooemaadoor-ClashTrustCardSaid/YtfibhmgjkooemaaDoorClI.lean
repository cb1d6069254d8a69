/- clash.shown. (printed by gen/clh.py) · clash.descend. (printed by gen/cli.py) -/
import Derived.Test.YtfibhmgjkooemaaDoorClG
import Derived.Test.YtfibhmgjkooemaaDoorGrK
namespace Go.Proofs.YtfibhmgjkooemaaDoor
open Go.RowKit Sha Root Path Growth

/-- What each operation hands on. -/
def swLF (W : Int) (g9 m n K b off z c R : Nat) (wh : Bool) (old ru pl rt : List UInt8) : Nat → Value → World → Prop
  | 0, v, _ => v = .int .i64 W
  | 1, v, _ => v = .int .i64 W
  | 2, v, _ => v = .int .u64 m
  | 3, v, _ => v = .int .u64 K
  | 4, v, _ => v = .agg (bv old).toArray
  | 5, v, _ => v = .slice (some ⟨b, off, none⟩) (z + 1) c
  | 6, v, _ => v = .int .i64 (z : Nat)
  | 7, v, _ => v = .slice (some ⟨b, off, none⟩) z c
  | 8, v, _ => v = .bool wh
  | 9, v, _ => v = .agg (bv ru).toArray
  | 10, v, _ => v = .slice (some ⟨b, off, none⟩) (z + 1) c
  | 11, v, _ => v = .int .i64 (z : Nat)
  | 12, v, _ => v = .pointer (some ⟨b, off + z * 32, none⟩)
  | 13, v, _ => v = .agg (bv pl).toArray
  | 14, v, _ => v = .agg (bv rt).toArray
  | 15, _, w => w.heap[R]? = some (.cells (bv rt).toArray 35 (0, 0))
  | _, _, _ => True

/-- What each operation hands on. -/
def swRF (W : Int) (g9 m n K b off z c R : Nat) (wh : Bool) (old ru pl rt : List UInt8) : Nat → Value → World → Prop
  | 0, v, _ => v = .int .i64 W
  | 1, v, _ => v = .slice (some ⟨b, off, none⟩) (z + 1) c
  | 2, v, _ => v = .int .i64 (z : Nat)
  | 3, v, _ => v = .pointer (some ⟨b, off + z * 32, none⟩)
  | 4, v, _ => v = .agg (bv pl).toArray
  | 5, v, _ => v = .int .i64 W
  | 6, v, _ => v = .int .u64 m
  | 7, v, _ => v = .int .u64 K
  | 8, v, _ => v = .int .u64 ((m - K : Nat) : Int)
  | 9, v, _ => v = .int .u64 n
  | 10, v, _ => v = .int .u64 K
  | 11, v, _ => v = .int .u64 ((n - K : Nat) : Int)
  | 12, v, _ => v = .agg (bv old).toArray
  | 13, v, _ => v = .slice (some ⟨b, off, none⟩) (z + 1) c
  | 14, v, _ => v = .int .i64 (z : Nat)
  | 15, v, _ => v = .slice (some ⟨b, off, none⟩) z c
  | 16, v, _ => v = .agg (bv ru).toArray
  | 17, v, _ => v = .agg (bv rt).toArray
  | 18, _, w => w.heap[R]? = some (.cells (bv rt).toArray 35 (0, 0))
  | _, _, _ => True

set_option maxHeartbeats 16000000 in
set_option maxRecDepth 100000 in
theorem shown_any (W : Int) (hW : -9223372036854775808 ≤ W ∧ W ≤ 9223372036854775807) : ∀ (f : Nat) (old : List UInt8) (m n : Nat) (wh : Bool) (ps : List (List UInt8)) (a : Option Addr) (c : Nat) (w : World), n ≤ f → old.length = 32 → 1 ≤ m → m ≤ n → n < 18446744073709551616 →
    (∀ p ∈ ps, p.length = 32) → ps.length = szG m n wh → Rd w 32 (.slice a ps.length c) ps.length (ps.flatMap bv) → Tabs w →
    Calls Tryd.prog 64 #[.int .i64 W, .int .u64 m, .int .u64 n, .agg (bv old).toArray, .slice a ps.length c, .bool wh] w fun e w' => e = .returned (.agg (bv (showG (nodeH W) m n old wh ps).2).toArray) ∧ Below w.heap.size w w' := by
  intro f
  induction f with
  | zero => intro old m n wh ps a c w hf; intros; omega
  | succ f ih =>
    intro old m n wh ps a c w hf hh hm1 hmn hn h32 hps hr hT
    have hz := (zero_of_info info32).1
    have HZ := Lib.hid (show (zs 32).length = 32 by simp [zs])
    obtain ⟨w0, hw0⟩ : ∃ x : World, x = (w.alloc (.cells (bv old).toArray 35)).alloc (.cells (bv (zs 32)).toArray 35) := ⟨_, rfl⟩
    have hbox : w0.heap[w.heap.size]? = some (.cells (bv old).toArray 35 (0, 0)) := by
      rw [hw0, heap_alloc_old _ _ (by simp)]; exact heap_alloc_new _ _
    have hrow : w0.heap[w.heap.size + 1]? = some (.cells (bv (zs 32)).toArray 35 (0, 0)) := by
      rw [hw0]
      have := heap_alloc_new (w.alloc (.cells (bv old).toArray 35)) (.cells (bv (zs 32)).toArray 35)
      simpa using this
    have hbw0 : Below w.heap.size w w0 := by rw [hw0]; exact ((Below.refl _ _).alloc (Nat.le_refl _) _).alloc (by simp) _
    have HW0 := Lib.hid hw0
    have H0 := Lib.hid (And.intro hbox (And.intro hrow hbw0))
    clear hw0 hbox hrow hbw0
    by_cases h1 : m = n
    · subst h1
      have y1 : ((m : Int) == (m : Int)) = true := by simp
      rw [show_same]
      rw [szG_same] at hps
      cases wh with
      | true =>
        rw [if_pos rfl]
        have HH := Lib.hid hh
        clear hps hr hT h32 ih hh
        go_enter Tryd.func64, Tryd.ntmps64
        go_upto_region 1 with fail
        rw [show (w.alloc (.cells (bv old).toArray 35)).alloc (.cells (bv (zs 32)).toArray 35) = w0 from HW0.out.symm]
        go_wp2_with (first
          | (with_reducible show wpList _ _ _ (⟨some 19, _, _, _, _, _⟩ :: _) _ _; refine wpList_load_row rfl _ _ rfl w.heap.size rfl _ _ (0, 0) _ H0.out.1 Tryd.underlying35 rfl (hInfo _ HH.out) ?_)
          | (with_reducible show wpList _ _ _ (⟨none, Op.store _ _ _, _, _, _, _⟩ :: _) _ _; refine wpList_store_whole rfl _ _ _ rfl (w.heap.size + 1) (bv old) rfl rfl (bv (zs 32)) _ H0.out.2.1 (hInfo' _ HH.out) (by rw [bv_length, bv_length, HH.out]; simp [zs]) (bv_one _) ?_; intro w9 HG9 hg9))
        refine bodyPost_ret (v := .agg (bv old).toArray) ?_ ?_ ?_
        · exact results_cell_row Tryd.results64 _ _ (w.heap.size + 1) 35 _ (0, 0) _ rfl HG9.out Tryd.underlying35 rfl (hInfo _ HH.out)
        · rfl
        · exact ⟨rfl, below_grow H0.out.2.2 hg9 (by omega) (Array.getElem?_eq_some_iff.1 H0.out.2.1).1⟩
      | false =>
        rw [if_neg (by decide)]
        rw [if_neg (by decide)] at hps
        obtain ⟨p0, rfl⟩ : ∃ p, ps = [p] := List.length_eq_one_iff.1 hps
        have HH := Lib.hid (h32 p0 (by simp))
        obtain ⟨b, off, c', hv, hcap, hcell⟩ := hr.atN (by simp) (by omega)
        simp only [Value.slice.injEq, true_and] at hv
        obtain ⟨rfl, rfl⟩ := hv
        have HRG := Lib.hid (show w0.rangeAt b off (bv p0) from range_keep (by have := range_at (w := w) (i := 0) h32 rfl hcell; simpa using this) H0.out.2.2)
        rw [show [p0].headD old = p0 from rfl, show [p0].length = 1 from rfl]
        obtain ⟨L, hL⟩ : ∃ L, L = 1 := ⟨_, rfl⟩
        have z1 : (0 : Int) < (L : Int) := by omega
        rw [← hL]
        clear hps hr hT h32 ih hh hcell hcap hL
        go_enter Tryd.func64, Tryd.ntmps64
        go_upto_region 1 with fail
        rw [show (w.alloc (.cells (bv old).toArray 35)).alloc (.cells (bv (zs 32)).toArray 35) = w0 from HW0.out.symm]
        go_wp2_with (first
          | (with_reducible show wpList _ _ _ (⟨some 22, _, _, _, _, _⟩ :: _) _ _; refine wpList_load_mid rfl _ _ rfl b off rfl (bv p0) _ HRG.out Tryd.underlying35 rfl (hInfo' _ HH.out) ?_)
          | (with_reducible show wpList _ _ _ (⟨none, Op.store _ _ _, _, _, _, _⟩ :: _) _ _; refine wpList_store_whole rfl _ _ _ rfl (w.heap.size + 1) (bv p0) rfl rfl (bv (zs 32)) _ H0.out.2.1 (hInfo' _ HH.out) (by rw [bv_length, bv_length, HH.out]; simp [zs]) (bv_one _) ?_; intro w9 HG9 hg9))
        refine bodyPost_ret (v := .agg (bv p0).toArray) ?_ ?_ ?_
        · exact results_cell_row Tryd.results64 _ _ (w.heap.size + 1) 35 _ (0, 0) _ rfl HG9.out Tryd.underlying35 rfl (hInfo _ HH.out)
        · rfl
        · exact ⟨rfl, below_grow H0.out.2.2 hg9 (by omega) (Array.getElem?_eq_some_iff.1 H0.out.2.1).1⟩
    · have h2 : 2 ≤ n := by omega
      have hlt : m < n := by omega
      have y1 : ((m : Int) == (n : Int)) = false := by simp; omega
      obtain ⟨z, hm⟩ : ∃ z, ps.length = z + 1 := by
        rcases Nat.lt_or_ge (top n) m with h | h
        · exact ⟨_, hps.trans (szG_right m n wh hlt h)⟩
        · exact ⟨_, hps.trans (szG_left m n wh hm1 hlt h)⟩
      obtain ⟨pl, hpl⟩ : ∃ p, ps[z]? = some p := ⟨ps[z], List.getElem?_eq_getElem (by omega)⟩
      have hpl32 := h32 pl (List.mem_of_getElem? hpl)
      have hqs : ps = ps.take z ++ [pl] := by
        have := List.take_append_drop z ps
        rw [List.drop_eq_getElem_cons (by omega), List.drop_of_length_le (by omega), (List.getElem?_eq_some_iff.1 hpl).2] at this
        exact this.symm
      have hql : (ps.take z).length = z := by rw [List.length_take]; omega
      obtain ⟨b, off, c', hv, hcap, hcell⟩ := hr.atN (by omega) (by omega)
      simp only [Value.slice.injEq, true_and] at hv
      obtain ⟨rfl, rfl⟩ := hv
      have hrg := range_at (w := w) h32 hpl hcell
      have hrq : Rd w 32 (.slice (some ⟨b, off, none⟩) z c) z ((ps.take z).flatMap bv) := by rw [flat_take32 _ _ h32]; exact rd_take hr z (by omega)
      have hq32 : ∀ p ∈ ps.take z, p.length = 32 := fun p hp => h32 p (List.mem_of_mem_take hp)
      have hcap2 : z + 1 ≤ c := by rw [← hm]; exact hcap
      have hzb : z ≤ 65 := by have := szG_le m n wh hm1 hmn (by omega); omega
      obtain ⟨rt, hrt⟩ : ∃ x, x = (showG (nodeH W) m n old wh ps).2 := ⟨_, rfl⟩
      have hrt32 : rt.length = 32 := by rw [hrt]; exact (showG_32 W m n old wh ps hh h32).2
      rw [← hrt]
      have hct := hrt
      obtain ⟨L, hL⟩ : ∃ L, L = ps.length := ⟨_, rfl⟩
      rw [← hL] at hm
      obtain ⟨qs, hqe⟩ : ∃ q, q = ps.take z := ⟨_, rfl⟩
      rw [← hqe] at hqs hql hrq hq32
      rw [hqs] at hct
      have hK1 := top_lt n h2
      have hK0 := top_pos n
      have hk2 := top_le2 n
      have y2 : IntKind.i64.wrap (((z + 1 : Nat) : Int) - 1) = (z : Int) := (IntWalk.i64_in _ (by omega)).trans (by omega)
      have y3 : IntKind.i64.wrap ((z : Int) + 1 - 1) = (z : Int) := (IntWalk.i64_in _ (by omega)).trans (by omega)
      rw [← hL, hm]
      have hps' : qs.length + 1 = szG m n wh := by rw [hql, ← hps, ← hL, hm]
      obtain ⟨hb1, hb64, htopp⟩ := top_len n h2 hn
      have hlen2 := fun wx => Tryd.bits_Len64 ((n - 1 : Nat) : Int) wx (by omega) (by omega)
      rw [Int.toNat_natCast] at hlen2
      obtain ⟨K, hK⟩ : ∃ k, k = top n := ⟨_, rfl⟩
      rw [← hK] at hK1 hK0 hk2 htopp
      obtain ⟨d, hd⟩ : ∃ d, Lib.bitLen (n - 1) = d + 1 := ⟨Lib.bitLen (n - 1) - 1, by omega⟩
      rw [hd] at hlen2 hb64
      rw [hd, Nat.add_sub_cancel] at htopp
      have u2 : IntKind.u64.wrap ((n : Int) - 1) = ((n - 1 : Nat) : Int) := (IntWalk.u64_in _ (by omega)).trans (by omega)
      have u3 : (1 : Int) * 2 ^ d = (K : Int) := by rw [htopp]; simp
      have u3b : (2 : Int) ^ d = (K : Int) := by rw [htopp]; simp
      have u4 : IntKind.u64.wrap (K : Int) = (K : Int) := IntWalk.u64_in _ (by omega)
      have u5 : IntKind.i64.wrap (((d + 1 : Nat) : Int) - 1) = (d : Int) := (IntWalk.i64_in _ (by omega)).trans (by omega)
      have u5b : IntKind.i64.wrap ((d : Int) + 1 - 1) = (d : Int) := (IntWalk.i64_in _ (by omega)).trans (by omega)
      have u6 : (d : Int) ≤ 64 := by omega
      have HLE := Lib.hid hlen2
      clear hlen2 hd htopp
      rcases Nat.lt_or_ge K m with htop | htop
      · rw [show_right (nodeH W) m n old wh qs pl hlt (by omega) hps', ← hK] at hct
        have hup := fun wx (hb : Below w.heap.size w wx) => ih old (m - K) (n - K) false qs (some ⟨b, off, none⟩) c wx (by omega) hh (by omega) (by omega) (by omega) hq32 (by have := szG_right m n wh hlt (by omega); rw [hK]; omega) (by rw [hql]; exact hrq.keep hb) (hT.keepB hb)
        rw [hql] at hup
        obtain ⟨ru, hru⟩ : ∃ x, x = (showG (nodeH W) (m - K) (n - K) old false qs).2 := ⟨_, rfl⟩
        have hru32 : ru.length = 32 := by rw [hru]; exact (showG_32 W _ _ _ _ _ hh hq32).2
        rw [← hru] at hup hct
        have hnd := fun wx (hb : Below w.heap.size w wx) => Node_any W pl ru wx hpl32 hru32 hW (hT.keepB hb)
        rw [show nodeH W pl ru = rt from hct.symm] at hnd
        have y4 : ¬ (m : Int) ≤ (K : Int) := by omega
        clear hK
        have HUP0 := Lib.hid hup
        have HND0 := Lib.hid hnd
        have HLN := Lib.hid (And.intro hh (And.intro hpl32 hrt32))
        have HRG0 := Lib.hid hrg
        clear hup hnd hh hpl32 hrt32 hrg hru hru32 hrt hct ih hps hr hT h32 hcell hcap hqs hqe hq32 hrq hql hW hpl hL hm hps'
        go_enter Tryd.func64, Tryd.ntmps64
        go_upto_region 1 with fail
        rw [show (w.alloc (.cells (bv old).toArray 35)).alloc (.cells (bv (zs 32)).toArray 35) = w0 from HW0.out.symm]
        go_wp2_with fail
        refine (HLE.out _).mono ?_
        rintro e w1 ⟨rfl, hw1⟩
        have H1 := Lib.hid (show w1.heap[w.heap.size]? = some (.cells (bv old).toArray 35 (0, 0)) ∧ w1.heap[w.heap.size + 1]? = some (.cells (bv (zs 32)).toArray 35 (0, 0)) ∧ Below w.heap.size w w1 by rw [hw1]; exact H0.out)
        clear hw1
        obtain ⟨R, hRe⟩ : ∃ R, R = w.heap.size + 1 := ⟨_, rfl⟩
        obtain ⟨g9, hg9e⟩ : ∃ g, g = w.heap.size := ⟨_, rfl⟩
        have hrow0 : w1.heap[R]? = some (.cells (bv (zs 32)).toArray 35 (0, 0)) := by rw [hRe]; exact H1.out.2.1
        have hRs : R ≤ w1.heap.size := Nat.le_of_lt (Array.getElem?_eq_some_iff.1 hrow0).1
        have hgR : g9 < R := by omega
        have HBW := Lib.hid H1.out.2.2
        have HRE := Lib.hid hRe
        have HBX := Lib.hid (fun wx (hb : Below R w1 wx) => (hb.block g9 hgR).trans (show w1.heap[g9]? = some (.cells (bv old).toArray 35 (0, 0)) by rw [hg9e]; exact H1.out.1))
        have HUP := Lib.hid (fun wx (hb : Below R w1 wx) => HUP0.out wx (HBW.out.trans (hb.mono (by have := HRE.out; omega))))
        have HND := Lib.hid (fun wx (hb : Below R w1 wx) => HND0.out wx (HBW.out.trans (hb.mono (by have := HRE.out; omega))))
        have HRG := Lib.hid (fun wx (hb : Below R w1 wx) => range_keep HRG0.out (HBW.out.trans (hb.mono (by have := HRE.out; omega))))
        rw [← hRe, ← hg9e]
        clear hRe hg9e
        go_upto_region 8 with fail
        refine wp_region_until [some 49, some 50, some 51, some 52, some 53, some 54, some 55, some 56, some 57, some 58, some 59, some 60, some 61, some 62, some 63, some 64, some 65, some 66, none] [] 18 (fun wx => wx.heap[R]? = some (.cells (bv (zs 32)).toArray 35 (0, 0))) [0, 1, 2, 3, 4, 5, 6, 7, 8, 9, 10, 11, 12, 13, 14, 15, 16, 17, 18] (swRF W g9 m n K b off z c R wh old ru pl rt) (kOne 18 R) (fun wx => Below R w1 wx) (by kernel_rfl) (by kernel_rfl) rfl (by kernel_rfl) (by kernel_rfl) (Below.refl _ _).drew hrow0 ((fun _ hj _ _ k h => ((kOne_below hj k).block _ (Array.getElem?_eq_some_iff.1 h).1).trans h)) (fun _ _ => kOne_refl _ _ _ _) (fun _ _ _ h k => h.trans (kOne_base (Nat.le_trans hRs h.size) k)) ?hF ?hstep ?hend
        case hF =>
          exact ⟨fun _ _ _ _ _ _ h => h, ⟨fun _ _ _ _ _ _ h => h, ⟨fun _ _ _ _ _ _ h => h, ⟨fun _ _ _ _ _ _ h => h, ⟨fun _ _ _ _ _ _ h => h, ⟨fun _ _ _ _ _ _ h => h, ⟨fun _ _ _ _ _ _ h => h, ⟨fun _ _ _ _ _ _ h => h, ⟨fun _ _ _ _ _ _ h => h, ⟨fun _ _ _ _ _ _ h => h, ⟨fun _ _ _ _ _ _ h => h, ⟨fun _ _ _ _ _ _ h => h, ⟨fun _ _ _ _ _ _ h => h, ⟨fun _ _ _ _ _ _ h => h, ⟨fun _ _ _ _ _ _ h => h, ⟨fun _ _ _ _ _ _ h => h, ⟨fun _ _ _ _ _ _ h => h, ⟨fun _ _ _ _ _ _ h => h, ⟨fun j hg _ _ _ k h => ((kOne_below (fun e => by subst e; exact absurd hg (by rw [show goneB _ 18 18 = true by kernel_rfl]; simp)) k).block _ (Array.getElem?_eq_some_iff.1 h).1).trans h, trivial⟩⟩⟩⟩⟩⟩⟩⟩⟩⟩⟩⟩⟩⟩⟩⟩⟩⟩⟩
        case hstep =>
          refine ⟨fun r wx hG hs hq hf => ?_, ?_⟩
          · have hQ := hq rfl
            have e0 : r 0 = .int .i64 W := hs 0 rfl
            refine (if_pos rfl).symm ▸ ?_
            clear hs hq hf
            unfold gives
            go_simp
            exact ⟨kOne_refl _ _ _ _, rfl⟩
          refine ⟨fun r wx hG hs hq hf => ?_, ?_⟩
          · have hQ := hq rfl
            have e4 : r 4 = .slice (some ⟨b, off, none⟩) (z + 1) c := hs 4 rfl
            refine (if_pos rfl).symm ▸ ?_
            clear hs hq hf
            unfold gives
            go_simp
            exact ⟨kOne_refl _ _ _ _, rfl⟩
          refine ⟨fun r wx hG hs hq hf => ?_, ?_⟩
          · have hQ := hq rfl
            have e14 : r 14 = .int .i64 z := hs 14 rfl
            refine (if_pos rfl).symm ▸ ?_
            clear hs hq hf
            unfold gives
            go_simp
            exact ⟨kOne_refl _ _ _ _, rfl⟩
          refine ⟨fun r wx hG hs hq hf => ?_, ?_⟩
          · have hQ := hq rfl
            have h1 : r 50 = .slice (some ⟨b, off, none⟩) (z + 1) c := hf.1
            have h2 : r 51 = .int .i64 (z : Nat) := hf.2.1
            refine (if_pos rfl).symm ▸ ?_
            clear hs hq hf
            unfold gives
            have z0 : (0 : Int) ≤ (z : Int) := by omega
            have z1 : (z : Int) < ((z + 1 : Nat) : Int) := by omega
            have z2 : (z : Int) < (z : Int) + 1 := by omega
            go_simp
            exact ⟨kOne_refl _ _ _ _, rfl⟩
          refine ⟨fun r wx hG hs hq hf => ?_, ?_⟩
          · have hQ := hq rfl
            have h3 : r 52 = .pointer (some ⟨b, off + z * 32, none⟩) := hf.1
            refine (if_pos rfl).symm ▸ ?_
            clear hs hq hf
            unfold gives
            refine gives_load_mid 35 _ rfl b (off + z * 32) h3 (bv pl) _ (HRG.out wx hG) Tryd.underlying35 rfl (hInfo' _ HLN.out.2.1) ⟨kOne_refl _ _ _ _, rfl⟩
          refine ⟨fun r wx hG hs hq hf => ?_, ?_⟩
          · have hQ := hq rfl
            have e0 : r 0 = .int .i64 W := hs 0 rfl
            refine (if_pos rfl).symm ▸ ?_
            clear hs hq hf
            unfold gives
            go_simp
            exact ⟨kOne_refl _ _ _ _, rfl⟩
          refine ⟨fun r wx hG hs hq hf => ?_, ?_⟩
          · have hQ := hq rfl
            have e1 : r 1 = .int .u64 m := hs 1 rfl
            refine (if_pos rfl).symm ▸ ?_
            clear hs hq hf
            unfold gives
            go_simp
            exact ⟨kOne_refl _ _ _ _, rfl⟩
          refine ⟨fun r wx hG hs hq hf => ?_, ?_⟩
          · have hQ := hq rfl
            have e13 : r 13 = .int .u64 K := hs 13 rfl
            refine (if_pos rfl).symm ▸ ?_
            clear hs hq hf
            unfold gives
            go_simp
            exact ⟨kOne_refl _ _ _ _, rfl⟩
          refine ⟨fun r wx hG hs hq hf => ?_, ?_⟩
          · have hQ := hq rfl
            have h6 : r 55 = .int .u64 m := hf.1
            have h7 : r 56 = .int .u64 K := hf.2.1
            refine (if_pos rfl).symm ▸ ?_
            clear hs hq hf
            unfold gives
            have zw : IntKind.u64.wrap ((m : Int) - (K : Int)) = ((m - K : Nat) : Int) := (IntWalk.u64_in _ (by omega)).trans (by omega)
            go_simp
            exact ⟨kOne_refl _ _ _ _, rfl⟩
          refine ⟨fun r wx hG hs hq hf => ?_, ?_⟩
          · have hQ := hq rfl
            have e2 : r 2 = .int .u64 n := hs 2 rfl
            refine (if_pos rfl).symm ▸ ?_
            clear hs hq hf
            unfold gives
            go_simp
            exact ⟨kOne_refl _ _ _ _, rfl⟩
          refine ⟨fun r wx hG hs hq hf => ?_, ?_⟩
          · have hQ := hq rfl
            have e13 : r 13 = .int .u64 K := hs 13 rfl
            refine (if_pos rfl).symm ▸ ?_
            clear hs hq hf
            unfold gives
            go_simp
            exact ⟨kOne_refl _ _ _ _, rfl⟩
          refine ⟨fun r wx hG hs hq hf => ?_, ?_⟩
          · have hQ := hq rfl
            have h9 : r 58 = .int .u64 n := hf.1
            have h10 : r 59 = .int .u64 K := hf.2.1
            refine (if_pos rfl).symm ▸ ?_
            clear hs hq hf
            unfold gives
            have zw : IntKind.u64.wrap ((n : Int) - (K : Int)) = ((n - K : Nat) : Int) := (IntWalk.u64_in _ (by omega)).trans (by omega)
            go_simp
            exact ⟨kOne_refl _ _ _ _, rfl⟩
          refine ⟨fun r wx hG hs hq hf => ?_, ?_⟩
          · have hQ := hq rfl
            have e9 : r 9 = .pointer (some ⟨g9, 0, none⟩) := hs 9 rfl
            refine (if_pos rfl).symm ▸ ?_
            clear hs hq hf
            unfold gives
            refine gives_load_row 35 _ rfl g9 e9 35 _ (0, 0) _ (HBX.out wx hG) Tryd.underlying35 rfl (hInfo _ HLN.out.1) ?_
            exact ⟨kOne_refl _ _ _ _, rfl⟩
          refine ⟨fun r wx hG hs hq hf => ?_, ?_⟩
          · have hQ := hq rfl
            have e4 : r 4 = .slice (some ⟨b, off, none⟩) (z + 1) c := hs 4 rfl
            refine (if_pos rfl).symm ▸ ?_
            clear hs hq hf
            unfold gives
            go_simp
            exact ⟨kOne_refl _ _ _ _, rfl⟩
          refine ⟨fun r wx hG hs hq hf => ?_, ?_⟩
          · have hQ := hq rfl
            have e14 : r 14 = .int .i64 z := hs 14 rfl
            refine (if_pos rfl).symm ▸ ?_
            clear hs hq hf
            unfold gives
            go_simp
            exact ⟨kOne_refl _ _ _ _, rfl⟩
          refine ⟨fun r wx hG hs hq hf => ?_, ?_⟩
          · have hQ := hq rfl
            have h13 : r 62 = .slice (some ⟨b, off, none⟩) (z + 1) c := hf.1
            have h14 : r 63 = .int .i64 (z : Nat) := hf.2.1
            refine (if_pos rfl).symm ▸ ?_
            clear hs hq hf
            unfold gives
            have z0 : (0 : Int) ≤ (z : Int) := by omega
            have z1 : (z : Int) ≤ (c : Int) := by omega
            go_simp
            exact ⟨kOne_refl _ _ _ _, rfl⟩
          refine ⟨fun r wx hG hs hq hf => ?_, ?_⟩
          · have hQ := hq rfl
            have h5 : r 54 = .int .i64 W := hf.1
            have h8 : r 57 = .int .u64 ((m - K : Nat) : Int) := hf.2.1
            have h11 : r 60 = .int .u64 ((n - K : Nat) : Int) := hf.2.2.1
            have h12 : r 61 = .agg (bv old).toArray := hf.2.2.2.1
            have h15 : r 64 = .slice (some ⟨b, off, none⟩) z c := hf.2.2.2.2.1
            refine (if_pos rfl).symm ▸ ?_
            clear hs hq hf
            unfold gives
            go_simp
            refine (HUP.out wx hG).mono ?_
            rintro e wy ⟨rfl, hb1⟩
            exact ⟨_, rfl, kOne_of rfl hb1, rfl⟩
          refine ⟨fun r wx hG hs hq hf => ?_, ?_⟩
          · have hQ := hq rfl
            have h0 : r 49 = .int .i64 W := hf.1
            have h4 : r 53 = .agg (bv pl).toArray := hf.2.1
            have h16 : r 65 = .agg (bv ru).toArray := hf.2.2.1
            refine (if_pos rfl).symm ▸ ?_
            clear hs hq hf
            unfold gives
            go_simp
            refine (HND.out wx hG).mono ?_
            rintro e wy ⟨rfl, hb1⟩
            exact ⟨_, rfl, kOne_of rfl hb1, rfl⟩
          refine ⟨fun r wx hG hs hq hf => ?_, ?_⟩
          · have hQ := hq rfl
            have e12 : r 12 = .pointer (some ⟨R, 0, none⟩) := hs 12 rfl
            have h17 : r 66 = .agg (bv rt).toArray := hf.1
            refine (if_pos rfl).symm ▸ ?_
            clear hs hq hf
            unfold gives
            refine gives_store_row 35 _ _ rfl R (bv rt) e12 h17 (bv (zs 32)) 35 hQ (hInfo' _ HLN.out.2.2) (by rw [bv_length, bv_length, HLN.out.2.2]; simp [zs]) (bv_one _) ?_
            intro wy h1 h2
            exact ⟨kOne_at (below_grow (Below.refl _ _) h2 (Nat.le_refl _) (Array.getElem?_eq_some_iff.1 hQ).1), h1⟩
          exact trivial
        case hend =>
          intro u wz hG hfin
          have z18 : wz.heap[R]? = some (.cells (bv rt).toArray 35 (0, 0)) := hfin 18 (by decide) (by kernel_rfl)
          clear hfin
          simp only [fill]
          have HZR := Lib.hid z18
          clear z18
          go_simp
          go_wp2_with fail
          refine bodyPost_ret (v := .agg (bv rt).toArray) ?_ ?_ ?_
          · exact results_cell_row Tryd.results64 _ _ R 35 _ (0, 0) _ rfl HZR.out Tryd.underlying35 rfl (hInfo _ HLN.out.2.2)
          · rfl
          · exact ⟨rfl, HBW.out.trans (hG.mono (by have := HRE.out; omega))⟩
      · rw [show_left (nodeH W) m n old wh qs pl hm1 hlt (by omega) hps', ← hK] at hct
        have hup := fun wx (hb : Below w.heap.size w wx) => ih old m K wh qs (some ⟨b, off, none⟩) c wx (by omega) hh hm1 htop (by omega) hq32 (by have := szG_left m n wh hm1 hlt (by omega); rw [hK]; omega) (by rw [hql]; exact hrq.keep hb) (hT.keepB hb)
        rw [hql] at hup
        obtain ⟨ru, hru⟩ : ∃ x, x = (showG (nodeH W) m K old wh qs).2 := ⟨_, rfl⟩
        have hru32 : ru.length = 32 := by rw [hru]; exact (showG_32 W _ _ _ _ _ hh hq32).2
        rw [← hru] at hup hct
        have hnd := fun wx (hb : Below w.heap.size w wx) => Node_any W ru pl wx hru32 hpl32 hW (hT.keepB hb)
        rw [show nodeH W ru pl = rt from hct.symm] at hnd
        have y4 : (m : Int) ≤ (K : Int) := by omega
        clear hK
        have HUP0 := Lib.hid hup
        have HND0 := Lib.hid hnd
        have HLN := Lib.hid (And.intro hh (And.intro hpl32 hrt32))
        have HRG0 := Lib.hid hrg
        clear hup hnd hh hpl32 hrt32 hrg hru hru32 hrt hct ih hps hr hT h32 hcell hcap hqs hqe hq32 hrq hql hW hpl hL hm hps'
        go_enter Tryd.func64, Tryd.ntmps64
        go_upto_region 1 with fail
        rw [show (w.alloc (.cells (bv old).toArray 35)).alloc (.cells (bv (zs 32)).toArray 35) = w0 from HW0.out.symm]
        go_wp2_with fail
        refine (HLE.out _).mono ?_
        rintro e w1 ⟨rfl, hw1⟩
        have H1 := Lib.hid (show w1.heap[w.heap.size]? = some (.cells (bv old).toArray 35 (0, 0)) ∧ w1.heap[w.heap.size + 1]? = some (.cells (bv (zs 32)).toArray 35 (0, 0)) ∧ Below w.heap.size w w1 by rw [hw1]; exact H0.out)
        clear hw1
        obtain ⟨R, hRe⟩ : ∃ R, R = w.heap.size + 1 := ⟨_, rfl⟩
        obtain ⟨g9, hg9e⟩ : ∃ g, g = w.heap.size := ⟨_, rfl⟩
        have hrow0 : w1.heap[R]? = some (.cells (bv (zs 32)).toArray 35 (0, 0)) := by rw [hRe]; exact H1.out.2.1
        have hRs : R ≤ w1.heap.size := Nat.le_of_lt (Array.getElem?_eq_some_iff.1 hrow0).1
        have hgR : g9 < R := by omega
        have HBW := Lib.hid H1.out.2.2
        have HRE := Lib.hid hRe
        have HBX := Lib.hid (fun wx (hb : Below R w1 wx) => (hb.block g9 hgR).trans (show w1.heap[g9]? = some (.cells (bv old).toArray 35 (0, 0)) by rw [hg9e]; exact H1.out.1))
        have HUP := Lib.hid (fun wx (hb : Below R w1 wx) => HUP0.out wx (HBW.out.trans (hb.mono (by have := HRE.out; omega))))
        have HND := Lib.hid (fun wx (hb : Below R w1 wx) => HND0.out wx (HBW.out.trans (hb.mono (by have := HRE.out; omega))))
        have HRG := Lib.hid (fun wx (hb : Below R w1 wx) => range_keep HRG0.out (HBW.out.trans (hb.mono (by have := HRE.out; omega))))
        rw [← hRe, ← hg9e]
        clear hRe hg9e
        go_upto_region 7 with fail
        refine wp_region_until [some 34, some 35, some 36, some 37, some 38, some 39, some 40, some 41, some 42, some 43, some 44, some 45, some 46, some 47, some 48, none] [] 15 (fun wx => wx.heap[R]? = some (.cells (bv (zs 32)).toArray 35 (0, 0))) [0, 1, 2, 3, 4, 5, 6, 7, 8, 9, 10, 11, 12, 13, 14, 15] (swLF W g9 m n K b off z c R wh old ru pl rt) (kOne 15 R) (fun wx => Below R w1 wx) (by kernel_rfl) (by kernel_rfl) rfl (by kernel_rfl) (by kernel_rfl) (Below.refl _ _).drew hrow0 ((fun _ hj _ _ k h => ((kOne_below hj k).block _ (Array.getElem?_eq_some_iff.1 h).1).trans h)) (fun _ _ => kOne_refl _ _ _ _) (fun _ _ _ h k => h.trans (kOne_base (Nat.le_trans hRs h.size) k)) ?hF ?hstep ?hend
        case hF =>
          exact ⟨fun _ _ _ _ _ _ h => h, ⟨fun _ _ _ _ _ _ h => h, ⟨fun _ _ _ _ _ _ h => h, ⟨fun _ _ _ _ _ _ h => h, ⟨fun _ _ _ _ _ _ h => h, ⟨fun _ _ _ _ _ _ h => h, ⟨fun _ _ _ _ _ _ h => h, ⟨fun _ _ _ _ _ _ h => h, ⟨fun _ _ _ _ _ _ h => h, ⟨fun _ _ _ _ _ _ h => h, ⟨fun _ _ _ _ _ _ h => h, ⟨fun _ _ _ _ _ _ h => h, ⟨fun _ _ _ _ _ _ h => h, ⟨fun _ _ _ _ _ _ h => h, ⟨fun _ _ _ _ _ _ h => h, ⟨fun j hg _ _ _ k h => ((kOne_below (fun e => by subst e; exact absurd hg (by rw [show goneB _ 15 15 = true by kernel_rfl]; simp)) k).block _ (Array.getElem?_eq_some_iff.1 h).1).trans h, trivial⟩⟩⟩⟩⟩⟩⟩⟩⟩⟩⟩⟩⟩⟩⟩⟩
        case hstep =>
          refine ⟨fun r wx hG hs hq hf => ?_, ?_⟩
          · have hQ := hq rfl
            have e0 : r 0 = .int .i64 W := hs 0 rfl
            refine (if_pos rfl).symm ▸ ?_
            clear hs hq hf
            unfold gives
            go_simp
            exact ⟨kOne_refl _ _ _ _, rfl⟩
          refine ⟨fun r wx hG hs hq hf => ?_, ?_⟩
          · have hQ := hq rfl
            have e0 : r 0 = .int .i64 W := hs 0 rfl
            refine (if_pos rfl).symm ▸ ?_
            clear hs hq hf
            unfold gives
            go_simp
            exact ⟨kOne_refl _ _ _ _, rfl⟩
          refine ⟨fun r wx hG hs hq hf => ?_, ?_⟩
          · have hQ := hq rfl
            have e1 : r 1 = .int .u64 m := hs 1 rfl
            refine (if_pos rfl).symm ▸ ?_
            clear hs hq hf
            unfold gives
            go_simp
            exact ⟨kOne_refl _ _ _ _, rfl⟩
          refine ⟨fun r wx hG hs hq hf => ?_, ?_⟩
          · have hQ := hq rfl
            have e13 : r 13 = .int .u64 K := hs 13 rfl
            refine (if_pos rfl).symm ▸ ?_
            clear hs hq hf
            unfold gives
            go_simp
            exact ⟨kOne_refl _ _ _ _, rfl⟩
          refine ⟨fun r wx hG hs hq hf => ?_, ?_⟩
          · have hQ := hq rfl
            have e9 : r 9 = .pointer (some ⟨g9, 0, none⟩) := hs 9 rfl
            refine (if_pos rfl).symm ▸ ?_
            clear hs hq hf
            unfold gives
            refine gives_load_row 35 _ rfl g9 e9 35 _ (0, 0) _ (HBX.out wx hG) Tryd.underlying35 rfl (hInfo _ HLN.out.1) ?_
            exact ⟨kOne_refl _ _ _ _, rfl⟩
          refine ⟨fun r wx hG hs hq hf => ?_, ?_⟩
          · have hQ := hq rfl
            have e4 : r 4 = .slice (some ⟨b, off, none⟩) (z + 1) c := hs 4 rfl
            refine (if_pos rfl).symm ▸ ?_
            clear hs hq hf
            unfold gives
            go_simp
            exact ⟨kOne_refl _ _ _ _, rfl⟩
          refine ⟨fun r wx hG hs hq hf => ?_, ?_⟩
          · have hQ := hq rfl
            have e14 : r 14 = .int .i64 z := hs 14 rfl
            refine (if_pos rfl).symm ▸ ?_
            clear hs hq hf
            unfold gives
            go_simp
            exact ⟨kOne_refl _ _ _ _, rfl⟩
          refine ⟨fun r wx hG hs hq hf => ?_, ?_⟩
          · have hQ := hq rfl
            have h5 : r 39 = .slice (some ⟨b, off, none⟩) (z + 1) c := hf.1
            have h6 : r 40 = .int .i64 (z : Nat) := hf.2.1
            refine (if_pos rfl).symm ▸ ?_
            clear hs hq hf
            unfold gives
            have z0 : (0 : Int) ≤ (z : Int) := by omega
            have z1 : (z : Int) ≤ (c : Int) := by omega
            go_simp
            exact ⟨kOne_refl _ _ _ _, rfl⟩
          refine ⟨fun r wx hG hs hq hf => ?_, ?_⟩
          · have hQ := hq rfl
            have e5 : r 5 = .bool wh := hs 5 rfl
            refine (if_pos rfl).symm ▸ ?_
            clear hs hq hf
            unfold gives
            go_simp
            exact ⟨kOne_refl _ _ _ _, rfl⟩
          refine ⟨fun r wx hG hs hq hf => ?_, ?_⟩
          · have hQ := hq rfl
            have h1 : r 35 = .int .i64 W := hf.1
            have h2 : r 36 = .int .u64 m := hf.2.1
            have h3 : r 37 = .int .u64 K := hf.2.2.1
            have h4 : r 38 = .agg (bv old).toArray := hf.2.2.2.1
            have h7 : r 41 = .slice (some ⟨b, off, none⟩) z c := hf.2.2.2.2.1
            have h8 : r 42 = .bool wh := hf.2.2.2.2.2.1
            refine (if_pos rfl).symm ▸ ?_
            clear hs hq hf
            unfold gives
            go_simp
            refine (HUP.out wx hG).mono ?_
            rintro e wy ⟨rfl, hb1⟩
            exact ⟨_, rfl, kOne_of rfl hb1, rfl⟩
          refine ⟨fun r wx hG hs hq hf => ?_, ?_⟩
          · have hQ := hq rfl
            have e4 : r 4 = .slice (some ⟨b, off, none⟩) (z + 1) c := hs 4 rfl
            refine (if_pos rfl).symm ▸ ?_
            clear hs hq hf
            unfold gives
            go_simp
            exact ⟨kOne_refl _ _ _ _, rfl⟩
          refine ⟨fun r wx hG hs hq hf => ?_, ?_⟩
          · have hQ := hq rfl
            have e14 : r 14 = .int .i64 z := hs 14 rfl
            refine (if_pos rfl).symm ▸ ?_
            clear hs hq hf
            unfold gives
            go_simp
            exact ⟨kOne_refl _ _ _ _, rfl⟩
          refine ⟨fun r wx hG hs hq hf => ?_, ?_⟩
          · have hQ := hq rfl
            have h10 : r 44 = .slice (some ⟨b, off, none⟩) (z + 1) c := hf.1
            have h11 : r 45 = .int .i64 (z : Nat) := hf.2.1
            refine (if_pos rfl).symm ▸ ?_
            clear hs hq hf
            unfold gives
            have z0 : (0 : Int) ≤ (z : Int) := by omega
            have z1 : (z : Int) < ((z + 1 : Nat) : Int) := by omega
            have z2 : (z : Int) < (z : Int) + 1 := by omega
            go_simp
            exact ⟨kOne_refl _ _ _ _, rfl⟩
          refine ⟨fun r wx hG hs hq hf => ?_, ?_⟩
          · have hQ := hq rfl
            have h12 : r 46 = .pointer (some ⟨b, off + z * 32, none⟩) := hf.1
            refine (if_pos rfl).symm ▸ ?_
            clear hs hq hf
            unfold gives
            refine gives_load_mid 35 _ rfl b (off + z * 32) h12 (bv pl) _ (HRG.out wx hG) Tryd.underlying35 rfl (hInfo' _ HLN.out.2.1) ⟨kOne_refl _ _ _ _, rfl⟩
          refine ⟨fun r wx hG hs hq hf => ?_, ?_⟩
          · have hQ := hq rfl
            have h0 : r 34 = .int .i64 W := hf.1
            have h9 : r 43 = .agg (bv ru).toArray := hf.2.1
            have h13 : r 47 = .agg (bv pl).toArray := hf.2.2.1
            refine (if_pos rfl).symm ▸ ?_
            clear hs hq hf
            unfold gives
            go_simp
            refine (HND.out wx hG).mono ?_
            rintro e wy ⟨rfl, hb1⟩
            exact ⟨_, rfl, kOne_of rfl hb1, rfl⟩
          refine ⟨fun r wx hG hs hq hf => ?_, ?_⟩
          · have hQ := hq rfl
            have e12 : r 12 = .pointer (some ⟨R, 0, none⟩) := hs 12 rfl
            have h14 : r 48 = .agg (bv rt).toArray := hf.1
            refine (if_pos rfl).symm ▸ ?_
            clear hs hq hf
            unfold gives
            refine gives_store_row 35 _ _ rfl R (bv rt) e12 h14 (bv (zs 32)) 35 hQ (hInfo' _ HLN.out.2.2) (by rw [bv_length, bv_length, HLN.out.2.2]; simp [zs]) (bv_one _) ?_
            intro wy h1 h2
            exact ⟨kOne_at (below_grow (Below.refl _ _) h2 (Nat.le_refl _) (Array.getElem?_eq_some_iff.1 hQ).1), h1⟩
          exact trivial
        case hend =>
          intro u wz hG hfin
          have z15 : wz.heap[R]? = some (.cells (bv rt).toArray 35 (0, 0)) := hfin 15 (by decide) (by kernel_rfl)
          clear hfin
          simp only [fill]
          have HZR := Lib.hid z15
          clear z15
          go_simp
          go_wp2_with fail
          refine bodyPost_ret (v := .agg (bv rt).toArray) ?_ ?_ ?_
          · exact results_cell_row Tryd.results64 _ _ R 35 _ (0, 0) _ rfl HZR.out Tryd.underlying35 rfl (hInfo _ HLN.out.2.2)
          · rfl
          · exact ⟨rfl, HBW.out.trans (hG.mono (by have := HRE.out; omega))⟩

end Go.Proofs.YtfibhmgjkooemaaDoor
namespace Go.Proofs.YtfibhmgjkooemaaDoor
open Go.RowKit Sha Root Path Growth Clash

/-- What each operation hands on. -/
def de5F (W : Int) (gt g11 g16 m n K b off z c tc : Nat) (ta : Option Addr) (wh : Bool) (l : List (List UInt8)) (old ru ph : List UInt8) : Nat → Value → World → Prop
  | 0, v, _ => v = .pointer (some ⟨gt, 0, none⟩)
  | 1, v, _ => v = .pointer (some ⟨gt, 0, none⟩)
  | 2, v, _ => v = .pointer (some ⟨gt, 32, none⟩)
  | 3, v, _ => v = .slice ta 65 tc
  | 4, v, _ => v = .int .i64 W
  | 5, v, _ => v = .int .u64 m
  | 6, v, _ => v = .int .u64 K
  | 7, v, _ => v = .agg (bv old).toArray
  | 8, v, _ => v = .slice (some ⟨b, off, none⟩) (z + 1) c
  | 9, v, _ => v = .int .i64 z
  | 10, v, _ => v = .slice (some ⟨b, off, none⟩) z c
  | 11, v, _ => v = .bool wh
  | 12, v, _ => v = .agg (bv ru).toArray
  | 13, v, _ => v = .agg (bv ph).toArray
  | 14, v, w => Rd w 1 v 65 (bv (1 :: (ru ++ ph)))
  | 15, v, _ => v = .tuple #[] ∧ tx (hw W) l = 1 :: (ru ++ ph)
  | _, _, _ => True
/-- What each operation hands on. -/
def de6F (W : Int) (gt g11 g16 m n K b off z c : Nat) (plq : Option Addr) (wh : Bool) (old : List UInt8) (GR : Option (List UInt8 × List UInt8)) : Nat → Value → World → Prop
  | 0, v, _ => v = .int .i64 W
  | 1, v, _ => v = .pointer (some ⟨gt, 0, none⟩)
  | 2, v, _ => v = .pointer (some ⟨gt, 0, none⟩)
  | 3, v, _ => v = .pointer (some ⟨gt, 33, none⟩)
  | 4, v, _ => v = .pointer plq
  | 5, v, _ => v = .int .u64 m
  | 6, v, _ => v = .int .u64 K
  | 7, v, _ => v = .agg (bv old).toArray
  | 8, v, _ => v = .slice (some ⟨b, off, none⟩) (z + 1) c
  | 9, v, _ => v = .int .i64 z
  | 10, v, _ => v = .slice (some ⟨b, off, none⟩) z c
  | 11, v, _ => v = .bool wh
  | 12, v, _ => v = .tuple #[] ∧ GR = none
  | _, _, _ => True
/-- What each operation hands on. -/
def de7F (W : Int) (gt g11 g16 m n K b off z c tc : Nat) (ta : Option Addr) (wh : Bool) (l : List (List UInt8)) (old ru ph : List UInt8) : Nat → Value → World → Prop
  | 0, v, _ => v = .pointer (some ⟨gt, 0, none⟩)
  | 1, v, _ => v = .pointer (some ⟨gt, 0, none⟩)
  | 2, v, _ => v = .pointer (some ⟨gt, 32, none⟩)
  | 3, v, _ => v = .slice ta 65 tc
  | 4, v, _ => v = .agg (bv ph).toArray
  | 5, v, _ => v = .int .i64 W
  | 6, v, _ => v = .int .u64 m
  | 7, v, _ => v = .int .u64 K
  | 8, v, _ => v = .int .u64 ((m - K : Nat) : Int)
  | 9, v, _ => v = .int .u64 n
  | 10, v, _ => v = .int .u64 K
  | 11, v, _ => v = .int .u64 ((n - K : Nat) : Int)
  | 12, v, _ => v = .agg (bv old).toArray
  | 13, v, _ => v = .slice (some ⟨b, off, none⟩) (z + 1) c
  | 14, v, _ => v = .int .i64 z
  | 15, v, _ => v = .slice (some ⟨b, off, none⟩) z c
  | 16, v, _ => v = .agg (bv ru).toArray
  | 17, v, w => Rd w 1 v 65 (bv (1 :: (ph ++ ru)))
  | 18, v, _ => v = .tuple #[] ∧ tx (hw W) l = 1 :: (ph ++ ru)
  | _, _, _ => True
/-- What each operation hands on. -/
def de8F (W : Int) (gt g11 g16 m n K b off z c : Nat) (plq : Option Addr) (wh : Bool) (old : List UInt8) (GR : Option (List UInt8 × List UInt8)) : Nat → Value → World → Prop
  | 0, v, _ => v = .int .i64 W
  | 1, v, _ => v = .pointer (some ⟨gt, 0, none⟩)
  | 2, v, _ => v = .pointer (some ⟨gt, 0, none⟩)
  | 3, v, _ => v = .pointer (some ⟨gt, 34, none⟩)
  | 4, v, _ => v = .pointer plq
  | 5, v, _ => v = .int .u64 m
  | 6, v, _ => v = .int .u64 K
  | 7, v, _ => v = .int .u64 ((m - K : Nat) : Int)
  | 8, v, _ => v = .int .u64 n
  | 9, v, _ => v = .int .u64 K
  | 10, v, _ => v = .int .u64 ((n - K : Nat) : Int)
  | 11, v, _ => v = .agg (bv old).toArray
  | 12, v, _ => v = .slice (some ⟨b, off, none⟩) (z + 1) c
  | 13, v, _ => v = .int .i64 z
  | 14, v, _ => v = .slice (some ⟨b, off, none⟩) z c
  | 15, v, _ => v = .tuple #[] ∧ GR = none
  | _, _, _ => True

set_option maxHeartbeats 16000000 in
set_option maxRecDepth 100000 in
theorem descend_any (W : Int) (hW : -9223372036854775808 ≤ W ∧ W ≤ 9223372036854775807) : ∀ (f : Nat) (l : List (List UInt8)) (p : Value) (m : Nat) (old : List UInt8) (ps : List (List UInt8)) (wh : Bool) (a : Option Addr) (c : Nat) (w : World), l.length ≤ f → l.length ≤ 4294967296 → old.length = 32 → 1 ≤ m → m ≤ l.length →
    (∀ q ∈ ps, q.length = 32) → ps.length = szG m l.length wh → Rd w 32 (.slice a ps.length c) ps.length (ps.flatMap bv) → Tr w W p l → Tabs w →
    Calls Tryd.prog 33 #[.int .i64 W, p, .int .u64 m, .int .u64 l.length, .agg (bv old).toArray, .slice a ps.length c, .bool wh] w fun e w' => MeetE w' (growF (hw W) f l m old ps wh) e ∧ Below w.heap.size w w' := by
  intro f
  induction f with
  | zero => intro l p m old ps wh a c w hf hn hh h1 h2; omega
  | succ f ih =>
    intro l p m old ps wh a c w hf hn hh hm1 hmn h32 hps hr hp hT
    obtain ⟨n, hl0⟩ : ∃ n, n = l.length := ⟨_, rfl⟩
    by_cases h1 : m = l.length
    · subst h1
      rw [grow_end]
      rw [← hl0] at *
      obtain ⟨pq, rfl⟩ := hp.form
      have y1 : ((n : Int) == (n : Int)) = true := by simp
      obtain ⟨L, hL⟩ : ∃ L, L = ps.length := ⟨_, rfl⟩
      rw [← hL]
      clear ih hr hT hp hps h32 hL hf hn hm1 hmn hh hl0
      go_enter Tryd.func33, Tryd.ntmps33
      go_wp2_with fail
      refine bodyPost_ret (results_none Tryd.results33 _ _ _) rfl ?_
      exact ⟨rfl, (Below.refl _ _).alloc (Nat.le_refl _) _⟩
    · have h2 : 2 ≤ n := by omega
      have hlt : m < n := by omega
      have y1 : ((m : Int) == (n : Int)) = false := by simp; omega
      have hinv := hp.inv (by omega)
      obtain ⟨gt, ta, tc, pl, pr, rfl, hgt, hrt0, htl, htr⟩ := hinv
      have htx65 := tx_length (hw W) (hw32 W) l (by omega)
      rw [← hl0] at hps hmn hn ⊢
      obtain ⟨z, hm⟩ : ∃ z, ps.length = z + 1 := by
        rcases Nat.lt_or_ge (top n) m with h | h
        · exact ⟨_, hps.trans (szG_right m n wh hlt h)⟩
        · exact ⟨_, hps.trans (szG_left m n wh hm1 hlt h)⟩
      obtain ⟨ph, hpl⟩ : ∃ p, ps[z]? = some p := ⟨ps[z], List.getElem?_eq_getElem (by omega)⟩
      have hph32 := h32 ph (List.mem_of_getElem? hpl)
      have hqs : ps = ps.take z ++ [ph] := by
        have := List.take_append_drop z ps
        rw [List.drop_eq_getElem_cons (by omega), List.drop_of_length_le (by omega), (List.getElem?_eq_some_iff.1 hpl).2] at this
        exact this.symm
      have hql : (ps.take z).length = z := by rw [List.length_take]; omega
      obtain ⟨b, off, c', hv, hcap, hcell⟩ := hr.atN (by omega) (by omega)
      simp only [Value.slice.injEq, true_and] at hv
      obtain ⟨rfl, rfl⟩ := hv
      have hrg := range_at (w := w) h32 hpl hcell
      have hrq : Rd w 32 (.slice (some ⟨b, off, none⟩) z c) z ((ps.take z).flatMap bv) := by rw [flat_take32 _ _ h32]; exact rd_take hr z (by omega)
      have hq32 : ∀ p ∈ ps.take z, p.length = 32 := fun p hp => h32 p (List.mem_of_mem_take hp)
      have hcap2 : z + 1 ≤ c := by rw [← hm]; exact hcap
      have hzb : z ≤ 65 := by have := szG_le m n wh hm1 (by omega) (by omega); omega
      obtain ⟨L, hL⟩ : ∃ L, L = ps.length := ⟨_, rfl⟩
      rw [← hL] at hm
      obtain ⟨qs, hqe⟩ : ∃ q, q = ps.take z := ⟨_, rfl⟩
      rw [← hqe] at hqs hql hrq hq32
      have hK1 := top_lt n h2
      have hK0 := top_pos n
      have hk2 := top_le2 n
      have y2 : IntKind.i64.wrap (((z + 1 : Nat) : Int) - 1) = (z : Int) := (IntWalk.i64_in _ (by omega)).trans (by omega)
      have y3 : IntKind.i64.wrap ((z : Int) + 1 - 1) = (z : Int) := (IntWalk.i64_in _ (by omega)).trans (by omega)
      have z0 : (0 : Int) ≤ (z : Int) := by omega
      have z1 : (z : Int) < ((z + 1 : Nat) : Int) := by omega
      have z2 : (z : Int) < (z : Int) + 1 := by omega
      rw [← hL, hm]
      have hps' : qs.length + 1 = szG m n wh := by rw [hql, ← hps, ← hL, hm]
      obtain ⟨G, hGd⟩ : ∃ G, G = growF (hw W) (f + 1) l m old ps wh := ⟨_, rfl⟩
      rw [← hGd]
      rw [hqs] at hGd
      obtain ⟨hb1, hb64, htopp⟩ := top_len n h2 (by omega)
      have hlen2 := fun wx => Tryd.bits_Len64 ((n - 1 : Nat) : Int) wx (by omega) (by omega)
      rw [Int.toNat_natCast] at hlen2
      obtain ⟨K, hK⟩ : ∃ k, k = top n := ⟨_, rfl⟩
      rw [← hK] at hK1 hK0 hk2 htopp
      obtain ⟨d, hd⟩ : ∃ d, Lib.bitLen (n - 1) = d + 1 := ⟨Lib.bitLen (n - 1) - 1, by omega⟩
      rw [hd] at hlen2 hb64
      rw [hd, Nat.add_sub_cancel] at htopp
      have u2 : IntKind.u64.wrap ((n : Int) - 1) = ((n - 1 : Nat) : Int) := (IntWalk.u64_in _ (by omega)).trans (by omega)
      have u3 : (1 : Int) * 2 ^ d = (K : Int) := by rw [htopp]; simp
      have u3b : (2 : Int) ^ d = (K : Int) := by rw [htopp]; simp
      have u4 : IntKind.u64.wrap (K : Int) = (K : Int) := IntWalk.u64_in _ (by omega)
      have u5 : IntKind.i64.wrap (((d + 1 : Nat) : Int) - 1) = (d : Int) := (IntWalk.i64_in _ (by omega)).trans (by omega)
      have u5b : IntKind.i64.wrap ((d : Int) + 1 - 1) = (d : Int) := (IntWalk.i64_in _ (by omega)).trans (by omega)
      have u6 : (d : Int) ≤ 64 := by omega
      have HLE := Lib.hid hlen2
      clear hlen2 hd htopp
      have hlo : lo l = l.take K := by rw [lo_more l (by omega), ← hl0, hK]
      have hro : ro l = l.drop K := by rw [ro_more l (by omega), ← hl0, hK]
      rw [hlo] at htl
      rw [hro] at htr
      have htk : (l.take K).length = K := by rw [List.length_take]; omega
      have hdk : (l.drop K).length = n - K := by rw [List.length_drop, hl0]
      rcases Nat.lt_or_ge K m with htop | htop
      · rw [grow_right (hw W) f l m old qs ph wh (by omega) (by rw [← hl0, ← hK]; omega), ← hl0, ← hK] at hGd
        have hsz := szG_right m n wh hlt (by omega)
        have hsh := fun wx (hb : Below w.heap.size w wx) => shown_any W hW (n - K) old (m - K) (n - K) false qs (some ⟨b, off, none⟩) c wx (Nat.le_refl _) hh (by omega) (by omega) (by omega) hq32 (by rw [hK]; omega) (by rw [hql]; exact hrq.keep hb) (hT.keepB hb)
        have hih := fun wx (hb : Below w.heap.size w wx) => ih (l.drop K) pr (m - K) old qs false (some ⟨b, off, none⟩) c wx (by omega) (by omega) hh (by omega) (by omega) hq32 (by rw [hdk, hK]; omega) (by rw [hql]; exact hrq.keep hb) (htr.keep hb) (hT.keepB hb)
        rw [hql] at hsh hih
        rw [hdk] at hih
        obtain ⟨ru, hru⟩ : ∃ x, x = (showG (nodeH W) (m - K) (n - K) old false qs).2 := ⟨_, rfl⟩
        have hru32 : ru.length = 32 := by rw [hru]; exact (showG_32 W _ _ _ _ _ hh hq32).2
        rw [← hru] at hsh
        obtain ⟨GR, hGR⟩ : ∃ x, x = growF (hw W) f (l.drop K) (m - K) old qs false := ⟨_, rfl⟩
        rw [← hGR] at hih hGd
        have hge : G = if 1 :: (ph ++ ru) ≠ tx (hw W) l then some (tx (hw W) l, 1 :: (ph ++ ru)) else GR := by rw [hGd, hru]; rfl
        have y4 : ¬ (m : Int) ≤ (K : Int) := by omega
        clear hK hlo hro htk hdk hGR hGd hsz
        have HH0 := Lib.hid hh
        have HSH0 := Lib.hid hsh
        have HLN := Lib.hid (And.intro hh (And.intro hph32 hru32))
        have HRT := Lib.hid (show Rd w 1 (.slice ta 65 tc) 65 (bv (tx (hw W) l)) by have := hrt0; rwa [htx65] at this)
        have HTX0 := Lib.hid (show (tx (hw W) l).length = 65 ∧ (1 :: (ph ++ ru)).length = 65 from ⟨htx65, by simp [hru32, hph32]⟩)
        have HRG0 := Lib.hid hrg
        have HIH0 := Lib.hid hih
        have HGE := Lib.hid hge
        obtain ⟨plp, rfl⟩ := htl.form
        obtain ⟨prp, rfl⟩ := htr.form
        have HC0 := Lib.hid (fun wx (hb : Below w.heap.size w wx) => (show wx.cell? ⟨gt, 32, none⟩ = some (.slice ta 65 tc) ∧ wx.cell? ⟨gt, 33, none⟩ = some (.pointer plp) ∧ wx.cell? ⟨gt, 34, none⟩ = some (.pointer prp) from by
          have := trow_cell W ((hb.block _ (Array.getElem?_eq_some_iff.1 hgt).1).trans hgt)
          rwa [htx65] at this))
        clear hh hsh hph32 hru32 hrt0 htx65 hrg hih hge hgt htl htr hru ih hps hps' hr hT h32 hcell hcap hqs hqe hq32 hrq hql hW hpl hL hl0 hm
        go_enter Tryd.func33, Tryd.ntmps33
        go_upto_region 1 with fail
        obtain ⟨w0, hw0⟩ : ∃ x : World, x = w.alloc (.cells (bv old).toArray 35) := ⟨_, rfl⟩
        have hb0 : Below w.heap.size w w0 := by rw [hw0]; exact (Below.refl _ _).alloc (Nat.le_refl _) _
        have hr0 : w0.heap[w.heap.size]? = some (.cells (bv old).toArray 35 (0, 0)) := by rw [hw0]; exact heap_alloc_new _ _
        rw [← hw0]
        have H0 := Lib.hid (And.intro hb0 hr0)
        clear hw0 hb0 hr0
        go_wp2_with fail
        refine (HLE.out _).mono ?_
        rintro e w1 ⟨rfl, hw1⟩
        have H1 := Lib.hid (show Below w.heap.size w w1 ∧ w1.heap[w.heap.size]? = some (.cells (bv old).toArray 35 (0, 0)) by rw [hw1]; exact H0.out)
        clear hw1
        have HRG1 := Lib.hid (show w1.rangeAt b (off + z * 32) (bv ph) from range_keep HRG0.out H1.out.1)
        have H7 := Lib.hid (heap_alloc_new w1 (.cells (bv (zs 32)).toArray 35))
        have HZ32 := Lib.hid (show (zs 32).length = 32 by simp [zs])
        have hz := (zero_of_info info32).1
        go_upto_region 4 with (first
          | (with_reducible show wpList _ _ _ (⟨some 31, _, _, _, _, _⟩ :: _) _ _; refine wpList_load_mid rfl _ _ rfl b (off + z * 32) rfl (bv ph) _ HRG1.out Tryd.underlying35 rfl (hInfo' _ HLN.out.2.1) ?_)
          | (with_reducible show wpList _ _ _ (⟨none, Op.store _ _ _, _, _, _, _⟩ :: _) _ _; refine wpList_store_whole rfl _ _ _ rfl w1.heap.size (bv ph) rfl rfl (bv (zs 32)) _ H7.out (hInfo' _ HLN.out.2.1) (by rw [bv_length, bv_length, HLN.out.2.1, HZ32.out]) (bv_one _) ?_; intro w3 HG2 hg2))
        have k2 : Below w1.heap.size w1 w3 := below_grow ((Below.refl _ _).alloc (Nat.le_refl _) _) hg2 (Nat.le_refl _) (by simp)
        have HBW := Lib.hid (H1.out.1.trans (k2.mono H1.out.1.size))
        obtain ⟨g11, hg11⟩ : ∃ g, g = w.heap.size := ⟨_, rfl⟩
        obtain ⟨g16, hg16⟩ : ∃ g, g = w1.heap.size := ⟨_, rfl⟩
        have hr11 : w3.heap[g11]? = some (.cells (bv old).toArray 35 (0, 0)) := by rw [hg11]; exact (k2.block _ (Array.getElem?_eq_some_iff.1 H1.out.2).1).trans H1.out.2
        have hr16 : w3.heap[g16]? = some (.cells (bv ph).toArray 35 (0, 0)) := by rw [hg16]; exact HG2.out
        have HR := Lib.hid (fun wx (hb : Below w3.heap.size w3 wx) => And.intro ((hb.block _ (Array.getElem?_eq_some_iff.1 hr11).1).trans hr11) ((hb.block _ (Array.getElem?_eq_some_iff.1 hr16).1).trans hr16))
        have HC := Lib.hid (fun wx (hb : Below w3.heap.size w3 wx) => HC0.out wx (HBW.out.trans (hb.mono HBW.out.size)))
        have HSH := Lib.hid (fun wx (hb : Below w3.heap.size w3 wx) => HSH0.out wx (HBW.out.trans (hb.mono HBW.out.size)))
        have HTX := Lib.hid (show (tx (hw W) l).length = 65 ∧ Rd w3 1 (.slice ta 65 tc) 65 (bv (tx (hw W) l)) ∧ (1 :: (ph ++ ru)).length = 65 from ⟨HTX0.out.1, HRT.out.keep HBW.out, HTX0.out.2⟩)
        rw [← hg11, ← hg16]
        clear k2 HG2 hg2 hr11 hr16 hg11 hg16
        go_upto_region 7 with fail
        refine wp_region_stepsE (fun c wz => MeetE wz G (.panicked c) ∧ Below w.heap.size w wz) [some 64, some 65, some 66, some 67, some 68, some 69, some 70, some 71, some 72, some 73, some 74, some 75, some 76, some 77, some 78, some 79, some 80, some 81, some 82] [] (de7F W gt g11 g16 m n K b off z c tc ta wh l old ru ph) (fun _ wx wy => Below wx.heap.size wx wy) (fun wx => Below w3.heap.size w3 wx) ?hE (by kernel_rfl) (by kernel_rfl) rfl (by kernel_rfl) (Below.refl _ _).drew (fun _ wx => Below.refl _ _) (fun _ wx wy h k => h.trans (k.mono h.size)) ?hF ?hstep ?hend
        case hE =>
          intro c act wz hd _ hc
          exact ⟨hd, hc⟩
        case hF =>
          exact ⟨fun _ _ _ _ _ _ h => h, ⟨fun _ _ _ _ _ _ h => h, ⟨fun _ _ _ _ _ _ h => h, ⟨fun _ _ _ _ _ _ h => h, ⟨fun _ _ _ _ _ _ h => h, ⟨fun _ _ _ _ _ _ h => h, ⟨fun _ _ _ _ _ _ h => h, ⟨fun _ _ _ _ _ _ h => h, ⟨fun _ _ _ _ _ _ h => h, ⟨fun _ _ _ _ _ _ h => h, ⟨fun _ _ _ _ _ _ h => h, ⟨fun _ _ _ _ _ _ h => h, ⟨fun _ _ _ _ _ _ h => h, ⟨fun _ _ _ _ _ _ h => h, ⟨fun _ _ _ _ _ _ h => h, ⟨fun _ _ _ _ _ _ h => h, ⟨fun _ _ _ _ _ _ h => h, ⟨fun _ _ _ _ _ k h => Rd.keep h k, ⟨fun _ _ _ _ _ _ h => h, trivial⟩⟩⟩⟩⟩⟩⟩⟩⟩⟩⟩⟩⟩⟩⟩⟩⟩⟩⟩
        case hstep =>
          refine ⟨fun r wx hG hs hq hf => ?_, ?_⟩
          · have e1 : r 1 = .pointer (some ⟨gt, 0, none⟩) := hs 1 rfl
            refine (if_pos rfl).symm ▸ ?_
            clear hs hq hf
            refine givesE_of ?_
            unfold gives
            go_simp
            exact ⟨Below.refl _ _, rfl⟩
          refine ⟨fun r wx hG hs hq hf => ?_, ?_⟩
          · have h0 : r 64 = .pointer (some ⟨gt, 0, none⟩) := hf.1
            refine (if_pos rfl).symm ▸ ?_
            clear hs hq hf
            refine givesE_of ?_
            unfold gives
            go_simp
            exact ⟨Below.refl _ _, rfl⟩
          refine ⟨fun r wx hG hs hq hf => ?_, ?_⟩
          · have h1 : r 65 = .pointer (some ⟨gt, 0, none⟩) := hf.1
            refine (if_pos rfl).symm ▸ ?_
            clear hs hq hf
            refine givesE_of ?_
            unfold gives
            go_simp
            exact ⟨Below.refl _ _, rfl⟩
          refine ⟨fun r wx hG hs hq hf => ?_, ?_⟩
          · have h2 : r 66 = .pointer (some ⟨gt, 32, none⟩) := hf.1
            refine (if_pos rfl).symm ▸ ?_
            clear hs hq hf
            refine givesE_of ?_
            unfold gives
            have hcl := (HC.out wx hG).1
            go_simp
            exact ⟨Below.refl _ _, rfl⟩
          refine ⟨fun r wx hG hs hq hf => ?_, ?_⟩
          · have e16 : r 16 = .pointer (some ⟨g16, 0, none⟩) := hs 16 rfl
            refine (if_pos rfl).symm ▸ ?_
            clear hs hq hf
            refine givesE_of ?_
            unfold gives
            refine gives_load_row 35 _ rfl g16 e16 35 _ (0, 0) _ (HR.out wx hG).2 Tryd.underlying35 rfl (hInfo _ HLN.out.2.1) ?_
            exact ⟨Below.refl _ _, rfl⟩
          refine ⟨fun r wx hG hs hq hf => ?_, ?_⟩
          · have e0 : r 0 = .int .i64 W := hs 0 rfl
            refine (if_pos rfl).symm ▸ ?_
            clear hs hq hf
            refine givesE_of ?_
            unfold gives
            go_simp
            exact ⟨Below.refl _ _, rfl⟩
          refine ⟨fun r wx hG hs hq hf => ?_, ?_⟩
          · have e2 : r 2 = .int .u64 m := hs 2 rfl
            refine (if_pos rfl).symm ▸ ?_
            clear hs hq hf
            refine givesE_of ?_
            unfold gives
            go_simp
            exact ⟨Below.refl _ _, rfl⟩
          refine ⟨fun r wx hG hs hq hf => ?_, ?_⟩
          · have e14 : r 14 = .int .u64 K := hs 14 rfl
            refine (if_pos rfl).symm ▸ ?_
            clear hs hq hf
            refine givesE_of ?_
            unfold gives
            go_simp
            exact ⟨Below.refl _ _, rfl⟩
          refine ⟨fun r wx hG hs hq hf => ?_, ?_⟩
          · have h6 : r 70 = .int .u64 m := hf.1
            have h7 : r 71 = .int .u64 K := hf.2.1
            refine (if_pos rfl).symm ▸ ?_
            clear hs hq hf
            refine givesE_of ?_
            unfold gives
            have zw : IntKind.u64.wrap ((m : Int) - (K : Int)) = ((m - K : Nat) : Int) := (IntWalk.u64_in _ (by omega)).trans (by omega)
            go_simp
            exact ⟨Below.refl _ _, rfl⟩
          refine ⟨fun r wx hG hs hq hf => ?_, ?_⟩
          · have e3 : r 3 = .int .u64 n := hs 3 rfl
            refine (if_pos rfl).symm ▸ ?_
            clear hs hq hf
            refine givesE_of ?_
            unfold gives
            go_simp
            exact ⟨Below.refl _ _, rfl⟩
          refine ⟨fun r wx hG hs hq hf => ?_, ?_⟩
          · have e14 : r 14 = .int .u64 K := hs 14 rfl
            refine (if_pos rfl).symm ▸ ?_
            clear hs hq hf
            refine givesE_of ?_
            unfold gives
            go_simp
            exact ⟨Below.refl _ _, rfl⟩
          refine ⟨fun r wx hG hs hq hf => ?_, ?_⟩
          · have h9 : r 73 = .int .u64 n := hf.1
            have h10 : r 74 = .int .u64 K := hf.2.1
            refine (if_pos rfl).symm ▸ ?_
            clear hs hq hf
            refine givesE_of ?_
            unfold gives
            have zw : IntKind.u64.wrap ((n : Int) - (K : Int)) = ((n - K : Nat) : Int) := (IntWalk.u64_in _ (by omega)).trans (by omega)
            go_simp
            exact ⟨Below.refl _ _, rfl⟩
          refine ⟨fun r wx hG hs hq hf => ?_, ?_⟩
          · have e11 : r 11 = .pointer (some ⟨g11, 0, none⟩) := hs 11 rfl
            refine (if_pos rfl).symm ▸ ?_
            clear hs hq hf
            refine givesE_of ?_
            unfold gives
            refine gives_load_row 35 _ rfl g11 e11 35 _ (0, 0) _ (HR.out wx hG).1 Tryd.underlying35 rfl (hInfo _ HLN.out.1) ?_
            exact ⟨Below.refl _ _, rfl⟩
          refine ⟨fun r wx hG hs hq hf => ?_, ?_⟩
          · have e5 : r 5 = .slice (some ⟨b, off, none⟩) (z + 1) c := hs 5 rfl
            refine (if_pos rfl).symm ▸ ?_
            clear hs hq hf
            refine givesE_of ?_
            unfold gives
            go_simp
            exact ⟨Below.refl _ _, rfl⟩
          refine ⟨fun r wx hG hs hq hf => ?_, ?_⟩
          · have e15 : r 15 = .int .i64 z := hs 15 rfl
            refine (if_pos rfl).symm ▸ ?_
            clear hs hq hf
            refine givesE_of ?_
            unfold gives
            go_simp
            exact ⟨Below.refl _ _, rfl⟩
          refine ⟨fun r wx hG hs hq hf => ?_, ?_⟩
          · have h13 : r 77 = .slice (some ⟨b, off, none⟩) (z + 1) c := hf.1
            have h14 : r 78 = .int .i64 z := hf.2.1
            refine (if_pos rfl).symm ▸ ?_
            clear hs hq hf
            refine givesE_of ?_
            unfold gives
            have z0 : (0 : Int) ≤ (z : Int) := by omega
            have z1 : (z : Int) ≤ (c : Int) := by omega
            go_simp
            exact ⟨Below.refl _ _, rfl⟩
          refine ⟨fun r wx hG hs hq hf => ?_, ?_⟩
          · have h5 : r 69 = .int .i64 W := hf.1
            have h8 : r 72 = .int .u64 ((m - K : Nat) : Int) := hf.2.1
            have h11 : r 75 = .int .u64 ((n - K : Nat) : Int) := hf.2.2.1
            have h12 : r 76 = .agg (bv old).toArray := hf.2.2.2.1
            have h15 : r 79 = .slice (some ⟨b, off, none⟩) z c := hf.2.2.2.2.1
            refine (if_pos rfl).symm ▸ ?_
            clear hs hq hf
            refine givesE_of ?_
            unfold gives
            go_simp
            refine (HSH.out wx hG).mono ?_
            rintro e wy ⟨rfl, hb1⟩
            exact ⟨_, rfl, hb1, rfl⟩
          refine ⟨fun r wx hG hs hq hf => ?_, ?_⟩
          · have h4 : r 68 = .agg (bv ph).toArray := hf.1
            have h16 : r 80 = .agg (bv ru).toArray := hf.2.1
            refine (if_pos rfl).symm ▸ ?_
            clear hs hq hf
            refine givesE_of ?_
            unfold gives
            go_simp
            refine (nodeText_any ph ru wx HLN.out.2.1 HLN.out.2.2).mono ?_
            rintro e wy ⟨v', rfl, hq1, hb1⟩
            rw [HTX.out.2.2] at hq1
            exact ⟨_, rfl, hb1, hq1⟩
          refine ⟨fun r wx hG hs hq hf => ?_, ?_⟩
          · have h3 : r 67 = .slice ta 65 tc := hf.1
            have h17 : Rd wx 1 (r 81) 65 (bv (1 :: (ph ++ ru))) := hf.2.1
            refine (if_pos rfl).symm ▸ ?_
            clear hs hq hf
            unfold givesE
            obtain ⟨xa, xc, hf⟩ := h17.form
            rw [hf] at h17
            have hdf := differ_any (tx (hw W) l) (1 :: (ph ++ ru)) ta xa tc xc wx (by rw [HTX.out.1]; exact (HTX.out.2.1).keep hG) (by rw [HTX.out.2.2]; exact h17)
            rw [HTX.out.1, HTX.out.2.2] at hdf
            go_simp
            refine hdf.mono ?_
            rintro e wy ⟨he, hb1⟩
            by_cases hq : tx (hw W) l = 1 :: (ph ++ ru)
            · rw [if_pos hq] at he
              exact .inl ⟨_, he, hb1, rfl, hq⟩
            · rw [if_neg hq] at he
              refine .inr ⟨_, he, ?_, HBW.out.trans ((hG.trans (hb1.mono hG.size)).mono HBW.out.size)⟩
              rw [HGE.out, if_pos (fun e => hq e.symm)]
              exact ⟨_, _, rfl, by show Rd wy 1 _ (tx (hw W) l).length _; rw [HTX.out.1]; exact ((HTX.out.2.1).keep hG).keep hb1, by show Rd wy 1 _ (1 :: (ph ++ ru)).length _; rw [HTX.out.2.2]; exact h17.keep hb1⟩
          exact trivial
        case hend =>
          intro u wz hG hfin
          have z18 : (u 18) = .tuple #[] ∧ tx (hw W) l = 1 :: (ph ++ ru) := hfin 18 (by decide) (by kernel_rfl)
          clear hfin
          simp only [fill]
          have hz := z18
          have HEQ := Lib.hid hz.2
          have hz1 := hz.1
          have HB3 := Lib.hid (HBW.out.trans (hG.mono HBW.out.size))
          obtain ⟨w4, hw4⟩ : ∃ x, x = wz := ⟨_, rfl⟩
          subst hw4
          have HC := Lib.hid (fun wx (hb : Below w4.heap.size w4 wx) => HC0.out wx (HB3.out.trans (hb.mono HB3.out.size)))
          have HR := Lib.hid (fun wx (hb : Below w4.heap.size w4 wx) => HR.out wx (hG.trans (hb.mono hG.size)))
          have HIH := Lib.hid (fun wx (hb : Below w4.heap.size w4 wx) => HIH0.out wx (HB3.out.trans (hb.mono HB3.out.size)))
          have HBW := HB3
          clear z18 hz hG
          rw [hz1]
          clear hz1
          go_simp
          go_upto_region 8 with fail
          refine wp_region_stepsE (fun c wz => MeetE wz G (.panicked c) ∧ Below w.heap.size w wz) [some 83, some 84, some 85, some 86, some 87, some 88, some 89, some 90, some 91, some 92, some 93, some 94, some 95, some 96, some 97, some 98] [] (de8F W gt g11 g16 m n K b off z c prp wh old GR) (fun _ wx wy => Below wx.heap.size wx wy) (fun wx => Below w4.heap.size w4 wx) ?hE (by kernel_rfl) (by kernel_rfl) rfl (by kernel_rfl) (Below.refl _ _).drew (fun _ wx => Below.refl _ _) (fun _ wx wy h k => h.trans (k.mono h.size)) ?hF ?hstep ?hend
          case hE =>
            intro c act wz hd _ hc
            exact ⟨hd, hc⟩
          case hF =>
            exact ⟨fun _ _ _ _ _ _ h => h, ⟨fun _ _ _ _ _ _ h => h, ⟨fun _ _ _ _ _ _ h => h, ⟨fun _ _ _ _ _ _ h => h, ⟨fun _ _ _ _ _ _ h => h, ⟨fun _ _ _ _ _ _ h => h, ⟨fun _ _ _ _ _ _ h => h, ⟨fun _ _ _ _ _ _ h => h, ⟨fun _ _ _ _ _ _ h => h, ⟨fun _ _ _ _ _ _ h => h, ⟨fun _ _ _ _ _ _ h => h, ⟨fun _ _ _ _ _ _ h => h, ⟨fun _ _ _ _ _ _ h => h, ⟨fun _ _ _ _ _ _ h => h, ⟨fun _ _ _ _ _ _ h => h, ⟨fun _ _ _ _ _ _ h => h, trivial⟩⟩⟩⟩⟩⟩⟩⟩⟩⟩⟩⟩⟩⟩⟩⟩
          case hstep =>
            refine ⟨fun r wx hG hs hq hf => ?_, ?_⟩
            · have e0 : r 0 = .int .i64 W := hs 0 rfl
              refine (if_pos rfl).symm ▸ ?_
              clear hs hq hf
              refine givesE_of ?_
              unfold gives
              go_simp
              exact ⟨Below.refl _ _, rfl⟩
            refine ⟨fun r wx hG hs hq hf => ?_, ?_⟩
            · have e1 : r 1 = .pointer (some ⟨gt, 0, none⟩) := hs 1 rfl
              refine (if_pos rfl).symm ▸ ?_
              clear hs hq hf
              refine givesE_of ?_
              unfold gives
              go_simp
              exact ⟨Below.refl _ _, rfl⟩
            refine ⟨fun r wx hG hs hq hf => ?_, ?_⟩
            · have h1 : r 84 = .pointer (some ⟨gt, 0, none⟩) := hf.1
              refine (if_pos rfl).symm ▸ ?_
              clear hs hq hf
              refine givesE_of ?_
              unfold gives
              go_simp
              exact ⟨Below.refl _ _, rfl⟩
            refine ⟨fun r wx hG hs hq hf => ?_, ?_⟩
            · have h2 : r 85 = .pointer (some ⟨gt, 0, none⟩) := hf.1
              refine (if_pos rfl).symm ▸ ?_
              clear hs hq hf
              refine givesE_of ?_
              unfold gives
              go_simp
              exact ⟨Below.refl _ _, rfl⟩
            refine ⟨fun r wx hG hs hq hf => ?_, ?_⟩
            · have h3 : r 86 = .pointer (some ⟨gt, 34, none⟩) := hf.1
              refine (if_pos rfl).symm ▸ ?_
              clear hs hq hf
              refine givesE_of ?_
              unfold gives
              have hcl := (HC.out wx hG).2.2
              go_simp
              exact ⟨Below.refl _ _, rfl⟩
            refine ⟨fun r wx hG hs hq hf => ?_, ?_⟩
            · have e2 : r 2 = .int .u64 m := hs 2 rfl
              refine (if_pos rfl).symm ▸ ?_
              clear hs hq hf
              refine givesE_of ?_
              unfold gives
              go_simp
              exact ⟨Below.refl _ _, rfl⟩
            refine ⟨fun r wx hG hs hq hf => ?_, ?_⟩
            · have e14 : r 14 = .int .u64 K := hs 14 rfl
              refine (if_pos rfl).symm ▸ ?_
              clear hs hq hf
              refine givesE_of ?_
              unfold gives
              go_simp
              exact ⟨Below.refl _ _, rfl⟩
            refine ⟨fun r wx hG hs hq hf => ?_, ?_⟩
            · have h5 : r 88 = .int .u64 m := hf.1
              have h6 : r 89 = .int .u64 K := hf.2.1
              refine (if_pos rfl).symm ▸ ?_
              clear hs hq hf
              refine givesE_of ?_
              unfold gives
              have zw : IntKind.u64.wrap ((m : Int) - (K : Int)) = ((m - K : Nat) : Int) := (IntWalk.u64_in _ (by omega)).trans (by omega)
              go_simp
              exact ⟨Below.refl _ _, rfl⟩
            refine ⟨fun r wx hG hs hq hf => ?_, ?_⟩
            · have e3 : r 3 = .int .u64 n := hs 3 rfl
              refine (if_pos rfl).symm ▸ ?_
              clear hs hq hf
              refine givesE_of ?_
              unfold gives
              go_simp
              exact ⟨Below.refl _ _, rfl⟩
            refine ⟨fun r wx hG hs hq hf => ?_, ?_⟩
            · have e14 : r 14 = .int .u64 K := hs 14 rfl
              refine (if_pos rfl).symm ▸ ?_
              clear hs hq hf
              refine givesE_of ?_
              unfold gives
              go_simp
              exact ⟨Below.refl _ _, rfl⟩
            refine ⟨fun r wx hG hs hq hf => ?_, ?_⟩
            · have h8 : r 91 = .int .u64 n := hf.1
              have h9 : r 92 = .int .u64 K := hf.2.1
              refine (if_pos rfl).symm ▸ ?_
              clear hs hq hf
              refine givesE_of ?_
              unfold gives
              have zw : IntKind.u64.wrap ((n : Int) - (K : Int)) = ((n - K : Nat) : Int) := (IntWalk.u64_in _ (by omega)).trans (by omega)
              go_simp
              exact ⟨Below.refl _ _, rfl⟩
            refine ⟨fun r wx hG hs hq hf => ?_, ?_⟩
            · have e11 : r 11 = .pointer (some ⟨g11, 0, none⟩) := hs 11 rfl
              refine (if_pos rfl).symm ▸ ?_
              clear hs hq hf
              refine givesE_of ?_
              unfold gives
              refine gives_load_row 35 _ rfl g11 e11 35 _ (0, 0) _ (HR.out wx hG).1 Tryd.underlying35 rfl (hInfo _ HLN.out.1) ?_
              exact ⟨Below.refl _ _, rfl⟩
            refine ⟨fun r wx hG hs hq hf => ?_, ?_⟩
            · have e5 : r 5 = .slice (some ⟨b, off, none⟩) (z + 1) c := hs 5 rfl
              refine (if_pos rfl).symm ▸ ?_
              clear hs hq hf
              refine givesE_of ?_
              unfold gives
              go_simp
              exact ⟨Below.refl _ _, rfl⟩
            refine ⟨fun r wx hG hs hq hf => ?_, ?_⟩
            · have e15 : r 15 = .int .i64 z := hs 15 rfl
              refine (if_pos rfl).symm ▸ ?_
              clear hs hq hf
              refine givesE_of ?_
              unfold gives
              go_simp
              exact ⟨Below.refl _ _, rfl⟩
            refine ⟨fun r wx hG hs hq hf => ?_, ?_⟩
            · have h12 : r 95 = .slice (some ⟨b, off, none⟩) (z + 1) c := hf.1
              have h13 : r 96 = .int .i64 z := hf.2.1
              refine (if_pos rfl).symm ▸ ?_
              clear hs hq hf
              refine givesE_of ?_
              unfold gives
              have z0 : (0 : Int) ≤ (z : Int) := by omega
              have z1 : (z : Int) ≤ (c : Int) := by omega
              go_simp
              exact ⟨Below.refl _ _, rfl⟩
            refine ⟨fun r wx hG hs hq hf => ?_, ?_⟩
            · have h0 : r 83 = .int .i64 W := hf.1
              have h4 : r 87 = .pointer prp := hf.2.1
              have h7 : r 90 = .int .u64 ((m - K : Nat) : Int) := hf.2.2.1
              have h10 : r 93 = .int .u64 ((n - K : Nat) : Int) := hf.2.2.2.1
              have h11 : r 94 = .agg (bv old).toArray := hf.2.2.2.2.1
              have h14 : r 97 = .slice (some ⟨b, off, none⟩) z c := hf.2.2.2.2.2.1
              refine (if_pos rfl).symm ▸ ?_
              clear hs hq hf
              unfold givesE
              go_simp
              refine (HIH.out wx hG).mono ?_
              rintro e wy ⟨he, hb1⟩
              cases hm : GR with
              | none =>
                rw [hm] at he
                exact .inl ⟨_, he, hb1, rfl, by first | exact hm | rfl⟩
              | some p =>
                rw [hm] at he
                obtain ⟨va, vb, he, h1, h2⟩ := he
                subst he
                refine .inr ⟨_, rfl, ?_, HBW.out.trans ((hG.trans (hb1.mono hG.size)).mono HBW.out.size)⟩
                rw [HGE.out, if_neg (by rw [HEQ.out]; simp), hm]
                exact ⟨va, vb, rfl, h1, h2⟩
            exact trivial
          case hend =>
            intro u wz hG hfin
            have z15 : (u 15) = .tuple #[] ∧ GR = none := hfin 15 (by decide) (by kernel_rfl)
            clear hfin
            simp only [fill]
            have HB9 := Lib.hid (HBW.out.trans (hG.mono HBW.out.size))
            have HM2 := Lib.hid z15.2
            have hz8 := z15.1
            clear hG z15
            rw [hz8]
            clear hz8
            go_simp
            go_wp2_with fail
            go_end0
            refine ⟨?_, HB9.out⟩
            rw [HGE.out, if_neg (by rw [HEQ.out]; simp), HM2.out]
            exact rfl
      · rw [grow_left (hw W) f l m old qs ph wh (by omega) (by rw [← hl0, ← hK]; omega), ← hl0, ← hK] at hGd
        have hsz := szG_left m n wh hm1 hlt (by omega)
        have hsh := fun wx (hb : Below w.heap.size w wx) => shown_any W hW K old m K wh qs (some ⟨b, off, none⟩) c wx (Nat.le_refl _) hh hm1 htop (by omega) hq32 (by rw [hK]; omega) (by rw [hql]; exact hrq.keep hb) (hT.keepB hb)
        have hih := fun wx (hb : Below w.heap.size w wx) => ih (l.take K) pl m old qs wh (some ⟨b, off, none⟩) c wx (by omega) (by omega) hh hm1 (by omega) hq32 (by rw [htk, hK]; omega) (by rw [hql]; exact hrq.keep hb) (htl.keep hb) (hT.keepB hb)
        rw [hql] at hsh hih
        rw [htk] at hih
        obtain ⟨ru, hru⟩ : ∃ x, x = (showG (nodeH W) m K old wh qs).2 := ⟨_, rfl⟩
        have hru32 : ru.length = 32 := by rw [hru]; exact (showG_32 W _ _ _ _ _ hh hq32).2
        rw [← hru] at hsh
        obtain ⟨GR, hGR⟩ : ∃ x, x = growF (hw W) f (l.take K) m old qs wh := ⟨_, rfl⟩
        rw [← hGR] at hih hGd
        have hge : G = if 1 :: (ru ++ ph) ≠ tx (hw W) l then some (tx (hw W) l, 1 :: (ru ++ ph)) else GR := by rw [hGd, hru]; rfl
        have y4 : (m : Int) ≤ (K : Int) := by omega
        clear hK hlo hro htk hdk hGR hGd hsz
        have HH0 := Lib.hid hh
        have HSH0 := Lib.hid hsh
        have HLN := Lib.hid (And.intro hh (And.intro hph32 hru32))
        have HRT := Lib.hid (show Rd w 1 (.slice ta 65 tc) 65 (bv (tx (hw W) l)) by have := hrt0; rwa [htx65] at this)
        have HTX0 := Lib.hid (show (tx (hw W) l).length = 65 ∧ (1 :: (ru ++ ph)).length = 65 from ⟨htx65, by simp [hru32, hph32]⟩)
        have HRG0 := Lib.hid hrg
        have HIH0 := Lib.hid hih
        have HGE := Lib.hid hge
        obtain ⟨plp, rfl⟩ := htl.form
        obtain ⟨prp, rfl⟩ := htr.form
        have HC0 := Lib.hid (fun wx (hb : Below w.heap.size w wx) => (show wx.cell? ⟨gt, 32, none⟩ = some (.slice ta 65 tc) ∧ wx.cell? ⟨gt, 33, none⟩ = some (.pointer plp) ∧ wx.cell? ⟨gt, 34, none⟩ = some (.pointer prp) from by
          have := trow_cell W ((hb.block _ (Array.getElem?_eq_some_iff.1 hgt).1).trans hgt)
          rwa [htx65] at this))
        clear hh hsh hph32 hru32 hrt0 htx65 hrg hih hge hgt htl htr hru ih hps hps' hr hT h32 hcell hcap hqs hqe hq32 hrq hql hW hpl hL hl0 hm
        go_enter Tryd.func33, Tryd.ntmps33
        go_upto_region 1 with fail
        obtain ⟨w0, hw0⟩ : ∃ x : World, x = w.alloc (.cells (bv old).toArray 35) := ⟨_, rfl⟩
        have hb0 : Below w.heap.size w w0 := by rw [hw0]; exact (Below.refl _ _).alloc (Nat.le_refl _) _
        have hr0 : w0.heap[w.heap.size]? = some (.cells (bv old).toArray 35 (0, 0)) := by rw [hw0]; exact heap_alloc_new _ _
        rw [← hw0]
        have H0 := Lib.hid (And.intro hb0 hr0)
        clear hw0 hb0 hr0
        go_wp2_with fail
        refine (HLE.out _).mono ?_
        rintro e w1 ⟨rfl, hw1⟩
        have H1 := Lib.hid (show Below w.heap.size w w1 ∧ w1.heap[w.heap.size]? = some (.cells (bv old).toArray 35 (0, 0)) by rw [hw1]; exact H0.out)
        clear hw1
        have HRG1 := Lib.hid (show w1.rangeAt b (off + z * 32) (bv ph) from range_keep HRG0.out H1.out.1)
        have H7 := Lib.hid (heap_alloc_new w1 (.cells (bv (zs 32)).toArray 35))
        have HZ32 := Lib.hid (show (zs 32).length = 32 by simp [zs])
        have hz := (zero_of_info info32).1
        go_upto_region 4 with (first
          | (with_reducible show wpList _ _ _ (⟨some 31, _, _, _, _, _⟩ :: _) _ _; refine wpList_load_mid rfl _ _ rfl b (off + z * 32) rfl (bv ph) _ HRG1.out Tryd.underlying35 rfl (hInfo' _ HLN.out.2.1) ?_)
          | (with_reducible show wpList _ _ _ (⟨none, Op.store _ _ _, _, _, _, _⟩ :: _) _ _; refine wpList_store_whole rfl _ _ _ rfl w1.heap.size (bv ph) rfl rfl (bv (zs 32)) _ H7.out (hInfo' _ HLN.out.2.1) (by rw [bv_length, bv_length, HLN.out.2.1, HZ32.out]) (bv_one _) ?_; intro w3 HG2 hg2))
        have k2 : Below w1.heap.size w1 w3 := below_grow ((Below.refl _ _).alloc (Nat.le_refl _) _) hg2 (Nat.le_refl _) (by simp)
        have HBW := Lib.hid (H1.out.1.trans (k2.mono H1.out.1.size))
        obtain ⟨g11, hg11⟩ : ∃ g, g = w.heap.size := ⟨_, rfl⟩
        obtain ⟨g16, hg16⟩ : ∃ g, g = w1.heap.size := ⟨_, rfl⟩
        have hr11 : w3.heap[g11]? = some (.cells (bv old).toArray 35 (0, 0)) := by rw [hg11]; exact (k2.block _ (Array.getElem?_eq_some_iff.1 H1.out.2).1).trans H1.out.2
        have hr16 : w3.heap[g16]? = some (.cells (bv ph).toArray 35 (0, 0)) := by rw [hg16]; exact HG2.out
        have HR := Lib.hid (fun wx (hb : Below w3.heap.size w3 wx) => And.intro ((hb.block _ (Array.getElem?_eq_some_iff.1 hr11).1).trans hr11) ((hb.block _ (Array.getElem?_eq_some_iff.1 hr16).1).trans hr16))
        have HC := Lib.hid (fun wx (hb : Below w3.heap.size w3 wx) => HC0.out wx (HBW.out.trans (hb.mono HBW.out.size)))
        have HSH := Lib.hid (fun wx (hb : Below w3.heap.size w3 wx) => HSH0.out wx (HBW.out.trans (hb.mono HBW.out.size)))
        have HTX := Lib.hid (show (tx (hw W) l).length = 65 ∧ Rd w3 1 (.slice ta 65 tc) 65 (bv (tx (hw W) l)) ∧ (1 :: (ru ++ ph)).length = 65 from ⟨HTX0.out.1, HRT.out.keep HBW.out, HTX0.out.2⟩)
        rw [← hg11, ← hg16]
        clear k2 HG2 hg2 hr11 hr16 hg11 hg16
        go_upto_region 5 with fail
        refine wp_region_stepsE (fun c wz => MeetE wz G (.panicked c) ∧ Below w.heap.size w wz) [some 35, some 36, some 37, some 38, some 39, some 40, some 41, some 42, some 43, some 44, some 45, some 46, some 47, some 48, some 49, some 50] [] (de5F W gt g11 g16 m n K b off z c tc ta wh l old ru ph) (fun _ wx wy => Below wx.heap.size wx wy) (fun wx => Below w3.heap.size w3 wx) ?hE (by kernel_rfl) (by kernel_rfl) rfl (by kernel_rfl) (Below.refl _ _).drew (fun _ wx => Below.refl _ _) (fun _ wx wy h k => h.trans (k.mono h.size)) ?hF ?hstep ?hend
        case hE =>
          intro c act wz hd _ hc
          exact ⟨hd, hc⟩
        case hF =>
          exact ⟨fun _ _ _ _ _ _ h => h, ⟨fun _ _ _ _ _ _ h => h, ⟨fun _ _ _ _ _ _ h => h, ⟨fun _ _ _ _ _ _ h => h, ⟨fun _ _ _ _ _ _ h => h, ⟨fun _ _ _ _ _ _ h => h, ⟨fun _ _ _ _ _ _ h => h, ⟨fun _ _ _ _ _ _ h => h, ⟨fun _ _ _ _ _ _ h => h, ⟨fun _ _ _ _ _ _ h => h, ⟨fun _ _ _ _ _ _ h => h, ⟨fun _ _ _ _ _ _ h => h, ⟨fun _ _ _ _ _ _ h => h, ⟨fun _ _ _ _ _ _ h => h, ⟨fun _ _ _ _ _ k h => Rd.keep h k, ⟨fun _ _ _ _ _ _ h => h, trivial⟩⟩⟩⟩⟩⟩⟩⟩⟩⟩⟩⟩⟩⟩⟩⟩
        case hstep =>
          refine ⟨fun r wx hG hs hq hf => ?_, ?_⟩
          · have e1 : r 1 = .pointer (some ⟨gt, 0, none⟩) := hs 1 rfl
            refine (if_pos rfl).symm ▸ ?_
            clear hs hq hf
            refine givesE_of ?_
            unfold gives
            go_simp
            exact ⟨Below.refl _ _, rfl⟩
          refine ⟨fun r wx hG hs hq hf => ?_, ?_⟩
          · have h0 : r 35 = .pointer (some ⟨gt, 0, none⟩) := hf.1
            refine (if_pos rfl).symm ▸ ?_
            clear hs hq hf
            refine givesE_of ?_
            unfold gives
            go_simp
            exact ⟨Below.refl _ _, rfl⟩
          refine ⟨fun r wx hG hs hq hf => ?_, ?_⟩
          · have h1 : r 36 = .pointer (some ⟨gt, 0, none⟩) := hf.1
            refine (if_pos rfl).symm ▸ ?_
            clear hs hq hf
            refine givesE_of ?_
            unfold gives
            go_simp
            exact ⟨Below.refl _ _, rfl⟩
          refine ⟨fun r wx hG hs hq hf => ?_, ?_⟩
          · have h2 : r 37 = .pointer (some ⟨gt, 32, none⟩) := hf.1
            refine (if_pos rfl).symm ▸ ?_
            clear hs hq hf
            refine givesE_of ?_
            unfold gives
            have hcl := (HC.out wx hG).1
            go_simp
            exact ⟨Below.refl _ _, rfl⟩
          refine ⟨fun r wx hG hs hq hf => ?_, ?_⟩
          · have e0 : r 0 = .int .i64 W := hs 0 rfl
            refine (if_pos rfl).symm ▸ ?_
            clear hs hq hf
            refine givesE_of ?_
            unfold gives
            go_simp
            exact ⟨Below.refl _ _, rfl⟩
          refine ⟨fun r wx hG hs hq hf => ?_, ?_⟩
          · have e2 : r 2 = .int .u64 m := hs 2 rfl
            refine (if_pos rfl).symm ▸ ?_
            clear hs hq hf
            refine givesE_of ?_
            unfold gives
            go_simp
            exact ⟨Below.refl _ _, rfl⟩
          refine ⟨fun r wx hG hs hq hf => ?_, ?_⟩
          · have e14 : r 14 = .int .u64 K := hs 14 rfl
            refine (if_pos rfl).symm ▸ ?_
            clear hs hq hf
            refine givesE_of ?_
            unfold gives
            go_simp
            exact ⟨Below.refl _ _, rfl⟩
          refine ⟨fun r wx hG hs hq hf => ?_, ?_⟩
          · have e11 : r 11 = .pointer (some ⟨g11, 0, none⟩) := hs 11 rfl
            refine (if_pos rfl).symm ▸ ?_
            clear hs hq hf
            refine givesE_of ?_
            unfold gives
            refine gives_load_row 35 _ rfl g11 e11 35 _ (0, 0) _ (HR.out wx hG).1 Tryd.underlying35 rfl (hInfo _ HLN.out.1) ?_
            exact ⟨Below.refl _ _, rfl⟩
          refine ⟨fun r wx hG hs hq hf => ?_, ?_⟩
          · have e5 : r 5 = .slice (some ⟨b, off, none⟩) (z + 1) c := hs 5 rfl
            refine (if_pos rfl).symm ▸ ?_
            clear hs hq hf
            refine givesE_of ?_
            unfold gives
            go_simp
            exact ⟨Below.refl _ _, rfl⟩
          refine ⟨fun r wx hG hs hq hf => ?_, ?_⟩
          · have e15 : r 15 = .int .i64 z := hs 15 rfl
            refine (if_pos rfl).symm ▸ ?_
            clear hs hq hf
            refine givesE_of ?_
            unfold gives
            go_simp
            exact ⟨Below.refl _ _, rfl⟩
          refine ⟨fun r wx hG hs hq hf => ?_, ?_⟩
          · have h8 : r 43 = .slice (some ⟨b, off, none⟩) (z + 1) c := hf.1
            have h9 : r 44 = .int .i64 z := hf.2.1
            refine (if_pos rfl).symm ▸ ?_
            clear hs hq hf
            refine givesE_of ?_
            unfold gives
            have z0 : (0 : Int) ≤ (z : Int) := by omega
            have z1 : (z : Int) ≤ (c : Int) := by omega
            go_simp
            exact ⟨Below.refl _ _, rfl⟩
          refine ⟨fun r wx hG hs hq hf => ?_, ?_⟩
          · have e6 : r 6 = .bool wh := hs 6 rfl
            refine (if_pos rfl).symm ▸ ?_
            clear hs hq hf
            refine givesE_of ?_
            unfold gives
            go_simp
            exact ⟨Below.refl _ _, rfl⟩
          refine ⟨fun r wx hG hs hq hf => ?_, ?_⟩
          · have h4 : r 39 = .int .i64 W := hf.1
            have h5 : r 40 = .int .u64 m := hf.2.1
            have h6 : r 41 = .int .u64 K := hf.2.2.1
            have h7 : r 42 = .agg (bv old).toArray := hf.2.2.2.1
            have h10 : r 45 = .slice (some ⟨b, off, none⟩) z c := hf.2.2.2.2.1
            have h11 : r 46 = .bool wh := hf.2.2.2.2.2.1
            refine (if_pos rfl).symm ▸ ?_
            clear hs hq hf
            refine givesE_of ?_
            unfold gives
            go_simp
            refine (HSH.out wx hG).mono ?_
            rintro e wy ⟨rfl, hb1⟩
            exact ⟨_, rfl, hb1, rfl⟩
          refine ⟨fun r wx hG hs hq hf => ?_, ?_⟩
          · have e16 : r 16 = .pointer (some ⟨g16, 0, none⟩) := hs 16 rfl
            refine (if_pos rfl).symm ▸ ?_
            clear hs hq hf
            refine givesE_of ?_
            unfold gives
            refine gives_load_row 35 _ rfl g16 e16 35 _ (0, 0) _ (HR.out wx hG).2 Tryd.underlying35 rfl (hInfo _ HLN.out.2.1) ?_
            exact ⟨Below.refl _ _, rfl⟩
          refine ⟨fun r wx hG hs hq hf => ?_, ?_⟩
          · have h12 : r 47 = .agg (bv ru).toArray := hf.1
            have h13 : r 48 = .agg (bv ph).toArray := hf.2.1
            refine (if_pos rfl).symm ▸ ?_
            clear hs hq hf
            refine givesE_of ?_
            unfold gives
            go_simp
            refine (nodeText_any ru ph wx HLN.out.2.2 HLN.out.2.1).mono ?_
            rintro e wy ⟨v', rfl, hq1, hb1⟩
            rw [HTX.out.2.2] at hq1
            exact ⟨_, rfl, hb1, hq1⟩
          refine ⟨fun r wx hG hs hq hf => ?_, ?_⟩
          · have h3 : r 38 = .slice ta 65 tc := hf.1
            have h14 : Rd wx 1 (r 49) 65 (bv (1 :: (ru ++ ph))) := hf.2.1
            refine (if_pos rfl).symm ▸ ?_
            clear hs hq hf
            unfold givesE
            obtain ⟨xa, xc, hf⟩ := h14.form
            rw [hf] at h14
            have hdf := differ_any (tx (hw W) l) (1 :: (ru ++ ph)) ta xa tc xc wx (by rw [HTX.out.1]; exact (HTX.out.2.1).keep hG) (by rw [HTX.out.2.2]; exact h14)
            rw [HTX.out.1, HTX.out.2.2] at hdf
            go_simp
            refine hdf.mono ?_
            rintro e wy ⟨he, hb1⟩
            by_cases hq : tx (hw W) l = 1 :: (ru ++ ph)
            · rw [if_pos hq] at he
              exact .inl ⟨_, he, hb1, rfl, hq⟩
            · rw [if_neg hq] at he
              refine .inr ⟨_, he, ?_, HBW.out.trans ((hG.trans (hb1.mono hG.size)).mono HBW.out.size)⟩
              rw [HGE.out, if_pos (fun e => hq e.symm)]
              exact ⟨_, _, rfl, by show Rd wy 1 _ (tx (hw W) l).length _; rw [HTX.out.1]; exact ((HTX.out.2.1).keep hG).keep hb1, by show Rd wy 1 _ (1 :: (ru ++ ph)).length _; rw [HTX.out.2.2]; exact h14.keep hb1⟩
          exact trivial
        case hend =>
          intro u wz hG hfin
          have z15 : (u 15) = .tuple #[] ∧ tx (hw W) l = 1 :: (ru ++ ph) := hfin 15 (by decide) (by kernel_rfl)
          clear hfin
          simp only [fill]
          have hz := z15
          have HEQ := Lib.hid hz.2
          have hz1 := hz.1
          have HB3 := Lib.hid (HBW.out.trans (hG.mono HBW.out.size))
          obtain ⟨w4, hw4⟩ : ∃ x, x = wz := ⟨_, rfl⟩
          subst hw4
          have HC := Lib.hid (fun wx (hb : Below w4.heap.size w4 wx) => HC0.out wx (HB3.out.trans (hb.mono HB3.out.size)))
          have HR := Lib.hid (fun wx (hb : Below w4.heap.size w4 wx) => HR.out wx (hG.trans (hb.mono hG.size)))
          have HIH := Lib.hid (fun wx (hb : Below w4.heap.size w4 wx) => HIH0.out wx (HB3.out.trans (hb.mono HB3.out.size)))
          have HBW := HB3
          clear z15 hz hG
          rw [hz1]
          clear hz1
          go_simp
          go_upto_region 6 with fail
          refine wp_region_stepsE (fun c wz => MeetE wz G (.panicked c) ∧ Below w.heap.size w wz) [some 51, some 52, some 53, some 54, some 55, some 56, some 57, some 58, some 59, some 60, some 61, some 62, some 63] [] (de6F W gt g11 g16 m n K b off z c plp wh old GR) (fun _ wx wy => Below wx.heap.size wx wy) (fun wx => Below w4.heap.size w4 wx) ?hE (by kernel_rfl) (by kernel_rfl) rfl (by kernel_rfl) (Below.refl _ _).drew (fun _ wx => Below.refl _ _) (fun _ wx wy h k => h.trans (k.mono h.size)) ?hF ?hstep ?hend
          case hE =>
            intro c act wz hd _ hc
            exact ⟨hd, hc⟩
          case hF =>
            exact ⟨fun _ _ _ _ _ _ h => h, ⟨fun _ _ _ _ _ _ h => h, ⟨fun _ _ _ _ _ _ h => h, ⟨fun _ _ _ _ _ _ h => h, ⟨fun _ _ _ _ _ _ h => h, ⟨fun _ _ _ _ _ _ h => h, ⟨fun _ _ _ _ _ _ h => h, ⟨fun _ _ _ _ _ _ h => h, ⟨fun _ _ _ _ _ _ h => h, ⟨fun _ _ _ _ _ _ h => h, ⟨fun _ _ _ _ _ _ h => h, ⟨fun _ _ _ _ _ _ h => h, ⟨fun _ _ _ _ _ _ h => h, trivial⟩⟩⟩⟩⟩⟩⟩⟩⟩⟩⟩⟩⟩
          case hstep =>
            refine ⟨fun r wx hG hs hq hf => ?_, ?_⟩
            · have e0 : r 0 = .int .i64 W := hs 0 rfl
              refine (if_pos rfl).symm ▸ ?_
              clear hs hq hf
              refine givesE_of ?_
              unfold gives
              go_simp
              exact ⟨Below.refl _ _, rfl⟩
            refine ⟨fun r wx hG hs hq hf => ?_, ?_⟩
            · have e1 : r 1 = .pointer (some ⟨gt, 0, none⟩) := hs 1 rfl
              refine (if_pos rfl).symm ▸ ?_
              clear hs hq hf
              refine givesE_of ?_
              unfold gives
              go_simp
              exact ⟨Below.refl _ _, rfl⟩
            refine ⟨fun r wx hG hs hq hf => ?_, ?_⟩
            · have h1 : r 52 = .pointer (some ⟨gt, 0, none⟩) := hf.1
              refine (if_pos rfl).symm ▸ ?_
              clear hs hq hf
              refine givesE_of ?_
              unfold gives
              go_simp
              exact ⟨Below.refl _ _, rfl⟩
            refine ⟨fun r wx hG hs hq hf => ?_, ?_⟩
            · have h2 : r 53 = .pointer (some ⟨gt, 0, none⟩) := hf.1
              refine (if_pos rfl).symm ▸ ?_
              clear hs hq hf
              refine givesE_of ?_
              unfold gives
              go_simp
              exact ⟨Below.refl _ _, rfl⟩
            refine ⟨fun r wx hG hs hq hf => ?_, ?_⟩
            · have h3 : r 54 = .pointer (some ⟨gt, 33, none⟩) := hf.1
              refine (if_pos rfl).symm ▸ ?_
              clear hs hq hf
              refine givesE_of ?_
              unfold gives
              have hcl := (HC.out wx hG).2.1
              go_simp
              exact ⟨Below.refl _ _, rfl⟩
            refine ⟨fun r wx hG hs hq hf => ?_, ?_⟩
            · have e2 : r 2 = .int .u64 m := hs 2 rfl
              refine (if_pos rfl).symm ▸ ?_
              clear hs hq hf
              refine givesE_of ?_
              unfold gives
              go_simp
              exact ⟨Below.refl _ _, rfl⟩
            refine ⟨fun r wx hG hs hq hf => ?_, ?_⟩
            · have e14 : r 14 = .int .u64 K := hs 14 rfl
              refine (if_pos rfl).symm ▸ ?_
              clear hs hq hf
              refine givesE_of ?_
              unfold gives
              go_simp
              exact ⟨Below.refl _ _, rfl⟩
            refine ⟨fun r wx hG hs hq hf => ?_, ?_⟩
            · have e11 : r 11 = .pointer (some ⟨g11, 0, none⟩) := hs 11 rfl
              refine (if_pos rfl).symm ▸ ?_
              clear hs hq hf
              refine givesE_of ?_
              unfold gives
              refine gives_load_row 35 _ rfl g11 e11 35 _ (0, 0) _ (HR.out wx hG).1 Tryd.underlying35 rfl (hInfo _ HLN.out.1) ?_
              exact ⟨Below.refl _ _, rfl⟩
            refine ⟨fun r wx hG hs hq hf => ?_, ?_⟩
            · have e5 : r 5 = .slice (some ⟨b, off, none⟩) (z + 1) c := hs 5 rfl
              refine (if_pos rfl).symm ▸ ?_
              clear hs hq hf
              refine givesE_of ?_
              unfold gives
              go_simp
              exact ⟨Below.refl _ _, rfl⟩
            refine ⟨fun r wx hG hs hq hf => ?_, ?_⟩
            · have e15 : r 15 = .int .i64 z := hs 15 rfl
              refine (if_pos rfl).symm ▸ ?_
              clear hs hq hf
              refine givesE_of ?_
              unfold gives
              go_simp
              exact ⟨Below.refl _ _, rfl⟩
            refine ⟨fun r wx hG hs hq hf => ?_, ?_⟩
            · have h8 : r 59 = .slice (some ⟨b, off, none⟩) (z + 1) c := hf.1
              have h9 : r 60 = .int .i64 z := hf.2.1
              refine (if_pos rfl).symm ▸ ?_
              clear hs hq hf
              refine givesE_of ?_
              unfold gives
              have z0 : (0 : Int) ≤ (z : Int) := by omega
              have z1 : (z : Int) ≤ (c : Int) := by omega
              go_simp
              exact ⟨Below.refl _ _, rfl⟩
            refine ⟨fun r wx hG hs hq hf => ?_, ?_⟩
            · have e6 : r 6 = .bool wh := hs 6 rfl
              refine (if_pos rfl).symm ▸ ?_
              clear hs hq hf
              refine givesE_of ?_
              unfold gives
              go_simp
              exact ⟨Below.refl _ _, rfl⟩
            refine ⟨fun r wx hG hs hq hf => ?_, ?_⟩
            · have h0 : r 51 = .int .i64 W := hf.1
              have h4 : r 55 = .pointer plp := hf.2.1
              have h5 : r 56 = .int .u64 m := hf.2.2.1
              have h6 : r 57 = .int .u64 K := hf.2.2.2.1
              have h7 : r 58 = .agg (bv old).toArray := hf.2.2.2.2.1
              have h10 : r 61 = .slice (some ⟨b, off, none⟩) z c := hf.2.2.2.2.2.1
              have h11 : r 62 = .bool wh := hf.2.2.2.2.2.2.1
              refine (if_pos rfl).symm ▸ ?_
              clear hs hq hf
              unfold givesE
              go_simp
              refine (HIH.out wx hG).mono ?_
              rintro e wy ⟨he, hb1⟩
              cases hm : GR with
              | none =>
                rw [hm] at he
                exact .inl ⟨_, he, hb1, rfl, by first | exact hm | rfl⟩
              | some p =>
                rw [hm] at he
                obtain ⟨va, vb, he, h1, h2⟩ := he
                subst he
                refine .inr ⟨_, rfl, ?_, HBW.out.trans ((hG.trans (hb1.mono hG.size)).mono HBW.out.size)⟩
                rw [HGE.out, if_neg (by rw [HEQ.out]; simp), hm]
                exact ⟨va, vb, rfl, h1, h2⟩
            exact trivial
          case hend =>
            intro u wz hG hfin
            have z12 : (u 12) = .tuple #[] ∧ GR = none := hfin 12 (by decide) (by kernel_rfl)
            clear hfin
            simp only [fill]
            have HB9 := Lib.hid (HBW.out.trans (hG.mono HBW.out.size))
            have HM2 := Lib.hid z12.2
            have hz8 := z12.1
            clear hG z12
            rw [hz8]
            clear hz8
            go_simp
            go_wp2_with fail
            go_end0
            refine ⟨?_, HB9.out⟩
            rw [HGE.out, if_neg (by rw [HEQ.out]; simp), HM2.out]
            exact rfl
end Go.Proofs.YtfibhmgjkooemaaDoor
