/- The law PathLengths: the walk. (printed by gen/pathk.py) -/
import Derived.Test.YtdjmebfjanophaaDoorPathF
import Derived.Test.YtdjmebfjanophaaDoorPathB
import Derived.Test.YtdjmebfjanophaaDoorAppX
import Derived.Deep.DeepCutAuto
namespace Go.Proofs.YtdjmebfjanophaaDoor
open Go.RowKit Sha Root Ones Path

theorem sz_pow : ∀ (t f a : Nat), t ≤ f → a < 2 ^ t → sz f a (2 ^ t - 1) = t
  | 0, f, a, _, h => by
    have : a = 0 := by omega
    subst this
    exact sz_zero f
  | t + 1, f, a, hf, h => by
    obtain ⟨f', rfl⟩ : ∃ k, f = k + 1 := ⟨f - 1, by omega⟩
    rw [sz_full (f' + 1) a t (by omega) h f' rfl, sz_pow t f' (a / 2) (by omega) (by rw [Nat.pow_succ] at h; omega)]
    omega
theorem size_pow (d i : Nat) (hd : d ≤ 64) : sizeN (i % 2 ^ d) (2 ^ d) = d := by
  have hp := Nat.pow_pos (n := d) (show 0 < 2 by omega)
  have := Nat.mod_lt i hp
  rw [sizeN, if_pos this]
  exact sz_pow d 64 _ hd this
theorem size_same (n : Nat) : sizeN n n = 0 := if_neg (Nat.lt_irrefl _)
/-- What each operation hands on. -/
def pl10F (W : Int) (b off m c i g8 B L vc : Nat) (va : Option Addr) (x more : List UInt8) (P : List (List UInt8)) : Nat → Value → World → Prop
  | 0, v, _ => v = .int .i64 W
  | 1, v, _ => v = .slice (some ⟨b, off, none⟩) m c
  | 2, v, _ => v = .int .i64 (i : Nat)
  | 3, v, _ => v = .pointer (some ⟨b, off + i * 32, none⟩)
  | 4, v, _ => v = .agg (bv x).toArray
  | 5, v, _ => v = .int .i64 (i : Nat)
  | 6, v, _ => v = .int .u64 (i : Nat)
  | 7, v, _ => v = .int .u64 (m : Nat)
  | 8, v, w => ∃ q, v = .slice (some ⟨q, 0, none⟩) 0 0 ∧ B ≤ q ∧ w.heap[q]? = some (.cells #[] 33 (0, 0))
  | 9, v, _ => v = .slice va L vc
  | 10, v, w => w.ownsRow B 33 32 v L (P.flatMap bv) ∧ (L = 0 → ∃ q, v = .slice (some ⟨q, 0, none⟩) 0 0)
  | 11, v, _ => v = .agg (bv more).toArray
  | 12, v, w => ∃ q, v = .slice (some ⟨q, 0, none⟩) 1 1 ∧ w.heap[q]? = some (.cells (bv more).toArray 33 (0, 0))
  | 13, v, w => w.ownsRow B 33 32 v (L + 1) ((P ++ [more]).flatMap bv)
  | 14, v, _ => v = .tuple #[.agg (bv (zs 32)).toArray, .int .i64 4]
  | 15, v, _ => v = .tuple #[.agg (bv (zs 32)).toArray, .int .i64 4]
  | 16, v, _ => v = .agg (bv (zs 32)).toArray
  | 17, v, _ => v = .int .i64 4
  | 18, v, w => ∃ p, v = .pointer (some ⟨p, 0, none⟩) ∧ B ≤ p ∧ w.heap[p]? = some (.cells (bv (zs 32)).toArray 33 (0, 0))
  | 19, _, _ => True
  | 20, v, _ => v = .int .i64 4
  | _, _, _ => True

/-- What each operation hands on. -/
def pl14F (W : Int) (b off m c i B L vc gp o2 : Nat) (x : List UInt8) : Nat → Value → World → Prop
  | 0, v, _ => v = .int .i64 W
  | 1, v, _ => v = .slice (some ⟨b, off, none⟩) m c
  | 2, v, _ => v = .int .i64 (i : Nat)
  | 3, v, _ => v = .pointer (some ⟨b, off + i * 32, none⟩)
  | 4, v, _ => v = .agg (bv x).toArray
  | 5, v, _ => v = .int .i64 (i : Nat)
  | 6, v, _ => v = .int .u64 (i : Nat)
  | 7, v, _ => v = .int .u64 (m : Nat)
  | 8, v, _ => v = .slice (some ⟨gp, 0, none⟩) L vc
  | 9, v, _ => v = .slice (some ⟨gp, o2, none⟩) (L - 1) (vc - 1)
  | 10, v, _ => v = .tuple #[.agg (bv (zs 32)).toArray, .int .i64 2]
  | 11, v, _ => v = .tuple #[.agg (bv (zs 32)).toArray, .int .i64 2]
  | 12, v, _ => v = .agg (bv (zs 32)).toArray
  | 13, v, _ => v = .int .i64 2
  | 14, v, w => ∃ p, v = .pointer (some ⟨p, 0, none⟩) ∧ B ≤ p ∧ w.heap[p]? = some (.cells (bv (zs 32)).toArray 33 (0, 0))
  | 15, _, _ => True
  | 16, v, _ => v = .int .i64 2
  | _, _, _ => True

set_option maxHeartbeats 16000000 in
set_option maxRecDepth 100000 in
theorem pathLengths_walk (W iv : Int) (kd : Nat) (more : List UInt8) (a : Option Addr) (c : Nat) (ls0 : List (List UInt8)) (w : World) (hW : -9223372036854775808 ≤ W ∧ W ≤ 9223372036854775807) (hkd : kd < 256) (hmo : more.length = 32) (h32a : ∀ p ∈ ls0, p.length = 32) (hl : ls0.length * 32 ≤ 140737488351232) (hr : Rd w 32 (.slice a ls0.length c) ls0.length (ls0.flatMap bv)) (hT : Tabs w) :
    Calls Tryd.prog 5 #[.int .i64 W, .slice a ls0.length c, .int .i64 iv, .agg (bv more).toArray, .int .u8 kd] w fun e w' => e = .returned (.bool true) ∧ Below w.heap.size w w' := by
  have hz := (zero_of_info info32).1
  have hcap : ls0.length ≤ c := by
    obtain ⟨_, _, ⟨hv, h0⟩ | ⟨ad, c', hv, hc, _⟩⟩ := hr
    · simp at hv; omega
    · simp at hv; omega
  obtain ⟨w0, hw0⟩ : ∃ x : World, x = w.alloc (.cells (bv more).toArray 33) := ⟨_, rfl⟩
  have hbox : w0.heap[w.heap.size]? = some (.cells (bv more).toArray 33 (0, 0)) := by rw [hw0]; exact heap_alloc_new _ _
  have hbw0 : Below w.heap.size w w0 := by rw [hw0]; exact (Below.refl _ _).alloc (Nat.le_refl _) _
  have haw := awake15_any w0 (hT.keepB hbw0)
  obtain ⟨u, hu, hub⟩ : ∃ u : Nat, IntKind.u64.wrap iv = (u : Int) ∧ u < 18446744073709551616 := by
    rw [IntKind.wrap_u64]
    exact ⟨(iv % 18446744073709551616).toNat, by omega, by omega⟩
  have HZ := Lib.hid (show (zs 32).length = 32 by simp [zs])
  have HW0 := Lib.hid hw0
  have H0 := Lib.hid (And.intro hbox hbw0)
  have HR := Lib.hid hr
  have HT := Lib.hid (And.intro hT h32a)
  have HN := Lib.hid (And.intro hW hmo)
  have HU := Lib.hid hu
  clear hw0 hbox hbw0 hr hT h32a hW hmo hu
  go_enter Tryd.func5, Tryd.ntmps5
  go_upto_region 1 with fail
  rw [show w.alloc (.cells (bv more).toArray 33) = w0 from HW0.out.symm]
  go_wp2_with fail
  refine haw.mono ?_
  rintro e w1 ⟨rfl, hb1⟩
  have hbox1 := (hb1.block _ (Array.getElem?_eq_some_iff.1 H0.out.1).1).trans H0.out.1
  have H1 := Lib.hid (And.intro hbox1 (H0.out.2.trans (hb1.mono H0.out.2.size)))
  clear hbox1 hb1 haw
  go_upto_if 24 with fail
  go_cut [1] (fun s1 wz => s1 = .slice a (min ls0.length 100) c ∧ wz = w1)
  case first =>
    by_cases hgt : 100 < ls0.length
    · have z2 : (100 : Int) < (ls0.length : Int) := by omega
      have z4 : (100 : Int) ≤ (c : Int) := by omega
      go_wp2_with fail
      go_meet
      exact ⟨by rw [show min ls0.length 100 = 100 by omega], rfl⟩
    · have z2 : ¬ (100 : Int) < (ls0.length : Int) := by omega
      go_wp2_with fail
      go_meet
      exact ⟨by rw [show min ls0.length 100 = ls0.length by omega], rfl⟩
  case rest =>
    obtain ⟨rfl, rfl⟩ := hcut
    obtain ⟨m, hm⟩ : ∃ m, m = min ls0.length 100 := ⟨_, rfl⟩
    rw [← hm]
    have hm3 : m ≤ ls0.length := by omega
    have hm4 : m ≤ 100 := by omega
    have h32 : ∀ q ∈ ls0.take m, q.length = 32 := fun q hq => HT.out.2 q (List.mem_of_mem_take hq)
    have hR : Rd w 32 (.slice a m c) m ((ls0.take m).flatMap bv) := by
      rw [flat_take32 _ _ HT.out.2]; exact rd_take HR.out m hm3
    have hlm : (ls0.take m).length = m := by rw [List.length_take]; omega
    have hmc : m ≤ c := by omega
    obtain ⟨ls, hls⟩ : ∃ l, l = ls0.take m := ⟨_, rfl⟩
    rw [← hls] at hR h32 hlm
    by_cases hm0 : m = 0
    · have z1 : ((m : Int) == 0) = true := by simp; omega
      clear hR h32 hls hm hm3 hlm hcap
      go_wp2_with fail
      go_ret
      exact ⟨rfl, H1.out.2⟩
    · have z1 : ((m : Int) == 0) = false := by simp; omega
      have z2 : ¬ (m : Int) = 0 := by omega
      have z3 : IntKind.u64.wrap (m : Int) = (m : Int) := IntWalk.u64_in _ (by omega)
      have hmp : u % m < m := Nat.mod_lt _ (by omega)
      obtain ⟨i, hie⟩ : ∃ i, i = u % m := ⟨_, rfl⟩
      rw [← hie] at hmp
      have z4 : (u : Int) % (m : Int) = (i : Int) := by rw [hie]; simp
      have z4b : Int.tmod (u : Int) (m : Int) = (i : Int) := by rw [hie]; rfl
      have z5 : IntKind.i64.wrap (i : Int) = (i : Int) := IntWalk.i64_in _ (by omega)
      have z6 : IntKind.i64.wrap (m : Int) = (m : Int) := IntWalk.i64_in _ (by omega)
      have z7 := HU.out
      obtain ⟨b, off, c', hv, _, hcell⟩ := hR.atN (by omega) (by omega)
      simp only [Value.slice.injEq, true_and] at hv
      obtain ⟨rfl, rfl⟩ := hv
      obtain ⟨x, hx⟩ : ∃ x, ls[i]? = some x := ⟨ls[i]'(by rw [hlm]; exact hmp), List.getElem?_eq_getElem _⟩
      have hx32 := h32 x (List.mem_of_getElem? hx)
      have hrg := range_at (w := w) h32 hx hcell
      have hlt : ls.take m = ls := List.take_of_length_le (by omega)
      have hpl := pr_length (nodeH W) m 64 ls i (by omega) (by omega) (by omega)
      rw [hlm] at hpl
      have hszN : sizeN i m = sz 64 i (m - 1) := if_pos hmp
      have hpv := fun wx (hb : Below w.heap.size w wx) => Prove_good W ls i m (some ⟨b, off, none⟩) c wx HN.out.1 h32 (by omega) hmp (by omega) (by rw [hlm]; exact hR.keep hb) (HT.out.1.keepB hb)
      rw [hlt, hlm] at hpv
      have hp32 := prL_32 W ls i h32
      obtain ⟨P, hP⟩ : ∃ p, p = prL (nodeH W) ls i := ⟨_, rfl⟩
      rw [← hP] at hpl hpv hp32
      have hPL : P.length ≤ 64 := by rw [hpl]; exact sz_le _ _ _
      have hcl : ∀ (Q : List (List UInt8)) (wx : World) (a' : Option Addr) (c' : Nat), (∀ p ∈ Q, p.length = 32) → Q.length ≤ 100 → Below w.heap.size w wx → Rd wx 32 (.slice a' Q.length c') Q.length (Q.flatMap bv) → ∀ E : Int, E ≠ 0 → climbE i m Q.length = E →
          Calls Tryd.prog 27 #[.int .i64 W, .agg (bv x).toArray, .int .u64 i, .int .u64 m, .slice a' Q.length c'] wx fun e w' => e = .returned (.tuple #[.agg (bv (zs 32)).toArray, .int .i64 E]) ∧ Below wx.heap.size wx w' := fun Q wx a' c' h1 h2 h3 h4 E hE h5 => by
        have := Climb_any W x i m Q a' c' wx HN.out.1 hx32 (by omega) (by omega) h1 (by omega) h4 (HT.out.1.keepB h3)
        rw [climbH, h5, if_neg hE] at this
        exact this
      have hE4 : climbE i m (P.length + 1) = 4 := by rw [climbE, if_neg (by omega), hszN, if_neg (by omega), if_pos (by omega)]
      have hE2 : 0 < P.length → climbE i m (P.length - 1) = 2 := fun h => by rw [climbE, if_neg (by omega), hszN, if_pos (by omega)]
      have HLN := Lib.hid (And.intro hx32 HN.out.2)
      have HPV := Lib.hid hpv
      have HCLM := Lib.hid (And.intro hcl (And.intro hE4 (And.intro hE2 (And.intro hp32 hrg))))
      clear hR h32 hls hm hm3 hlm hcap hx hx32 hrg hlt hpl hszN hpv hp32 hP hcl hE4 hE2 hcell hie
      go_wp2_with fail
      refine (HPV.out _ H1.out.2).mono ?_
      rintro e w3 ⟨va, vc, rfl, ho3, hb3⟩
      obtain ⟨L, hL⟩ : ∃ l, l = P.length := ⟨_, rfl⟩
      rw [← hL] at ho3 hPL ⊢
      have hbw3 := H1.out.2.trans (hb3.mono H1.out.2.size)
      obtain ⟨B, hBe⟩ : ∃ B, B = w3.heap.size := ⟨_, rfl⟩
      have hBs : B ≤ w3.heap.size := by omega
      have hbox3 := (hb3.block _ (Array.getElem?_eq_some_iff.1 H1.out.1).1).trans H1.out.1
      obtain ⟨g8, hg8⟩ : ∃ g, g = w.heap.size := ⟨_, rfl⟩
      rw [← hg8] at hbox3 ⊢
      have hgB : g8 < B := by rw [hBe]; exact (Array.getElem?_eq_some_iff.1 hbox3).1
      have hwB : w.heap.size ≤ B := by rw [hBe]; exact hbw3.size
      have HOP := Lib.hid (And.intro ho3 hBe)
      have HRD := Lib.hid (fun wx (h : Below B w3 wx) => show Rd wx 32 (.slice va L vc) L (P.flatMap bv) by
        have := own_rd ho3 (flat_one32 _)
        exact this.keepB h (by omega))
      have hsub : ∀ wx, Below B w3 wx → Below w.heap.size w wx := fun wx hx => hbw3.trans (hx.mono hwB)
      have HSUB := Lib.hid hsub
      have HRG := Lib.hid (fun wx (h : Below B w3 wx) => show wx.rangeAt b (off + i * 32) (bv x) from fun q u hu => ((hsub wx h).cell (World.block_lt_of_cell? w _ (HCLM.out.2.2.2.2 q u hu))).trans (HCLM.out.2.2.2.2 q u hu))
      have HBX := Lib.hid (fun wx (h : Below B w3 wx) => (h.block g8 hgB).trans hbox3)
      have HCL := Lib.hid (fun wx (a' : Option Addr) (c' : Nat) (h : Below B w3 wx) (hr : Rd wx 32 (.slice a' (L + 1) c') (L + 1) ((P ++ [more]).flatMap bv)) => by
        have hql : (P ++ [more]).length = L + 1 := by rw [List.length_append, hL]; rfl
        have := HCLM.out.1 (P ++ [more]) wx a' c' (fun p hp => (List.mem_append.1 hp).elim (fun h => HCLM.out.2.2.2.1 p h) (fun h => by rw [List.mem_singleton.1 h]; exact HN.out.2)) (by omega) (hsub wx h) (by rw [hql]; exact hr) 4 (by decide) (by rw [hql, hL]; exact HCLM.out.2.1)
        rw [hql] at this
        exact this)
      have HL := Lib.hid hL
      clear ho3 hb3 hbw3 hbox3 hsub hBe z1 z2 z4 z4b z7 hL hg8
      go_upto_region 10 with fail
      refine wp_region_steps [some 48, some 49, some 50, some 51, some 52, some 53, some 54, some 55, some 56, some 57, some 58, some 59, some 60, some 61, some 62, some 47, some 63, some 64, some 14, none, some 15] [] (pl10F W b off m c i g8 B L vc va x more P) (kL 10 13 19 B) (fun wx => Below B w3 wx) (by kernel_rfl) (by kernel_rfl) rfl (by kernel_rfl) (Below.refl _ _).drew (fun _ _ => kL_refl _ _ _ _ _ _) (fun _ _ _ h k => kL_G hBs h k) ?hF ?hstep ?hend
      case hF =>
        exact ⟨fun _ _ _ _ _ _ h => h, ⟨fun _ _ _ _ _ _ h => h, ⟨fun _ _ _ _ _ _ h => h, ⟨fun _ _ _ _ _ _ h => h, ⟨fun _ _ _ _ _ _ h => h, ⟨fun _ _ _ _ _ _ h => h, ⟨fun _ _ _ _ _ _ h => h, ⟨fun _ _ _ _ _ _ h => h, ⟨fun j hg _ _ _ k h => by obtain ⟨q, h1, h2, h3⟩ := h; exact ⟨q, h1, h2, ((kL_below (by rintro rfl; exact absurd hg (by rw [show goneB _ 8 10 = true by kernel_rfl]; simp)) (by rintro rfl; exact absurd hg (by rw [show goneB _ 8 13 = true by kernel_rfl]; simp)) (by rintro rfl; exact absurd hg (by rw [show goneB _ 8 19 = true by kernel_rfl]; simp)) k).block _ (Array.getElem?_eq_some_iff.1 h3).1).trans h3⟩, ⟨fun _ _ _ _ _ _ h => h, ⟨fun j hg _ _ _ k h => ⟨own_keep h.1 (kL_below (by rintro rfl; exact absurd hg (by rw [show goneB _ 10 10 = true by kernel_rfl]; simp)) (by rintro rfl; exact absurd hg (by rw [show goneB _ 10 13 = true by kernel_rfl]; simp)) (by rintro rfl; exact absurd hg (by rw [show goneB _ 10 19 = true by kernel_rfl]; simp)) k), h.2⟩, ⟨fun _ _ _ _ _ _ h => h, ⟨fun j hg _ _ _ k h => by obtain ⟨q, h1, h2⟩ := h; exact ⟨q, h1, kL_blk (by rintro rfl; exact absurd hg (by rw [show goneB _ 12 19 = true by kernel_rfl]; simp)) (by rw [List.size_toArray, bv_length]; exact HLN.out.2) k h2⟩, ⟨fun j hg _ _ _ k h => own_keep h (kL_below (by rintro rfl; exact absurd hg (by rw [show goneB _ 13 10 = true by kernel_rfl]; simp)) (by rintro rfl; exact absurd hg (by rw [show goneB _ 13 13 = true by kernel_rfl]; simp)) (by rintro rfl; exact absurd hg (by rw [show goneB _ 13 19 = true by kernel_rfl]; simp)) k), ⟨fun _ _ _ _ _ _ h => h, ⟨fun _ _ _ _ _ _ h => h, ⟨fun _ _ _ _ _ _ h => h, ⟨fun _ _ _ _ _ _ h => h, ⟨fun j hg _ _ _ k h => by obtain ⟨q, h1, h2, h3⟩ := h; exact ⟨q, h1, h2, kL_blk (by rintro rfl; exact absurd hg (by rw [show goneB _ 18 19 = true by kernel_rfl]; simp)) (by rw [List.size_toArray, bv_length]; exact HZ.out) k h3⟩, ⟨fun _ _ _ _ _ _ h => h, ⟨fun _ _ _ _ _ _ h => h, trivial⟩⟩⟩⟩⟩⟩⟩⟩⟩⟩⟩⟩⟩⟩⟩⟩⟩⟩⟩⟩⟩
      case hstep =>
        -- operation 0: Op.move (tmp 0)
        refine ⟨fun r wx hG hs hq hf => ?_, ?_⟩
        · have e0 : r 0 = .int .i64 W := hs 0 rfl
          refine (if_pos rfl).symm ▸ ?_
          clear hs hq hf
          unfold gives
          go_simp
          exact ⟨kL_refl _ _ _ _ _ _, rfl⟩
        -- operation 1: Op.move (tmp 1)
        refine ⟨fun r wx hG hs hq hf => ?_, ?_⟩
        · have e1 : r 1 = .slice (some ⟨b, off, none⟩) m c := hs 1 rfl
          refine (if_pos rfl).symm ▸ ?_
          clear hs hq hf
          unfold gives
          go_simp
          exact ⟨kL_refl _ _ _ _ _ _, rfl⟩
        -- operation 2: Op.move (tmp 2)
        refine ⟨fun r wx hG hs hq hf => ?_, ?_⟩
        · have e2 : r 2 = .int .i64 (i : Nat) := hs 2 rfl
          refine (if_pos rfl).symm ▸ ?_
          clear hs hq hf
          unfold gives
          go_simp
          exact ⟨kL_refl _ _ _ _ _ _, rfl⟩
        -- operation 3: Op.indexAddr 22 (tmp 49) (tmp 50)
        refine ⟨fun r wx hG hs hq hf => ?_, ?_⟩
        · have h1 : r 49 = .slice (some ⟨b, off, none⟩) m c := hf.1
          have h2 : r 50 = .int .i64 (i : Nat) := hf.2.1
          refine (if_pos rfl).symm ▸ ?_
          clear hs hq hf
          unfold gives
          have z0 : (0 : Int) ≤ (i : Int) := by omega
          have z1 : (i : Int) < (m : Int) := by omega
          go_simp
          exact ⟨kL_refl _ _ _ _ _ _, rfl⟩
        -- operation 4: Op.load 33 (tmp 51)
        refine ⟨fun r wx hG hs hq hf => ?_, ?_⟩
        · have h3 : r 51 = .pointer (some ⟨b, off + i * 32, none⟩) := hf.1
          refine (if_pos rfl).symm ▸ ?_
          clear hs hq hf
          unfold gives
          refine gives_load_mid 33 _ rfl b (off + i * 32) h3 (bv x) _ (HRG.out wx hG) Tryd.underlying33 rfl (hInfo' _ HLN.out.1) ⟨kL_refl _ _ _ _ _ _, rfl⟩
        -- operation 5: Op.move (tmp 2)
        refine ⟨fun r wx hG hs hq hf => ?_, ?_⟩
        · have e2 : r 2 = .int .i64 (i : Nat) := hs 2 rfl
          refine (if_pos rfl).symm ▸ ?_
          clear hs hq hf
          unfold gives
          go_simp
          exact ⟨kL_refl _ _ _ _ _ _, rfl⟩
        -- operation 6: Op.convert 3 29 (tmp 53)
        refine ⟨fun r wx hG hs hq hf => ?_, ?_⟩
        · have h5 : r 53 = .int .i64 (i : Nat) := hf.1
          refine (if_pos rfl).symm ▸ ?_
          clear hs hq hf
          unfold gives
          have zw : IntKind.u64.wrap (i : Int) = (i : Int) := IntWalk.u64_in _ (by omega)
          go_simp
          exact ⟨kL_refl _ _ _ _ _ _, rfl⟩
        -- operation 7: Op.move (tmp 11)
        refine ⟨fun r wx hG hs hq hf => ?_, ?_⟩
        · have e11 : r 11 = .int .u64 (m : Nat) := hs 11 rfl
          refine (if_pos rfl).symm ▸ ?_
          clear hs hq hf
          unfold gives
          go_simp
          exact ⟨kL_refl _ _ _ _ _ _, rfl⟩
        -- operation 8: Op.buildSlice 22 0 #[]
        refine ⟨fun r wx hG hs hq hf => ?_, ?_⟩
        · refine (if_pos rfl).symm ▸ ?_
          clear hs hq hf
          unfold gives
          go_simp
          exact ⟨kL_of ((Below.refl _ _).alloc (Nat.le_refl _) _), _, rfl, Nat.le_trans hBs hG.size, heap_alloc_new _ _⟩
        -- operation 9: Op.move (tmp 12)
        refine ⟨fun r wx hG hs hq hf => ?_, ?_⟩
        · have e12 : r 12 = .slice va L vc := hs 12 rfl
          refine (if_pos rfl).symm ▸ ?_
          clear hs hq hf
          unfold gives
          go_simp
          exact ⟨kL_refl _ _ _ _ _ _, rfl⟩
        -- operation 10: Op.call ( callee := Callee.builtin Builtin.append, args := #[tmp 56, tmp 57], argTypes := #[22, 22] )
        refine ⟨fun r wx hG hs hq hf => ?_, ?_⟩
        · have h8 : ∃ q, (r 56) = .slice (some ⟨q, 0, none⟩) 0 0 ∧ B ≤ q ∧ wx.heap[q]? = some (.cells #[] 33 (0, 0)) := hf.1
          have h9 : r 57 = .slice va L vc := hf.2.1
          refine (if_pos rfl).symm ▸ ?_
          clear hs hq hf
          unfold gives
          obtain ⟨q, hq, hBq, hrow⟩ := h8
          have hown : wx.ownsRow B 33 32 (r 56) 0 [] := by
            rw [hq]; exact ⟨by simp, .inr ⟨q, 0, #[], rfl, hBq, hrow, Nat.le_refl _, by decide, by simp, by simp⟩⟩
          have hrd : Rd wx 32 (r 57) L (P.flatMap bv) := by
            rw [h9]; exact HRD.out wx hG
          refine gives_app_x Tryd.underlying22 infoHb rfl (by decide) _ _ rfl rfl rfl hown hrd (by omega) (by omega) (Nat.le_trans hBs hG.size) ?_
          intro v' wy ho hg hx
          refine ⟨⟨_, hg.grown, fun i e => ?_⟩, by show wy.ownsRow B 33 32 v' L (P.flatMap bv); simpa using ho, fun h0 => ?_⟩
          · change (r 56).ownBlock = some i at e
            rw [hq] at e
            simp only [Value.ownBlock, Option.some.injEq] at e
            subst e
            exact ⟨hBq, _, _, hrow, .inl ⟨rfl, rfl⟩⟩
          · rcases hx with ⟨_, hx⟩ | ⟨g, c', hv, hc, hx⟩
            · exact ⟨q, (hx h0).trans hq⟩
            · change r 56 = _ at hv
              rw [hq] at hv
              simp only [Value.slice.injEq, Option.some.injEq, Addr.mk.injEq, and_true, true_and] at hv
              have e0 : 0 + L = 0 := by omega
              have hc0 : c' = 0 := by have := hv.2; omega
              exact ⟨g, show v' = _ from by rw [hx, e0, hc0]⟩
        -- operation 11: Op.load 33 (tmp 8)
        refine ⟨fun r wx hG hs hq hf => ?_, ?_⟩
        · have e8 : r 8 = .pointer (some ⟨g8, 0, none⟩) := hs 8 rfl
          refine (if_pos rfl).symm ▸ ?_
          clear hs hq hf
          unfold gives
          refine gives_load_row 33 _ rfl g8 e8 33 _ (0, 0) _ (HBX.out wx hG) Tryd.underlying33 rfl (hInfo _ HLN.out.2) ?_
          exact ⟨kL_refl _ _ _ _ _ _, rfl⟩
        -- operation 12: Op.buildSlice 22 1 #[(0, tmp 59)]
        refine ⟨fun r wx hG hs hq hf => ?_, ?_⟩
        · have h11 : r 59 = .agg (bv more).toArray := hf.1
          refine (if_pos rfl).symm ▸ ?_
          clear hs hq hf
          unfold gives
          refine gives_build1p 22 33 _ rfl (bv more) h11 Tryd.underlying22 infoHb (by rw [bv_length]; exact HLN.out.2) (by decide) (by decide) ?_
          exact ⟨kL_of ((Below.refl _ _).alloc (Nat.le_refl _) _), _, rfl, heap_alloc_new _ _⟩
        -- operation 13: Op.call ( callee := Callee.builtin Builtin.append, args := #[tmp 58, tmp 60], argTypes := #[22, 22] )
        refine ⟨fun r wx hG hs hq hf => ?_, ?_⟩
        · have h10 : wx.ownsRow B 33 32 (r 58) L (P.flatMap bv) ∧ (L = 0 → ∃ q, (r 58) = .slice (some ⟨q, 0, none⟩) 0 0) := hf.1
          have h12 : ∃ q, (r 60) = .slice (some ⟨q, 0, none⟩) 1 1 ∧ wx.heap[q]? = some (.cells (bv more).toArray 33 (0, 0)) := hf.2.1
          refine (if_pos rfl).symm ▸ ?_
          clear hs hq hf
          unfold gives
          obtain ⟨hown, h0⟩ := h10
          obtain ⟨q, hq, hrow⟩ := h12
          have hrd : Rd wx 32 (r 60) 1 (bv more) := by rw [hq]; exact rd_one_row hrow HLN.out.2
          refine gives_app_x Tryd.underlying22 infoHb rfl (by decide) _ _ rfl rfl rfl hown hrd (by omega) (by omega) (Nat.le_trans hBs hG.size) ?_
          intro v' wy ho hg hx
          refine ⟨?_, by show wy.ownsRow B 33 32 v' (L + 1) ((P ++ [more]).flatMap bv); rw [List.flatMap_append, List.flatMap_cons, List.flatMap_nil, List.append_nil]; exact ho⟩
          rcases hx with ⟨hb, _⟩ | ⟨g, c', hv, hc, hx⟩
          · exact kL_of hb
          · refine ⟨_, hg.grown, fun i e => ?_⟩
            obtain ⟨e1, cap, cs, fr, e2, e3, e4⟩ := own_row hown i e
            refine ⟨e1, cs, fr, e2, .inr (.inl ⟨rfl, ?_⟩)⟩
            change r 58 = _ at hv
            rw [hv] at e3
            simp only [Value.slice.injEq, true_and] at e3
            by_cases hL : L = 0
            · obtain ⟨q2, hq2⟩ := h0 hL
              rw [hv] at hq2
              simp only [Value.slice.injEq] at hq2
              omega
            · omega
        -- operation 14: Op.call ( callee := Callee.value (func 27), args := #[tmp 48, tmp 52, tmp 54, tmp 55, tmp 61], argTypes := #[3, 33, 29, 
        refine ⟨fun r wx hG hs hq hf => ?_, ?_⟩
        · have h0 : r 48 = .int .i64 W := hf.1
          have h4 : r 52 = .agg (bv x).toArray := hf.2.1
          have h6 : r 54 = .int .u64 (i : Nat) := hf.2.2.1
          have h7 : r 55 = .int .u64 (m : Nat) := hf.2.2.2.1
          have h13 : wx.ownsRow B 33 32 (r 61) (L + 1) ((P ++ [more]).flatMap bv) := hf.2.2.2.2.1
          refine (if_pos rfl).symm ▸ ?_
          clear hs hq hf
          unfold gives
          obtain ⟨a', c', hv⟩ := own_form h13
          have hrd := own_rd h13 (flat_one32 _)
          rw [hv] at hrd
          go_simp
          refine (HCL.out wx a' c' hG hrd).mono ?_
          rintro e wy ⟨rfl, hb1⟩
          exact ⟨_, rfl, kL_of hb1, rfl⟩
        -- operation 15: Op.move (tmp 62)
        refine ⟨fun r wx hG hs hq hf => ?_, ?_⟩
        · have h14 : r 62 = .tuple #[.agg (bv (zs 32)).toArray, .int .i64 4] := hf.1
          refine (if_pos rfl).symm ▸ ?_
          clear hs hq hf
          unfold gives
          go_simp
          exact ⟨kL_refl _ _ _ _ _ _, rfl⟩
        -- operation 16: Op.extract (tmp 47) 0
        refine ⟨fun r wx hG hs hq hf => ?_, ?_⟩
        · have h15 : r 47 = .tuple #[.agg (bv (zs 32)).toArray, .int .i64 4] := hf.1
          refine (if_pos rfl).symm ▸ ?_
          clear hs hq hf
          unfold gives
          go_simp
          exact ⟨kL_refl _ _ _ _ _ _, rfl⟩
        -- operation 17: Op.extract (tmp 47) 1
        refine ⟨fun r wx hG hs hq hf => ?_, ?_⟩
        · have h15 : r 47 = .tuple #[.agg (bv (zs 32)).toArray, .int .i64 4] := hf.1
          refine (if_pos rfl).symm ▸ ?_
          clear hs hq hf
          unfold gives
          go_simp
          exact ⟨kL_refl _ _ _ _ _ _, rfl⟩
        -- operation 18: Op.alloc 33
        refine ⟨fun r wx hG hs hq hf => ?_, ?_⟩
        · refine (if_pos rfl).symm ▸ ?_
          clear hs hq hf
          unfold gives
          go_simp
          exact ⟨kL_of ((Below.refl _ _).alloc (Nat.le_refl _) _), _, rfl, Nat.le_trans hBs hG.size, heap_alloc_new _ _⟩
        -- operation 19: Op.store 33 (tmp 14) (tmp 63)
        refine ⟨fun r wx hG hs hq hf => ?_, ?_⟩
        · have h18 : ∃ p, (r 14) = .pointer (some ⟨p, 0, none⟩) ∧ B ≤ p ∧ wx.heap[p]? = some (.cells (bv (zs 32)).toArray 33 (0, 0)) := hf.1
          have h16 : r 63 = .agg (bv (zs 32)).toArray := hf.2.1
          refine (if_pos rfl).symm ▸ ?_
          clear hs hq hf
          unfold gives
          obtain ⟨p, hp, hBp, hrow⟩ := h18
          refine gives_store_row 33 _ _ rfl p (bv (zs 32)) hp h16 (bv (zs 32)) 33 hrow (hInfo' _ HZ.out) rfl (bv_one _) ?_
          intro wy h1 h2
          refine ⟨⟨_, h2, fun i e => ?_⟩, trivial⟩
          obtain rfl : p = i := by simpa using e
          exact ⟨hBp, _, _, hrow, .inr (.inr rfl)⟩
        -- operation 20: Op.assign (tmp 64)
        refine ⟨fun r wx hG hs hq hf => ?_, ?_⟩
        · have h17 : r 64 = .int .i64 4 := hf.1
          have h19 : True := hf.2.1
          refine (if_pos rfl).symm ▸ ?_
          clear hs hq hf
          unfold gives
          go_simp
          exact ⟨kL_refl _ _ _ _ _ _, rfl⟩
        exact trivial
      case hend =>
        intro u wz hG hfin
        have z19 : True := hfin 19 (by decide) (by kernel_rfl)
        have z20 : u 20 = .int .i64 4 := hfin 20 (by decide) (by kernel_rfl)
        clear hfin
        simp only [fill]
        have HG4 := Lib.hid hG
        clear hG
        go_simp
        have e_ok : True := trivial
        by_cases hL0 : L = 0
        · have y1 : ¬ (0 : Int) < (L : Int) := by omega
          have HBF := Lib.hid (HSUB.out wz HG4.out)
          clear HG4 HCL HBX HRG HRD HOP
          have hd64 : kd % 64 < 64 := Nat.mod_lt _ (by omega)
          obtain ⟨d, hd⟩ : ∃ d, d = kd % 64 := ⟨_, rfl⟩
          have zd : (kd : Int) % 64 = (d : Int) := by rw [hd]; simp
          rw [← hd] at hd64
          have hp2 : 2 ^ d < 18446744073709551616 := by
            have := Nat.pow_lt_pow_right (show 1 < 2 by omega) hd64
            omega
          have hsp := size_pow d i (by omega)
          have hp0 := Nat.pow_pos (n := d) (show 0 < 2 by omega)
          have hml := Nat.mod_lt i hp0
          obtain ⟨s, hs⟩ : ∃ s, s = 2 ^ d := ⟨_, rfl⟩
          have zs2 : (1 : Int) * 2 ^ d = (s : Int) := by rw [hs]; simp
          have zs3 : (2 : Int) ^ d = (s : Int) := by rw [hs]; simp
          rw [← hs] at hp2 hsp hp0 hml
          obtain ⟨q, hq⟩ : ∃ q, q = i % s := ⟨_, rfl⟩
          have zq : (i : Int) % (s : Int) = (q : Int) := by rw [hq]; simp
          have zqb : Int.tmod (i : Int) (s : Int) = (q : Int) := by rw [hq]; rfl
          rw [← hq] at hsp hml
          have zs4 : IntKind.u64.wrap (s : Int) = (s : Int) := IntWalk.u64_in _ (by omega)
          have zi4 : IntKind.u64.wrap (i : Int) = (i : Int) := IntWalk.u64_in _ (by omega)
          have zs5 : ¬ (s : Int) = 0 := by omega
          have zd2 : (d : Int) ≤ 64 := by omega
          have zd3 : IntKind.i64.wrap (d : Int) = (d : Int) := IntWalk.i64_in _ (by omega)
          have hS1 := fun wx => pathSize_any q s wx (by omega) (by omega)
          rw [hsp] at hS1
          have hS2 := fun wx => pathSize_any s s wx (by omega) (by omega)
          rw [size_same] at hS2
          have hS3 := fun wx => pathSize_any 0 0 wx (by omega) (by omega)
          rw [size_same] at hS3
          have HS := Lib.hid (And.intro hS1 (And.intro hS2 hS3))
          clear hsp hs hq hd hS1 hS2 hS3 hp2
          go_wp2_with fail
          refine (HS.out.1 _).mono ?_
          rintro e y1' ⟨rfl, hby1⟩
          go_wp2_with fail
          refine (HS.out.2.1 _).mono ?_
          rintro e y2' ⟨rfl, hby2⟩
          go_wp2_with fail
          refine (HS.out.2.2 _).mono ?_
          rintro e y3' ⟨rfl, hby3⟩
          have HBY := Lib.hid (hby1.trans ((hby2.trans (hby3.mono hby2.size)).mono hby1.size))
          clear hby1 hby2 hby3
          go_wp2_with fail
          go_ret
          exact ⟨by simp, HBF.out.trans (HBY.out.mono HBF.out.size)⟩
        · have y1 : (0 : Int) < (L : Int) := by omega
          obtain ⟨gp, cap, hvp, hBp, hcp, _, hgp⟩ := own_at HOP.out.1 (by omega)
          simp only [Value.slice.injEq, true_and] at hvp
          obtain ⟨rfl, rfl⟩ := hvp
          obtain ⟨w5, hw5⟩ : ∃ x, x = wz := ⟨_, rfl⟩
          rw [← hw5] at HG4 ⊢
          have HRG5 := HRG
          obtain ⟨o2, ho2⟩ : ∃ o, o = if vc = 1 then 0 else 32 := ⟨_, rfl⟩
          have HO2 := Lib.hid ho2
          have hLv : L ≤ vc := hcp
          have HCL2 := Lib.hid (fun wx (h : Below B w5 wx) => by
            have h3 := HG4.out.trans h
            have hrp := HRD.out wx h3
            have hql : (P.drop 1).length = L - 1 := by rw [List.length_drop, HL.out]
            have hrq : Rd wx 32 (.slice (some ⟨gp, o2, none⟩) (L - 1) (vc - 1)) (L - 1) ((P.drop 1).flatMap bv) := by
              by_cases z3 : vc = 1
              · have hL1 : L = 1 := by omega
                have : P.drop 1 = [] := List.drop_of_length_le (by rw [← HL.out]; omega)
                rw [this, hL1]
                exact ⟨rfl, by simp, .inr ⟨_, _, rfl, by omega, fun j u hu => by simp at hu⟩⟩
              · have := rd_drop hrp 1 (by omega)
                rw [← flat_drop32 _ _ HCLM.out.2.2.2.1] at this
                rw [show o2 = 0 + 1 * 32 by rw [HO2.out, if_neg z3]]
                exact this
            have := HCLM.out.1 (P.drop 1) wx (some ⟨gp, o2, none⟩) (vc - 1) (fun p hp => HCLM.out.2.2.2.1 p (List.mem_of_mem_drop hp)) (by omega) (HSUB.out wx h3) (by rw [hql]; exact hrq) 2 (by decide) (by rw [hql, HL.out]; exact HCLM.out.2.2.1 (by rw [← HL.out]; omega))
            rw [hql] at this
            exact this)
          have HRG := Lib.hid (fun wx (h : Below B w5 wx) => HRG5.out wx (HG4.out.trans h))
          have hBs : B ≤ w5.heap.size := Nat.le_trans hBs HG4.out.size
          have HSUB2 := Lib.hid (fun wx (h : Below B w5 wx) => HSUB.out wx (HG4.out.trans h))
          clear hw5 HRG5 HCL HBX HRD ho2
          go_upto_region 14 with fail
          refine wp_region_steps [some 75, some 76, some 77, some 78, some 79, some 80, some 81, some 82, some 83, some 84, some 85, some 74, some 86, some 87, some 16, none, some 17] [] (pl14F W b off m c i B L vc gp o2 x) (kL 99 99 15 B) (fun wx => Below B w5 wx) (by kernel_rfl) (by kernel_rfl) rfl (by kernel_rfl) (Below.refl _ _).drew (fun _ _ => kL_refl _ _ _ _ _ _) (fun _ _ _ h k => kL_G hBs h k) ?hF ?hstep ?hend
          case hF =>
            exact ⟨fun _ _ _ _ _ _ h => h, ⟨fun _ _ _ _ _ _ h => h, ⟨fun _ _ _ _ _ _ h => h, ⟨fun _ _ _ _ _ _ h => h, ⟨fun _ _ _ _ _ _ h => h, ⟨fun _ _ _ _ _ _ h => h, ⟨fun _ _ _ _ _ _ h => h, ⟨fun _ _ _ _ _ _ h => h, ⟨fun _ _ _ _ _ _ h => h, ⟨fun _ _ _ _ _ _ h => h, ⟨fun _ _ _ _ _ _ h => h, ⟨fun _ _ _ _ _ _ h => h, ⟨fun _ _ _ _ _ _ h => h, ⟨fun _ _ _ _ _ _ h => h, ⟨fun j hg _ _ _ k h => by obtain ⟨q, h1, h2, h3⟩ := h; exact ⟨q, h1, h2, kL_blk (by rintro rfl; exact absurd hg (by rw [show goneB _ 14 15 = true by kernel_rfl]; simp)) (by rw [List.size_toArray, bv_length]; exact HZ.out) k h3⟩, ⟨fun _ _ _ _ _ _ h => h, ⟨fun _ _ _ _ _ _ h => h, trivial⟩⟩⟩⟩⟩⟩⟩⟩⟩⟩⟩⟩⟩⟩⟩⟩⟩
          case hstep =>
            -- operation 0: Op.move (tmp 0)
            refine ⟨fun r wx hG hs hq hf => ?_, ?_⟩
            · have e0 : r 0 = .int .i64 W := hs 0 rfl
              refine (if_pos rfl).symm ▸ ?_
              clear hs hq hf
              unfold gives
              go_simp
              exact ⟨kL_refl _ _ _ _ _ _, rfl⟩
            -- operation 1: Op.move (tmp 1)
            refine ⟨fun r wx hG hs hq hf => ?_, ?_⟩
            · have e1 : r 1 = .slice (some ⟨b, off, none⟩) m c := hs 1 rfl
              refine (if_pos rfl).symm ▸ ?_
              clear hs hq hf
              unfold gives
              go_simp
              exact ⟨kL_refl _ _ _ _ _ _, rfl⟩
            -- operation 2: Op.move (tmp 2)
            refine ⟨fun r wx hG hs hq hf => ?_, ?_⟩
            · have e2 : r 2 = .int .i64 (i : Nat) := hs 2 rfl
              refine (if_pos rfl).symm ▸ ?_
              clear hs hq hf
              unfold gives
              go_simp
              exact ⟨kL_refl _ _ _ _ _ _, rfl⟩
            -- operation 3: Op.indexAddr 22 (tmp 76) (tmp 77)
            refine ⟨fun r wx hG hs hq hf => ?_, ?_⟩
            · have h1 : r 76 = .slice (some ⟨b, off, none⟩) m c := hf.1
              have h2 : r 77 = .int .i64 (i : Nat) := hf.2.1
              refine (if_pos rfl).symm ▸ ?_
              clear hs hq hf
              unfold gives
              have z0 : (0 : Int) ≤ (i : Int) := by omega
              have z1 : (i : Int) < (m : Int) := by omega
              go_simp
              exact ⟨kL_refl _ _ _ _ _ _, rfl⟩
            -- operation 4: Op.load 33 (tmp 78)
            refine ⟨fun r wx hG hs hq hf => ?_, ?_⟩
            · have h3 : r 78 = .pointer (some ⟨b, off + i * 32, none⟩) := hf.1
              refine (if_pos rfl).symm ▸ ?_
              clear hs hq hf
              unfold gives
              refine gives_load_mid 33 _ rfl b (off + i * 32) h3 (bv x) _ (HRG.out wx hG) Tryd.underlying33 rfl (hInfo' _ HLN.out.1) ⟨kL_refl _ _ _ _ _ _, rfl⟩
            -- operation 5: Op.move (tmp 2)
            refine ⟨fun r wx hG hs hq hf => ?_, ?_⟩
            · have e2 : r 2 = .int .i64 (i : Nat) := hs 2 rfl
              refine (if_pos rfl).symm ▸ ?_
              clear hs hq hf
              unfold gives
              go_simp
              exact ⟨kL_refl _ _ _ _ _ _, rfl⟩
            -- operation 6: Op.convert 3 29 (tmp 80)
            refine ⟨fun r wx hG hs hq hf => ?_, ?_⟩
            · have h5 : r 80 = .int .i64 (i : Nat) := hf.1
              refine (if_pos rfl).symm ▸ ?_
              clear hs hq hf
              unfold gives
              have zw : IntKind.u64.wrap (i : Int) = (i : Int) := IntWalk.u64_in _ (by omega)
              go_simp
              exact ⟨kL_refl _ _ _ _ _ _, rfl⟩
            -- operation 7: Op.move (tmp 11)
            refine ⟨fun r wx hG hs hq hf => ?_, ?_⟩
            · have e11 : r 11 = .int .u64 (m : Nat) := hs 11 rfl
              refine (if_pos rfl).symm ▸ ?_
              clear hs hq hf
              unfold gives
              go_simp
              exact ⟨kL_refl _ _ _ _ _ _, rfl⟩
            -- operation 8: Op.move (tmp 12)
            refine ⟨fun r wx hG hs hq hf => ?_, ?_⟩
            · have e12 : r 12 = .slice (some ⟨gp, 0, none⟩) L vc := hs 12 rfl
              refine (if_pos rfl).symm ▸ ?_
              clear hs hq hf
              unfold gives
              go_simp
              exact ⟨kL_refl _ _ _ _ _ _, rfl⟩
            -- operation 9: Op.slice 22 (tmp 83) (some (const (Value.int IntKind.i64 1))) none none
            refine ⟨fun r wx hG hs hq hf => ?_, ?_⟩
            · have h8 : r 83 = .slice (some ⟨gp, 0, none⟩) L vc := hf.1
              refine (if_pos rfl).symm ▸ ?_
              clear hs hq hf
              unfold gives
              have z0 : (1 : Int) ≤ (L : Int) := by omega
              have z1 : (L : Int) ≤ (vc : Int) := by omega
              have z4 : ((L : Int) - 1).toNat = L - 1 := by omega
              have z5 : ((vc : Int) - 1).toNat = vc - 1 := by omega
              by_cases z3 : vc = 1
              · obtain rfl : o2 = 0 := by rw [HO2.out, if_pos z3]
                subst z3
                have hL1 : L - 1 = 0 := by omega
                go_simp
                exact ⟨kL_refl _ _ _ _ _ _, by show _ = Value.slice (some ⟨gp, 0, none⟩) (L - 1) (1 - 1); rw [hL1]⟩
              · obtain rfl : o2 = 32 := by rw [HO2.out, if_neg z3]
                go_simp
                exact ⟨kL_refl _ _ _ _ _ _, rfl⟩
            -- operation 10: Op.call ( callee := Callee.value (func 27), args := #[tmp 75, tmp 79, tmp 81, tmp 82, tmp 84], argTypes := #[3, 33, 29, 
            refine ⟨fun r wx hG hs hq hf => ?_, ?_⟩
            · have h0 : r 75 = .int .i64 W := hf.1
              have h4 : r 79 = .agg (bv x).toArray := hf.2.1
              have h6 : r 81 = .int .u64 (i : Nat) := hf.2.2.1
              have h7 : r 82 = .int .u64 (m : Nat) := hf.2.2.2.1
              have h9 : r 84 = .slice (some ⟨gp, o2, none⟩) (L - 1) (vc - 1) := hf.2.2.2.2.1
              refine (if_pos rfl).symm ▸ ?_
              clear hs hq hf
              unfold gives
              go_simp
              refine (HCL2.out wx hG).mono ?_
              rintro e wy ⟨rfl, hb1⟩
              exact ⟨_, rfl, kL_of hb1, rfl⟩
            -- operation 11: Op.move (tmp 85)
            refine ⟨fun r wx hG hs hq hf => ?_, ?_⟩
            · have h10 : r 85 = .tuple #[.agg (bv (zs 32)).toArray, .int .i64 2] := hf.1
              refine (if_pos rfl).symm ▸ ?_
              clear hs hq hf
              unfold gives
              go_simp
              exact ⟨kL_refl _ _ _ _ _ _, rfl⟩
            -- operation 12: Op.extract (tmp 74) 0
            refine ⟨fun r wx hG hs hq hf => ?_, ?_⟩
            · have h11 : r 74 = .tuple #[.agg (bv (zs 32)).toArray, .int .i64 2] := hf.1
              refine (if_pos rfl).symm ▸ ?_
              clear hs hq hf
              unfold gives
              go_simp
              exact ⟨kL_refl _ _ _ _ _ _, rfl⟩
            -- operation 13: Op.extract (tmp 74) 1
            refine ⟨fun r wx hG hs hq hf => ?_, ?_⟩
            · have h11 : r 74 = .tuple #[.agg (bv (zs 32)).toArray, .int .i64 2] := hf.1
              refine (if_pos rfl).symm ▸ ?_
              clear hs hq hf
              unfold gives
              go_simp
              exact ⟨kL_refl _ _ _ _ _ _, rfl⟩
            -- operation 14: Op.alloc 33
            refine ⟨fun r wx hG hs hq hf => ?_, ?_⟩
            · refine (if_pos rfl).symm ▸ ?_
              clear hs hq hf
              unfold gives
              go_simp
              exact ⟨kL_of ((Below.refl _ _).alloc (Nat.le_refl _) _), _, rfl, Nat.le_trans hBs hG.size, heap_alloc_new _ _⟩
            -- operation 15: Op.store 33 (tmp 16) (tmp 86)
            refine ⟨fun r wx hG hs hq hf => ?_, ?_⟩
            · have h14 : ∃ p, (r 16) = .pointer (some ⟨p, 0, none⟩) ∧ B ≤ p ∧ wx.heap[p]? = some (.cells (bv (zs 32)).toArray 33 (0, 0)) := hf.1
              have h12 : r 86 = .agg (bv (zs 32)).toArray := hf.2.1
              refine (if_pos rfl).symm ▸ ?_
              clear hs hq hf
              unfold gives
              obtain ⟨p, hp, hBp, hrow⟩ := h14
              refine gives_store_row 33 _ _ rfl p (bv (zs 32)) hp h12 (bv (zs 32)) 33 hrow (hInfo' _ HZ.out) rfl (bv_one _) ?_
              intro wy h1 h2
              refine ⟨⟨_, h2, fun i e => ?_⟩, trivial⟩
              obtain rfl : p = i := by simpa using e
              exact ⟨hBp, _, _, hrow, .inr (.inr rfl)⟩
            -- operation 16: Op.assign (tmp 87)
            refine ⟨fun r wx hG hs hq hf => ?_, ?_⟩
            · have h13 : r 87 = .int .i64 2 := hf.1
              have h15 : True := hf.2.1
              refine (if_pos rfl).symm ▸ ?_
              clear hs hq hf
              unfold gives
              go_simp
              exact ⟨kL_refl _ _ _ _ _ _, rfl⟩
            exact trivial
          case hend =>
            intro u wz hG hfin
            have z15 : True := hfin 15 (by decide) (by kernel_rfl)
            have z16 : u 16 = .int .i64 2 := hfin 16 (by decide) (by kernel_rfl)
            clear hfin
            simp only [fill]
            have HG6 := Lib.hid hG
            clear hG
            go_simp
            have HBF := Lib.hid (HSUB2.out wz HG6.out)
            clear HG6 HCL2 HRG HOP
            have hd64 : kd % 64 < 64 := Nat.mod_lt _ (by omega)
            obtain ⟨d, hd⟩ : ∃ d, d = kd % 64 := ⟨_, rfl⟩
            have zd : (kd : Int) % 64 = (d : Int) := by rw [hd]; simp
            rw [← hd] at hd64
            have hp2 : 2 ^ d < 18446744073709551616 := by
              have := Nat.pow_lt_pow_right (show 1 < 2 by omega) hd64
              omega
            have hsp := size_pow d i (by omega)
            have hp0 := Nat.pow_pos (n := d) (show 0 < 2 by omega)
            have hml := Nat.mod_lt i hp0
            obtain ⟨s, hs⟩ : ∃ s, s = 2 ^ d := ⟨_, rfl⟩
            have zs2 : (1 : Int) * 2 ^ d = (s : Int) := by rw [hs]; simp
            have zs3 : (2 : Int) ^ d = (s : Int) := by rw [hs]; simp
            rw [← hs] at hp2 hsp hp0 hml
            obtain ⟨q, hq⟩ : ∃ q, q = i % s := ⟨_, rfl⟩
            have zq : (i : Int) % (s : Int) = (q : Int) := by rw [hq]; simp
            have zqb : Int.tmod (i : Int) (s : Int) = (q : Int) := by rw [hq]; rfl
            rw [← hq] at hsp hml
            have zs4 : IntKind.u64.wrap (s : Int) = (s : Int) := IntWalk.u64_in _ (by omega)
            have zi4 : IntKind.u64.wrap (i : Int) = (i : Int) := IntWalk.u64_in _ (by omega)
            have zs5 : ¬ (s : Int) = 0 := by omega
            have zd2 : (d : Int) ≤ 64 := by omega
            have zd3 : IntKind.i64.wrap (d : Int) = (d : Int) := IntWalk.i64_in _ (by omega)
            have hS1 := fun wx => pathSize_any q s wx (by omega) (by omega)
            rw [hsp] at hS1
            have hS2 := fun wx => pathSize_any s s wx (by omega) (by omega)
            rw [size_same] at hS2
            have hS3 := fun wx => pathSize_any 0 0 wx (by omega) (by omega)
            rw [size_same] at hS3
            have HS := Lib.hid (And.intro hS1 (And.intro hS2 hS3))
            clear hsp hs hq hd hS1 hS2 hS3 hp2
            go_wp2_with fail
            refine (HS.out.1 _).mono ?_
            rintro e y1' ⟨rfl, hby1⟩
            go_wp2_with fail
            refine (HS.out.2.1 _).mono ?_
            rintro e y2' ⟨rfl, hby2⟩
            go_wp2_with fail
            refine (HS.out.2.2 _).mono ?_
            rintro e y3' ⟨rfl, hby3⟩
            have HBY := Lib.hid (hby1.trans ((hby2.trans (hby3.mono hby2.size)).mono hby1.size))
            clear hby1 hby2 hby3
            go_wp2_with fail
            go_ret
            exact ⟨by simp, HBF.out.trans (HBY.out.mono HBF.out.size)⟩
end Go.Proofs.YtdjmebfjanophaaDoor
