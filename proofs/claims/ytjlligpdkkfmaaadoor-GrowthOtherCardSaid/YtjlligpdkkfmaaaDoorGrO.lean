/- The law GrowthOther: the walk. (printed by gen/gro.py) -/
import Derived.Test.YtjlligpdkkfmaaaDoorGrM
namespace Go.Proofs.YtjlligpdkkfmaaaDoor
open Go.RowKit Sha Root Path Growth

/-- What each operation hands on. -/
def got17P (W : Int) (n _c m L vc _g7 _g12 _g13 : Nat) (_a va : Option Addr) (other rm rt : List UInt8) : Nat → Value → Prop
  | 0, v => v = .int .i64 W
  | 1, v => v = .int .i64 (m : Nat)
  | 2, v => v = .int .u64 (m : Nat)
  | 3, v => v = .int .i64 (n : Nat)
  | 4, v => v = .int .u64 (n : Nat)
  | 5, v => v = .agg (bv rm).toArray
  | 6, v => v = .agg (bv other).toArray
  | 7, v => v = .slice va L vc
  | 8, v => v = .bool (other == rt)
  | 9, v => v = .agg (bv other).toArray
  | 10, v => v = .agg (bv rt).toArray
  | 11, v => v = .bool (other == rt)
  | 12, v => v = .bool true
  | 13, v => v = .bool true
  | 14, v => v = .int .i64 W
  | 15, v => v = .int .i64 (n : Nat)
  | 16, v => v = .int .u64 (n : Nat)
  | 17, v => v = .int .u64 ((n + 1 : Nat) : Int)
  | 18, v => v = .int .i64 (m : Nat)
  | 19, v => v = .int .u64 (m : Nat)
  | 20, v => v = .agg (bv rm).toArray
  | 21, v => v = .agg (bv rt).toArray
  | 22, v => v = .slice va L vc
  | 23, v => v = .bool false
  | 24, v => v = .bool true
  | 25, v => v = .bool true
  | 26, v => v = .bool true
  | _, _ => True

set_option maxHeartbeats 16000000 in
set_option maxRecDepth 100000 in
theorem growthOther_walk (W iv : Int) (other : List UInt8) (a : Option Addr) (c : Nat) (ls0 : List (List UInt8)) (w : World) (hW : -9223372036854775808 ≤ W ∧ W ≤ 9223372036854775807) (ho : other.length = 32) (h32a : ∀ p ∈ ls0, p.length = 32) (hl : ls0.length * 32 ≤ 140737488351232) (hr : Rd w 32 (.slice a ls0.length c) ls0.length (ls0.flatMap bv)) (hT : Tabs w) (hD : TabD w) :
    Calls Tryd.prog 9 #[.int .i64 W, .slice a ls0.length c, .int .i64 iv, .agg (bv other).toArray] w fun e w' => e = .returned (.bool true) ∧ Below w.heap.size w w' := by
  have hz := (zero_of_info info32).1
  have HZ32 := Lib.hid (show (zs 32).length = 32 by simp [zs])
  have hcap : ls0.length ≤ c := by
    obtain ⟨_, _, ⟨hv, h0⟩ | ⟨ad, c', hv, hc, _⟩⟩ := hr
    · simp at hv; omega
    · simp at hv; omega
  obtain ⟨w0, hw0⟩ : ∃ x : World, x = w.alloc (.cells (bv other).toArray 35) := ⟨_, rfl⟩
  have hbox : w0.heap[w.heap.size]? = some (.cells (bv other).toArray 35 (0, 0)) := by rw [hw0]; exact heap_alloc_new _ _
  have hbw0 : Below w.heap.size w w0 := by rw [hw0]; exact (Below.refl _ _).alloc (Nat.le_refl _) _
  have haw := awake16_any w0 (hT.keepB hbw0) (hD.keepB hbw0)
  obtain ⟨u, hu, hub⟩ : ∃ u : Nat, IntKind.u64.wrap iv = (u : Int) ∧ u < 18446744073709551616 := by
    rw [IntKind.wrap_u64]
    exact ⟨(iv % 18446744073709551616).toNat, by omega, by omega⟩
  have HW0 := Lib.hid hw0
  have H0 := Lib.hid (And.intro hbox hbw0)
  have HR := Lib.hid hr
  have HT := Lib.hid (And.intro hT (And.intro hD h32a))
  have HN := Lib.hid (And.intro hW ho)
  have HU := Lib.hid hu
  clear hw0 hbox hbw0 hr hT hD h32a hW ho hu
  go_enter Tryd.func9, Tryd.ntmps9
  go_upto_region 1 with fail
  rw [show w.alloc (.cells (bv other).toArray 35) = w0 from HW0.out.symm]
  go_wp2_with fail
  refine haw.mono ?_
  rintro e w1 ⟨rfl, hb1⟩
  have H1 := Lib.hid (And.intro ((hb1.block _ (Array.getElem?_eq_some_iff.1 H0.out.1).1).trans H0.out.1) (H0.out.2.trans (hb1.mono H0.out.2.size)))
  clear hb1 haw
  go_upto_if 21 with fail
  go_cut [1] (fun s1 wz => s1 = .slice a (min ls0.length 60) c ∧ wz = w1)
  case first =>
    by_cases hgt : 60 < ls0.length
    · have z2 : (60 : Int) < (ls0.length : Int) := by omega
      have z4 : (60 : Int) ≤ (c : Int) := by omega
      go_wp2_with fail
      go_meet
      exact ⟨by rw [show min ls0.length 60 = 60 by omega], rfl⟩
    · have z2 : ¬ (60 : Int) < (ls0.length : Int) := by omega
      go_wp2_with fail
      go_meet
      exact ⟨by rw [show min ls0.length 60 = ls0.length by omega], rfl⟩
  case rest =>
    obtain ⟨rfl, rfl⟩ := hcut
    obtain ⟨n, hn⟩ : ∃ m, m = min ls0.length 60 := ⟨_, rfl⟩
    rw [← hn]
    have hm3 : n ≤ ls0.length := by omega
    have hm4 : n ≤ 60 := by omega
    have h32 : ∀ q ∈ ls0.take n, q.length = 32 := fun q hq => HT.out.2.2 q (List.mem_of_mem_take hq)
    have hR : Rd w 32 (.slice a n c) n ((ls0.take n).flatMap bv) := by
      rw [flat_take32 _ _ HT.out.2.2]; exact rd_take HR.out n hm3
    have hlm : (ls0.take n).length = n := by rw [List.length_take]; omega
    have hmc : n ≤ c := by omega
    obtain ⟨ls, hls⟩ : ∃ l, l = ls0.take n := ⟨_, rfl⟩
    rw [← hls] at hR h32 hlm
    by_cases hn0 : n = 0
    · have z1 : ((n : Int) == 0) = true := by simp; omega
      clear hR h32 hls hn hm3 hlm hcap
      go_wp2_with fail
      go_ret
      exact ⟨rfl, H1.out.2⟩
    · have z1 : ((n : Int) == 0) = false := by simp; omega
      have z2 : ¬ (n : Int) = 0 := by omega
      have z3 : IntKind.u64.wrap (n : Int) = (n : Int) := IntWalk.u64_in _ (by omega)
      have hmp : u % n < n := Nat.mod_lt _ (by omega)
      obtain ⟨i, hie⟩ : ∃ i, i = u % n := ⟨_, rfl⟩
      rw [← hie] at hmp
      have z4 : (u : Int) % (n : Int) = (i : Int) := by rw [hie]; simp
      have z4b : Int.tmod (u : Int) (n : Int) = (i : Int) := by rw [hie]; rfl
      have z5 : IntKind.i64.wrap (i : Int) = (i : Int) := IntWalk.i64_in _ (by omega)
      have z6 : IntKind.i64.wrap (n : Int) = (n : Int) := IntWalk.i64_in _ (by omega)
      obtain ⟨m, hm⟩ : ∃ m, m = 1 + i := ⟨_, rfl⟩
      have z8 : IntKind.i64.wrap (1 + (i : Int)) = (m : Int) := (IntWalk.i64_in _ (by omega)).trans (by omega)
      have z8b : (1 : Int) + (i : Int) = (m : Int) := by omega
      have hm1 : 1 ≤ m := by omega
      have hmn : m ≤ n := by omega
      have z7 := HU.out
      have z9 : (0 : Int) ≤ (m : Int) := by omega
      have z10 : (m : Int) ≤ (c : Int) := by omega
      have z11 : IntKind.u64.wrap (m : Int) = (m : Int) := IntWalk.u64_in _ (by omega)
      have hpv := fun wx (hb : Below w.heap.size w wx) => gProve_any W ls m n a c wx HN.out.1 h32 (by omega) hmn (by omega) (by rw [hlm]; exact hR.keep hb) (HT.out.1.keepB hb) (HT.out.2.1.keepB hb)
      have hpl := gp_len W ls m n (by omega) hmn
      rw [if_neg (by omega)] at hpl
      have hps := gp_show W ls m n (by omega) hmn hm1
      have hp32 := gP_32 W ls m n (by omega) hmn h32
      have hszb := szG_le m n true hm1 hmn (by omega)
      rw [hlm] at hpv
      have hroot := fun k (hk : k ≤ n) wx (hb : Below w.heap.size w wx) => Root_any W (ls.take k) (.slice a k c) wx HN.out.1 (fun p hp => h32 p (List.mem_of_mem_take hp)) (by rw [List.length_take]; omega) (by
        rw [List.length_take, hlm, Nat.min_eq_left hk, flat_take32 _ _ h32]; exact (rd_take hR k hk).keep hb) (HT.out.1.keepB hb) (HT.out.2.1.keepB hb)
      have hr1 := hroot m hmn
      have hr2 := hroot n (Nat.le_refl _)
      have h1 := rootH_32 W (ls.take m) (fun p hp => h32 p (List.mem_of_mem_take hp))
      have h2 := rootH_32 W (ls.take n) (fun p hp => h32 p (List.mem_of_mem_take hp))
      obtain ⟨rm, hrm⟩ : ∃ r, r = rootH W (ls.take m) := ⟨_, rfl⟩
      obtain ⟨rt, hrt⟩ : ∃ r, r = rootH W (ls.take n) := ⟨_, rfl⟩
      rw [← hrm] at hr1 h1 hps
      rw [← hrt] at hr2 h2 hps
      obtain ⟨P, hP⟩ : ∃ p, p = gP W ls m n := ⟨_, rfl⟩
      rw [← hP] at hpl hpv hp32 hps
      rw [← hpl] at hszb
      have HPV := Lib.hid hpv
      have HPF := Lib.hid (And.intro hps hp32)
      have HLN := Lib.hid (And.intro h1 h2)
      have HROOT := Lib.hid (And.intro hr1 hr2)
      clear hR h32 hls hn hm3 hlm hcap hpv hpl hps hp32 hroot hr1 hr2 h1 h2 hrm hrt hP hm hie hmp
      go_wp2_with fail
      refine (HPV.out _ H1.out.2).mono ?_
      rintro e w2 ⟨va, vc, rfl, ho2, hb2⟩
      have H2 := Lib.hid (And.intro ((hb2.block _ (Array.getElem?_eq_some_iff.1 H1.out.1).1).trans H1.out.1) (H1.out.2.trans (hb2.mono H1.out.2.size)))
      have HRP := Lib.hid (own_rd ho2 (flat_one32 _))
      clear ho2 hb2
      go_wp2_with fail
      refine (HROOT.out.1 _ H2.out.2).mono ?_
      rintro e w3 ⟨rfl, hb3⟩
      have H3 := Lib.hid (And.intro ((hb3.block _ (Array.getElem?_eq_some_iff.1 H2.out.1).1).trans H2.out.1) (H2.out.2.trans (hb3.mono H2.out.2.size)))
      have HRP3 := Lib.hid (HRP.out.keep hb3)
      clear hb3 HRP
      go_upto_region 11 with (with_reducible show wpList _ _ _ (⟨none, Op.store _ _ _, _, _, _, _⟩ :: _) _ _; refine wpList_store_whole rfl _ _ _ rfl w3.heap.size (bv rm) rfl rfl (bv (zs 32)) _ (heap_alloc_new w3 (.cells (bv (zs 32)).toArray 35)) (hInfo' _ HLN.out.1) (by rw [bv_length, bv_length, HLN.out.1]; simp [zs]) (bv_one _) ?_; intro w4 HGv hgv)
      have k4 : Below w3.heap.size w3 w4 := below_grow ((Below.refl _ _).alloc (Nat.le_refl _) _) hgv (Nat.le_refl _) (by simp)
      have H4 := Lib.hid (And.intro HGv.out (And.intro ((k4.block _ (Array.getElem?_eq_some_iff.1 H3.out.1).1).trans H3.out.1) (H3.out.2.trans (k4.mono H3.out.2.size))))
      have HRP4 := Lib.hid (HRP3.out.keep k4)
      clear k4 HGv hgv HRP3
      go_wp2_with fail
      refine (HROOT.out.2 _ H4.out.2.2).mono ?_
      rintro e w5 ⟨rfl, hb5⟩
      have H5 := Lib.hid (And.intro ((hb5.block _ (Array.getElem?_eq_some_iff.1 H4.out.1).1).trans H4.out.1) (And.intro ((hb5.block _ (Array.getElem?_eq_some_iff.1 H4.out.2.1).1).trans H4.out.2.1) (H4.out.2.2.trans (hb5.mono H4.out.2.2.size))))
      have HRP5 := Lib.hid (HRP4.out.keep hb5)
      clear hb5 HRP4
      go_upto_region 12 with (with_reducible show wpList _ _ _ (⟨none, Op.store _ _ _, _, _, _, _⟩ :: _) _ _; refine wpList_store_whole rfl _ _ _ rfl w5.heap.size (bv rt) rfl rfl (bv (zs 32)) _ (heap_alloc_new w5 (.cells (bv (zs 32)).toArray 35)) (hInfo' _ HLN.out.2) (by rw [bv_length, bv_length, HLN.out.2]; simp [zs]) (bv_one _) ?_; intro w6 HGv hgv)
      have k6 : Below w5.heap.size w5 w6 := below_grow ((Below.refl _ _).alloc (Nat.le_refl _) _) hgv (Nat.le_refl _) (by simp)
      obtain ⟨g12, hg12⟩ : ∃ g, g = w3.heap.size := ⟨_, rfl⟩
      obtain ⟨g13, hg13⟩ : ∃ g, g = w5.heap.size := ⟨_, rfl⟩
      have H6 := Lib.hid (show w6.heap[g12]? = some (.cells (bv rm).toArray 35 (0, 0)) ∧ w6.heap[g13]? = some (.cells (bv rt).toArray 35 (0, 0)) ∧ w6.heap[w.heap.size]? = some (.cells (bv other).toArray 35 (0, 0)) ∧ Below w.heap.size w w6 from And.intro (by rw [hg12]; exact (k6.block _ (Array.getElem?_eq_some_iff.1 H5.out.1).1).trans H5.out.1) (And.intro (by rw [hg13]; exact HGv.out) (And.intro ((k6.block _ (Array.getElem?_eq_some_iff.1 H5.out.2.1).1).trans H5.out.2.1) (H5.out.2.2.trans (k6.mono H5.out.2.2.size)))))
      have HRP6 := Lib.hid (HRP5.out.keep k6)
      rw [← hg12, ← hg13]
      clear k6 HGv hgv HRP5 hg12 hg13
      have hcl := gClimb_any W m n rm P va vc w6 HN.out.1 HLN.out.1 (by omega) (by omega) HPF.out.2 (by omega) HRP6.out (HT.out.1.keepB H6.out.2.2.2)
      rw [HPF.out.1.1, HPF.out.1.2] at hcl
      have hk1 := fun (wx : World) (hb : Below w6.heap.size w6 wx) => gCheck_any W m n rm other P va vc wx HN.out.1 HLN.out.1 HN.out.2 (by omega) (by omega) HPF.out.2 (by omega) (HRP6.out.keep hb) (HT.out.1.keepB (H6.out.2.2.2.trans (hb.mono H6.out.2.2.2.size)))
      have hk2 := fun (wx : World) (hb : Below w6.heap.size w6 wx) => gCheck_any W (n + 1) m rm rt P va vc wx HN.out.1 HLN.out.1 HLN.out.2 (by omega) (by omega) HPF.out.2 (by omega) (HRP6.out.keep hb) (HT.out.1.keepB (H6.out.2.2.2.trans (hb.mono H6.out.2.2.2.size)))
      have e1 : gB W m n rm other P = (other == rt) := by
        rw [gB, if_neg (by omega), if_neg (by omega), HPF.out.1.1, HPF.out.1.2]
        simp only [beq_self_eq_true, Bool.true_and]
        exact BEq.comm
      have e2 : gB W (n + 1) m rm rt P = false := by rw [gB, if_pos (by omega)]
      simp only [e1] at hk1
      simp only [e2] at hk2
      obtain ⟨L, hL⟩ : ∃ L, L = P.length := ⟨_, rfl⟩
      rw [← hL] at hcl hszb ⊢
      simp only [← hL] at hk1 hk2
      have HCL := Lib.hid hcl
      have HKK := Lib.hid (And.intro hk1 hk2)
      clear hcl hk1 hk2 e1 e2 hL HRP6
      have hgd := eq_guard
      go_wp2_with (with_reducible show wpList _ _ _ (⟨some 59, _, _, _, _, _⟩ :: _) _ _; refine wpList_load_row rfl _ _ rfl g12 rfl _ _ (0, 0) _ H6.out.1 Tryd.underlying35 rfl (hInfo _ HLN.out.1) ?_)
      refine HCL.out.mono ?_
      rintro e w7 ⟨rfl, hb7⟩
      have H7 := Lib.hid (And.intro ((hb7.block _ (Array.getElem?_eq_some_iff.1 H6.out.1).1).trans H6.out.1) (And.intro ((hb7.block _ (Array.getElem?_eq_some_iff.1 H6.out.2.1).1).trans H6.out.2.1) (And.intro ((hb7.block _ (Array.getElem?_eq_some_iff.1 H6.out.2.2.1).1).trans H6.out.2.2.1) (H6.out.2.2.2.trans (hb7.mono H6.out.2.2.2.size)))))
      have HB7 := Lib.hid hb7
      clear hb7
      have Ha := Lib.hid (show ((w7.alloc (.cells (bv (zs 32)).toArray 35)).alloc (.cells (bv (zs 32)).toArray 35)).heap[w7.heap.size]? = some (.cells (bv (zs 32)).toArray 35 (0, 0)) from by rw [heap_alloc_old _ _ (by simp)]; exact heap_alloc_new _ _)
      have Hb := Lib.hid (show ((w7.alloc (.cells (bv (zs 32)).toArray 35)).alloc (.cells (bv (zs 32)).toArray 35)).heap[w7.heap.size + 1]? = some (.cells (bv (zs 32)).toArray 35 (0, 0)) from by
        have := heap_alloc_new (w7.alloc (.cells (bv (zs 32)).toArray 35)) (.cells (bv (zs 32)).toArray 35)
        simpa using this)
      go_upto_region 15 with (first
        | (with_reducible show wpList _ _ _ (⟨none, Op.store _ _ _, _, _, _, _⟩ :: _) _ _; refine wpList_store_whole rfl _ _ _ rfl w7.heap.size (bv rm) rfl rfl (bv (zs 32)) _ Ha.out (hInfo' _ HLN.out.1) (by rw [bv_length, bv_length, HLN.out.1, HZ32.out]) (bv_one _) ?_; intro w8 HGa hga)
        | (with_reducible show wpList _ _ _ (⟨none, Op.store _ _ _, _, _, _, _⟩ :: _) _ _; refine wpList_store_whole rfl _ _ _ rfl (w7.heap.size + 1) (bv rt) rfl rfl (bv (zs 32)) _ ((hga.block (w7.heap.size + 1) (Array.getElem?_eq_some_iff.1 Hb.out).1 (by simp)).trans Hb.out) (hInfo' _ HLN.out.2) (by rw [bv_length, bv_length, HLN.out.2, HZ32.out]) (bv_one _) ?_; intro w9 HGb hgb))
      have k3 : Below w7.heap.size w7 w8 := below_grow (((Below.refl _ _).alloc (Nat.le_refl _) _).alloc (by simp) _) hga (Nat.le_refl _) (by simp; omega)
      have k5 : Below w7.heap.size w7 w9 := below_grow k3 hgb (by omega) (Nat.lt_of_lt_of_le (Array.getElem?_eq_some_iff.1 Hb.out).1 hga.size)
      have hra := (hgb.block w7.heap.size (Array.getElem?_eq_some_iff.1 HGa.out).1 (by simp)).trans HGa.out
      have hrb := HGb.out
      have H9 := Lib.hid (And.intro ((k5.block _ (Array.getElem?_eq_some_iff.1 H7.out.1).1).trans H7.out.1) (And.intro ((k5.block _ (Array.getElem?_eq_some_iff.1 H7.out.2.1).1).trans H7.out.2.1) (And.intro ((k5.block _ (Array.getElem?_eq_some_iff.1 H7.out.2.2.1).1).trans H7.out.2.2.1) (H7.out.2.2.2.trans (k5.mono H7.out.2.2.2.size)))))
      have H9x := Lib.hid (And.intro hra hrb)
      have HB9 := Lib.hid (HB7.out.trans (k5.mono HB7.out.size))
      clear hra hrb k3 k5 HGa HGb hga hgb Ha Hb
      have hqe := eqIn_hash rm rm HLN.out.1 HLN.out.1 w9
      have hqf := eqIn_hash rt rt HLN.out.2 HLN.out.2 w9
      rw [show (rm == rm) = true by simp] at hqe
      rw [show (rt == rt) = true by simp] at hqf
      go_upto_region 17 with (first
        | (with_reducible show wpList _ _ _ (⟨some 68, _, _, _, _, _⟩ :: _) _ _; refine wpList_guard rfl ?_; refine wpList_load_row rfl _ _ rfl w7.heap.size rfl _ _ (0, 0) _ H9x.out.1 Tryd.underlying35 rfl (hInfo _ HLN.out.1) ?_)
        | (with_reducible show wpList _ _ _ (⟨some 69, _, _, _, _, _⟩ :: _) _ _; refine wpList_guard rfl ?_; refine wpList_load_row rfl _ _ rfl g12 rfl _ _ (0, 0) _ H9.out.1 Tryd.underlying35 rfl (hInfo _ HLN.out.1) ?_)
        | (with_reducible show wpList _ _ _ (⟨some 73, _, _, _, _, _⟩ :: _) _ _; refine wpList_guard rfl ?_; refine wpList_load_row rfl _ _ rfl (w7.heap.size + 1) rfl _ _ (0, 0) _ H9x.out.2 Tryd.underlying35 rfl (hInfo _ HLN.out.2) ?_)
        | (with_reducible show wpList _ _ _ (⟨some 74, _, _, _, _, _⟩ :: _) _ _; refine wpList_guard rfl ?_; refine wpList_load_row rfl _ _ rfl g13 rfl _ _ (0, 0) _ H9.out.2.1 Tryd.underlying35 rfl (hInfo _ HLN.out.2) ?_))
      have HK1 := Lib.hid (fun wx (h : KeptT [] w9 wx) => HKK.out.1 wx (HB9.out.trans (h.below HB9.out.size (by simp))))
      have HK2 := Lib.hid (fun wx (h : KeptT [] w9 wx) => HKK.out.2 wx (HB9.out.trans (h.below HB9.out.size (by simp))))
      clear hqe hqf
      refine wp_region_desc [some 77, some 78, some 79, some 80, some 81, some 82, some 83, some 84, some 85, some 86, some 87, some 88, some 89, some 90, some 91, some 92, some 93, some 94, some 95, some 96, some 97, some 98, some 99, some 100, some 101, some 102, some 8] [] [] [(0, 0), (0, 0), (0, 0), (0, 0), (0, 0), (0, 0), (0, 0), (0, 0), (0, 0), (0, 0), (0, 0), (0, 0), (0, 0), (0, 0), (0, 0), (0, 0), (0, 0), (0, 0), (0, 0), (0, 0), (0, 0), (0, 0), (0, 0), (0, 0), (0, 0), (0, 0), (0, 0)] [] [] [] [] (got17P W n c m L vc w.heap.size g12 g13 a va other rm rt) (fun _ _ _ => True) (fun _ => default) (by kernel_rfl) (by kernel_rfl) rfl (by kernel_rfl) (by kernel_rfl) (by kernel_rfl) rfl trivial (by simp; try omega) rfl (fun i hi => (no4 (by kernel_rfl) i hi).elim) ?hstep ?hend
      case hstep =>
        -- operation 0: Op.move (tmp 0)
        refine ⟨fun r wx hG hs hq hf => ?_, ?_⟩
        · have e0 : r 0 = .int .i64 W := hs 0 rfl
          clear hs hq hf
          refine wanted_pos rfl ?_
          unfold gives
          go_simp
          exact obC_q (Below.refl _ _) rfl
        -- operation 1: Op.move (tmp 2)
        refine ⟨fun r wx hG hs hq hf => ?_, ?_⟩
        · have e2 : r 2 = .int .i64 (m : Nat) := hs 2 rfl
          clear hs hq hf
          refine wanted_pos rfl ?_
          unfold gives
          go_simp
          exact obC_q (Below.refl _ _) rfl
        -- operation 2: Op.convert 3 33 (tmp 78)
        refine ⟨fun r wx hG hs hq hf => ?_, ?_⟩
        · have h1 : r 78 = .int .i64 (m : Nat) := hf.1
          clear hs hq hf
          refine wanted_pos rfl ?_
          unfold gives
          have zw : IntKind.u64.wrap (m : Int) = (m : Int) := IntWalk.u64_in _ (by omega)
          go_simp
          exact obC_q (Below.refl _ _) rfl
        -- operation 3: Op.move (tmp 9)
        refine ⟨fun r wx hG hs hq hf => ?_, ?_⟩
        · have e9 : r 9 = .int .i64 (n : Nat) := hs 9 rfl
          clear hs hq hf
          refine wanted_pos rfl ?_
          unfold gives
          go_simp
          exact obC_q (Below.refl _ _) rfl
        -- operation 4: Op.convert 3 33 (tmp 80)
        refine ⟨fun r wx hG hs hq hf => ?_, ?_⟩
        · have h3 : r 80 = .int .i64 (n : Nat) := hf.1
          clear hs hq hf
          refine wanted_pos rfl ?_
          unfold gives
          have zw : IntKind.u64.wrap (n : Int) = (n : Int) := IntWalk.u64_in _ (by omega)
          go_simp
          exact obC_q (Below.refl _ _) rfl
        -- operation 5: Op.load 35 (tmp 12)
        refine ⟨fun r wx hG hs hq hf => ?_, ?_⟩
        · have e12 : r 12 = .pointer (some ⟨g12, 0, none⟩) := hs 12 rfl
          clear hs hq hf
          refine wanted_pos rfl ?_
          unfold gives
          refine gives_load_row 35 _ rfl g12 e12 35 _ (0, 0) _ (hG.row (by simp; try omega) H9.out.1) Tryd.underlying35 rfl (hInfo _ HLN.out.1) ?_
          exact obC_q (Below.refl _ _) rfl
        -- operation 6: Op.load 35 (tmp 7)
        refine ⟨fun r wx hG hs hq hf => ?_, ?_⟩
        · have e7 : r 7 = .pointer (some ⟨w.heap.size, 0, none⟩) := hs 7 rfl
          clear hs hq hf
          refine wanted_pos rfl ?_
          unfold gives
          refine gives_load_row 35 _ rfl w.heap.size e7 35 _ (0, 0) _ (hG.row (by simp; try omega) H9.out.2.2.1) Tryd.underlying35 rfl (hInfo _ HN.out.2) ?_
          exact obC_q (Below.refl _ _) rfl
        -- operation 7: Op.move (tmp 10)
        refine ⟨fun r wx hG hs hq hf => ?_, ?_⟩
        · have e10 : r 10 = .slice va L vc := hs 10 rfl
          clear hs hq hf
          refine wanted_pos rfl ?_
          unfold gives
          go_simp
          exact obC_q (Below.refl _ _) rfl
        -- operation 8: Op.call ( callee := Callee.value (func 37), args := #[tmp 77, tmp 79, tmp 81, tmp 82, tmp 83, tmp 84
        refine ⟨fun r wx hG hs hq hf => ?_, ?_⟩
        · have h0 : r 77 = .int .i64 W := hf.1
          have h2 : r 79 = .int .u64 (m : Nat) := hf.2.1
          have h4 : r 81 = .int .u64 (n : Nat) := hf.2.2.1
          have h5 : r 82 = .agg (bv rm).toArray := hf.2.2.2.1
          have h6 : r 83 = .agg (bv other).toArray := hf.2.2.2.2.1
          have h7 : r 84 = .slice va L vc := hf.2.2.2.2.2.1
          clear hs hq hf
          refine wanted_pos rfl ?_
          unfold gives
          go_simp
          refine (HK1.out wx hG).mono ?_
          rintro e wy ⟨rfl, hb1⟩
          exact ⟨_, rfl, obC_q hb1 rfl⟩
        -- operation 9: Op.load 35 (tmp 7)
        refine ⟨fun r wx hG hs hq hf => ?_, ?_⟩
        · have e7 : r 7 = .pointer (some ⟨w.heap.size, 0, none⟩) := hs 7 rfl
          clear hs hq hf
          refine wanted_pos rfl ?_
          unfold gives
          refine gives_load_row 35 _ rfl w.heap.size e7 35 _ (0, 0) _ (hG.row (by simp; try omega) H9.out.2.2.1) Tryd.underlying35 rfl (hInfo _ HN.out.2) ?_
          exact obC_q (Below.refl _ _) rfl
        -- operation 10: Op.load 35 (tmp 13)
        refine ⟨fun r wx hG hs hq hf => ?_, ?_⟩
        · have e13 : r 13 = .pointer (some ⟨g13, 0, none⟩) := hs 13 rfl
          clear hs hq hf
          refine wanted_pos rfl ?_
          unfold gives
          refine gives_load_row 35 _ rfl g13 e13 35 _ (0, 0) _ (hG.row (by simp; try omega) H9.out.2.1) Tryd.underlying35 rfl (hInfo _ HLN.out.2) ?_
          exact obC_q (Below.refl _ _) rfl
        -- operation 11: Op.binOp BinOp.eql 35 (tmp 86) (tmp 87) 35
        refine ⟨fun r wx hG hs hq hf => ?_, ?_⟩
        · have h9 : r 86 = .agg (bv other).toArray := hf.1
          have h10 : r 87 = .agg (bv rt).toArray := hf.2.1
          clear hs hq hf
          refine wanted_pos rfl ?_
          unfold gives
          have hqe := eqIn_hash other rt HN.out.2 HLN.out.2 wx
          have hgd := eq_guard
          go_simp
          exact obC_q (Below.refl _ _) rfl
        -- operation 12: Op.binOp BinOp.eql 4 (tmp 85) (tmp 88) 4
        refine ⟨fun r wx hG hs hq hf => ?_, ?_⟩
        · have h8 : r 85 = .bool (other == rt) := hf.1
          have h11 : r 88 = .bool (other == rt) := hf.2.1
          clear hs hq hf
          refine wanted_pos rfl ?_
          unfold gives
          go_simp
          exact obC_q (Below.refl _ _) rfl
        -- operation 13: Op.move (tmp 89)
        refine ⟨fun r wx hG hs hq hf => ?_, ?_⟩
        · have h12 : r 89 = .bool true := hf.1
          clear hs hq hf
          refine wanted_pos rfl ?_
          unfold gives
          go_simp
          exact obC_q (Below.refl _ _) rfl
        -- operation 14: Op.move (tmp 0)
        refine ⟨fun r wx hG hs hq hf => ?_, ?_⟩
        · have e0 : r 0 = .int .i64 W := hs 0 rfl
          have h13 : r 90 = .bool true := hf.1
          have hy : ydD [some 77, some 78, some 79, some 80, some 81, some 82, some 83, some 84, some 85, some 86, some 87, some 88, some 89, some 90, some 91, some 92, some 93, some 94, some 95, some 96, some 97, some 98, some 99, some 100, some 101, some 102, some 8] r 13 = some true := by show (match r 90 with | .bool b => some b | _ => none) = some true; rw [h13]
          clear hs hq hf
          refine wanted_pos (by simp only [Region.wanted, hy]; rfl) ?_
          unfold gives
          go_simp
          exact obC_q (Below.refl _ _) rfl
        -- operation 15: Op.move (tmp 9)
        refine ⟨fun r wx hG hs hq hf => ?_, ?_⟩
        · have e9 : r 9 = .int .i64 (n : Nat) := hs 9 rfl
          have h13 : r 90 = .bool true := hf.1
          have hy : ydD [some 77, some 78, some 79, some 80, some 81, some 82, some 83, some 84, some 85, some 86, some 87, some 88, some 89, some 90, some 91, some 92, some 93, some 94, some 95, some 96, some 97, some 98, some 99, some 100, some 101, some 102, some 8] r 13 = some true := by show (match r 90 with | .bool b => some b | _ => none) = some true; rw [h13]
          clear hs hq hf
          refine wanted_pos (by simp only [Region.wanted, hy]; rfl) ?_
          unfold gives
          go_simp
          exact obC_q (Below.refl _ _) rfl
        -- operation 16: Op.convert 3 33 (tmp 92)
        refine ⟨fun r wx hG hs hq hf => ?_, ?_⟩
        · have h15 : r 92 = .int .i64 (n : Nat) := hf.1
          have h13 : r 90 = .bool true := hf.2.1
          have hy : ydD [some 77, some 78, some 79, some 80, some 81, some 82, some 83, some 84, some 85, some 86, some 87, some 88, some 89, some 90, some 91, some 92, some 93, some 94, some 95, some 96, some 97, some 98, some 99, some 100, some 101, some 102, some 8] r 13 = some true := by show (match r 90 with | .bool b => some b | _ => none) = some true; rw [h13]
          clear hs hq hf
          refine wanted_pos (by simp only [Region.wanted, hy]; rfl) ?_
          unfold gives
          have zw : IntKind.u64.wrap (n : Int) = (n : Int) := IntWalk.u64_in _ (by omega)
          go_simp
          exact obC_q (Below.refl _ _) rfl
        -- operation 17: Op.binOp BinOp.add 33 (tmp 93) (const (Value.int IntKind.u64 1)) 33
        refine ⟨fun r wx hG hs hq hf => ?_, ?_⟩
        · have h16 : r 93 = .int .u64 (n : Nat) := hf.1
          have h13 : r 90 = .bool true := hf.2.1
          have hy : ydD [some 77, some 78, some 79, some 80, some 81, some 82, some 83, some 84, some 85, some 86, some 87, some 88, some 89, some 90, some 91, some 92, some 93, some 94, some 95, some 96, some 97, some 98, some 99, some 100, some 101, some 102, some 8] r 13 = some true := by show (match r 90 with | .bool b => some b | _ => none) = some true; rw [h13]
          clear hs hq hf
          refine wanted_pos (by simp only [Region.wanted, hy]; rfl) ?_
          unfold gives
          have zw : IntKind.u64.wrap ((n : Int) + 1) = ((n + 1 : Nat) : Int) := (IntWalk.u64_in _ (by omega)).trans (by omega)
          go_simp
          exact obC_q (Below.refl _ _) rfl
        -- operation 18: Op.move (tmp 2)
        refine ⟨fun r wx hG hs hq hf => ?_, ?_⟩
        · have e2 : r 2 = .int .i64 (m : Nat) := hs 2 rfl
          have h13 : r 90 = .bool true := hf.1
          have hy : ydD [some 77, some 78, some 79, some 80, some 81, some 82, some 83, some 84, some 85, some 86, some 87, some 88, some 89, some 90, some 91, some 92, some 93, some 94, some 95, some 96, some 97, some 98, some 99, some 100, some 101, some 102, some 8] r 13 = some true := by show (match r 90 with | .bool b => some b | _ => none) = some true; rw [h13]
          clear hs hq hf
          refine wanted_pos (by simp only [Region.wanted, hy]; rfl) ?_
          unfold gives
          go_simp
          exact obC_q (Below.refl _ _) rfl
        -- operation 19: Op.convert 3 33 (tmp 95)
        refine ⟨fun r wx hG hs hq hf => ?_, ?_⟩
        · have h18 : r 95 = .int .i64 (m : Nat) := hf.1
          have h13 : r 90 = .bool true := hf.2.1
          have hy : ydD [some 77, some 78, some 79, some 80, some 81, some 82, some 83, some 84, some 85, some 86, some 87, some 88, some 89, some 90, some 91, some 92, some 93, some 94, some 95, some 96, some 97, some 98, some 99, some 100, some 101, some 102, some 8] r 13 = some true := by show (match r 90 with | .bool b => some b | _ => none) = some true; rw [h13]
          clear hs hq hf
          refine wanted_pos (by simp only [Region.wanted, hy]; rfl) ?_
          unfold gives
          have zw : IntKind.u64.wrap (m : Int) = (m : Int) := IntWalk.u64_in _ (by omega)
          go_simp
          exact obC_q (Below.refl _ _) rfl
        -- operation 20: Op.load 35 (tmp 12)
        refine ⟨fun r wx hG hs hq hf => ?_, ?_⟩
        · have e12 : r 12 = .pointer (some ⟨g12, 0, none⟩) := hs 12 rfl
          have h13 : r 90 = .bool true := hf.1
          have hy : ydD [some 77, some 78, some 79, some 80, some 81, some 82, some 83, some 84, some 85, some 86, some 87, some 88, some 89, some 90, some 91, some 92, some 93, some 94, some 95, some 96, some 97, some 98, some 99, some 100, some 101, some 102, some 8] r 13 = some true := by show (match r 90 with | .bool b => some b | _ => none) = some true; rw [h13]
          clear hs hq hf
          refine wanted_pos (by simp only [Region.wanted, hy]; rfl) ?_
          unfold gives
          refine gives_load_row 35 _ rfl g12 e12 35 _ (0, 0) _ (hG.row (by simp; try omega) H9.out.1) Tryd.underlying35 rfl (hInfo _ HLN.out.1) ?_
          exact obC_q (Below.refl _ _) rfl
        -- operation 21: Op.load 35 (tmp 13)
        refine ⟨fun r wx hG hs hq hf => ?_, ?_⟩
        · have e13 : r 13 = .pointer (some ⟨g13, 0, none⟩) := hs 13 rfl
          have h13 : r 90 = .bool true := hf.1
          have hy : ydD [some 77, some 78, some 79, some 80, some 81, some 82, some 83, some 84, some 85, some 86, some 87, some 88, some 89, some 90, some 91, some 92, some 93, some 94, some 95, some 96, some 97, some 98, some 99, some 100, some 101, some 102, some 8] r 13 = some true := by show (match r 90 with | .bool b => some b | _ => none) = some true; rw [h13]
          clear hs hq hf
          refine wanted_pos (by simp only [Region.wanted, hy]; rfl) ?_
          unfold gives
          refine gives_load_row 35 _ rfl g13 e13 35 _ (0, 0) _ (hG.row (by simp; try omega) H9.out.2.1) Tryd.underlying35 rfl (hInfo _ HLN.out.2) ?_
          exact obC_q (Below.refl _ _) rfl
        -- operation 22: Op.move (tmp 10)
        refine ⟨fun r wx hG hs hq hf => ?_, ?_⟩
        · have e10 : r 10 = .slice va L vc := hs 10 rfl
          have h13 : r 90 = .bool true := hf.1
          have hy : ydD [some 77, some 78, some 79, some 80, some 81, some 82, some 83, some 84, some 85, some 86, some 87, some 88, some 89, some 90, some 91, some 92, some 93, some 94, some 95, some 96, some 97, some 98, some 99, some 100, some 101, some 102, some 8] r 13 = some true := by show (match r 90 with | .bool b => some b | _ => none) = some true; rw [h13]
          clear hs hq hf
          refine wanted_pos (by simp only [Region.wanted, hy]; rfl) ?_
          unfold gives
          go_simp
          exact obC_q (Below.refl _ _) rfl
        -- operation 23: Op.call ( callee := Callee.value (func 37), args := #[tmp 91, tmp 94, tmp 96, tmp 97, tmp 98, tmp 99
        refine ⟨fun r wx hG hs hq hf => ?_, ?_⟩
        · have h14 : r 91 = .int .i64 W := hf.1
          have h17 : r 94 = .int .u64 ((n + 1 : Nat) : Int) := hf.2.1
          have h19 : r 96 = .int .u64 (m : Nat) := hf.2.2.1
          have h20 : r 97 = .agg (bv rm).toArray := hf.2.2.2.1
          have h21 : r 98 = .agg (bv rt).toArray := hf.2.2.2.2.1
          have h22 : r 99 = .slice va L vc := hf.2.2.2.2.2.1
          have h13 : r 90 = .bool true := hf.2.2.2.2.2.2.1
          have hy : ydD [some 77, some 78, some 79, some 80, some 81, some 82, some 83, some 84, some 85, some 86, some 87, some 88, some 89, some 90, some 91, some 92, some 93, some 94, some 95, some 96, some 97, some 98, some 99, some 100, some 101, some 102, some 8] r 13 = some true := by show (match r 90 with | .bool b => some b | _ => none) = some true; rw [h13]
          clear hs hq hf
          refine wanted_pos (by simp only [Region.wanted, hy]; rfl) ?_
          unfold gives
          go_simp
          refine (HK2.out wx hG).mono ?_
          rintro e wy ⟨rfl, hb1⟩
          exact ⟨_, rfl, obC_q hb1 rfl⟩
        -- operation 24: Op.unOp UnOp.not 4 (tmp 100)
        refine ⟨fun r wx hG hs hq hf => ?_, ?_⟩
        · have h23 : r 100 = .bool false := hf.1
          have h13 : r 90 = .bool true := hf.2.1
          have hy : ydD [some 77, some 78, some 79, some 80, some 81, some 82, some 83, some 84, some 85, some 86, some 87, some 88, some 89, some 90, some 91, some 92, some 93, some 94, some 95, some 96, some 97, some 98, some 99, some 100, some 101, some 102, some 8] r 13 = some true := by show (match r 90 with | .bool b => some b | _ => none) = some true; rw [h13]
          clear hs hq hf
          refine wanted_pos (by simp only [Region.wanted, hy]; rfl) ?_
          unfold gives
          go_simp
          exact obC_q (Below.refl _ _) rfl
        -- operation 25: Op.pick (tmp 90) (tmp 101) (const (Value.bool false))
        refine ⟨fun r wx hG hs hq hf => ?_, ?_⟩
        · have h13 : r 90 = .bool true := hf.1
          have h24 : r 101 = .bool true := hf.2.1
          clear hs hq hf
          refine wanted_pos rfl ?_
          unfold gives
          go_simp
          exact obC_q (Below.refl _ _) rfl
        -- operation 26: Op.assign (tmp 102)
        refine ⟨fun r wx hG hs hq hf => ?_, ?_⟩
        · have h25 : r 102 = .bool true := hf.1
          clear hs hq hf
          refine wanted_pos rfl ?_
          unfold gives
          go_simp
          exact obC_q (Below.refl _ _) rfl
        exact trivial
      case hend =>
        intro u wz hG hfin
        have z26 : u 26 = .bool true := hfin 26 (by decide) (by kernel_rfl)
        clear hfin
        simp only [fill]
        have HG3 := Lib.hid hG
        clear hG
        go_simp
        go_wp2_with fail
        go_ret
        exact ⟨rfl, H9.out.2.2.2.trans (HG3.out.below H9.out.2.2.2.size (by simp))⟩
end Go.Proofs.YtjlligpdkkfmaaaDoor
