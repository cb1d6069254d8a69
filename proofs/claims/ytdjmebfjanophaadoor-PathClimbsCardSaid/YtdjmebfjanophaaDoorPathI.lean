/- The law PathClimbs: the walk. (printed by gen/pathh.py) -/
import Derived.Test.YtdjmebfjanophaaDoorPathF
import Derived.Test.YtdjmebfjanophaaDoorPathE
namespace Go.Proofs.YtdjmebfjanophaaDoor
open Go.RowKit Sha Root Ones Path

def h123 : List UInt8 := 1 :: 2 :: 3 :: zs 29
theorem h123_length : h123.length = 32 := by simp [h123, zs]
set_option maxHeartbeats 16000000 in
set_option maxRecDepth 100000 in
theorem pathClimbs_walk (W : Int) (h : List UInt8) (i n : Nat) (ps0 : List (List UInt8)) (a : Option Addr) (c : Nat) (w : World) (hW : -9223372036854775808 ≤ W ∧ W ≤ 9223372036854775807) (hh : h.length = 32) (hi : i < 18446744073709551616) (hn : n < 18446744073709551616)
    (h32a : ∀ p ∈ ps0, p.length = 32) (hl : ps0.length * 32 ≤ 140737488351232) (hr : Rd w 32 (.slice a ps0.length c) ps0.length (ps0.flatMap bv)) (hT : TabsR w) :
    Calls Tryd.prog 7 #[.int .i64 W, .agg (bv h).toArray, .int .u64 i, .int .u64 n, .slice a ps0.length c] w fun e w' => e = .returned (.bool true) ∧ Below w.heap.size w w' := by
  have hz := (zero_of_info info32).1
  have hcap : ps0.length ≤ c := by
    obtain ⟨_, _, ⟨hv, h0⟩ | ⟨ad, c', hv, hc, _⟩⟩ := hr
    · simp at hv; omega
    · simp at hv; omega
  obtain ⟨w0, hw0⟩ : ∃ x : World, x = w.alloc (.cells (bv h).toArray 33) := ⟨_, rfl⟩
  have hbox : w0.heap[w.heap.size]? = some (.cells (bv h).toArray 33 (0, 0)) := by rw [hw0]; exact heap_alloc_new _ _
  have hbw0 : Below w.heap.size w w0 := by rw [hw0]; exact (Below.refl _ _).alloc (Nat.le_refl _) _
  have haw := awake15_any w0 (hT.toTabs.keepB hbw0)
  have HW0 := Lib.hid hw0
  have H0 := Lib.hid (And.intro hbox hbw0)
  have HR := Lib.hid hr
  have HT := Lib.hid (And.intro hT h32a)
  have HN := Lib.hid (And.intro hW hh)
  clear hw0 hbox hbw0 hr hT h32a hW hh
  go_enter Tryd.func7, Tryd.ntmps7
  go_upto_region 1 with fail
  rw [show w.alloc (.cells (bv h).toArray 33) = w0 from HW0.out.symm]
  go_wp2_with fail
  refine haw.mono ?_
  rintro e w1 ⟨rfl, hb1⟩
  have hbox1 := (hb1.block _ (Array.getElem?_eq_some_iff.1 H0.out.1).1).trans H0.out.1
  have H1 := Lib.hid (And.intro hbox1 (H0.out.2.trans (hb1.mono H0.out.2.size)))
  clear hbox1 hb1 haw
  go_upto_if 19 with fail
  go_cut [4] (fun s4 wz => s4 = .slice a (min ps0.length 70) c ∧ wz = w1)
  case first =>
    by_cases hgt : 70 < ps0.length
    · have z2 : (70 : Int) < (ps0.length : Int) := by omega
      have z4 : (70 : Int) ≤ (c : Int) := by omega
      go_wp2_with fail
      go_meet
      exact ⟨by rw [show min ps0.length 70 = 70 by omega], rfl⟩
    · have z2 : ¬ (70 : Int) < (ps0.length : Int) := by omega
      go_wp2_with fail
      go_meet
      exact ⟨by rw [show min ps0.length 70 = ps0.length by omega], rfl⟩
  case rest =>
    obtain ⟨rfl, rfl⟩ := hcut
    obtain ⟨m, hm⟩ : ∃ m, m = min ps0.length 70 := ⟨_, rfl⟩
    rw [← hm]
    have hm3 : m ≤ ps0.length := by omega
    have hm4 : m ≤ 70 := by omega
    have h32 : ∀ q ∈ ps0.take m, q.length = 32 := fun q hq => HT.out.2 q (List.mem_of_mem_take hq)
    have hR : Rd wc 32 (.slice a m c) m ((ps0.take m).flatMap bv) := by
      rw [flat_take32 _ _ HT.out.2]; exact rd_take (HR.out.keep H1.out.2) m hm3
    have hlm : (ps0.take m).length = m := by rw [List.length_take]; omega
    obtain ⟨ps, hps⟩ : ∃ l, l = ps0.take m := ⟨_, rfl⟩
    rw [← hps] at hR h32 hlm
    subst hlm
    have hC := fun wx (hb : Below wc.heap.size wc wx) => Climb_any W h i n ps a c wx HN.out.1 HN.out.2 hi hn h32 (by omega) (hR.keep hb) (HT.out.1.toTabs.keepB (H1.out.2.trans (hb.mono H1.out.2.size)))
    have hRC := fun wx (hb : Below wc.heap.size wc wx) => refClimb_any W h i n ps a c wx HN.out.1 HN.out.2 hi hn h32 (by omega) (hR.keep hb) (HT.out.1.keepB (H1.out.2.trans (hb.mono H1.out.2.size)))
    have hK := fun (root : List UInt8) (hrt : root.length = 32) wx (hb : Below wc.heap.size wc wx) => Check_any W h root i n ps a c wx HN.out.1 HN.out.2 hrt hi hn h32 (by omega) (hR.keep hb) (HT.out.1.toTabs.keepB (H1.out.2.trans (hb.mono H1.out.2.size)))
    have hS := fun wx => pathSize_any i n wx hi hn
    have hRS := fun wx => refSize_any n i n wx (Nat.le_refl _) hi hn
    have hc32 := climbH_32 W h i n ps HN.out.2
    obtain ⟨out, ho⟩ : ∃ o, o = climbH W h i n ps := ⟨_, rfl⟩
    obtain ⟨E, hE⟩ : ∃ e, e = climbE i n ps.length := ⟨_, rfl⟩
    obtain ⟨S, hSe⟩ : ∃ s, s = sizeN i n := ⟨_, rfl⟩
    rw [← ho, ← hE] at hC hRC
    rw [← ho] at hc32
    rw [← hSe] at hS hRS
    simp only [← ho, ← hE] at hK
    obtain ⟨m, hm⟩ : ∃ m, m = ps.length := ⟨_, rfl⟩
    rw [← hm] at hC hRC hm4 ⊢
    simp only [← hm] at hK
    have HC := Lib.hid (And.intro hC hRC)
    have HK := Lib.hid hK
    have HS := Lib.hid (And.intro hS hRS)
    have HO := Lib.hid hc32
    have h9 := h123_length
    have HQ := Lib.hid (fun w => And.intro (eqIn_hash out out hc32 hc32 w) (eqIn_hash out h123 hc32 h9 w))
    have H9 := Lib.hid h9
    clear hC hRC hK hS hRS hc32 ho hE hSe hR h32 hps hm hm3 h9
    go_wp2_with (with_reducible show wpList _ _ _ (⟨some 24, _, _, _, _, _⟩ :: _) _ _; refine wpList_load_row rfl _ _ rfl w.heap.size rfl _ _ (0, 0) _ H1.out.1 Tryd.underlying33 rfl (hInfo _ HN.out.2) ?_)
    refine (HC.out.1 _ (Below.refl _ _)).mono ?_
    rintro e w2 ⟨rfl, hb2⟩
    have hbox2 := (hb2.block _ (Array.getElem?_eq_some_iff.1 H1.out.1).1).trans H1.out.1
    have H2 := Lib.hid (And.intro hbox2 hb2)
    have H2n := Lib.hid (heap_alloc_new w2 (.cells (bv (zs 32)).toArray 33))
    clear hbox2 hb2
    go_upto_region 6 with (with_reducible show wpList _ _ _ (⟨none, Op.store _ _ _, _, _, _, _⟩ :: _) _ _; refine wpList_store_whole rfl _ _ _ rfl w2.heap.size (bv out) rfl rfl (bv (zs 32)) _ H2n.out (hInfo' _ HO.out) (by rw [bv_length, bv_length, HO.out]; simp [zs]) (bv_one _) ?_; intro w3 HG3 hg3)
    have k3 : Below w2.heap.size w2 w3 := below_grow ((Below.refl _ _).alloc (Nat.le_refl _) _) hg3 (Nat.le_refl _) (by simp)
    obtain ⟨g11, hg11⟩ : ∃ g, g = w2.heap.size := ⟨_, rfl⟩
    have hbox3 := (k3.block _ (Array.getElem?_eq_some_iff.1 H2.out.1).1).trans H2.out.1
    have hrow3 := HG3.out
    rw [← hg11] at hrow3 ⊢
    have H3 := Lib.hid (And.intro hbox3 (And.intro (H2.out.2.trans (k3.mono H2.out.2.size)) hrow3))
    clear hbox3 hrow3 k3 hg3 HG3 hg11
    go_wp2_with (with_reducible show wpList _ _ _ (⟨some 33, _, _, _, _, _⟩ :: _) _ _; refine wpList_load_row rfl _ _ rfl w.heap.size rfl _ _ (0, 0) _ H3.out.1 Tryd.underlying33 rfl (hInfo _ HN.out.2) ?_)
    refine (HC.out.2 _ H3.out.2.1).mono ?_
    rintro e w4 ⟨rfl, hb4⟩
    have hbox4 := (hb4.block _ (Array.getElem?_eq_some_iff.1 H3.out.1).1).trans H3.out.1
    have hrow4 := (hb4.block _ (Array.getElem?_eq_some_iff.1 H3.out.2.2).1).trans H3.out.2.2
    have H4 := Lib.hid (And.intro hbox4 (And.intro (H3.out.2.1.trans (hb4.mono H3.out.2.1.size)) hrow4))
    have H4n := Lib.hid (heap_alloc_new w4 (.cells (bv (zs 32)).toArray 33))
    clear hbox4 hrow4 hb4
    go_upto_region 7 with (with_reducible show wpList _ _ _ (⟨none, Op.store _ _ _, _, _, _, _⟩ :: _) _ _; refine wpList_store_whole rfl _ _ _ rfl w4.heap.size (bv out) rfl rfl (bv (zs 32)) _ H4n.out (hInfo' _ HO.out) (by rw [bv_length, bv_length, HO.out]; simp [zs]) (bv_one _) ?_; intro w5 HG5 hg5)
    have k5 : Below w4.heap.size w4 w5 := below_grow ((Below.refl _ _).alloc (Nat.le_refl _) _) hg5 (Nat.le_refl _) (by simp)
    obtain ⟨g13, hg13⟩ : ∃ g, g = w4.heap.size := ⟨_, rfl⟩
    have hbox5 := (k5.block _ (Array.getElem?_eq_some_iff.1 H4.out.1).1).trans H4.out.1
    have hrow5 := (k5.block _ (Array.getElem?_eq_some_iff.1 H4.out.2.2).1).trans H4.out.2.2
    have hrow5b := HG5.out
    rw [← hg13] at hrow5b ⊢
    have H5 := Lib.hid (And.intro hbox5 (And.intro (H4.out.2.1.trans (k5.mono H4.out.2.1.size)) (And.intro hrow5 hrow5b)))
    clear hbox5 hrow5 hrow5b k5 hg5 HG5 hg13
    have hgd := eq_guard
    have hq1 := (HQ.out w5).1
    have hq1b : (out == out) = true := by simp
    rw [hq1b] at hq1
    go_wp2_with (first
      | (with_reducible show wpList _ _ _ (⟨some 44, _, _, _, _, _⟩ :: _) _ _; refine wpList_guard rfl ?_; refine wpList_load_row rfl _ _ rfl g11 rfl _ _ (0, 0) _ H5.out.2.2.1 Tryd.underlying33 rfl (hInfo _ HO.out) ?_)
      | (with_reducible show wpList _ _ _ (⟨some 45, _, _, _, _, _⟩ :: _) _ _; refine wpList_guard rfl ?_; refine wpList_load_row rfl _ _ rfl g13 rfl _ _ (0, 0) _ H5.out.2.2.2 Tryd.underlying33 rfl (hInfo _ HO.out) ?_))
    refine (HS.out.1 _).mono ?_
    rintro e w6 ⟨rfl, hb6⟩
    go_wp2_with fail
    refine (HS.out.2 _).mono ?_
    rintro e w7 ⟨rfl, hb7⟩
    have hb67 := hb6.trans (hb7.mono hb6.size)
    have hbox7 := (hb67.block _ (Array.getElem?_eq_some_iff.1 H5.out.1).1).trans H5.out.1
    have hrow7 := (hb67.block _ (Array.getElem?_eq_some_iff.1 H5.out.2.2.1).1).trans H5.out.2.2.1
    have H7 := Lib.hid (And.intro hbox7 (And.intro (H5.out.2.1.trans (hb67.mono H5.out.2.1.size)) hrow7))
    clear hbox7 hrow7 hb6 hb7 hb67 hq1
    go_wp2_with (first
      | (with_reducible show wpList _ _ _ (⟨some 58, _, _, _, _, _⟩ :: _) _ _; refine wpList_load_row rfl _ _ rfl w.heap.size rfl _ _ (0, 0) _ H7.out.1 Tryd.underlying33 rfl (hInfo _ HN.out.2) ?_)
      | (with_reducible show wpList _ _ _ (⟨some 62, _, _, _, _, _⟩ :: _) _ _; refine wpList_load_row rfl _ _ rfl g11 rfl _ _ (0, 0) _ H7.out.2.2 Tryd.underlying33 rfl (hInfo _ HO.out) ?_))
    refine (HK.out out HO.out _ H7.out.2.1).mono ?_
    rintro e w8 ⟨rfl, hb8⟩
    rw [hq1b, Bool.and_true]
    have hbox8 := (hb8.block _ (Array.getElem?_eq_some_iff.1 H7.out.1).1).trans H7.out.1
    have hrow8 := (hb8.block _ (Array.getElem?_eq_some_iff.1 H7.out.2.2).1).trans H7.out.2.2
    have H8 := Lib.hid (And.intro hbox8 (And.intro (H7.out.2.1.trans (hb8.mono H7.out.2.1.size)) hrow8))
    clear hbox8 hrow8 hb8
    have e123 : ((((bv (zs 32)).set 0 (.int .u8 1)).set 1 (.int .u8 2)).set 2 (.int .u8 3)).toArray = (bv h123).toArray := rfl
    cases hEb : (E == 0)
    all_goals
      go_wp2_with (first
        | (with_reducible show wpList _ _ _ (⟨some 69, _, _, _, _, _⟩ :: _) _ _; refine wpList_guard rfl ?_; refine wpList_load_row rfl _ _ rfl w.heap.size rfl _ _ (0, 0) _ H8.out.1 Tryd.underlying33 rfl (hInfo _ HN.out.2) ?_))
      refine (HK.out h123 H9.out _ H8.out.2.1).mono ?_
      rintro e w9 ⟨rfl, hb9⟩
      have hrow9 := (hb9.block _ (Array.getElem?_eq_some_iff.1 H8.out.2.2).1).trans H8.out.2.2
      have H9w := Lib.hid (And.intro hrow9 (H8.out.2.1.trans (hb9.mono H8.out.2.1.size)))
      have hq2 := (HQ.out w9).2
      clear hrow9 hb9
      rw [hEb]
      go_wp2_with (first
        | (with_reducible show wpList _ _ _ (⟨some 78, _, _, _, _, _⟩ :: _) _ _; refine wpList_guard rfl ?_; refine wpList_load_row rfl _ _ rfl g11 rfl _ _ (0, 0) _ H9w.out.1 Tryd.underlying33 rfl (hInfo _ HO.out) ?_))
      go_ret
      exact ⟨by simp, H1.out.2.trans (H9w.out.2.mono H1.out.2.size)⟩
end Go.Proofs.YtdjmebfjanophaaDoor
