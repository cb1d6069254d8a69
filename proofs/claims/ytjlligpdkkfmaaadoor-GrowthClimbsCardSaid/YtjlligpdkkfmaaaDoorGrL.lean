/- The law GrowthClimbs: the walk. (printed by gen/grl.py) -/
import Derived.Test.YtjlligpdkkfmaaaDoorGrK
import Derived.Test.YtjlligpdkkfmaaaDoorGrD
namespace Go.Proofs.YtjlligpdkkfmaaaDoor
open Go.RowKit Sha Root Path Growth

/-- What each operation hands on. -/
def gcl9P (W : Int) (m n L c _g _B : Nat) (a : Option Addr) (old root xx yy : List UInt8) (b1 b2 : Bool) : Nat → Value → Prop
  | 0, v => v = .int .i64 W
  | 1, v => v = .int .u64 m
  | 2, v => v = .int .u64 n
  | 3, v => v = .agg (bv old).toArray
  | 4, v => v = .agg (bv root).toArray
  | 5, v => v = .slice a L c
  | 6, v => v = .bool b1
  | 7, v => v = .int .i64 W
  | 8, v => v = .int .u64 m
  | 9, v => v = .int .u64 n
  | 10, v => v = .agg (bv old).toArray
  | 11, v => v = .agg (bv root).toArray
  | 12, v => v = .slice a L c
  | 13, v => v = .bool b1
  | 14, v => v = .bool true
  | 15, v => v = .bool true
  | 16, v => v = .int .i64 W
  | 17, v => v = .int .u64 m
  | 18, v => v = .int .u64 n
  | 19, v => v = .agg (bv xx).toArray
  | 20, v => v = .agg (bv yy).toArray
  | 21, v => v = .slice a L c
  | 22, v => v = .bool b2
  | 23, v => v = .int .i64 W
  | 24, v => v = .int .u64 m
  | 25, v => v = .int .u64 n
  | 26, v => v = .agg (bv xx).toArray
  | 27, v => v = .agg (bv yy).toArray
  | 28, v => v = .slice a L c
  | 29, v => v = .bool b2
  | 30, v => v = .bool true
  | 31, v => v = .bool true
  | 32, v => v = .bool true
  | _, _ => True

set_option maxHeartbeats 16000000 in
set_option maxRecDepth 100000 in
theorem growthClimbs_walk (W : Int) (m n : Nat) (old root : List UInt8) (ps0 : List (List UInt8)) (a : Option Addr) (c : Nat) (w : World) (hW : -9223372036854775808 ≤ W ∧ W ≤ 9223372036854775807) (ho : old.length = 32) (hrt : root.length = 32) (hm : m < 18446744073709551616) (hn : n < 18446744073709551616)
    (h32a : ∀ p ∈ ps0, p.length = 32) (hl : ps0.length * 32 ≤ 140737488351232) (hr : Rd w 32 (.slice a ps0.length c) ps0.length (ps0.flatMap bv)) (hT : TabsR w) (hD : TabD w) :
    Calls Tryd.prog 7 #[.int .i64 W, .int .u64 m, .int .u64 n, .agg (bv old).toArray, .agg (bv root).toArray, .slice a ps0.length c] w fun e w' => e = .returned (.bool true) ∧ Below w.heap.size w w' := by
  have hcap : ps0.length ≤ c := by
    obtain ⟨_, _, ⟨hv, h0⟩ | ⟨ad, c', hv, hc, _⟩⟩ := hr
    · simp at hv; omega
    · simp at hv; omega
  have hz := (zero_of_info info32).1
  have HZ32 := Lib.hid (show (zs 32).length = 32 by simp [zs])
  obtain ⟨w0, hw0⟩ : ∃ x : World, x = (w.alloc (.cells (bv old).toArray 35)).alloc (.cells (bv root).toArray 35) := ⟨_, rfl⟩
  have hbox : w0.heap[w.heap.size]? = some (.cells (bv old).toArray 35 (0, 0)) := by
    rw [hw0, heap_alloc_old _ _ (by simp)]; exact heap_alloc_new _ _
  have hrow : w0.heap[w.heap.size + 1]? = some (.cells (bv root).toArray 35 (0, 0)) := by
    rw [hw0]
    have := heap_alloc_new (w.alloc (.cells (bv old).toArray 35)) (.cells (bv root).toArray 35)
    simpa using this
  have hbw0 : Below w.heap.size w w0 := by rw [hw0]; exact ((Below.refl _ _).alloc (Nat.le_refl _) _).alloc (by simp) _
  have HW0 := Lib.hid hw0
  have H0 := Lib.hid (And.intro hbox (And.intro hrow hbw0))
  have HOL := Lib.hid ho
  have HRT := Lib.hid hrt
  clear hw0 hbox hrow hbw0
  have haw := awake16_any w0 (hT.toTabs.keepB H0.out.2.2) (hD.keepB H0.out.2.2)
  have HR := Lib.hid hr
  have HT := Lib.hid (And.intro hT h32a)
  have HN := Lib.hid (And.intro hW (And.intro ho hrt))
  clear hr hT hD h32a hW ho hrt HOL HRT
  go_enter Tryd.func7, Tryd.ntmps7
  go_upto_region 1 with fail
  rw [show (w.alloc (.cells (bv old).toArray 35)).alloc (.cells (bv root).toArray 35) = w0 from HW0.out.symm]
  go_wp2_with fail
  refine haw.mono ?_
  rintro e w1 ⟨rfl, hb⟩
  have H1 := Lib.hid (And.intro ((hb.block _ (Array.getElem?_eq_some_iff.1 H0.out.1).1).trans H0.out.1) (And.intro ((hb.block _ (Array.getElem?_eq_some_iff.1 H0.out.2.1).1).trans H0.out.2.1) (H0.out.2.2.trans (hb.mono H0.out.2.2.size))))
  clear hb haw
  go_upto_if 23 with fail
  go_cut [5] (fun s5 wz => s5 = .slice a (min ps0.length 80) c ∧ wz = w1)
  case first =>
    by_cases hgt : 80 < ps0.length
    · have z2 : (80 : Int) < (ps0.length : Int) := by omega
      have z4 : (80 : Int) ≤ (c : Int) := by omega
      go_wp2_with fail
      go_meet
      exact ⟨by rw [show min ps0.length 80 = 80 by omega], rfl⟩
    · have z2 : ¬ (80 : Int) < (ps0.length : Int) := by omega
      go_wp2_with fail
      go_meet
      exact ⟨by rw [show min ps0.length 80 = ps0.length by omega], rfl⟩
  case rest =>
    obtain ⟨rfl, rfl⟩ := hcut
    obtain ⟨L, hL⟩ : ∃ L, L = min ps0.length 80 := ⟨_, rfl⟩
    rw [← hL]
    have hm3 : L ≤ ps0.length := by omega
    have hm4 : L ≤ 80 := by omega
    have h32 : ∀ q ∈ ps0.take L, q.length = 32 := fun q hq => HT.out.2 q (List.mem_of_mem_take hq)
    have hR : Rd wc 32 (.slice a L c) L ((ps0.take L).flatMap bv) := by
      rw [flat_take32 _ _ HT.out.2]; exact rd_take (HR.out.keep H1.out.2.2) L hm3
    have hlm : (ps0.take L).length = L := by rw [List.length_take]; omega
    obtain ⟨ps, hps⟩ : ∃ l, l = ps0.take L := ⟨_, rfl⟩
    rw [← hps] at hR h32 hlm
    clear hL
    subst hlm
    have hC := fun wx (hb : Below wc.heap.size wc wx) => gClimb_any W m n old ps a c wx HN.out.1 HN.out.2.1 hm hn h32 (by omega) (hR.keep hb) (HT.out.1.toTabs.keepB (H1.out.2.2.trans (hb.mono H1.out.2.2.size)))
    have hRC := fun wx (hb : Below wc.heap.size wc wx) => refGClimb_any W m n old ps a c wx HN.out.1 HN.out.2.1 hm hn h32 (by omega) (hR.keep hb) (HT.out.1.keepB (H1.out.2.2.trans (hb.mono H1.out.2.2.size)))
    have hK := fun (o r : List UInt8) (ho : o.length = 32) (hr : r.length = 32) wx (hb : Below wc.heap.size wc wx) => gCheck_any W m n o r ps a c wx HN.out.1 ho hr hm hn h32 (by omega) (hR.keep hb) (HT.out.1.toTabs.keepB (H1.out.2.2.trans (hb.mono H1.out.2.2.size)))
    have hRK := fun (o r : List UInt8) (ho : o.length = 32) (hr : r.length = 32) wx (hb : Below wc.heap.size wc wx) => refGCheck_any W m n o r ps a c wx HN.out.1 ho hr hm hn h32 (by omega) (hR.keep hb) (HT.out.1.keepB (H1.out.2.2.trans (hb.mono H1.out.2.2.size)))
    have hS := fun wx => gSize_any m n wx hm hn
    have hRS := fun wx => refGSize_any m n wx hm hn
    have hg32 := gS_32 W m n old ps HN.out.2.1 h32
    obtain ⟨xx, hx⟩ : ∃ o, o = (gS W m n old ps).1 := ⟨_, rfl⟩
    obtain ⟨yy, hy⟩ : ∃ o, o = (gS W m n old ps).2 := ⟨_, rfl⟩
    rw [← hx, ← hy] at hg32
    have hK1 := hK old root HN.out.2.1 HN.out.2.2
    have hK2 := hRK old root HN.out.2.1 HN.out.2.2
    have hK3 := hK xx yy hg32.1 hg32.2
    have hK4 := hRK xx yy hg32.1 hg32.2
    obtain ⟨b1, hb1e⟩ : ∃ b, b = gB W m n old root ps := ⟨_, rfl⟩
    obtain ⟨b2, hb2e⟩ : ∃ b, b = gB W m n xx yy ps := ⟨_, rfl⟩
    obtain ⟨E, hE⟩ : ∃ e, e = gE m n ps.length := ⟨_, rfl⟩
    obtain ⟨S, hSe⟩ : ∃ s, s = (if m = 0 ∨ n < m then 0 else szG m n true : Nat) := ⟨_, rfl⟩
    obtain ⟨L, hL⟩ : ∃ L, L = ps.length := ⟨_, rfl⟩
    rw [← hE, ← hx, ← hy, ← hL] at hC hRC
    rw [← hSe] at hS hRS
    rw [← hb1e, ← hL] at hK1 hK2
    rw [← hb2e, ← hL] at hK3 hK4
    rw [← hL]
    have HC := Lib.hid (And.intro hC hRC)
    have HKK := Lib.hid (And.intro hK1 (And.intro hK2 (And.intro hK3 hK4)))
    have HS := Lib.hid (And.intro hS hRS)
    have HX := Lib.hid hg32
    have HZ32 := Lib.hid (show (zs 32).length = 32 by simp [zs])
    clear hC hRC hK hRK hK1 hK2 hK3 hK4 hS hRS hg32 hx hy hE hSe hR h32 hps hL hb1e hb2e hm3 hm4
    go_wp2_with (with_reducible show wpList _ _ _ (⟨some 30, _, _, _, _, _⟩ :: _) _ _; refine wpList_load_row rfl _ _ rfl w.heap.size rfl _ _ (0, 0) _ H1.out.1 Tryd.underlying35 rfl (hInfo _ HN.out.2.1) ?_)
    refine (HC.out.1 _ (Below.refl _ _)).mono ?_
    rintro e w2 ⟨rfl, hb⟩
    have H2 := Lib.hid (And.intro ((hb.block _ (Array.getElem?_eq_some_iff.1 H1.out.1).1).trans H1.out.1) (And.intro ((hb.block _ (Array.getElem?_eq_some_iff.1 H1.out.2.1).1).trans H1.out.2.1) (H1.out.2.2.trans (hb.mono H1.out.2.2.size))))
    have HB2 := Lib.hid hb
    have hlt2 : w.heap.size + 1 < w2.heap.size := (Array.getElem?_eq_some_iff.1 H2.out.2.1).1
    clear hb
    have Ha := Lib.hid (show ((w2.alloc (.cells (bv (zs 32)).toArray 35)).alloc (.cells (bv (zs 32)).toArray 35)).heap[w2.heap.size]? = some (.cells (bv (zs 32)).toArray 35 (0, 0)) from by rw [heap_alloc_old _ _ (by simp)]; exact heap_alloc_new _ _)
    have Hb := Lib.hid (show ((w2.alloc (.cells (bv (zs 32)).toArray 35)).alloc (.cells (bv (zs 32)).toArray 35)).heap[w2.heap.size + 1]? = some (.cells (bv (zs 32)).toArray 35 (0, 0)) from by
      have := heap_alloc_new (w2.alloc (.cells (bv (zs 32)).toArray 35)) (.cells (bv (zs 32)).toArray 35)
      simpa using this)
    go_upto_region 6 with (first
      | (with_reducible show wpList _ _ _ (⟨none, Op.store _ _ _, _, _, _, _⟩ :: _) _ _; refine wpList_store_whole rfl _ _ _ rfl w2.heap.size (bv xx) rfl rfl (bv (zs 32)) _ Ha.out (hInfo' _ HX.out.1) (by rw [bv_length, bv_length, HX.out.1, HZ32.out]) (bv_one _) ?_; intro w3 HGa hga)
      | (with_reducible show wpList _ _ _ (⟨none, Op.store _ _ _, _, _, _, _⟩ :: _) _ _; refine wpList_store_whole rfl _ _ _ rfl (w2.heap.size + 1) (bv yy) rfl rfl (bv (zs 32)) _ ((hga.block (w2.heap.size + 1) (Array.getElem?_eq_some_iff.1 Hb.out).1 (by simp)).trans Hb.out) (hInfo' _ HX.out.2) (by rw [bv_length, bv_length, HX.out.2, HZ32.out]) (bv_one _) ?_; intro w4 HGb hgb))
    have k3 : Below w2.heap.size w2 w3 := below_grow (((Below.refl _ _).alloc (Nat.le_refl _) _).alloc (by simp) _) hga (Nat.le_refl _) (by simp; omega)
    have k5 : Below w2.heap.size w2 w4 := below_grow k3 hgb (by omega) (Nat.lt_of_lt_of_le (Array.getElem?_eq_some_iff.1 Hb.out).1 hga.size)
    have hra := (hgb.block w2.heap.size (Array.getElem?_eq_some_iff.1 HGa.out).1 (by simp)).trans HGa.out
    have hrb := HGb.out
    have H4 := Lib.hid (And.intro ((k5.block _ (Array.getElem?_eq_some_iff.1 H2.out.1).1).trans H2.out.1) (And.intro ((k5.block _ (Array.getElem?_eq_some_iff.1 H2.out.2.1).1).trans H2.out.2.1) (H2.out.2.2.trans (k5.mono H2.out.2.2.size))))
    have HB4 := Lib.hid (HB2.out.trans (k5.mono HB2.out.size))
    have H4x := Lib.hid (And.intro hra hrb)
    have hlt4 : w2.heap.size + 1 < w4.heap.size := (Array.getElem?_eq_some_iff.1 hrb).1
    clear hra hrb k3 k5 HGa HGb hga hgb Ha Hb
    go_wp2_with (with_reducible show wpList _ _ _ (⟨some 40, _, _, _, _, _⟩ :: _) _ _; refine wpList_load_row rfl _ _ rfl w.heap.size rfl _ _ (0, 0) _ H4.out.1 Tryd.underlying35 rfl (hInfo _ HN.out.2.1) ?_)
    refine (HC.out.2 _ HB4.out).mono ?_
    rintro e w5 ⟨rfl, hb⟩
    have H5 := Lib.hid (And.intro ((hb.block _ (Array.getElem?_eq_some_iff.1 H4.out.1).1).trans H4.out.1) (And.intro ((hb.block _ (Array.getElem?_eq_some_iff.1 H4.out.2.1).1).trans H4.out.2.1) (H4.out.2.2.trans (hb.mono H4.out.2.2.size))))
    have H5x := Lib.hid (And.intro ((hb.block _ (Array.getElem?_eq_some_iff.1 H4x.out.1).1).trans H4x.out.1) ((hb.block _ (Array.getElem?_eq_some_iff.1 H4x.out.2).1).trans H4x.out.2))
    have HB5 := Lib.hid (HB4.out.trans (hb.mono HB4.out.size))
    have hlt5 : w2.heap.size + 1 < w5.heap.size := Nat.lt_of_lt_of_le hlt4 hb.size
    clear hb
    have Ha := Lib.hid (show ((w5.alloc (.cells (bv (zs 32)).toArray 35)).alloc (.cells (bv (zs 32)).toArray 35)).heap[w5.heap.size]? = some (.cells (bv (zs 32)).toArray 35 (0, 0)) from by rw [heap_alloc_old _ _ (by simp)]; exact heap_alloc_new _ _)
    have Hb := Lib.hid (show ((w5.alloc (.cells (bv (zs 32)).toArray 35)).alloc (.cells (bv (zs 32)).toArray 35)).heap[w5.heap.size + 1]? = some (.cells (bv (zs 32)).toArray 35 (0, 0)) from by
      have := heap_alloc_new (w5.alloc (.cells (bv (zs 32)).toArray 35)) (.cells (bv (zs 32)).toArray 35)
      simpa using this)
    go_upto_region 7 with (first
      | (with_reducible show wpList _ _ _ (⟨none, Op.store _ _ _, _, _, _, _⟩ :: _) _ _; refine wpList_store_whole rfl _ _ _ rfl w5.heap.size (bv xx) rfl rfl (bv (zs 32)) _ Ha.out (hInfo' _ HX.out.1) (by rw [bv_length, bv_length, HX.out.1, HZ32.out]) (bv_one _) ?_; intro w6 HGa hga)
      | (with_reducible show wpList _ _ _ (⟨none, Op.store _ _ _, _, _, _, _⟩ :: _) _ _; refine wpList_store_whole rfl _ _ _ rfl (w5.heap.size + 1) (bv yy) rfl rfl (bv (zs 32)) _ ((hga.block (w5.heap.size + 1) (Array.getElem?_eq_some_iff.1 Hb.out).1 (by simp)).trans Hb.out) (hInfo' _ HX.out.2) (by rw [bv_length, bv_length, HX.out.2, HZ32.out]) (bv_one _) ?_; intro w7 HGb hgb))
    have k3 : Below w5.heap.size w5 w6 := below_grow (((Below.refl _ _).alloc (Nat.le_refl _) _).alloc (by simp) _) hga (Nat.le_refl _) (by simp; omega)
    have k5 : Below w5.heap.size w5 w7 := below_grow k3 hgb (by omega) (Nat.lt_of_lt_of_le (Array.getElem?_eq_some_iff.1 Hb.out).1 hga.size)
    have hra := (hgb.block w5.heap.size (Array.getElem?_eq_some_iff.1 HGa.out).1 (by simp)).trans HGa.out
    have hrb := HGb.out
    have H7 := Lib.hid (And.intro ((k5.block _ (Array.getElem?_eq_some_iff.1 H5.out.1).1).trans H5.out.1) (And.intro ((k5.block _ (Array.getElem?_eq_some_iff.1 H5.out.2.1).1).trans H5.out.2.1) (H5.out.2.2.trans (k5.mono H5.out.2.2.size))))
    have HB7 := Lib.hid (HB5.out.trans (k5.mono HB5.out.size))
    have H7x := Lib.hid (And.intro ((k5.block _ (Array.getElem?_eq_some_iff.1 H5x.out.1).1).trans H5x.out.1) (And.intro ((k5.block _ (Array.getElem?_eq_some_iff.1 H5x.out.2).1).trans H5x.out.2) (And.intro hra hrb)))
    clear hra hrb k3 k5 HGa HGb hga hgb Ha Hb
    have hgd := eq_guard
    have hqe := eqIn_hash xx xx HX.out.1 HX.out.1 w7
    have hqf := eqIn_hash yy yy HX.out.2 HX.out.2 w7
    rw [show (xx == xx) = true by simp] at hqe
    rw [show (yy == yy) = true by simp] at hqf
    go_wp2_with (first
      | (with_reducible show wpList _ _ _ (⟨some 46, _, _, _, _, _⟩ :: _) _ _; refine wpList_load_row rfl _ _ rfl w2.heap.size rfl _ _ (0, 0) _ H7x.out.1 Tryd.underlying35 rfl (hInfo _ HX.out.1) ?_)
      | (with_reducible show wpList _ _ _ (⟨some 47, _, _, _, _, _⟩ :: _) _ _; refine wpList_load_row rfl _ _ rfl w5.heap.size rfl _ _ (0, 0) _ H7x.out.2.2.1 Tryd.underlying35 rfl (hInfo _ HX.out.1) ?_)
      | (with_reducible show wpList _ _ _ (⟨some 50, _, _, _, _, _⟩ :: _) _ _; refine wpList_guard rfl ?_; refine wpList_load_row rfl _ _ rfl (w2.heap.size + 1) rfl _ _ (0, 0) _ H7x.out.2.1 Tryd.underlying35 rfl (hInfo _ HX.out.2) ?_)
      | (with_reducible show wpList _ _ _ (⟨some 51, _, _, _, _, _⟩ :: _) _ _; refine wpList_guard rfl ?_; refine wpList_load_row rfl _ _ rfl (w5.heap.size + 1) rfl _ _ (0, 0) _ H7x.out.2.2.2 Tryd.underlying35 rfl (hInfo _ HX.out.2) ?_))
    refine (HS.out.1 _).mono ?_
    rintro e wq ⟨rfl, hb⟩
    have HQ := Lib.hid (And.intro ((hb.block _ (Array.getElem?_eq_some_iff.1 H7.out.1).1).trans H7.out.1) (And.intro ((hb.block _ (Array.getElem?_eq_some_iff.1 H7.out.2.1).1).trans H7.out.2.1) (And.intro ((hb.block _ (Array.getElem?_eq_some_iff.1 H7x.out.1).1).trans H7x.out.1) (And.intro ((hb.block _ (Array.getElem?_eq_some_iff.1 H7x.out.2.1).1).trans H7x.out.2.1) (H7.out.2.2.trans (hb.mono H7.out.2.2.size))))))
    have HBq := Lib.hid (HB7.out.trans (hb.mono HB7.out.size))
    clear hb hqe hqf
    go_wp2_with fail
    refine (HS.out.2 _).mono ?_
    rintro e w8 ⟨rfl, hb⟩
    have H8 := Lib.hid (And.intro ((hb.block _ (Array.getElem?_eq_some_iff.1 HQ.out.1).1).trans HQ.out.1) (And.intro ((hb.block _ (Array.getElem?_eq_some_iff.1 HQ.out.2.1).1).trans HQ.out.2.1) (And.intro ((hb.block _ (Array.getElem?_eq_some_iff.1 HQ.out.2.2.1).1).trans HQ.out.2.2.1) (And.intro ((hb.block _ (Array.getElem?_eq_some_iff.1 HQ.out.2.2.2.1).1).trans HQ.out.2.2.2.1) (HQ.out.2.2.2.2.trans (hb.mono HQ.out.2.2.2.2.size))))))
    have HB8 := Lib.hid (HBq.out.trans (hb.mono HBq.out.size))
    clear hb
    have HK1 := Lib.hid (fun wx (hb : KeptT [] w8 wx) => HKK.out.1 wx (HB8.out.trans (hb.below HB8.out.size (by simp))))
    have HK2 := Lib.hid (fun wx (hb : KeptT [] w8 wx) => HKK.out.2.1 wx (HB8.out.trans (hb.below HB8.out.size (by simp))))
    have HK3 := Lib.hid (fun wx (hb : KeptT [] w8 wx) => HKK.out.2.2.1 wx (HB8.out.trans (hb.below HB8.out.size (by simp))))
    have HK4 := Lib.hid (fun wx (hb : KeptT [] w8 wx) => HKK.out.2.2.2 wx (HB8.out.trans (hb.below HB8.out.size (by simp))))
    go_upto_region 9 with fail
    refine wp_region_desc [some 68, some 69, some 70, some 71, some 72, some 73, some 74, some 75, some 76, some 77, some 78, some 79, some 80, some 81, some 82, some 83, some 84, some 85, some 86, some 87, some 88, some 89, some 90, some 91, some 92, some 93, some 94, some 95, some 96, some 97, some 98, some 99, some 12] [] [] [(0, 0), (0, 0), (0, 0), (0, 0), (0, 0), (0, 0), (0, 0), (0, 0), (0, 0), (0, 0), (0, 0), (0, 0), (0, 0), (0, 0), (0, 0), (0, 0), (0, 0), (0, 0), (0, 0), (0, 0), (0, 0), (0, 0), (0, 0), (0, 0), (0, 0), (0, 0), (0, 0), (0, 0), (0, 0), (0, 0), (0, 0), (0, 0), (0, 0)] [] [] [] [] (gcl9P W m n L c w2.heap.size w.heap.size a old root xx yy b1 b2) (fun _ _ _ => True) (fun _ => default) (by kernel_rfl) (by kernel_rfl) rfl (by kernel_rfl) (by kernel_rfl) (by kernel_rfl) rfl trivial (by simp; try omega) rfl (fun i hi => (no4 (by kernel_rfl) i hi).elim) ?hstep ?hend
    case hstep =>
      -- operation 0: Op.move (tmp 0)
      refine ⟨fun r wx hG hs hq hf => ?_, ?_⟩
      · have e0 : r 0 = .int .i64 W := hs 0 rfl
        clear hs hq hf
        refine wanted_pos rfl ?_
        unfold gives
        go_simp
        exact obC_q (Below.refl _ _) rfl
      -- operation 1: Op.move (tmp 1)
      refine ⟨fun r wx hG hs hq hf => ?_, ?_⟩
      · have e1 : r 1 = .int .u64 m := hs 1 rfl
        clear hs hq hf
        refine wanted_pos rfl ?_
        unfold gives
        go_simp
        exact obC_q (Below.refl _ _) rfl
      -- operation 2: Op.move (tmp 2)
      refine ⟨fun r wx hG hs hq hf => ?_, ?_⟩
      · have e2 : r 2 = .int .u64 n := hs 2 rfl
        clear hs hq hf
        refine wanted_pos rfl ?_
        unfold gives
        go_simp
        exact obC_q (Below.refl _ _) rfl
      -- operation 3: Op.load 35 (tmp 9)
      refine ⟨fun r wx hG hs hq hf => ?_, ?_⟩
      · have e9 : r 9 = .pointer (some ⟨w.heap.size, 0, none⟩) := hs 9 rfl
        clear hs hq hf
        refine wanted_pos rfl ?_
        unfold gives
        refine gives_load_row 35 _ rfl w.heap.size e9 35 _ (0, 0) _ (hG.row (by simp; try omega) H8.out.1) Tryd.underlying35 rfl (hInfo _ HN.out.2.1) ?_
        exact obC_q (Below.refl _ _) rfl
      -- operation 4: Op.load 35 (tmp 10)
      refine ⟨fun r wx hG hs hq hf => ?_, ?_⟩
      · have e10 : r 10 = .pointer (some ⟨w.heap.size + 1, 0, none⟩) := hs 10 rfl
        clear hs hq hf
        refine wanted_pos rfl ?_
        unfold gives
        refine gives_load_row 35 _ rfl (w.heap.size + 1) e10 35 _ (0, 0) _ (hG.row (by simp; try omega) H8.out.2.1) Tryd.underlying35 rfl (hInfo _ HN.out.2.2) ?_
        exact obC_q (Below.refl _ _) rfl
      -- operation 5: Op.move (tmp 5)
      refine ⟨fun r wx hG hs hq hf => ?_, ?_⟩
      · have e5 : r 5 = .slice a L c := hs 5 rfl
        clear hs hq hf
        refine wanted_pos rfl ?_
        unfold gives
        go_simp
        exact obC_q (Below.refl _ _) rfl
      -- operation 6: Op.call ( callee := Callee.value (func 37), args := #[tmp 68, tmp 69, tmp 70, tmp 71, tmp 72, tmp 73
      refine ⟨fun r wx hG hs hq hf => ?_, ?_⟩
      · have h0 : r 68 = .int .i64 W := hf.1
        have h1 : r 69 = .int .u64 m := hf.2.1
        have h2 : r 70 = .int .u64 n := hf.2.2.1
        have h3 : r 71 = .agg (bv old).toArray := hf.2.2.2.1
        have h4 : r 72 = .agg (bv root).toArray := hf.2.2.2.2.1
        have h5 : r 73 = .slice a L c := hf.2.2.2.2.2.1
        clear hs hq hf
        refine wanted_pos rfl ?_
        unfold gives
        go_simp
        refine (HK1.out wx hG).mono ?_
        rintro e wy ⟨rfl, hb1⟩
        exact ⟨_, rfl, obC_q hb1 rfl⟩
      -- operation 7: Op.move (tmp 0)
      refine ⟨fun r wx hG hs hq hf => ?_, ?_⟩
      · have e0 : r 0 = .int .i64 W := hs 0 rfl
        clear hs hq hf
        refine wanted_pos rfl ?_
        unfold gives
        go_simp
        exact obC_q (Below.refl _ _) rfl
      -- operation 8: Op.move (tmp 1)
      refine ⟨fun r wx hG hs hq hf => ?_, ?_⟩
      · have e1 : r 1 = .int .u64 m := hs 1 rfl
        clear hs hq hf
        refine wanted_pos rfl ?_
        unfold gives
        go_simp
        exact obC_q (Below.refl _ _) rfl
      -- operation 9: Op.move (tmp 2)
      refine ⟨fun r wx hG hs hq hf => ?_, ?_⟩
      · have e2 : r 2 = .int .u64 n := hs 2 rfl
        clear hs hq hf
        refine wanted_pos rfl ?_
        unfold gives
        go_simp
        exact obC_q (Below.refl _ _) rfl
      -- operation 10: Op.load 35 (tmp 9)
      refine ⟨fun r wx hG hs hq hf => ?_, ?_⟩
      · have e9 : r 9 = .pointer (some ⟨w.heap.size, 0, none⟩) := hs 9 rfl
        clear hs hq hf
        refine wanted_pos rfl ?_
        unfold gives
        refine gives_load_row 35 _ rfl w.heap.size e9 35 _ (0, 0) _ (hG.row (by simp; try omega) H8.out.1) Tryd.underlying35 rfl (hInfo _ HN.out.2.1) ?_
        exact obC_q (Below.refl _ _) rfl
      -- operation 11: Op.load 35 (tmp 10)
      refine ⟨fun r wx hG hs hq hf => ?_, ?_⟩
      · have e10 : r 10 = .pointer (some ⟨w.heap.size + 1, 0, none⟩) := hs 10 rfl
        clear hs hq hf
        refine wanted_pos rfl ?_
        unfold gives
        refine gives_load_row 35 _ rfl (w.heap.size + 1) e10 35 _ (0, 0) _ (hG.row (by simp; try omega) H8.out.2.1) Tryd.underlying35 rfl (hInfo _ HN.out.2.2) ?_
        exact obC_q (Below.refl _ _) rfl
      -- operation 12: Op.move (tmp 5)
      refine ⟨fun r wx hG hs hq hf => ?_, ?_⟩
      · have e5 : r 5 = .slice a L c := hs 5 rfl
        clear hs hq hf
        refine wanted_pos rfl ?_
        unfold gives
        go_simp
        exact obC_q (Below.refl _ _) rfl
      -- operation 13: Op.call ( callee := Callee.value (func 38), args := #[tmp 75, tmp 76, tmp 77, tmp 78, tmp 79, tmp 80
      refine ⟨fun r wx hG hs hq hf => ?_, ?_⟩
      · have h7 : r 75 = .int .i64 W := hf.1
        have h8 : r 76 = .int .u64 m := hf.2.1
        have h9 : r 77 = .int .u64 n := hf.2.2.1
        have h10 : r 78 = .agg (bv old).toArray := hf.2.2.2.1
        have h11 : r 79 = .agg (bv root).toArray := hf.2.2.2.2.1
        have h12 : r 80 = .slice a L c := hf.2.2.2.2.2.1
        clear hs hq hf
        refine wanted_pos rfl ?_
        unfold gives
        go_simp
        refine (HK2.out wx hG).mono ?_
        rintro e wy ⟨rfl, hb1⟩
        exact ⟨_, rfl, obC_q hb1 rfl⟩
      -- operation 14: Op.binOp BinOp.eql 4 (tmp 74) (tmp 81) 4
      refine ⟨fun r wx hG hs hq hf => ?_, ?_⟩
      · have h6 : r 74 = .bool b1 := hf.1
        have h13 : r 81 = .bool b1 := hf.2.1
        clear hs hq hf
        refine wanted_pos rfl ?_
        unfold gives
        go_simp
        exact obC_q (Below.refl _ _) rfl
      -- operation 15: Op.move (tmp 82)
      refine ⟨fun r wx hG hs hq hf => ?_, ?_⟩
      · have h14 : r 82 = .bool true := hf.1
        clear hs hq hf
        refine wanted_pos rfl ?_
        unfold gives
        go_simp
        exact obC_q (Below.refl _ _) rfl
      -- operation 16: Op.move (tmp 0)
      refine ⟨fun r wx hG hs hq hf => ?_, ?_⟩
      · have e0 : r 0 = .int .i64 W := hs 0 rfl
        have h15 : r 83 = .bool true := hf.1
        have hy : ydD [some 68, some 69, some 70, some 71, some 72, some 73, some 74, some 75, some 76, some 77, some 78, some 79, some 80, some 81, some 82, some 83, some 84, some 85, some 86, some 87, some 88, some 89, some 90, some 91, some 92, some 93, some 94, some 95, some 96, some 97, some 98, some 99, some 12] r 15 = some true := by show (match r 83 with | .bool b => some b | _ => none) = some true; rw [h15]
        clear hs hq hf
        refine wanted_pos (by simp only [Region.wanted, hy]; rfl) ?_
        unfold gives
        go_simp
        exact obC_q (Below.refl _ _) rfl
      -- operation 17: Op.move (tmp 1)
      refine ⟨fun r wx hG hs hq hf => ?_, ?_⟩
      · have e1 : r 1 = .int .u64 m := hs 1 rfl
        have h15 : r 83 = .bool true := hf.1
        have hy : ydD [some 68, some 69, some 70, some 71, some 72, some 73, some 74, some 75, some 76, some 77, some 78, some 79, some 80, some 81, some 82, some 83, some 84, some 85, some 86, some 87, some 88, some 89, some 90, some 91, some 92, some 93, some 94, some 95, some 96, some 97, some 98, some 99, some 12] r 15 = some true := by show (match r 83 with | .bool b => some b | _ => none) = some true; rw [h15]
        clear hs hq hf
        refine wanted_pos (by simp only [Region.wanted, hy]; rfl) ?_
        unfold gives
        go_simp
        exact obC_q (Below.refl _ _) rfl
      -- operation 18: Op.move (tmp 2)
      refine ⟨fun r wx hG hs hq hf => ?_, ?_⟩
      · have e2 : r 2 = .int .u64 n := hs 2 rfl
        have h15 : r 83 = .bool true := hf.1
        have hy : ydD [some 68, some 69, some 70, some 71, some 72, some 73, some 74, some 75, some 76, some 77, some 78, some 79, some 80, some 81, some 82, some 83, some 84, some 85, some 86, some 87, some 88, some 89, some 90, some 91, some 92, some 93, some 94, some 95, some 96, some 97, some 98, some 99, some 12] r 15 = some true := by show (match r 83 with | .bool b => some b | _ => none) = some true; rw [h15]
        clear hs hq hf
        refine wanted_pos (by simp only [Region.wanted, hy]; rfl) ?_
        unfold gives
        go_simp
        exact obC_q (Below.refl _ _) rfl
      -- operation 19: Op.load 35 (tmp 13)
      refine ⟨fun r wx hG hs hq hf => ?_, ?_⟩
      · have e13 : r 13 = .pointer (some ⟨w2.heap.size, 0, none⟩) := hs 13 rfl
        have h15 : r 83 = .bool true := hf.1
        have hy : ydD [some 68, some 69, some 70, some 71, some 72, some 73, some 74, some 75, some 76, some 77, some 78, some 79, some 80, some 81, some 82, some 83, some 84, some 85, some 86, some 87, some 88, some 89, some 90, some 91, some 92, some 93, some 94, some 95, some 96, some 97, some 98, some 99, some 12] r 15 = some true := by show (match r 83 with | .bool b => some b | _ => none) = some true; rw [h15]
        clear hs hq hf
        refine wanted_pos (by simp only [Region.wanted, hy]; rfl) ?_
        unfold gives
        refine gives_load_row 35 _ rfl w2.heap.size e13 35 _ (0, 0) _ (hG.row (by simp; try omega) H8.out.2.2.1) Tryd.underlying35 rfl (hInfo _ HX.out.1) ?_
        exact obC_q (Below.refl _ _) rfl
      -- operation 20: Op.load 35 (tmp 14)
      refine ⟨fun r wx hG hs hq hf => ?_, ?_⟩
      · have e14 : r 14 = .pointer (some ⟨w2.heap.size + 1, 0, none⟩) := hs 14 rfl
        have h15 : r 83 = .bool true := hf.1
        have hy : ydD [some 68, some 69, some 70, some 71, some 72, some 73, some 74, some 75, some 76, some 77, some 78, some 79, some 80, some 81, some 82, some 83, some 84, some 85, some 86, some 87, some 88, some 89, some 90, some 91, some 92, some 93, some 94, some 95, some 96, some 97, some 98, some 99, some 12] r 15 = some true := by show (match r 83 with | .bool b => some b | _ => none) = some true; rw [h15]
        clear hs hq hf
        refine wanted_pos (by simp only [Region.wanted, hy]; rfl) ?_
        unfold gives
        refine gives_load_row 35 _ rfl (w2.heap.size + 1) e14 35 _ (0, 0) _ (hG.row (by simp; try omega) H8.out.2.2.2.1) Tryd.underlying35 rfl (hInfo _ HX.out.2) ?_
        exact obC_q (Below.refl _ _) rfl
      -- operation 21: Op.move (tmp 5)
      refine ⟨fun r wx hG hs hq hf => ?_, ?_⟩
      · have e5 : r 5 = .slice a L c := hs 5 rfl
        have h15 : r 83 = .bool true := hf.1
        have hy : ydD [some 68, some 69, some 70, some 71, some 72, some 73, some 74, some 75, some 76, some 77, some 78, some 79, some 80, some 81, some 82, some 83, some 84, some 85, some 86, some 87, some 88, some 89, some 90, some 91, some 92, some 93, some 94, some 95, some 96, some 97, some 98, some 99, some 12] r 15 = some true := by show (match r 83 with | .bool b => some b | _ => none) = some true; rw [h15]
        clear hs hq hf
        refine wanted_pos (by simp only [Region.wanted, hy]; rfl) ?_
        unfold gives
        go_simp
        exact obC_q (Below.refl _ _) rfl
      -- operation 22: Op.call ( callee := Callee.value (func 37), args := #[tmp 84, tmp 85, tmp 86, tmp 87, tmp 88, tmp 89
      refine ⟨fun r wx hG hs hq hf => ?_, ?_⟩
      · have h16 : r 84 = .int .i64 W := hf.1
        have h17 : r 85 = .int .u64 m := hf.2.1
        have h18 : r 86 = .int .u64 n := hf.2.2.1
        have h19 : r 87 = .agg (bv xx).toArray := hf.2.2.2.1
        have h20 : r 88 = .agg (bv yy).toArray := hf.2.2.2.2.1
        have h21 : r 89 = .slice a L c := hf.2.2.2.2.2.1
        have h15 : r 83 = .bool true := hf.2.2.2.2.2.2.1
        have hy : ydD [some 68, some 69, some 70, some 71, some 72, some 73, some 74, some 75, some 76, some 77, some 78, some 79, some 80, some 81, some 82, some 83, some 84, some 85, some 86, some 87, some 88, some 89, some 90, some 91, some 92, some 93, some 94, some 95, some 96, some 97, some 98, some 99, some 12] r 15 = some true := by show (match r 83 with | .bool b => some b | _ => none) = some true; rw [h15]
        clear hs hq hf
        refine wanted_pos (by simp only [Region.wanted, hy]; rfl) ?_
        unfold gives
        go_simp
        refine (HK3.out wx hG).mono ?_
        rintro e wy ⟨rfl, hb1⟩
        exact ⟨_, rfl, obC_q hb1 rfl⟩
      -- operation 23: Op.move (tmp 0)
      refine ⟨fun r wx hG hs hq hf => ?_, ?_⟩
      · have e0 : r 0 = .int .i64 W := hs 0 rfl
        have h15 : r 83 = .bool true := hf.1
        have hy : ydD [some 68, some 69, some 70, some 71, some 72, some 73, some 74, some 75, some 76, some 77, some 78, some 79, some 80, some 81, some 82, some 83, some 84, some 85, some 86, some 87, some 88, some 89, some 90, some 91, some 92, some 93, some 94, some 95, some 96, some 97, some 98, some 99, some 12] r 15 = some true := by show (match r 83 with | .bool b => some b | _ => none) = some true; rw [h15]
        clear hs hq hf
        refine wanted_pos (by simp only [Region.wanted, hy]; rfl) ?_
        unfold gives
        go_simp
        exact obC_q (Below.refl _ _) rfl
      -- operation 24: Op.move (tmp 1)
      refine ⟨fun r wx hG hs hq hf => ?_, ?_⟩
      · have e1 : r 1 = .int .u64 m := hs 1 rfl
        have h15 : r 83 = .bool true := hf.1
        have hy : ydD [some 68, some 69, some 70, some 71, some 72, some 73, some 74, some 75, some 76, some 77, some 78, some 79, some 80, some 81, some 82, some 83, some 84, some 85, some 86, some 87, some 88, some 89, some 90, some 91, some 92, some 93, some 94, some 95, some 96, some 97, some 98, some 99, some 12] r 15 = some true := by show (match r 83 with | .bool b => some b | _ => none) = some true; rw [h15]
        clear hs hq hf
        refine wanted_pos (by simp only [Region.wanted, hy]; rfl) ?_
        unfold gives
        go_simp
        exact obC_q (Below.refl _ _) rfl
      -- operation 25: Op.move (tmp 2)
      refine ⟨fun r wx hG hs hq hf => ?_, ?_⟩
      · have e2 : r 2 = .int .u64 n := hs 2 rfl
        have h15 : r 83 = .bool true := hf.1
        have hy : ydD [some 68, some 69, some 70, some 71, some 72, some 73, some 74, some 75, some 76, some 77, some 78, some 79, some 80, some 81, some 82, some 83, some 84, some 85, some 86, some 87, some 88, some 89, some 90, some 91, some 92, some 93, some 94, some 95, some 96, some 97, some 98, some 99, some 12] r 15 = some true := by show (match r 83 with | .bool b => some b | _ => none) = some true; rw [h15]
        clear hs hq hf
        refine wanted_pos (by simp only [Region.wanted, hy]; rfl) ?_
        unfold gives
        go_simp
        exact obC_q (Below.refl _ _) rfl
      -- operation 26: Op.load 35 (tmp 13)
      refine ⟨fun r wx hG hs hq hf => ?_, ?_⟩
      · have e13 : r 13 = .pointer (some ⟨w2.heap.size, 0, none⟩) := hs 13 rfl
        have h15 : r 83 = .bool true := hf.1
        have hy : ydD [some 68, some 69, some 70, some 71, some 72, some 73, some 74, some 75, some 76, some 77, some 78, some 79, some 80, some 81, some 82, some 83, some 84, some 85, some 86, some 87, some 88, some 89, some 90, some 91, some 92, some 93, some 94, some 95, some 96, some 97, some 98, some 99, some 12] r 15 = some true := by show (match r 83 with | .bool b => some b | _ => none) = some true; rw [h15]
        clear hs hq hf
        refine wanted_pos (by simp only [Region.wanted, hy]; rfl) ?_
        unfold gives
        refine gives_load_row 35 _ rfl w2.heap.size e13 35 _ (0, 0) _ (hG.row (by simp; try omega) H8.out.2.2.1) Tryd.underlying35 rfl (hInfo _ HX.out.1) ?_
        exact obC_q (Below.refl _ _) rfl
      -- operation 27: Op.load 35 (tmp 14)
      refine ⟨fun r wx hG hs hq hf => ?_, ?_⟩
      · have e14 : r 14 = .pointer (some ⟨w2.heap.size + 1, 0, none⟩) := hs 14 rfl
        have h15 : r 83 = .bool true := hf.1
        have hy : ydD [some 68, some 69, some 70, some 71, some 72, some 73, some 74, some 75, some 76, some 77, some 78, some 79, some 80, some 81, some 82, some 83, some 84, some 85, some 86, some 87, some 88, some 89, some 90, some 91, some 92, some 93, some 94, some 95, some 96, some 97, some 98, some 99, some 12] r 15 = some true := by show (match r 83 with | .bool b => some b | _ => none) = some true; rw [h15]
        clear hs hq hf
        refine wanted_pos (by simp only [Region.wanted, hy]; rfl) ?_
        unfold gives
        refine gives_load_row 35 _ rfl (w2.heap.size + 1) e14 35 _ (0, 0) _ (hG.row (by simp; try omega) H8.out.2.2.2.1) Tryd.underlying35 rfl (hInfo _ HX.out.2) ?_
        exact obC_q (Below.refl _ _) rfl
      -- operation 28: Op.move (tmp 5)
      refine ⟨fun r wx hG hs hq hf => ?_, ?_⟩
      · have e5 : r 5 = .slice a L c := hs 5 rfl
        have h15 : r 83 = .bool true := hf.1
        have hy : ydD [some 68, some 69, some 70, some 71, some 72, some 73, some 74, some 75, some 76, some 77, some 78, some 79, some 80, some 81, some 82, some 83, some 84, some 85, some 86, some 87, some 88, some 89, some 90, some 91, some 92, some 93, some 94, some 95, some 96, some 97, some 98, some 99, some 12] r 15 = some true := by show (match r 83 with | .bool b => some b | _ => none) = some true; rw [h15]
        clear hs hq hf
        refine wanted_pos (by simp only [Region.wanted, hy]; rfl) ?_
        unfold gives
        go_simp
        exact obC_q (Below.refl _ _) rfl
      -- operation 29: Op.call ( callee := Callee.value (func 38), args := #[tmp 91, tmp 92, tmp 93, tmp 94, tmp 95, tmp 96
      refine ⟨fun r wx hG hs hq hf => ?_, ?_⟩
      · have h23 : r 91 = .int .i64 W := hf.1
        have h24 : r 92 = .int .u64 m := hf.2.1
        have h25 : r 93 = .int .u64 n := hf.2.2.1
        have h26 : r 94 = .agg (bv xx).toArray := hf.2.2.2.1
        have h27 : r 95 = .agg (bv yy).toArray := hf.2.2.2.2.1
        have h28 : r 96 = .slice a L c := hf.2.2.2.2.2.1
        have h15 : r 83 = .bool true := hf.2.2.2.2.2.2.2.1
        have hy : ydD [some 68, some 69, some 70, some 71, some 72, some 73, some 74, some 75, some 76, some 77, some 78, some 79, some 80, some 81, some 82, some 83, some 84, some 85, some 86, some 87, some 88, some 89, some 90, some 91, some 92, some 93, some 94, some 95, some 96, some 97, some 98, some 99, some 12] r 15 = some true := by show (match r 83 with | .bool b => some b | _ => none) = some true; rw [h15]
        clear hs hq hf
        refine wanted_pos (by simp only [Region.wanted, hy]; rfl) ?_
        unfold gives
        go_simp
        refine (HK4.out wx hG).mono ?_
        rintro e wy ⟨rfl, hb1⟩
        exact ⟨_, rfl, obC_q hb1 rfl⟩
      -- operation 30: Op.binOp BinOp.eql 4 (tmp 90) (tmp 97) 4
      refine ⟨fun r wx hG hs hq hf => ?_, ?_⟩
      · have h22 : r 90 = .bool b2 := hf.1
        have h29 : r 97 = .bool b2 := hf.2.1
        have h15 : r 83 = .bool true := hf.2.2.1
        have hy : ydD [some 68, some 69, some 70, some 71, some 72, some 73, some 74, some 75, some 76, some 77, some 78, some 79, some 80, some 81, some 82, some 83, some 84, some 85, some 86, some 87, some 88, some 89, some 90, some 91, some 92, some 93, some 94, some 95, some 96, some 97, some 98, some 99, some 12] r 15 = some true := by show (match r 83 with | .bool b => some b | _ => none) = some true; rw [h15]
        clear hs hq hf
        refine wanted_pos (by simp only [Region.wanted, hy]; rfl) ?_
        unfold gives
        go_simp
        exact obC_q (Below.refl _ _) rfl
      -- operation 31: Op.pick (tmp 83) (tmp 98) (const (Value.bool false))
      refine ⟨fun r wx hG hs hq hf => ?_, ?_⟩
      · have h15 : r 83 = .bool true := hf.1
        have h30 : r 98 = .bool true := hf.2.1
        clear hs hq hf
        refine wanted_pos rfl ?_
        unfold gives
        go_simp
        exact obC_q (Below.refl _ _) rfl
      -- operation 32: Op.assign (tmp 99)
      refine ⟨fun r wx hG hs hq hf => ?_, ?_⟩
      · have h31 : r 99 = .bool true := hf.1
        clear hs hq hf
        refine wanted_pos rfl ?_
        unfold gives
        go_simp
        exact obC_q (Below.refl _ _) rfl
      exact trivial
    case hend =>
      intro u wz hG hfin
      have z32 : u 32 = .bool true := hfin 32 (by decide) (by kernel_rfl)
      clear hfin
      simp only [fill]
      go_simp
      go_wp2_with fail
      go_ret
      exact ⟨rfl, H8.out.2.2.2.2.trans (hG.below H8.out.2.2.2.2.size (by simp))⟩
end Go.Proofs.YtjlligpdkkfmaaaDoor
