/- The reference's Get of heads. (printed by gen/hdm.py) -/
import Derived.Test.YtgimblpdmlnfeaaDoorHdJ
import Derived.Test.YtgimblpdmlnfeaaDoorRfN
namespace Go.Proofs.YtgimblpdmlnfeaaDoor
open Go.RowKit Sha

theorem set_tz (r : List UInt8) (x : UInt8) (i : Nat) (hr : r.length = 32) (hx : r[i]? = some x) : (r.take i ++ zs (32 - i)).set i x = r.take (i + 1) ++ zs (32 - (i + 1)) := by
  have hi : i < 32 := by have := (List.getElem?_eq_some_iff.1 hx).1; omega
  rw [List.take_add_one, hx, List.set_append_right _ _ (by rw [List.length_take]; omega), List.length_take, hr, Nat.min_eq_left (by omega), Nat.sub_self]
  rw [show 32 - i = (32 - (i + 1)) + 1 by omega]
  simp [zs, List.replicate_succ]
theorem tz_len (r : List UInt8) (i : Nat) (hr : r.length = 32) (hi : i ≤ 32) : (r.take i ++ zs (32 - i)).length = 32 := by simp [zs, hr]; omega
theorem hd_setR {w : World} {g n z i : Nat} {r m : List UInt8} {x : UInt8} (hr : r.length = 32) (hi : i < 32) (h : w.heap[g]? = some (.cells (hdL n z r m).toArray 37 (0, 0))) : (w.setCell ⟨g, 2 + i, none⟩ (.int .u8 x.toNat)).heap[g]? = some (.cells (hdL n z (r.set i x) m).toArray 37 (0, 0)) := by
  rw [heap_setCell_same w g (2 + i) _ _ _ h]
  congr 2
  unfold hdL
  rw [List.setIfInBounds_toArray]
  congr 1
  rw [show 2 + i = i + 1 + 1 by omega]
  simp only [List.cons_append, List.nil_append, List.set_cons_succ]
  rw [List.set_append_left _ _ (by rw [bv_length]; omega)]
  simp [bv, List.map_set]
theorem hd_setM {w : World} {g n z i : Nat} {r m : List UInt8} {x : UInt8} (hr : r.length = 32) (h : w.heap[g]? = some (.cells (hdL n z r m).toArray 37 (0, 0))) : (w.setCell ⟨g, 34 + i, none⟩ (.int .u8 x.toNat)).heap[g]? = some (.cells (hdL n z r (m.set i x)).toArray 37 (0, 0)) := by
  rw [heap_setCell_same w g (34 + i) _ _ _ h]
  congr 2
  unfold hdL
  rw [List.setIfInBounds_toArray]
  congr 1
  rw [show 34 + i = 32 + i + 1 + 1 by omega]
  simp only [List.cons_append, List.nil_append, List.set_cons_succ]
  rw [List.set_append_right _ _ (by rw [bv_length]; omega), bv_length, hr, show 32 + i - 32 = i by omega]
  simp [bv, List.map_set]
theorem hd_cellR {w : World} {g n z i : Nat} {r m : List UInt8} {T : TypeId} (hr : r.length = 32) (hi : i < 32) (h : w.heap[g]? = some (.cells (hdL n z r m).toArray T (0, 0))) : ∃ x, w.cell? ⟨g, 2 + i, none⟩ = some (.int .u8 x) := by
  obtain ⟨x, hx⟩ : ∃ x, r[i]? = some x := ⟨r[i]'(by omega), List.getElem?_eq_getElem _⟩
  exact ⟨_, hd_rng2 h i _ (by rw [bv, List.getElem?_map, hx]; rfl)⟩
theorem hd_cellM {w : World} {g n z i : Nat} {r m : List UInt8} {T : TypeId} (hr : r.length = 32) (hm : m.length = 32) (hi : i < 32) (h : w.heap[g]? = some (.cells (hdL n z r m).toArray T (0, 0))) : ∃ x, w.cell? ⟨g, 34 + i, none⟩ = some (.int .u8 x) := by
  obtain ⟨x, hx⟩ : ∃ x, m[i]? = some x := ⟨m[i]'(by omega), List.getElem?_eq_getElem _⟩
  exact ⟨_, hd_rng3 hr h i _ (by rw [bv, List.getElem?_map, hx]; rfl)⟩
set_option maxHeartbeats 16000000 in
set_option maxRecDepth 100000 in
theorem refHGet_any (v : Value) (b : List UInt8) (w : World) (hl : b.length ≤ 140737488355000) (hr : Rd w 1 v b.length (bv b)) :
    Calls Tryd.prog 24 #[v] w fun e w' => e = .returned (.tuple #[.agg (hdL (hgN b) (hgZ b) (hgR b) (hgM b)).toArray, .int .i64 (hgE b)]) ∧ Below w.heap.size w w' := by
  obtain ⟨a, c, rfl⟩ := hr.form
  have hzd := (zero_of_info infoHead).1
  have hzl : (hdL 0 0 (zs 32) (zs 32)).length = 66 := hdL_length _ _ _ _ (by simp [zs]) (by simp [zs])
  have hzi := hdInfo' 0 0 (zs 32) (zs 32) (by simp [zs]) (by simp [zs])
  have hz1 := hdL_one 0 0 (zs 32) (zs 32)
  obtain ⟨Zl, hZl⟩ : ∃ l, l = hdL 0 0 (zs 32) (zs 32) := ⟨_, rfl⟩
  rw [← hZl] at hzd hzl hzi hz1
  have HZL := Lib.hid (And.intro hZl (And.intro hzi (And.intro hzl hz1)))
  obtain ⟨n, hn⟩ : ∃ n, n = b.length := ⟨_, rfl⟩
  rw [← hn] at hr hl ⊢
  obtain ⟨w0, hw0⟩ : ∃ x : World, x = w.alloc (.cells Zl.toArray 37) := ⟨_, rfl⟩
  obtain ⟨w1, hw1⟩ : ∃ x : World, x = w0.alloc (.cells #[.slice a n c, .int .i64 0, .int .i64 0] 95) := ⟨_, rfl⟩
  obtain ⟨w2, hw2⟩ : ∃ x : World, x = w1.alloc (.cells Zl.toArray 37) := ⟨_, rfl⟩
  have hs0 : w0.heap.size = w.heap.size + 1 := by rw [hw0]; simp
  have hs1 : w1.heap.size = w.heap.size + 2 := by rw [hw1]; simp [hs0]
  have hra : w0.heap[w.heap.size]? = some (.cells Zl.toArray 37 (0, 0)) := by rw [hw0]; exact heap_alloc_new _ _
  have hb0 : Below w.heap.size w w0 := by rw [hw0]; exact (Below.refl _ _).alloc (Nat.le_refl _) _
  have hb1 : Below w.heap.size w w1 := by rw [hw1]; exact hb0.alloc hb0.size _
  have hb2 : Below w.heap.size w w2 := by rw [hw2]; exact hb1.alloc hb1.size _
  have hb01 : Below w0.heap.size w0 w1 := by rw [hw1]; exact (Below.refl _ _).alloc (Nat.le_refl _) _
  have hb12 : Below w1.heap.size w1 w2 := by rw [hw2]; exact (Below.refl _ _).alloc (Nat.le_refl _) _
  have hra1 := (hb01.block _ (Array.getElem?_eq_some_iff.1 hra).1).trans hra
  have hr2 := (hb12.block _ (Array.getElem?_eq_some_iff.1 hra1).1).trans hra1
  have hrr : w1.heap[w.heap.size + 1]? = some (.cells #[.slice a n c, .int .i64 0, .int .i64 0] 95 (0, 0)) := by rw [hw1, ← hs0]; exact heap_alloc_new _ _
  have hrr2 := (hb12.block _ (Array.getElem?_eq_some_iff.1 hrr).1).trans hrr
  have hr5 : w2.heap[w.heap.size + 2]? = some (.cells Zl.toArray 37 (0, 0)) := by rw [hw2, ← hs1]; exact heap_alloc_new _ _
  have hA0 : b ≠ [] → ∀ x, a = some x → x.block < w.heap.size := fun hne x hx => by
    obtain ⟨b', o, k, hv, _, cell⟩ := hr.at (by rw [hn]; exact List.length_pos_iff.2 hne)
    simp only [Value.slice.injEq] at hv
    rw [hx] at hv
    obtain rfl := Option.some.inj hv.1
    obtain ⟨u, hu⟩ : ∃ u, (bv b)[0]? = some u := ⟨(bv b)[0]'(by rw [bv_length]; exact List.length_pos_iff.2 hne), List.getElem?_eq_getElem _⟩
    exact World.block_lt_of_cell? _ _ (cell 0 u hu)
  obtain ⟨g2, hg2⟩ : ∃ g, g = w.heap.size := ⟨_, rfl⟩
  obtain ⟨gr, hgr⟩ : ∃ g, g = w.heap.size + 1 := ⟨_, rfl⟩
  obtain ⟨g5, hg5⟩ : ∃ g, g = w.heap.size + 2 := ⟨_, rfl⟩
  rw [← hg2] at hr2
  rw [← hgr] at hrr2
  rw [← hg5] at hr5
  have hrf : Rfr w2 gr a c b 0 0 := ⟨by rw [← hn]; exact hrr2, by rw [← hn]; exact hr.keep hb2, fun hne x hx e => by have := hA0 hne x hx; omega, Nat.zero_le _⟩
  have hnum := rNum_any w2 gr a c b 0 0 hrf (by omega)
  rw [List.drop_zero] at hnum
  have HW := Lib.hid (And.intro hw0 (And.intro hw1 (And.intro hw2 (And.intro hs0 hs1))))
  have H2 := Lib.hid (And.intro hr2 (And.intro hr5 (And.intro hb2 (And.intro hr hn))))
  have HNUM := Lib.hid hnum
  have HG : Hid (g2 = w.heap.size ∧ gr = w.heap.size + 1 ∧ g5 = w.heap.size + 2) := Lib.hid ⟨hg2, hgr, hg5⟩
  have HNE : Hid (g2 ≠ gr ∧ g2 ≠ g5 ∧ g5 ≠ gr ∧ w.heap.size ≤ g2 ∧ w.heap.size ≤ gr ∧ w.heap.size ≤ g5) := Lib.hid (by omega)
  have HA0 := Lib.hid hA0
  obtain ⟨R, hR⟩ : ∃ R, R = rdN b := ⟨_, rfl⟩
  obtain ⟨S, hS⟩ : ∃ S, S = rdN R.2.2 := ⟨_, rfl⟩
  have hE : hgE b = if R.1 ≠ 0 then R.1 else if S.1 ≠ 0 then S.1 else if S.2.2.length < 64 then 2 else if 64 < S.2.2.length then 5 else 0 := by rw [hS, hR]; rfl
  have hV : hgE b = 0 → hdL (hgN b) (hgZ b) (hgR b) (hgM b) = hdL R.2.1 S.2.1 (S.2.2.take 32) (S.2.2.drop 32) := fun h => by unfold hgN hgZ hgR hgM; rw [if_pos h, if_pos h, if_pos h, if_pos h, hS, hR]
  obtain ⟨N, hN⟩ : ∃ N, N = R.2.1 := ⟨_, rfl⟩
  obtain ⟨M, hM⟩ : ∃ N, N = S.2.1 := ⟨_, rfl⟩
  have HNN := Lib.hid (And.intro hN hM)
  have HR := Lib.hid (And.intro hR hS)
  have HE := Lib.hid hE
  have HV := Lib.hid hV
  clear hr hnum hw0 hw1 hw2 hs0 hs1 hra hb0 hb1 hb2 hb01 hb12 hra1 hr2 hrr hrr2 hr5 hrf hA0 hn hg2 hgr hg5 hR hS hE hV hZl hzl hzi hz1 hN hM
  go_enter Tryd.func24, Tryd.ntmps24
  go_upto_region 1 with fail
  rw [← HW.out.1, ← HG.out.1]
  go_upto_region 2 with fail
  rw [show w0.alloc (.cells #[.slice a n c, .int .i64 0, .int .i64 0] 95) = w1 from HW.out.2.1.symm, show w0.heap.size = gr by rw [HW.out.2.2.2.1, HG.out.2.1]]
  go_upto_region 3 with fail
  rw [show w1.alloc (.cells Zl.toArray 37) = w2 from HW.out.2.2.1.symm, show w1.heap.size = g5 by rw [HW.out.2.2.2.2, HG.out.2.2]]
  clear HW
  go_wp2_with fail
  refine HNUM.out.mono ?_
  rintro e w3 ⟨hg, hres⟩
  rw [if_pos rfl, ← HR.out.1, ← HNN.out.1] at hres
  have hr3 := (hg.block g2 (Array.getElem?_eq_some_iff.1 H2.out.1).1 (by intro e; simp only [Option.some.injEq] at e; exact HNE.out.1 e)).trans H2.out.1
  have hr53 := (hg.block g5 (Array.getElem?_eq_some_iff.1 H2.out.2.1).1 (by intro e; simp only [Option.some.injEq] at e; exact HNE.out.2.2.1 e)).trans H2.out.2.1
  have hb3 : Below w.heap.size w w3 := grow2 H2.out.2.2.1 hg HNE.out.2.2.2.2.1 H2.out.2.2.1.size
  rw [HZL.out.1] at hr53
  have H3 := Lib.hid (And.intro hr3 (And.intro hr53 (And.intro hb3 H2.out.2.2.2)))
  clear hr3 hr53 hb3 hg HNUM H2
  by_cases hR0 : R.1 = 0
  · rw [if_pos hR0] at hres
    obtain ⟨rfl, pos, hrd3, hdr⟩ := hres
    have y0 := hd_cell0 H3.out.2.1
    have hz := hd_froz H3.out.2.1
    go_upto_region 6 with fail
    go_upto_region 7 with fail
    obtain ⟨w4, hw4⟩ : ∃ x : World, x = w3.setCell ⟨g5, 0, none⟩ (.int .u64 N) := ⟨_, rfl⟩
    rw [← hw4]
    have hg34 : w3.grownBy w4 (some g5) := by rw [hw4]; exact grown_set1 (World.grownBy.refl _ _) 0 _
    have hr54 : w4.heap[g5]? = some (.cells (hdL N 0 (zs 32) (zs 32)).toArray 37 (0, 0)) := by rw [hw4]; exact hd_set0 H3.out.2.1
    have hr4 := (hg34.block g2 (Array.getElem?_eq_some_iff.1 H3.out.1).1 (by intro e; simp only [Option.some.injEq] at e; exact HNE.out.2.1 e)).trans H3.out.1
    have hb4 : Below w.heap.size w w4 := grow2 H3.out.2.2.1 hg34 HNE.out.2.2.2.2.2 H3.out.2.2.1.size
    have hrf4 := hrd3.keep hg34 (by intro e; simp only [Option.some.injEq] at e; exact HNE.out.2.2.1 e) (fun hne x hx e => by have := HA0.out hne x hx; have := HNE.out.2.2.2.2.2; simp only [Option.some.injEq] at e; omega)
    have hnum := rNum_any w4 gr a c b pos 0 hrf4 (by rw [← H3.out.2.2.2.2]; omega)
    rw [hdr] at hnum
    have HNUM := Lib.hid hnum
    have H4 := Lib.hid (And.intro hr4 (And.intro hr54 (And.intro hb4 H3.out.2.2.2)))
    clear y0 hz hw4 hg34 hr54 hr4 hb4 hrf4 hnum H3 hrd3 hdr
    go_wp2_with fail
    refine HNUM.out.mono ?_
    rintro e w5 ⟨hg, hres⟩
    rw [if_pos rfl, ← HR.out.2, ← HNN.out.2] at hres
    have hr5 := (hg.block g2 (Array.getElem?_eq_some_iff.1 H4.out.1).1 (by intro e; simp only [Option.some.injEq] at e; exact HNE.out.1 e)).trans H4.out.1
    have hr55 := (hg.block g5 (Array.getElem?_eq_some_iff.1 H4.out.2.1).1 (by intro e; simp only [Option.some.injEq] at e; exact HNE.out.2.2.1 e)).trans H4.out.2.1
    have hb5 : Below w.heap.size w w5 := grow2 H4.out.2.2.1 hg HNE.out.2.2.2.2.1 H4.out.2.2.1.size
    have y1 := hd_cell1 hr55
    have hz := hd_froz hr55
    have H5 := Lib.hid (And.intro hr5 (And.intro hr55 (And.intro hb5 H4.out.2.2.2)))
    clear hr5 hr55 hb5 hg HNUM H4
    by_cases hS0 : S.1 = 0
    · rw [if_pos hS0] at hres
      obtain ⟨rfl, pos2, hrd5, hdr2⟩ := hres
      obtain ⟨t, ht⟩ : ∃ t, t = S.2.2 := ⟨_, rfl⟩
      rw [← ht] at hdr2
      go_upto_region 10 with fail
      obtain ⟨w6, hw6⟩ : ∃ x : World, x = w5.setCell ⟨g5, 1, none⟩ (.int .u64 M) := ⟨_, rfl⟩
      rw [← hw6]
      have hg56 : w5.grownBy w6 (some g5) := by rw [hw6]; exact grown_set1 (World.grownBy.refl _ _) 1 _
      have hr56 : w6.heap[g5]? = some (.cells (hdL N M (zs 32) (zs 32)).toArray 37 (0, 0)) := by rw [hw6]; exact hd_set1 H5.out.2.1
      have hr6 := (hg56.block g2 (Array.getElem?_eq_some_iff.1 H5.out.1).1 (by intro e; simp only [Option.some.injEq] at e; exact HNE.out.2.1 e)).trans H5.out.1
      have hb6 : Below w.heap.size w w6 := grow2 H5.out.2.2.1 hg56 HNE.out.2.2.2.2.2 H5.out.2.2.1.size
      have hrf6 := hrd5.keep hg56 (by intro e; simp only [Option.some.injEq] at e; exact HNE.out.2.2.1 e) (fun hne x hx e => by have := HA0.out hne x hx; have := HNE.out.2.2.2.2.2; simp only [Option.some.injEq] at e; omega)
      obtain ⟨L, hL⟩ : ∃ L, L = t.length := ⟨_, rfl⟩
      have hnl : pos2 + L = n := by have := hrf6.le; rw [hL, ← hdr2, List.length_drop, H5.out.2.2.2.2]; omega
      have hleft := fun wx (hb : Below w6.heap.size w6 wx) => rLeft_any wx gr a c b pos2 0 (hrf6.below hb) (by rw [← H5.out.2.2.2.2]; omega)
      rw [← H5.out.2.2.2.2, show n - pos2 = L by omega] at hleft
      have hE1 : hgE b = if L < 64 then 2 else if 64 < L then 5 else 0 := by rw [HE.out, if_neg (fun h => h hR0), if_neg (fun h => h hS0), ← ht, ← hL]
      have hV1 : hgE b = 0 → hdL (hgN b) (hgZ b) (hgR b) (hgM b) = hdL N M (t.take 32) (t.drop 32) := fun h => by rw [HV.out h, HNN.out.1, HNN.out.2, ht]
      have HLE := Lib.hid hleft
      have HE1 := Lib.hid (And.intro hE1 hV1)
      have HLT := Lib.hid (And.intro hL hdr2)
      have H6 := Lib.hid (And.intro hr6 (And.intro hr56 (And.intro hb6 (And.intro H5.out.2.2.2 hrf6))))
      clear y1 hz hw6 hg56 hr56 hr6 hb6 hrf6 hL hdr2 hleft hE1 hV1 hrd5 H5 HE HV HR ht HNN hR0 hS0
      by_cases h64 : L < 64
      · have z64 : (L : Int) < 64 := by omega
        go_wp2_with fail
        refine (HLE.out w6 (Below.refl _ _)).mono ?_
        rintro e w7 ⟨rfl, hb7⟩
        have he : hgE b = 2 := by rw [HE1.out.1, if_pos h64]
        have HEE := Lib.hid (And.intro he (hg_none b (by rw [he]; decide)))
        have hr7 := (hb7.block _ (Array.getElem?_eq_some_iff.1 H6.out.1).1).trans H6.out.1
        have H7 := Lib.hid (And.intro hr7 (H6.out.2.2.1.trans (hb7.mono H6.out.2.2.1.size)))
        clear he h64 hb7 hr7
        go_wp2_with (with_reducible show wpList _ _ _ (⟨none, Op.store 37 _ _, _, _, _, _⟩ :: _) _ _; go_loud (refine wpList_store_whole rfl _ _ _ rfl g2 Zl rfl rfl Zl _ H7.out.1 HZL.out.2.1 rfl HZL.out.2.2.2 ?_); intro w9 HG9 hg9)
        rw [HEE.out.1, HEE.out.2, ← HZL.out.1]
        refine bodyPost_ret (v := .tuple #[.agg Zl.toArray, .int .i64 2]) ?_ ?_ ?_
        · have hld := run_loadVar_row (P := Tryd.prog) w9 g2 _ 37 _ (0, 0) _ HG9.out Tryd.underlying37 rfl (by rw [List.size_toArray]; exact HZL.out.2.1)
          simp [results, Tryd.results24, asAddr, hld]
        · rfl
        · exact ⟨rfl, grow2 H7.out.2 hg9 HNE.out.2.2.2.1 H7.out.2.size⟩
      · have z64 : ¬ (L : Int) < 64 := by omega
        go_upto_region 12 with fail
        refine (HLE.out w6 (Below.refl _ _)).mono ?_
        rintro e w7 ⟨rfl, hb7⟩
        go_upto_region 12 with fail
        by_cases hgt : 64 < L
        · have zg : (64 : Int) < (L : Int) := by omega
          go_wp2_with fail
          refine (HLE.out w7 hb7).mono ?_
          rintro e w8 ⟨rfl, hb8⟩
          have hb68 := hb7.trans (hb8.mono hb7.size)
          have he : hgE b = 5 := by rw [HE1.out.1, if_neg (by omega), if_pos hgt]
          have HEE := Lib.hid (And.intro he (hg_none b (by rw [he]; decide)))
          have hr7 := (hb68.block _ (Array.getElem?_eq_some_iff.1 H6.out.1).1).trans H6.out.1
          have H7 := Lib.hid (And.intro hr7 (H6.out.2.2.1.trans (hb68.mono H6.out.2.2.1.size)))
          clear he hgt hb7 hb8 hb68 hr7
          go_wp2_with (with_reducible show wpList _ _ _ (⟨none, Op.store 37 _ _, _, _, _, _⟩ :: _) _ _; go_loud (refine wpList_store_whole rfl _ _ _ rfl g2 Zl rfl rfl Zl _ H7.out.1 HZL.out.2.1 rfl HZL.out.2.2.2 ?_); intro w9 HG9 hg9)
          rw [HEE.out.1, HEE.out.2, ← HZL.out.1]
          refine bodyPost_ret (v := .tuple #[.agg Zl.toArray, .int .i64 5]) ?_ ?_ ?_
          · have hld := run_loadVar_row (P := Tryd.prog) w9 g2 _ 37 _ (0, 0) _ HG9.out Tryd.underlying37 rfl (by rw [List.size_toArray]; exact HZL.out.2.1)
            simp [results, Tryd.results24, asAddr, hld]
          · rfl
          · exact ⟨rfl, grow2 H7.out.2 hg9 HNE.out.2.2.2.1 H7.out.2.size⟩
        · have hL64 : L = 64 := by omega
          subst hL64
          have he : hgE b = 0 := by rw [HE1.out.1, if_neg (by omega), if_neg (by omega)]
          have HEE := Lib.hid (And.intro he (HE1.out.2 he))
          clear he hgt z64
          go_upto_region 14 with fail
          refine (HLE.out w7 hb7).mono ?_
          rintro e w8 ⟨rfl, hb8⟩
          go_upto_region 14 with fail
          have hb68 := hb7.trans (hb8.mono hb7.size)
          have hr8 := (hb68.block _ (Array.getElem?_eq_some_iff.1 H6.out.1).1).trans H6.out.1
          have hr58 := (hb68.block _ (Array.getElem?_eq_some_iff.1 H6.out.2.1).1).trans H6.out.2.1
          have hbw8 := H6.out.2.2.1.trans (hb68.mono H6.out.2.2.1.size)
          have hrf8 := H6.out.2.2.2.2.below hb68
          obtain ⟨q, o, c', hv, hcn, cell⟩ := (H6.out.2.2.2.1.1.keep hbw8).at (by omega)
          simp only [Value.slice.injEq, true_and] at hv
          obtain ⟨rfl, rfl⟩ := hv
          obtain ⟨r1, hr1⟩ : ∃ x, x = t.take 32 := ⟨_, rfl⟩
          obtain ⟨m1, hm1⟩ : ∃ x, x = t.drop 32 := ⟨_, rfl⟩
          have htl : t.length = 64 := HLT.out.1.symm
          have hrl : r1.length = 32 := by rw [hr1]; simp; omega
          have hml : m1.length = 32 := by rw [hm1]; simp; omega
          have hbne : b ≠ [] := by intro e; have := H6.out.2.2.2.1.2; rw [e] at this; simp at this; omega
          have hq := HA0.out hbne _ rfl
          have hq5 : q ≠ g5 := by have := HNE.out.2.2.2.2.2; intro e; rw [e] at hq; exact absurd hq (by simp only; omega)
          have hcR : ∀ i x, r1[i]? = some x → w8.cell? ⟨q, o + (pos2 + i), none⟩ = some (.int .u8 x.toNat) := fun i x hx => by
            refine cell (pos2 + i) _ ?_
            have h2 : t[i]? = some x := by rw [hr1] at hx; have hi := (List.getElem?_eq_some_iff.1 hx).1; rw [List.length_take] at hi; rw [List.getElem?_take_of_lt (by omega)] at hx; exact hx
            rw [← HLT.out.2, List.getElem?_drop] at h2
            rw [bv, List.getElem?_map, h2]; rfl
          have hcM : ∀ i x, m1[i]? = some x → w8.cell? ⟨q, o + (pos2 + 32 + i), none⟩ = some (.int .u8 x.toNat) := fun i x hx => by
            refine cell (pos2 + 32 + i) _ ?_
            have h2 : t[32 + i]? = some x := by rw [hm1, List.getElem?_drop] at hx; exact hx
            rw [← HLT.out.2, List.getElem?_drop, ← Nat.add_assoc] at h2
            rw [bv, List.getElem?_map, h2]; rfl
          have HC := Lib.hid (And.intro hcR (And.intro hcM hq5))
          have HRM := Lib.hid (And.intro hrl hml)
          have HRMe := Lib.hid (And.intro hr1 hm1)
          have hap := hrf8.cells.2.2.1
          have H8 := Lib.hid (And.intro hr8 (And.intro hr58 (And.intro hbw8 hap)))
          clear hb7 hb8 hb68 hr8 hr58 hbw8 hrf8 cell hr1 hm1 htl hrl hml hbne hq hq5 hcR hcM hap HLE HE1 HLT H6
          go_wp2_with fail
          go_loopw [8] (fun s8 wr => ∃ i : Nat, i ≤ 32 ∧ s8 = .int .i64 i ∧ Hid (w8.grownBy wr (some g5) ∧ wr.heap[g5]? = some (.cells (hdL N M (r1.take i ++ zs (32 - i)) (m1.take i ++ zs (32 - i))).toArray 37 (0, 0)))) (fun i _ => 32 - (intOf i).toNat)
          case atStart => exact ⟨0, by omega, rfl, Lib.hid ⟨World.grownBy.refl _ _, H8.out.2.1⟩⟩
          case round =>
            obtain ⟨i, hi, rfl, HI⟩ := hrel
            by_cases hlt : i < 32
            · have hkz : (i : Int) < 32 := by omega
              have hk0 : (0 : Int) ≤ (i : Int) := by omega
              obtain ⟨x, hx⟩ : ∃ x, r1[i]? = some x := ⟨r1[i]'(by rw [HRM.out.1]; exact hlt), List.getElem?_eq_getElem _⟩
              obtain ⟨y, hy⟩ : ∃ x, m1[i]? = some x := ⟨m1[i]'(by rw [HRM.out.2]; exact hlt), List.getElem?_eq_getElem _⟩
              have hpn1 : ((pos2 : Int) + (i : Int)) < (n : Int) := by omega
              have hw32 : IntKind.i64.wrap ((pos2 : Int) + (i : Int)) = ((pos2 + i : Nat) : Int) := (IntWalk.i64_in _ (by omega)).trans (by omega)
              have ca : wr.cell? ⟨gr, 1, none⟩ = some (.int .i64 pos2) := World.cell?_of_block (HI.out.1.block gr (World.block_lt_of_cell? _ _ H8.out.2.2.2) (by intro e; simp only [Option.some.injEq] at e; exact HNE.out.2.2.1 e.symm)) |>.trans H8.out.2.2.2
              have cb : wr.cell? ⟨q, o + (pos2 + i), none⟩ = some (.int .u8 x.toNat) := World.cell?_of_block (HI.out.1.block q (World.block_lt_of_cell? _ _ (HC.out.1 i x hx)) (by intro e; simp only [Option.some.injEq] at e; exact HC.out.2.2 e)) |>.trans (HC.out.1 i x hx)
              obtain ⟨x0, cR⟩ := hd_cellR (tz_len r1 i HRM.out.1 hi) hlt HI.out.2
              have hz := hd_froz HI.out.2
              go_upto_region 18 with fail
              obtain ⟨wa, hwa⟩ : ∃ u : World, u = wr.setCell ⟨g5, 2 + i, none⟩ (.int .u8 x.toNat) := ⟨_, rfl⟩
              rw [← hwa]
              have hga : w8.grownBy wa (some g5) := by rw [hwa]; exact grown_set1 HI.out.1 _ _
              have hra : wa.heap[g5]? = some (.cells (hdL N M (r1.take (i + 1) ++ zs (32 - (i + 1))) (m1.take i ++ zs (32 - i))).toArray 37 (0, 0)) := by rw [hwa, ← set_tz r1 x i HRM.out.1 hx]; exact hd_setR (tz_len r1 i HRM.out.1 hi) hlt HI.out.2
              have ca2 : wa.cell? ⟨gr, 1, none⟩ = some (.int .i64 pos2) := World.cell?_of_block (hga.block gr (World.block_lt_of_cell? _ _ H8.out.2.2.2) (by intro e; simp only [Option.some.injEq] at e; exact HNE.out.2.2.1 e.symm)) |>.trans H8.out.2.2.2
              have cb2 : wa.cell? ⟨q, o + (pos2 + 32 + i), none⟩ = some (.int .u8 y.toNat) := World.cell?_of_block (hga.block q (World.block_lt_of_cell? _ _ (HC.out.2.1 i y hy)) (by intro e; simp only [Option.some.injEq] at e; exact HC.out.2.2 e)) |>.trans (HC.out.2.1 i y hy)
              obtain ⟨x1, cM⟩ := hd_cellM (tz_len r1 (i + 1) HRM.out.1 (by omega)) (tz_len m1 i HRM.out.2 hi) hlt hra
              have hz2 := hd_froz hra
              have HA := Lib.hid (And.intro hga hra)
              have hw33 : IntKind.i64.wrap ((pos2 : Int) + 32) = ((pos2 + 32 : Nat) : Int) := (IntWalk.i64_in _ (by omega)).trans (by omega)
              have hw34 : IntKind.i64.wrap (((pos2 + 32 : Nat) : Int) + (i : Int)) = ((pos2 + 32 + i : Nat) : Int) := (IntWalk.i64_in _ (by omega)).trans (by omega)
              have hpn2 : ((pos2 + 32 + i : Nat) : Int) < (n : Int) := by omega
              have HY := Lib.hid hy
              clear hz cR ca cb hwa hga hra hw32 hx hy hpn1 HI
              go_wp2_with fail
              go_roundw
              case rel => exact ⟨i + 1, by omega, by go_num, Lib.hid ⟨grown_set1 HA.out.1 _ _, by rw [← set_tz m1 y i HRM.out.2 HY.out]; exact hd_setM (tz_len r1 (i + 1) HRM.out.1 (by omega)) HA.out.2⟩⟩
              case measure => simp [intOf]; omega
            · have hi32 : i = 32 := by omega
              have hkz : ¬ (i : Int) < 32 := by omega
              have hr9 : wr.heap[g5]? = some (.cells (hdL N M r1 m1).toArray 37 (0, 0)) := by
                have h9 := HI.out.2
                rw [hi32, List.take_of_length_le (by rw [HRM.out.1]; exact Nat.le_refl _), List.take_of_length_le (by rw [HRM.out.2]; exact Nat.le_refl _), show zs (32 - 32) = [] from rfl, List.append_nil, List.append_nil] at h9
                exact h9
              have hr29 := (HI.out.1.block g2 (Array.getElem?_eq_some_iff.1 H8.out.1).1 (by intro e; simp only [Option.some.injEq] at e; exact HNE.out.2.1 e)).trans H8.out.1
              have hb9 : Below w.heap.size w wr := grow2 H8.out.2.2.1 HI.out.1 HNE.out.2.2.2.2.2 H8.out.2.2.1.size
              have H9 := Lib.hid (And.intro hr9 (And.intro hr29 hb9))
              clear hr9 hr29 hb9 HI H8 hlt hi32 hi
              have hrl := HRM.out.1
              have hml := HRM.out.2
              go_wp2_with (first
                | (with_reducible show wpList _ _ _ (⟨some 70, _, _, _, _, _⟩ :: _) _ _; refine wpList_load_row rfl _ _ rfl g5 rfl _ _ (0, 0) _ H9.out.1 Tryd.underlying37 rfl (hdInfo _ _ _ _ hrl hml) ?_)
                | (with_reducible show wpList _ _ _ (⟨none, Op.store _ _ _, _, _, _, _⟩ :: _) _ _; refine wpList_store_whole rfl _ _ _ rfl g2 (hdL N M r1 m1) rfl rfl Zl _ H9.out.2.1 (hdInfo' _ _ _ _ hrl hml) (by rw [HZL.out.2.2.1, hdL_length _ _ _ _ hrl hml]) (hdL_one _ _ _ _) ?_; intro w9 HG9 hg9))
              rw [HEE.out.1, HEE.out.2, ← HRMe.out.1, ← HRMe.out.2]
              refine bodyPost_ret (v := .tuple #[.agg (hdL N M r1 m1).toArray, .int .i64 0]) ?_ ?_ ?_
              · have hld := run_loadVar_row (P := Tryd.prog) w9 g2 _ 37 _ (0, 0) _ HG9.out Tryd.underlying37 rfl (hdInfo _ _ _ _ hrl hml)
                simp [results, Tryd.results24, asAddr, hld]
              · rfl
              · exact ⟨rfl, grow2 H9.out.2.2 hg9 HNE.out.2.2.2.1 H9.out.2.2.size⟩
    · rw [if_neg hS0] at hres
      obtain ⟨rfl, hrd5⟩ := hres
      have he : hgE b = S.1 := by rw [HE.out, if_neg (fun h => h hR0), if_pos hS0]
      have hne := hg_none b (by rw [he]; exact hS0)
      obtain ⟨e0, he0⟩ : ∃ x, x = S.1 := ⟨_, rfl⟩
      rw [← he0] at hS0 he ⊢
      have hE2 : (e0 == 0) = false := by simp [hS0]
      have HEE := Lib.hid (And.intro he hne)
      have hs5 : (w5.setCell ⟨g5, 1, none⟩ (.int .u64 0)).heap[g2]? = some (.cells Zl.toArray 37 (0, 0)) := (heap_setCell_other _ _ _ _ (show g2 ≠ g5 from HNE.out.2.1)).trans H5.out.1
      have hb5 : Below w.heap.size w (w5.setCell ⟨g5, 1, none⟩ (.int .u64 0)) := H5.out.2.2.1.setCell (show w.heap.size ≤ g5 from HNE.out.2.2.2.2.2) _
      have H7 := Lib.hid (And.intro hs5 hb5)
      clear he hne he0 hrd5 HE HV HR hS0 hR0 hs5 hb5
      go_wp2_with (with_reducible show wpList _ _ _ (⟨none, Op.store 37 _ _, _, _, _, _⟩ :: _) _ _; go_loud (refine wpList_store_whole rfl _ _ _ rfl g2 Zl rfl rfl Zl _ H7.out.1 HZL.out.2.1 rfl HZL.out.2.2.2 ?_); intro w9 HG9 hg9)
      rw [HEE.out.1, HEE.out.2, ← HZL.out.1]
      refine bodyPost_ret (v := .tuple #[.agg Zl.toArray, .int .i64 e0]) ?_ ?_ ?_
      · have hld := run_loadVar_row (P := Tryd.prog) w9 g2 _ 37 _ (0, 0) _ HG9.out Tryd.underlying37 rfl (by rw [List.size_toArray]; exact HZL.out.2.1)
        simp [results, Tryd.results24, asAddr, hld]
      · rfl
      · exact ⟨rfl, grow2 H7.out.2 hg9 HNE.out.2.2.2.1 H7.out.2.size⟩
  · rw [if_neg hR0] at hres
    obtain ⟨rfl, hrd3⟩ := hres
    have he : hgE b = R.1 := by rw [HE.out, if_pos hR0]
    have hne := hg_none b (by rw [he]; exact hR0)
    obtain ⟨e0, he0⟩ : ∃ x, x = R.1 := ⟨_, rfl⟩
    rw [← he0] at hR0 he ⊢
    have hE2 : (e0 == 0) = false := by simp [hR0]
    have HEE := Lib.hid (And.intro he hne)
    have H7 := Lib.hid (And.intro H3.out.1 H3.out.2.2.1)
    clear he hne he0 hrd3 HE HV HR hR0
    go_wp2_with (with_reducible show wpList _ _ _ (⟨none, Op.store 37 _ _, _, _, _, _⟩ :: _) _ _; go_loud (refine wpList_store_whole rfl _ _ _ rfl g2 Zl rfl rfl Zl _ H7.out.1 HZL.out.2.1 rfl HZL.out.2.2.2 ?_); intro w9 HG9 hg9)
    rw [HEE.out.1, HEE.out.2, ← HZL.out.1]
    refine bodyPost_ret (v := .tuple #[.agg Zl.toArray, .int .i64 e0]) ?_ ?_ ?_
    · have hld := run_loadVar_row (P := Tryd.prog) w9 g2 _ 37 _ (0, 0) _ HG9.out Tryd.underlying37 rfl (by rw [List.size_toArray]; exact HZL.out.2.1)
      simp [results, Tryd.results24, asAddr, hld]
    · rfl
    · exact ⟨rfl, grow2 H7.out.2 hg9 HNE.out.2.2.2.1 H7.out.2.size⟩
end Go.Proofs.YtgimblpdmlnfeaaDoor
