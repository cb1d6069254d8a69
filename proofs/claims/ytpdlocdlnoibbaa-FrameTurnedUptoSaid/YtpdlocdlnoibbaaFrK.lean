/- The law FrameTurned: a byte that is turned ends the records there. -/
import Derived.Test.YtpdlocdlnoibbaaFrJ
namespace Go.Proofs.Ytpdlocdlnoibbaa
open Go.ChangeShapes Go.WideShapes Go.ChangeAt Go.RowKit

theorem xor8 (x d : UInt8) : bits .xor .u8 (x.toNat : Int) (d.toNat : Int) = ((x ^^^ d).toNat : Int) := by
  have h1 := u8_xor_nat x.toNat d.toNat x.toNat_lt d.toNat_lt
  rw [h1, UInt8.toNat_xor]
theorem okL_take {ls : List (List UInt8)} (h : okL ls = true) (k : Nat) : okL (ls.take k) = true := (okL_iff _).2 (fun r hr => (okL_iff ls).1 h r (List.mem_of_mem_take hr))
theorem mod_small (u n : Nat) (h : 0 < n) (h2 : n ≤ 1000000) : ∃ K : Nat, K < n ∧ (u : Int) % (n : Int) = (K : Int) ∧ wrap64 (K : Int) = (K : Int) ∧ IntKind.i64.wrap (K : Int) = (K : Int) := by
  have h3 := Nat.mod_lt u h
  refine ⟨u % n, h3, by push_cast; rfl, ?_, ?_⟩
  · generalize u % n = K at h3 ⊢
    exact IntWalk.wrap64_in _ (by omega)
  · generalize u % n = K at h3 ⊢
    exact IntWalk.i64_in _ (by omega)
theorem idx_small (E k0 rl n4 B0 K X U M : Nat) (hU : U = E + (k0 + rl + 4)) (hUM : U ≤ M) (hn4 : n4 = rl + 4) (hB0 : B0 = E + k0) (hK : K < n4) (hX : X = B0 + K) (hM : M ≤ 100000000000) :
    IntKind.i64.wrap ((B0 : Int) + (K : Int)) = (X : Int) ∧ X < M ∧ (X : Int) < (M : Int) ∧ (0 : Int) ≤ (X : Int) :=
  ⟨(IntWalk.i64_in _ (by omega)).trans (by omega), by omega, by omega, by omega⟩
set_option maxHeartbeats 8000000 in
set_option maxRecDepth 100000 in
theorem frameTurned_walk (v0 : Value) (ls : List (List UInt8)) (wh at_ : Int) (d : UInt8) (w : World) (h : Txs w v0 ls) (hnl : ls.length ≤ 1048576) (hLB : (layF ls).length ≤ 100000000000000) :
    Calls Try.prog 9 #[v0, .int .i64 wh, .int .i64 at_, .int .u8 d.toNat] w fun e w' => e = .returned (.bool true) ∧ Below w.heap.size w w' := by
  have haw := awake07_any w
  obtain ⟨u2, hu2⟩ : ∃ u : Nat, IntKind.u64.wrap at_ = u := ⟨(IntKind.u64.wrap at_).toNat, by rw [IntKind.wrap_u64]; omega⟩
  have HU2 := Lib.hid hu2
  clear hu2
  obtain ⟨a0, c0, rfl⟩ := h.form
  obtain ⟨n, hn⟩ : ∃ n, n = ls.length := ⟨_, rfl⟩
  have hnc : n ≤ c0 := by
    obtain ⟨vs, _, ⟨_, _, ⟨hv, _⟩ | ⟨_, _, hv, hc, _⟩⟩, _⟩ := h
    · simp only [Value.slice.injEq] at hv; omega
    · simp only [Value.slice.injEq] at hv; omega
  rw [← hn] at hnl h ⊢
  have HX := Lib.hid hn
  have HT := Lib.hid h
  obtain ⟨dd, hdd⟩ : ∃ dd, dd = d.toNat := ⟨_, rfl⟩
  have hd8 : dd < 256 := by rw [hdd]; exact d.toNat_lt
  rw [← hdd]
  have HD := Lib.hid hdd
  clear h hn hdd
  go_enter Try.func9, Try.ntmps9
  go_wp2_with fail
  refine haw.mono ?_
  rintro e w1 ⟨rfl, hb1⟩
  have hlay := Lay_any _ ls w1 (HT.out.below hb1) (by have := HX.out; omega) hLB
  have hz1 := hb1.size
  clear haw
  go_wp2_with fail
  refine hlay.mono ?_
  rintro e w2 ⟨hb2, v7, rfl, ho7⟩
  have hb02 := hb1.trans (hb2.mono hz1)
  obtain ⟨ab, cb, rfl⟩ := own_formq ho7
  by_cases hok : okL ls = true
  · have hE : layE ls = 0 := by rw [layE, if_pos hok]
    have hO : layO ls = layF ls := by rw [layO, if_pos hok]
    rw [hE]
    rw [hO] at ho7 ⊢
    have hls := (okL_iff ls).1 hok
    have hL3 := layF_le 32768 (by omega) ls hls
    obtain ⟨L, hL⟩ : ∃ L, L = layF ls := ⟨_, rfl⟩
    rw [← hL] at ho7 hL3 ⊢
    obtain ⟨M, hM⟩ : ∃ M, M = L.length := ⟨_, rfl⟩
    have hL4 : ls.length * (32768 + 13) ≤ 1048576 * (32768 + 13) := Nat.mul_le_mul_right _ (by have := HX.out; omega)
    have hMb : M ≤ 100000000000 := by omega
    rw [← hM] at ho7 ⊢
    have HL := Lib.hid (And.intro hL (And.intro hM (And.intro hls hok)))
    have H2 := Lib.hid (And.intro ho7 hb02)
    have hz02 := hb02.size
    clear hL hM hls ho7 hb02 hb2 hlay hE hO hok hL3 hL4 hLB hb1
    by_cases hn0 : n = 0
    · have z0 : (n : Int) = 0 := by omega
      go_wp2_with fail
      all_goals go_ret
      all_goals exact ⟨rfl, H2.out.2⟩
    by_cases hd0 : dd = 0
    · have z0 : ¬ ((n : Int) = 0) := by omega
      have z1 : (dd : Int) = 0 := by omega
      go_wp2_with fail
      all_goals go_ret
      all_goals exact ⟨rfl, H2.out.2⟩
    have z0 : ¬ ((n : Int) = 0) := by omega
    have z1 : ¬ ((dd : Int) = 0) := by omega
    have z0b : ((n : Int) == 0) = false := by simp; omega
    have z0c : (n == 0) = false := by simp [hn0]
    have z1b : ((dd : Int) == 0) = false := by simp; omega
    have z1c : (dd == 0) = false := by simp [hd0]
    obtain ⟨u, hu⟩ : ∃ u : Nat, IntKind.u64.wrap wh = u := ⟨(IntKind.u64.wrap wh).toNat, by rw [IntKind.wrap_u64]; omega⟩
    go_upto_region 6 with fail
    go_cut [1] (fun s1 wq => (∃ i : Nat, i < n ∧ s1 = .int .i64 i) ∧ wq = w2)
    case first =>
      have z2 : IntKind.u64.wrap (n : Int) = (n : Int) := IntWalk.u64_in _ (by omega)
      go_wp2_with fail
      all_goals go_meet
      have hlt : u % n < n := Nat.mod_lt _ (by omega)
      have hq : (u : Int) % (n : Int) = ((u % n : Nat) : Int) := by push_cast; rfl
      have hq2 : wrap64 (((u % n : Nat) : Int)) = ((u % n : Nat) : Int) := IntWalk.wrap64_in _ (by omega)
      exact ⟨⟨u % n, hlt, by rw [hq, hq2]⟩, rfl⟩
    case rest =>
      obtain ⟨⟨i, hi, rfl⟩, rfl⟩ := hcut
      have HD0 := Lib.hid hd0
      clear hu hn0 hd0 z0 z1 z0b z0c z1b z1c
      have hic : i ≤ c0 := by omega
      have HTI : Hid ((ls.take i).length ≤ 1000000000000 ∧ (ls.take i).length = i) := Lib.hid ⟨by rw [List.length_take]; omega, by rw [List.length_take]; have := HX.out; omega⟩
      have ht0 := HT.out.below H2.out.2
      have hlay1 := Lay_any _ (ls.take i) wc (ht0.take HX.out i (by omega)) (by rw [List.length_take]; omega) (by
        have := layF_append (ls.take i) (ls.drop i)
        rw [List.take_append_drop, ← HL.out.1] at this
        have := congrArg List.length this
        rw [List.length_append, ← HL.out.2.1] at this; omega)
      have hok1 := okL_take HL.out.2.2.2 i
      have hE1 : layE (ls.take i) = 0 := by rw [layE, if_pos hok1]
      have hO1 : layO (ls.take i) = layF (ls.take i) := by rw [layO, if_pos hok1]
      obtain ⟨i1, hi1⟩ : ∃ i1, i1 = i + 1 := ⟨_, rfl⟩
      have hok2 := okL_take HL.out.2.2.2 i1
      have hE2 : layE (ls.take i1) = 0 := by rw [layE, if_pos hok2]
      have hO2 : layO (ls.take i1) = layF (ls.take i1) := by rw [layO, if_pos hok2]
      have hLi1 : (layF (ls.take i1)).length ≤ M := by
        have := layF_append (ls.take i1) (ls.drop i1)
        rw [List.take_append_drop, ← HL.out.1] at this
        have := congrArg List.length this
        rw [List.length_append, ← HL.out.2.1] at this; omega
      obtain ⟨r, hr⟩ : ∃ r, ls[i]? = some r := ⟨ls[i]'(by have := HX.out; omega), List.getElem?_eq_getElem _⟩
      have hrl := HL.out.2.2.1 r (List.mem_of_getElem? hr)
      have htsu : layF (ls.take i1) = layF (ls.take i) ++ frm r := by rw [hi1]; exact layF_take_succ hr
      have hfl := frm_length r
      have hnb := numB_len r.length (by omega)
      obtain ⟨E, hEe⟩ : ∃ E, E = (layF (ls.take i)).length := ⟨_, rfl⟩
      obtain ⟨k0, hk0⟩ : ∃ k0, k0 = (numB r.length).length := ⟨_, rfl⟩
      obtain ⟨rl, hrle⟩ : ∃ rl, rl = r.length := ⟨_, rfl⟩
      have hU := congrArg List.length htsu
      rw [List.length_append, ← hEe, hfl, ← hk0, ← hrle] at hU
      rw [← hk0] at hnb
      rw [← hrle] at hrl
      obtain ⟨U, hUe⟩ : ∃ U, U = (layF (ls.take i1)).length := ⟨_, rfl⟩
      rw [← hUe] at hU hLi1
      have zi1 : IntKind.i64.wrap ((i : Int) + 1) = (i1 : Int) := (IntWalk.i64_in _ (by omega)).trans (by omega)
      have HS := Lib.hid (And.intro hr (And.intro hEe (And.intro hk0 (And.intro hrle (And.intro hUe (And.intro hE1 (And.intro hO1 (And.intro hE2 (And.intro hO2 hi1)))))))))
      clear hr hfl htsu hEe hk0 hrle hUe hE1 hO1 hE2 hO2 hok1 hok2
      have hi1c : i1 ≤ c0 := by omega
      go_wp2_with fail
      refine hlay1.mono ?_
      rintro e w3 ⟨hb3, v3, rfl, ho3⟩
      rw [HS.out.2.2.2.2.2.1]
      rw [HS.out.2.2.2.2.2.2.1, ← HS.out.2.1] at ho3
      obtain ⟨a3, c3, rfl⟩ := own_formq ho3
      have hb03 := H2.out.2.trans (hb3.mono hz02)
      have hlay2 := Lay_any _ (ls.take i1) w3 ((HT.out.below hb03).take HX.out i1 (by omega)) (by rw [List.length_take]; omega) (by rw [← HS.out.2.2.2.2.1]; omega)
      have ho73 := own_keep H2.out.1 hb3
      have hz3 := hb3.size
      clear hb3 ho3 hlay1 ht0
      go_wp2_with fail
      rw [← HS.out.2.2.2.2.2.2.2.2.2]
      refine hlay2.mono ?_
      rintro e w4 ⟨hb4, v4, rfl, ho4⟩
      rw [HS.out.2.2.2.2.2.2.2.1]
      rw [HS.out.2.2.2.2.2.2.2.2.1, ← HS.out.2.2.2.2.1] at ho4
      obtain ⟨a4, c4, rfl⟩ := own_formq ho4
      have hb04 := hb03.trans (hb4.mono (by omega))
      have ho74 := own_keep ho73 hb4
      have hz4 := hb4.size
      have ht4 := HT.out.below hb04
      obtain ⟨vs, hvl, hrv, hel⟩ := ht4
      rw [← HX.out] at hrv hvl
      obtain ⟨y, hy⟩ : ∃ y, vs[i]? = some y := ⟨vs[i]'(by omega), List.getElem?_eq_getElem _⟩
      have hry := hel i r y HS.out.1 hy
      rw [← HS.out.2.2.2.1] at hry
      obtain ⟨pa, ca, rfl⟩ := hry.form
      obtain ⟨bl, ol, cl, hvv, _, cell4⟩ := hrv.at (by omega)
      simp only [Value.slice.injEq, true_and] at hvv
      obtain ⟨rfl, rfl⟩ := hvv
      have hcy := cell4 i _ hy
      have zi : (i : Int) < (n : Int) := by omega
      have zi0 : (0 : Int) ≤ (i : Int) := by omega
      obtain ⟨n4, hn4⟩ : ∃ n4, n4 = rl + 4 := ⟨_, rfl⟩
      have zn4 : IntKind.i64.wrap ((rl : Int) + 4) = (n4 : Int) := (IntWalk.i64_in _ (by omega)).trans (by omega)
      obtain ⟨B0, hB0⟩ : ∃ B0, B0 = E + k0 := ⟨_, rfl⟩
      have zB : IntKind.i64.wrap ((U : Int) - (n4 : Int)) = (B0 : Int) := (IntWalk.i64_in _ (by omega)).trans (by omega)
      obtain ⟨FL, hFL⟩ : ∃ FL, FL = k0 + rl + 4 := ⟨_, rfl⟩
      have zF : IntKind.i64.wrap ((U : Int) - (E : Int)) = (FL : Int) := (IntWalk.i64_in _ (by omega)).trans (by omega)
      have q1 : ¬ ((U : Int) < (E : Int)) := by omega
      have q2 : ¬ ((FL : Int) < (n4 : Int)) := by omega
      have q3 : ¬ ((M : Int) < (U : Int)) := by omega
      have zn4u : IntKind.u64.wrap (n4 : Int) = (n4 : Int) := IntWalk.u64_in _ (by omega)
      have ZN40 : Hid (¬ ((n4 : Int) = 0)) := Lib.hid (by omega)
      have hn40 : 0 < n4 := by omega
      obtain ⟨K, hKn, hzk, zK2, zK3⟩ := mod_small u2 n4 hn40 (by omega)
      have HZK := Lib.hid hzk
      clear hzk
      obtain ⟨X, hX⟩ : ∃ X, X = B0 + K := ⟨_, rfl⟩
      obtain ⟨zX, hXM, zXM, zX0⟩ := idx_small E k0 rl n4 B0 K X U M hU hLi1 hn4 hB0 hKn hX hMb
      obtain ⟨g, cap, hvg, hgB, hMcap, _, hgs⟩ := own_at ho74 (Nat.lt_of_le_of_lt (Nat.zero_le X) hXM)
      simp only [Value.slice.injEq, true_and] at hvg
      obtain ⟨rfl, rfl⟩ := hvg
      obtain ⟨x, hx⟩ : ∃ x, L[X]? = some x := ⟨L[X]'(by rw [← HL.out.2.1]; exact hXM), List.getElem?_eq_getElem _⟩
      have hcx : w4.cell? ⟨g, X, none⟩ = some (.int .u8 x.toNat) := by rw [ho74.cellAt X (by rw [Nat.mul_one]; exact hXM)]; simp [bv, hx]
      have hfz := ho74.frozenAt X
      have hxor := xor8 x d
      rw [← HD.out] at hxor
      obtain ⟨xx, hxx⟩ : ∃ xx, xx = x.toNat := ⟨_, rfl⟩
      obtain ⟨zz, hzz⟩ : ∃ zz, zz = (x ^^^ d).toNat := ⟨_, rfl⟩
      rw [← hxx] at hxor hcx
      rw [← hzz] at hxor
      obtain ⟨hst, hgst⟩ := ho74.stored X (.int .u8 zz)
      have hbs : (bv L).set X (.int .u8 zz) = bv (L.set X (x ^^^ d)) := by rw [hzz]; simp [bv, List.map_set]
      rw [hbs] at hst
      have hsc := scan_turned ls HL.out.2.2.1 i K r x d HS.out.1 (by rw [← HS.out.2.2.2.1, ← hn4]; exact hKn) (by rw [← HL.out.1, ← HS.out.2.1, ← HS.out.2.2.1, ← hB0, ← hX]; exact hx) (by rw [← HD.out]; exact HD0.out)
      rw [← HL.out.1, ← HS.out.2.1, ← HS.out.2.2.1, ← hB0, ← hX] at hsc
      obtain ⟨w5, hw5⟩ : ∃ y : World, y = w4.setCell ⟨g, X, none⟩ (.int .u8 zz) := ⟨_, rfl⟩
      rw [← hw5] at hst hgst
      have hb05 : Below w.heap.size w w5 := below_row hb04 hgst (Nat.le_trans hz1 hgB) hb04.size
      have hsl : (L.set X (x ^^^ d)).length = M := by rw [List.length_set, ← HL.out.2.1]
      have hscan := Scan_any (.slice (some ⟨g, 0, none⟩) M cb) (L.set X (x ^^^ d)) w5 (by rw [hsl]; exact Nat.le_trans hMb (by decide)) (by rw [hsl]; exact own_rd hst (bv_one _))
      unfold ScanD at hscan
      rw [hsc] at hscan
      have H5 := Lib.hid (And.intro hb05 (And.intro hw5 (And.intro hb05.size (And.intro hi hnl))))
      clear hb4 ho4 ho73 ho74 hlay2 hb03 hb04 hvl hrv hel hy hry cell4 hX hB0 hFL hx hst hgst hbs hsc hw5 hb05 hsl hxx hzz hn4 hi1 hU hLi1 hrl hnb hnl hnc hic hi1c zi1 hz1 hz02 hz3 hz4 hgB hgs hMcap hMb hKn hXM hn40 hd8 hi
      have zK := HZK.out
      have zn40 := ZN40.out
      have hu2 := HU2.out
      go_wp2_with fail
      rw [← H5.out.2.1]
      refine hscan.mono ?_
      rintro e w6 ⟨hb6, v6, rfl, ht6⟩
      have hb06 := H5.out.1.trans (hb6.mono H5.out.2.2.1)
      have hsame := Same_any _ _ (ls.take i) w6 ht6 ((HT.out.below hb06).take HX.out i (Nat.le_of_lt H5.out.2.2.2.1)) HTI.out.1
      have hz6 := hb06.size
      obtain ⟨a6, c6, hv6⟩ := ht6.form
      rw [HTI.out.2] at hv6
      subst hv6
      have H6 := Lib.hid hb06
      clear hb6 ht6 hb06 hscan
      go_wp2_with fail
      refine hsame.mono ?_
      rintro e wf ⟨rfl, hbf⟩
      have HF := Lib.hid (H6.out.trans (hbf.mono hz6))
      clear hbf hsame
      go_wp2_with fail
      go_ret
      exact ⟨rfl, HF.out⟩
  · have hE : layE ls = 4 := by rw [layE, if_neg hok]
    have HB := Lib.hid hb02
    rw [hE]
    clear hb02 hb2 hb1 ho7 hlay
    go_wp2_with fail
    go_ret
    exact ⟨rfl, HB.out⟩
theorem frameTurned.law (H : Type) (enc : TypeId × Value → H) (W : World) (base : Nat)
    (v0 : Value) (d0 : DataW H) (p0 : List MemPlace) (g0 : Value.okWide Try.prog W .any base 35 v0) (h0 : DataW.Trod enc Try.prog W 0 (fun _ => true) true 35 v0 d0 p0)
    (v1 : Value) (d1 : DataW H) (p1 : List MemPlace) (g1 : Value.okWide Try.prog W .any base 3 v1) (h1 : DataW.Trod enc Try.prog W 0 (fun _ => true) true 3 v1 d1 p1)
    (v2 : Value) (d2 : DataW H) (p2 : List MemPlace) (g2 : Value.okWide Try.prog W .any base 3 v2) (h2 : DataW.Trod enc Try.prog W 0 (fun _ => true) true 3 v2 d2 p2)
    (v3 : Value) (d3 : DataW H) (p3 : List MemPlace) (g3 : Value.okWide Try.prog W .any base 5 v3) (h3 : DataW.Trod enc Try.prog W 0 (fun _ => true) true 5 v3 d3 p3)
    (hsz : Rows.uptoSmall H [d0, d1, d2, d3] = true) :
    Calls Try.prog 9 #[v0, v1, v2, v3] W fun e W' => e = .returned (.bool true) ∧ Below W.heap.size W W' := by
  obtain ⟨a, n, c, rfl⟩ := okWide_slice Try.underlying35 g0
  have t0 := TB.of (P := Try.prog) hsz h0 (by simp)
  obtain ⟨ls, hr, hl, hm, hb⟩ := open_txs t0
  obtain ⟨z, rfl, _, _, _⟩ := open_int Try.underlying3 g1 h1
  obtain ⟨y, rfl, _, _, _⟩ := open_int Try.underlying3 g2 h2
  obtain ⟨b, rfl, _, _, wb⟩ := open_int Try.underlying5 g3 h3
  have := u8_of_wf wb
  rw [← this]
  exact frameTurned_walk _ ls z y _ W hr hl hb
end Go.Proofs.Ytpdlocdlnoibbaa
