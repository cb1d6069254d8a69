/- Contracts: entries from an index on (rows.Slice and the reference's). -/
import Derived.Test.YteflpphpbecciaaCopied
import Derived.Test.YteflpphpbecciaaRowsLaw
namespace Go.Proofs.Yteflpphpbecciaa
open Go.RowKit

/-- Entries from an index on, so many at most. -/
def sliceP (b : Nat) (es : List EE) (fr : Nat) (most : Int) : List EE := if fr ≤ b ∨ b + es.length < fr ∨ most < 1 then [] else (es.drop (fr - b - 1)).take most.toNat

set_option maxHeartbeats 2000000 in
theorem Slice_any (b bt : Nat) (v : Value) (es : List EE) (fr : Nat) (most : Int) (w : World) (hb : b ≤ 4611686018427387904) (hfr : fr < 18446744073709551616) (hm0 : -9223372036854775808 ≤ most) (hm1 : most ≤ 9223372036854775807) (hr : Rd w 6 v es.length (ecells es)) (hsum : es.length * 80 ≤ 140737488355328) :
    Calls Try.prog 21 #[.agg #[.int .u64 b, .int .u64 bt, v], .int .u64 fr, .int .i64 most] w fun e w' =>
      ∃ v', e = .returned v' ∧ Rd w' 6 v' (sliceP b es fr most).length (ecells (sliceP b es fr most)) ∧ Below w.heap.size w w' := by
  obtain ⟨a, c, rfl⟩ := hr.form
  have hb0 : Below w.heap.size w (w.alloc (.cells #[.int .u64 b, .int .u64 bt, .slice a es.length c] 25)) := (Below.refl _ _).alloc (Nat.le_refl _) _
  have hla := Last_any b bt es.length c a (w.alloc (.cells #[.int .u64 b, .int .u64 bt, .slice a es.length c] 25)) hb (by omega)
  have HLA := Lib.hid hla
  clear hla
  by_cases h1 : fr ≤ b
  · have hs : sliceP b es fr most = [] := by unfold sliceP; rw [if_pos (.inl h1)]
    have hz1 : (fr : Int) ≤ (b : Int) := by omega
    rw [hs]
    go_enter Try.func21, Try.ntmps21
    go_wp2_with fail
    go_ret
    exact ⟨_, rfl, Rd.nil _ _, hb0⟩
  · have hz1 : ¬ (fr : Int) ≤ (b : Int) := by omega
    by_cases h2 : b + es.length < fr
    · have hs : sliceP b es fr most = [] := by unfold sliceP; rw [if_pos (.inr (.inl h2))]
      have hz2 : ((b + es.length : Nat) : Int) < (fr : Int) := by omega
      rw [hs]
      push_cast at hz2
      go_enter Try.func21, Try.ntmps21
      go_wp2_with fail
      refine HLA.out.mono ?_
      rintro e w1 ⟨rfl, hb1⟩
      go_wp2_with fail
      go_ret
      exact ⟨_, rfl, Rd.nil _ _, hb0.trans (hb1.mono hb0.size)⟩
    · have hz2 : ¬ ((b + es.length : Nat) : Int) < (fr : Int) := by omega
      by_cases h3 : most < 1
      · have hs : sliceP b es fr most = [] := by unfold sliceP; rw [if_pos (.inr (.inr h3))]
        rw [hs]
        push_cast at hz2
        go_enter Try.func21, Try.ntmps21
        go_wp2_with fail
        refine HLA.out.mono ?_
        rintro e w1 ⟨rfl, hb1⟩
        go_wp2_with fail
        go_ret
        exact ⟨_, rfl, Rd.nil _ _, hb0.trans (hb1.mono hb0.size)⟩
      · obtain ⟨d, hd⟩ : ∃ d, d = fr - b - 1 := ⟨_, rfl⟩
        have hdl : d < es.length := by omega
        obtain ⟨q, o, rfl, hcap, hsub⟩ := rd_sub hr d (by omega) (by omega)
        rw [← ecells_drop] at hsub
        obtain ⟨m, hm⟩ : ∃ m, m = min most.toNat (es.length - d) := ⟨_, rfl⟩
        have hs : sliceP b es fr most = (es.drop d).take m := by
          unfold sliceP; rw [if_neg (by omega), ← hd, hm]
          rw [List.take_eq_take_iff]; simp
        have htk := hsub.takeN m (by omega)
        rw [← ecells_take] at htk
        have hml : m = ((es.drop d).take m).length := by simp; omega
        rw [hs]
        have hw1 : IntKind.u64.wrap ((fr : Int) - (b : Int)) = (d : Int) + 1 := by rw [IntWalk.u64_in _ (by omega)]; omega
        have hw2 : IntKind.u64.wrap ((d : Int) + 1 - 1) = (d : Int) := by rw [IntWalk.u64_in _ (by omega)]; omega
        have hd0 : (0 : Int) ≤ (d : Int) := by omega
        have hd1 : (d : Int) ≤ (es.length : Int) := by omega
        have hd2 : ¬ d = c := by omega
        have hmin : min most ((es.length - d : Nat) : Int) = (m : Int) := by omega
        have hm0' : (0 : Int) ≤ (m : Int) := by omega
        have hm2 : (m : Int) ≤ ((es.length - d : Nat) : Int) := by omega
        have hm3 : m ≤ c - d := by omega
        have hcl := CloneEnt_any (.slice (some ⟨q, o + d * 6, none⟩) m (c - d)) m (ecells ((es.drop d).take m))
        have HTK := Lib.hid htk
        have HML := Lib.hid hml
        have HCL := Lib.hid (fun wx (h : Below w.heap.size w wx) => hcl wx (htk.keep h) (by omega))
        push_cast at hz2
        clear hs hd htk hml hcl hsub hm h2
        go_enter Try.func21, Try.ntmps21
        go_wp2_with fail
        refine HLA.out.mono ?_
        rintro e w1 ⟨rfl, hb1⟩
        have hC := (C3.new w (.int .u64 b) (.int .u64 bt) (.slice (some ⟨q, o, none⟩) es.length c) 25).keep hb1
        obtain ⟨k0, k1, k2, k3⟩ := hC
        have HB := Lib.hid (hb0.trans (hb1.mono hb0.size))
        clear hb1 hb0
        have hz3 : decide ((b : Int) + (es.length : Int) < (fr : Int)) = false := by simp; omega
        have hz4 : decide (most < 1) = false := by simp; omega
        have HMM : Hid ((most ≤ ((es.length - d : Nat) : Int) → most.toNat = m) ∧ (((es.length - d : Nat) : Int) ≤ most → es.length - d = m)) := by unfold Hid; omega
        clear hmin
        go_wp2_with fail
        all_goals first
          | (have e1 : most.toNat = m := by have := HMM.out; omega
             rw [e1])
          | (have e1 : es.length - d = m := by have := HMM.out; omega
             rw [e1])
        all_goals
          refine (HCL.out _ HB.out).mono ?_
          rintro e w2 ⟨v2, rfl, hown2, hb2⟩
          have hrd2 := own_rd hown2 HTK.out.2.1
          go_wp2_with fail
          go_ret
          refine ⟨_, rfl, ?_, HB.out.trans (hb2.mono HB.out.size)⟩
          rw [← HML.out]; exact hrd2

set_option maxHeartbeats 4000000 in
theorem RSlice_any (b bt : Nat) (v : Value) (es : List EE) (fr : Nat) (most : Int) (w : World) (hb : b ≤ 4611686018427387904) (hfr : fr < 18446744073709551616) (hm0 : -9223372036854775808 ≤ most) (hm1 : most ≤ 9223372036854775807) (hr : Rd w 6 v es.length (ecells es)) (hsum : es.length * 80 ≤ 140737488355328) :
    Calls Try.prog 22 #[.agg #[.int .u64 b, .int .u64 bt, v], .int .u64 fr, .int .i64 most] w fun e w' =>
      ∃ v', e = .returned v' ∧ Rd w' 6 v' (sliceP b es fr most).length (ecells (sliceP b es fr most)) ∧ Below w.heap.size w w' := by
  obtain ⟨a, c, rfl⟩ := hr.form
  have hb0 : Below w.heap.size w (w.alloc (.cells #[.int .u64 b, .int .u64 bt, .slice a es.length c] 25)) := (Below.refl _ _).alloc (Nat.le_refl _) _
  have hC := C3.new w (.int .u64 b) (.int .u64 bt) (.slice a es.length c) 25
  by_cases h1 : fr ≤ b
  · have hs : sliceP b es fr most = [] := by unfold sliceP; rw [if_pos (.inl h1)]
    have hz1 : (fr : Int) ≤ (b : Int) := by omega
    rw [hs]
    go_enter Try.func22, Try.ntmps22
    go_wp2_with fail
    go_ret
    exact ⟨_, rfl, Rd.nil _ _, hb0⟩
  · have hz1 : ¬ (fr : Int) ≤ (b : Int) := by omega
    obtain ⟨d, hd⟩ : ∃ d, fr = b + 1 + d := ⟨fr - b - 1, by omega⟩
    have hs : ∀ j : Nat, j ≤ es.length - d → (j = es.length - d ∨ most ≤ (j : Int)) → (0 < j → (j : Int) ≤ most) → sliceP b es fr most = (es.drop d).take j := by
      intro j hj hor hpos
      unfold sliceP
      rw [show fr - b - 1 = d by omega]
      by_cases h2 : fr ≤ b ∨ b + es.length < fr ∨ most < 1
      · rw [if_pos h2]
        have : j = 0 := by omega
        subst this; rfl
      · rw [if_neg h2, List.take_eq_take_iff]; simp; omega
    have HS := Lib.hid hs
    have HD := Lib.hid hd
    clear hs hd
    go_enter Try.func22, Try.ntmps22
    generalize hSP : sliceP b es fr most = SP
    have HSP := Lib.hid hSP
    clear hSP
    go_wp2_with fail
    go_loopw [7, 8] (fun s7 s8 wr => ∃ j : Nat, j ≤ es.length - d ∧ (0 < j → (j : Int) ≤ most) ∧ s8 = .int .u64 ((fr : Int) + (j : Int)) ∧ wr.ownsRow (w.heap.size + 1) 31 6 s7 j (ecells ((es.drop d).take j)) ∧ C3 wr w.heap.size (.int .u64 b) (.int .u64 bt) (.slice a es.length c) ∧ Below w.heap.size w wr) (fun _ s8 _ => b + es.length + 1 - (intOf s8).toNat)
    case atStart => exact ⟨0, by omega, by omega, by simp, World.ownsRow_nil _ _ _ _, hC, hb0⟩
    case round =>
      clear hC hb0
      obtain ⟨j, hj, hjm, rfl, hown, hC, hbr⟩ := hrel
      have HC := Lib.hid hC
      obtain ⟨k0, k1, k2, k3⟩ := hC
      obtain ⟨ak, ck, rfl⟩ := own_form hown
      have hla := RLast_any b bt es.length c a wr hb (by omega)
      have HLA := Lib.hid hla
      have HOWN := Lib.hid hown
      have HB := Lib.hid hbr
      have hlj : ((es.drop d).take j).length = j := by simp; omega
      have honej : ∀ u ∈ ecells ((es.drop d).take j), u.oneCell' = true := by
        rw [ecells_take, ecells_drop]
        exact fun u hu => hr.2.1 u (List.mem_of_mem_drop (List.mem_of_mem_take hu))
      have HLJ := Lib.hid hlj
      have HONE := Lib.hid honej
      clear hla hown hbr hlj honej
      by_cases h2 : j < es.length - d
      · have hz2 : decide ((fr : Int) + (j : Int) ≤ (b : Int) + (es.length : Int)) = true := by have := HD.out; simp; omega
        by_cases h3 : (j : Int) < most
        · have hz3 : decide ((j : Int) < most) = true := by simp; omega
          obtain ⟨ee, he⟩ : ∃ ee, es[d + j]? = some ee := ⟨es[d + j], List.getElem?_eq_getElem (by omega)⟩
          obtain ⟨q, o, c5, hv, _, hq, x0, x1, x2, x3, x4, x5⟩ := ent_at (hr.keep HB.out) (d + j) ee he
          simp only [Value.slice.injEq, true_and] at hv
          obtain ⟨rfl, rfl⟩ := hv
          have hwj : IntKind.u64.wrap ((fr : Int) + (j : Int) - (b : Int)) = (d : Int) + (j : Int) + 1 := by have := HD.out; rw [IntWalk.u64_in _ (by omega)]; omega
          have hwj2 : IntKind.u64.wrap ((d : Int) + (j : Int) + 1 - 1) = (d : Int) + (j : Int) := by rw [IntWalk.u64_in _ (by omega)]; omega
          have hwj3 : IntKind.u64.wrap ((fr : Int) + (j : Int) + 1) = (fr : Int) + (j : Int) + 1 := IntWalk.u64_in _ (by have := HD.out; omega)
          have hdj0 : (0 : Int) ≤ (d : Int) + (j : Int) := by omega
          have hdj1 : (d : Int) + (j : Int) < (es.length : Int) := by omega
          have hst : ecells ((es.drop d).take (j + 1)) = ecells ((es.drop d).take j) ++ ee.cells := by
            rw [List.take_add_one, List.getElem?_drop, he, ecells_append]; simp [ecells]
          have hone1 : ∀ u ∈ ee.cells, u.oneCell' = true := fun u hu => hr.2.1 u (List.mem_flatMap.2 ⟨ee, List.mem_of_getElem? he, hu⟩)
          have HST := Lib.hid hst
          have HONE1 := Lib.hid hone1
          have HE : Hid (∀ wx, Below wr.heap.size wr wx → wx.cell? ⟨q, o + (d + j) * 6, none⟩ = some (.int .u64 ee.t) ∧ wx.cell? ⟨q, o + (d + j) * 6 + 1, none⟩ = some (.int .i64 ee.k) ∧ wx.cell? ⟨q, o + (d + j) * 6 + 2, none⟩ = some (.int .u64 ee.c) ∧
              wx.cell? ⟨q, o + (d + j) * 6 + 3, none⟩ = some (.int .u64 ee.s) ∧ wx.cell? ⟨q, o + (d + j) * 6 + 4, none⟩ = some ee.d ∧ wx.cell? ⟨q, o + (d + j) * 6 + 5, none⟩ = some ee.m) :=
            fun wx h => ⟨(h.cell (p := ⟨q, o + (d + j) * 6, none⟩) hq).trans x0, (h.cell (p := ⟨q, o + (d + j) * 6 + 1, none⟩) hq).trans x1, (h.cell (p := ⟨q, o + (d + j) * 6 + 2, none⟩) hq).trans x2, (h.cell (p := ⟨q, o + (d + j) * 6 + 3, none⟩) hq).trans x3, (h.cell (p := ⟨q, o + (d + j) * 6 + 4, none⟩) hq).trans x4, (h.cell (p := ⟨q, o + (d + j) * 6 + 5, none⟩) hq).trans x5⟩
          clear hst hone1 he x0 x1 x2 x3 x4 x5
          go_wp2_with fail
          refine HLA.out.mono ?_
          rintro e w1 ⟨rfl, hb1⟩
          obtain ⟨y0, y1, y2, y3, y4, y5⟩ := HE.out w1 hb1
          have hC1 := HC.out.keep hb1
          have HC1 := Lib.hid hC1
          have hBz : w.heap.size + 1 ≤ w1.heap.size := by have := hC1.1; omega
          have hown1 := own_keep HOWN.out hb1
          have hal : Below w1.heap.size w1 (w1.alloc (.cells ee.cells.toArray 31)) := (Below.refl _ _).alloc (Nat.le_refl _) _
          have hrd1 := Rd.new w1 31 6 1 ee.cells rfl (by omega) HONE1.out
          have hown1' := own_keep hown1 hal
          have HBB := Lib.hid (HB.out.trans (hb1.mono HB.out.size))
          have hBz' : w.heap.size + 1 ≤ (w1.alloc (.cells ee.cells.toArray 31)).heap.size := Nat.le_trans hBz hal.size
          clear k0 k1 k2 k3 hb1 HLA HE HOWN HC HB
          obtain ⟨k0, k1, k2, k3⟩ := hC1
          go_wp2_with (at_builtin; refine wpList_app Try.underlying23 infoEnt rfl (by decide) rfl _ _ rfl rfl rfl hown1' hrd1 (by omega) (by omega) hBz' ?_)
          intro v2 w2 hown2 hg2 _
          have hgb := hg2.below hBz' (own_block hown1')
          rw [← HST.out] at hown2
          have hC2 : C3 w2 w.heap.size (.int .u64 b) (.int .u64 bt) (.slice (some ⟨q, o, none⟩) es.length c) := by
            have h := HC1.out.keep hal
            obtain ⟨g0, g1, g2, g3⟩ := h
            exact ⟨Nat.lt_of_lt_of_le g0 hgb.size, (hgb.cell (p := ⟨w.heap.size, 0, none⟩) (Nat.lt_succ_self _)).trans g1, (hgb.cell (p := ⟨w.heap.size, 1, none⟩) (Nat.lt_succ_self _)).trans g2, (hgb.cell (p := ⟨w.heap.size, 2, none⟩) (Nat.lt_succ_self _)).trans g3⟩
          have hB2 : Below w.heap.size w w2 := (HBB.out.trans (hal.mono HBB.out.size)).trans (hgb.mono (Nat.le_succ _))
          have HC2 := Lib.hid hC2
          clear hown1 hown1' hrd1 hg2 hal hBz hBz' k0 k1 k2 k3 hC2 y0 y1 y2 y3 y4 y5 hgb
          go_wp2_with fail
          go_roundw
          case rel => exact ⟨j + 1, by omega, by omega, by congr 1, hown2, HC2.out, hB2⟩
          case measure => have := HD.out; simp [intOf]; omega
        · have hz3 : decide ((j : Int) < most) = false := by simp; omega
          have hfin := HS.out j hj (.inr (by omega)) hjm
          have HF := Lib.hid (HSP.out.symm.trans hfin)
          clear hfin
          go_wp2_with fail
          refine HLA.out.mono ?_
          rintro e w1 ⟨rfl, hb1⟩
          have hrd := (own_rd HOWN.out HONE.out).keep hb1
          have HRD := Lib.hid hrd
          clear hrd
          go_wp2_with fail
          go_ret
          refine ⟨_, rfl, ?_, HB.out.trans (hb1.mono HB.out.size)⟩
          rw [HF.out, HLJ.out]
          exact HRD.out
      · have hz2 : decide ((fr : Int) + (j : Int) ≤ (b : Int) + (es.length : Int)) = false := by have := HD.out; simp; omega
        have hfin := HS.out j hj (.inl (by omega)) hjm
        have HF := Lib.hid (HSP.out.symm.trans hfin)
        clear hfin
        go_wp2_with fail
        refine HLA.out.mono ?_
        rintro e w1 ⟨rfl, hb1⟩
        have hrd := (own_rd HOWN.out HONE.out).keep hb1
        have HRD := Lib.hid hrd
        clear hrd
        go_wp2_with fail
        go_ret
        refine ⟨_, rfl, ?_, HB.out.trans (hb1.mono HB.out.size)⟩
        rw [HF.out, HLJ.out]
        exact HRD.out
end Go.Proofs.Yteflpphpbecciaa
