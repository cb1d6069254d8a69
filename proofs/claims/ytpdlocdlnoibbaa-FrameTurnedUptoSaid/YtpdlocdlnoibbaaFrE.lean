/- frame.Lay, the reference's Lay and Same (gen/frlay.py). -/
import Derived.Test.YtpdlocdlnoibbaaFrD
namespace Go.Proofs.Ytpdlocdlnoibbaa
open Go.ChangeShapes Go.WideShapes Go.ChangeAt Go.RowKit

/-- Are all short enough? -/
def okL (ls : List (List UInt8)) : Bool := ls.all fun r => decide (r.length ≤ 32768)
def layE (ls : List (List UInt8)) : Int := if okL ls then 0 else 4
def layO (ls : List (List UInt8)) : List UInt8 := if okL ls then layF ls else []
theorem layF_drop {ls : List (List UInt8)} {i : Nat} {l : List UInt8} (h : ls[i]? = some l) : layF (ls.drop i) = frm l ++ layF (ls.drop (i + 1)) := by
  obtain ⟨hi, he⟩ := List.getElem?_eq_some_iff.1 h
  rw [List.drop_eq_getElem_cons hi, layF, he]
theorem okL_of {ls : List (List UInt8)} (h : ∀ (j : Nat) (l : List UInt8), j < ls.length → ls[j]? = some l → l.length ≤ 32768) : okL ls = true := by
  rw [okL, List.all_eq_true]
  intro x hx
  obtain ⟨j, hj⟩ := List.getElem?_of_mem hx
  exact decide_eq_true (h j x (List.getElem?_eq_some_iff.1 hj).1 hj)
theorem okL_not {ls : List (List UInt8)} {i : Nat} {l : List UInt8} (h : ls[i]? = some l) (hl : 32768 < l.length) : okL ls = false := by
  rw [Bool.eq_false_iff]
  intro he
  rw [okL, List.all_eq_true] at he
  have := of_decide_eq_true (he l (List.mem_of_getElem? h))
  omega
theorem okL_iff (ls : List (List UInt8)) : okL ls = true ↔ ∀ r ∈ ls, r.length ≤ 32768 := by
  rw [okL, List.all_eq_true]
  exact ⟨fun h r hr => of_decide_eq_true (h r hr), fun h r hr => decide_eq_true (h r hr)⟩
/-- What Lay hands back. -/
def LayD (w w' : World) (ls : List (List UInt8)) (e : Ending) : Prop :=
  Below w.heap.size w w' ∧ ∃ v, e = .returned (.tuple #[v, .int .i64 (layE ls)]) ∧ w'.ownsRow w.heap.size 5 1 v (layO ls).length (bv (layO ls))
theorem LayD.bad (w w' : World) (ls : List (List UInt8)) (h : okL ls = false) (hb : Below w.heap.size w w') : LayD w w' ls (.returned (.tuple #[.slice none 0 0, .int .i64 4])) := by
  refine ⟨hb, _, by rw [layE, if_neg (by simp [h])], ?_⟩
  rw [layO, if_neg (by simp [h])]
  exact World.ownsRow_nil _ _ _ _
theorem LayD.good {w w' : World} {ls : List (List UInt8)} {v : Value} {acc : List UInt8} (h : okL ls = true) (ha : acc = layF ls) (hb : Below w.heap.size w w') (ho : w'.ownsRow w.heap.size 5 1 v acc.length (bv acc)) : LayD w w' ls (.returned (.tuple #[v, .int .i64 0])) := by
  refine ⟨hb, _, by rw [layE, if_pos h], ?_⟩
  rw [layO, if_pos h, ← ha]
  exact ho
set_option maxHeartbeats 4000000 in
set_option maxRecDepth 100000 in
theorem Lay_any (v : Value) (ls : List (List UInt8)) (w : World) (h : Txs w v ls) (hnl : ls.length ≤ 1000000000000) (hLB : (layF ls).length ≤ 100000000000000) :
    Calls Try.prog 26 #[v] w fun e w' => LayD w w' ls e := by
  obtain ⟨vs, hvl, hr, hel⟩ := h
  obtain ⟨a, c, rfl⟩ := hr.form
  obtain ⟨n, hn⟩ : ∃ n, n = ls.length := ⟨_, rfl⟩
  rw [← hn] at hr hnl ⊢
  have HX := Lib.hid (And.intro hn hvl)
  have HR := Lib.hid hr
  have HEL := Lib.hid hel
  obtain ⟨LB, hLBe⟩ : ∃ LB, LB = layF ls := ⟨_, rfl⟩
  rw [← hLBe] at hLB
  have HLB := Lib.hid hLBe
  clear hr hel hn hvl hLBe
  go_enter Try.func26, Try.ntmps26
  go_wp2_with fail
  go_loopw [4, 6, 7, 8, 11] (fun s4 _ _ _ s11 wr => ∃ (i : Nat) (acc : List UInt8), i ≤ n ∧ s11 = .int .i64 i ∧ wr.ownsRow w.heap.size 5 1 s4 acc.length (bv acc) ∧ acc ++ layF (ls.drop i) = LB ∧ (∀ (j : Nat) (l : List UInt8), j < i → ls[j]? = some l → l.length ≤ 32768) ∧ Below w.heap.size w wr) (fun _ _ _ _ s11 _ => n - (intOf s11).toNat)
  case atStart => exact ⟨0, [], Nat.zero_le _, rfl, World.ownsRow_nil _ _ _ _, by rw [HLB.out]; rfl, fun j l hj => by omega, Below.refl _ _⟩
  case round =>
    obtain ⟨i, acc, hi, rfl, hown, hlay, hok, hbr⟩ := hrel
    have hzr := hbr.size
    obtain ⟨al, cl, rfl⟩ := own_formq hown
    by_cases hA : i < n
    · skip
      obtain ⟨l, hl⟩ : ∃ l, ls[i]? = some l := ⟨ls[i]'(by have := HX.out.1; omega), List.getElem?_eq_getElem _⟩
      obtain ⟨u, hu⟩ : ∃ u, vs[i]? = some u := ⟨vs[i]'(by have := HX.out; omega), List.getElem?_eq_getElem _⟩
      have hrl0 := HEL.out i l u hl hu
      obtain ⟨pa, ca, rfl⟩ := hrl0.form
      obtain ⟨b1, o1, k1, hv1, _, cell1⟩ := HR.out.at (by omega)
      simp only [Value.slice.injEq, true_and] at hv1
      obtain ⟨rfl, rfl⟩ := hv1
      have hc1 := cell1 i _ hu
      have bq1 := World.block_lt_of_cell? _ _ hc1
      have hcT := (hbr.cell (p := ⟨b1, o1 + i, none⟩) bq1).trans hc1
      have hrl := hrl0.keep hbr
      have hi0 : (0 : Int) ≤ (i : Int) := by omega
      have zi : (i : Int) < (n : Int) := by omega
      have HW7 : Hid (IntKind.i64.wrap ((i : Int) + 1) = ((i + 1 : Nat) : Int)) := Lib.hid ((IntWalk.i64_in _ (by omega)).trans (by omega))
      rw [layF_drop hl] at hlay
      have hfl := frm_length l
      have hlen : acc.length + (frm l).length ≤ 100000000000000 := by
        rw [← hlay] at hLB
        simp only [List.length_append] at hLB
        omega
      have HS := Lib.hid (And.intro hlay (And.intro hok hl))
      have HBR := Lib.hid hbr
      clear hlay hok hl hu cell1 hc1 hbr
      have HRL0 := Lib.hid hrl0
      clear hrl0
      by_cases hbig : 32768 < l.length
      · have z4 : (32768 : Int) < (l.length : Int) := by omega
        go_wp2_with fail
        go_ret2
        exact LayD.bad _ _ _ (okL_not HS.out.2.2 hbig) HBR.out
      · have z4 : ¬ ((32768 : Int) < (l.length : Int)) := by omega
        have z5 : IntKind.u64.wrap (l.length : Int) = (l.length : Int) := IntWalk.u64_in _ (by omega)
        have hnb := numB_len l.length (by omega)
        obtain ⟨nb, hnbe⟩ : ∃ nb, nb = numB l.length := ⟨_, rfl⟩
        have hnum := Num_any l.length wr (by omega)
        rw [← hnbe] at hnum hfl hnb
        have HNB := Lib.hid hnbe
        clear hnbe
        go_wp2_with fail
        refine hnum.mono ?_
        rintro e w1 ⟨v1, rfl, hr1, hb1⟩
        have hs1 := Sum_any v1 nb w1 (by omega) hr1
        have hz1 := hb1.size
        go_wp2_with fail
        refine hs1.mono ?_
        rintro e w2 ⟨rfl, hb2⟩
        have hb12 := hb1.trans (hb2.mono hz1)
        have hs2 := Sum_any (.slice pa l.length ca) l w2 (by omega) (hrl.keep hb12)
        have hz2 := hb2.size
        go_wp2_with fail
        refine hs2.mono ?_
        rintro e w3 ⟨rfl, hb3⟩
        have hj := Join_any (Crc.sum nb) (Crc.sum l) l.length w3 (Crc.sum_lt _) (Crc.sum_lt _) (by omega)
        have hsj : Crc.join (Crc.sum nb) (Crc.sum l) l.length = Crc.sum (nb ++ l) := (Crc.sum_append nb l).symm
        rw [hsj] at hj
        have hz3 := hb3.size
        obtain ⟨s1, hs1e⟩ : ∃ s1, s1 = Crc.sum nb := ⟨_, rfl⟩
        obtain ⟨s2, hs2e⟩ : ∃ s2, s2 = Crc.sum l := ⟨_, rfl⟩
        obtain ⟨s, hse⟩ : ∃ s, s = Crc.sum (nb ++ l) := ⟨_, rfl⟩
        rw [← hs1e, ← hs2e, ← hse] at hj
        rw [← hs1e, ← hs2e]
        have HSE := Lib.hid hse
        clear hs1e hs2e hse hsj
        go_wp2_with fail
        refine hj.mono ?_
        rintro e w4 ⟨rfl, hb4⟩
        have hz4 := hb4.size
        have hb14 := (hb12.trans (hb3.mono (by omega))).trans (hb4.mono (by omega))
        have hb24 := (hb2.trans (hb3.mono hz2)).trans (hb4.mono (by omega))
        have hr14 := hr1.keep hb24
        have hrl4 := hrl.keep hb14
        have hown4 := own_keep hown hb14
        have hbB := HBR.out.trans (hb14.mono hzr)
        have HBB := Lib.hid hbB
        have hz04 : w.heap.size ≤ w4.heap.size := by omega
        clear hb1 hb2 hb3 hb4 hb12 hb14 hb24 hr1 hrl hown hnum hs1 hs2 hj hbB hrl4
        go_wp2_with (at_builtin; refine wpList_app Try.underlying22 info8 rfl (by decide) rfl _ _ rfl rfl rfl hown4 hr14 (by omega) (by omega) hz04 ?_)
        intro v5 w5 hown5 hg5 _
        have hb5 := HBB.out.trans (hg5.below hz04 (own_block hown4))
        have hz5 := Nat.le_trans hz04 hg5.grown.size
        rw [← bv_append, ← List.length_append] at hown5
        obtain ⟨acc2, hac2⟩ : ∃ q, q = acc ++ nb := ⟨_, rfl⟩
        rw [← hac2] at hown5
        have hl2 : acc2.length ≤ acc.length + nb.length := by rw [hac2, List.length_append]; exact Nat.le_refl _
        have HA2 := Lib.hid hac2
        have hrl5 := HRL0.out.keepB hb5 (Nat.le_refl _)
        obtain ⟨a5, c5, rfl⟩ := own_formq hown5
        clear hown4 hr14 hg5 hac2
        go_wp2_with (at_builtin; refine wpList_app Try.underlying22 info8 rfl (by decide) rfl _ _ rfl rfl rfl hown5 hrl5 (by omega) (by omega) hz5 ?_)
        intro v6 w6 hown6 hg6 _
        have hb6 := hb5.trans (hg6.below hz5 (own_block hown5))
        have hz6 := Nat.le_trans hz5 hg6.grown.size
        rw [← bv_append, ← List.length_append] at hown6
        obtain ⟨acc3, hac3⟩ : ∃ q, q = acc2 ++ l := ⟨_, rfl⟩
        rw [← hac3] at hown6
        have hl3 : acc3.length ≤ acc2.length + l.length := by rw [hac3, List.length_append]; exact Nat.le_refl _
        have HA3 := Lib.hid hac3
        obtain ⟨a6, c6, rfl⟩ := own_formq hown6
        clear hown5 hrl5 hg6 hac3 hb5 hz5
        go_wp2_with (at_builtin; refine wpList_app Try.underlying22 info8 rfl (by decide) rfl _ _ rfl rfl rfl (hown6.alloc _) (rd_be4 w6 s) (by omega) (by omega) (by simp; omega) ?_)
        intro v7 w7 hown7 hg7 _
        have hb7 := hb6.trans (hg7.alloc.below hz6 (own_block hown6))
        have e4 : (4 : Nat) = (be 4 s).length := (be_length 4 s).symm
        rw [← bv_append] at hown7
        have hown8 : w7.ownsRow w.heap.size 5 1 v7 (acc3 ++ be 4 s).length (bv (acc3 ++ be 4 s)) := by rw [List.length_append, ← e4]; exact hown7
        obtain ⟨a7, c7, rfl⟩ := own_formq hown8
        have HF := Lib.hid (And.intro hown8 hb7)
        clear hown6 hown7 hown8 hg7 hb6 hb7 e4
        go_wp2_with fail
        go_roundw
        case rel =>
          refine ⟨i + 1, acc3 ++ be 4 s, by omega, by first | rfl | (rw [HW7.out]) | go_num, HF.out.1, ?_, fun j l' hj hl' => ?_, HF.out.2⟩
          · rw [← HS.out.1, HA3.out, HA2.out, HNB.out, frm, HSE.out, HNB.out]
            simp only [List.append_assoc]
          · rcases Nat.lt_or_ge j i with h1 | h1
            · exact HS.out.2.1 j l' h1 hl'
            · obtain rfl : j = i := by omega
              rw [HS.out.2.2] at hl'
              obtain rfl := Option.some.inj hl'
              omega
        case measure =>
          simp [intOf]
          omega
    · have zi : ¬ ((i : Int) < (n : Int)) := by omega
      have hok2 : okL ls = true := okL_of (fun j l hj hl => hok j l (by have := HX.out.1; omega) hl)
      have hacc : acc = layF ls := by
        rw [List.drop_of_length_le (by have := HX.out.1; omega), layF, List.append_nil, HLB.out] at hlay
        exact hlay
      have HAC := Lib.hid hacc
      have HF := Lib.hid (And.intro hown hbr)
      clear hown hbr hlay hok hacc
      go_wp2_with fail
      go_ret2
      exact LayD.good hok2 HAC.out HF.out.2 HF.out.1
end Go.Proofs.Ytpdlocdlnoibbaa
