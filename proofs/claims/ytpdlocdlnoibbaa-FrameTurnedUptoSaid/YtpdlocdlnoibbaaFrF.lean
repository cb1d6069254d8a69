/- The reference's Lay and Same (gen/frlay.py). -/
import Derived.Test.YtpdlocdlnoibbaaFrE
namespace Go.Proofs.Ytpdlocdlnoibbaa
open Go.ChangeShapes Go.WideShapes Go.ChangeAt Go.RowKit

set_option maxHeartbeats 4000000 in
set_option maxRecDepth 100000 in
theorem refLay_any (v : Value) (ls : List (List UInt8)) (w : World) (h : Txs w v ls) (hnl : ls.length ≤ 1000000000000) (hLB : (layF ls).length ≤ 100000000000000) :
    Calls Try.prog 27 #[v] w fun e w' => LayD w w' ls e := by
  obtain ⟨vs, hvl, hr, hel⟩ := h
  obtain ⟨a, c, rfl⟩ := hr.form
  obtain ⟨n, hn⟩ : ∃ n, n = ls.length := ⟨_, rfl⟩
  rw [← hn] at hr hnl ⊢
  have HX := Lib.hid (And.intro hn hvl)
  have HR := Lib.hid hr
  have HEL := Lib.hid hel
  obtain ⟨LB, hLBe⟩ : ∃ LB, LB = layF ls := ⟨_, rfl⟩
  rw [← hLBe] at hLB
  have HLB := Lib.hid hLBe
  clear hr hel hn hvl hLBe
  go_enter Try.func27, Try.ntmps27
  go_wp2_with fail
  go_loopw [5] (fun s5 wr => (∃ i : Nat, i ≤ n ∧ s5 = .int .i64 i ∧ ∀ (j : Nat) (l : List UInt8), j < i → ls[j]? = some l → l.length ≤ 32768) ∧ wr = w) (fun s5 _ => n - (intOf s5).toNat)
  case atStart => exact ⟨⟨0, Nat.zero_le _, rfl, fun j l hj => by omega⟩, rfl⟩
  case round =>
    obtain ⟨⟨i, hi, rfl, hok⟩, rfl⟩ := hrel
    by_cases hA : i < n
    · skip
      obtain ⟨l, hl⟩ : ∃ l, ls[i]? = some l := ⟨ls[i]'(by have := HX.out.1; omega), List.getElem?_eq_getElem _⟩
      obtain ⟨u, hu⟩ : ∃ u, vs[i]? = some u := ⟨vs[i]'(by have := HX.out; omega), List.getElem?_eq_getElem _⟩
      have hrl0 := HEL.out i l u hl hu
      obtain ⟨pa, ca, rfl⟩ := hrl0.form
      obtain ⟨b1, o1, k1, hv1, _, cell1⟩ := HR.out.at (by omega)
      simp only [Value.slice.injEq, true_and] at hv1
      obtain ⟨rfl, rfl⟩ := hv1
      have hc1 := cell1 i _ hu
      have bq1 := World.block_lt_of_cell? _ _ hc1
      have hcT := hc1
      have hi0 : (0 : Int) ≤ (i : Int) := by omega
      have zi : (i : Int) < (n : Int) := by omega
      have HW7 : Hid (IntKind.i64.wrap ((i : Int) + 1) = ((i + 1 : Nat) : Int)) := Lib.hid ((IntWalk.i64_in _ (by omega)).trans (by omega))
      have HS := Lib.hid (And.intro hok hl)
      clear hok hl hu hrl0 cell1 hc1
      by_cases hbig : 32768 < l.length
      · have z4 : (32768 : Int) < (l.length : Int) := by omega
        go_wp2_with fail
        go_ret2
        exact LayD.bad _ _ _ (okL_not HS.out.2 hbig) (Below.refl _ _)
      · have z4 : ¬ ((32768 : Int) < (l.length : Int)) := by omega
        go_wp2_with fail
        go_roundw
        case rel =>
          refine ⟨⟨i + 1, by omega, by first | rfl | (rw [HW7.out]) | go_num, fun j l' hj hl' => ?_⟩, by first | rfl | trivial⟩
          rcases Nat.lt_or_ge j i with h1 | h1
          · exact HS.out.1 j l' h1 hl'
          · obtain rfl : j = i := by omega
            rw [HS.out.2] at hl'
            obtain rfl := Option.some.inj hl'
            omega
        case measure =>
          simp [intOf]
          omega
    · have zi : ¬ ((i : Int) < (n : Int)) := by omega
      have hok2 : okL ls = true := okL_of (fun j l hj hl => hok j l (by have := HX.out.1; omega) hl)
      have hok3 : ∀ (j : Nat) (l : List UInt8), ls[j]? = some l → l.length ≤ 32768 := fun j l hl => hok j l (by have := HX.out.1; have := (List.getElem?_eq_some_iff.1 hl).1; omega) hl
      have HOK := Lib.hid (And.intro hok2 hok3)
      clear hok hok2 hok3
      go_wp2_with fail
      go_loopw [4, 6] (fun s4 s6 wz => ∃ (i : Nat) (acc : List UInt8), i ≤ n ∧ s6 = .int .i64 i ∧ wz.ownsRow wr.heap.size 5 1 s4 acc.length (bv acc) ∧ acc ++ layF (ls.drop i) = LB ∧ Below wr.heap.size wr wz) (fun _ s6 _ => n - (intOf s6).toNat)
      case atStart => exact ⟨0, [], Nat.zero_le _, rfl, World.ownsRow_nil _ _ _ _, by rw [HLB.out]; rfl, Below.refl _ _⟩
      case round =>
        clear hA zi hi
        obtain ⟨i, acc, hi, rfl, hown, hlay, hbr⟩ := hrel
        have hzr := hbr.size
        obtain ⟨al, cl, rfl⟩ := own_formq hown
        by_cases hA : i < n
        · skip
          obtain ⟨l, hl⟩ : ∃ l, ls[i]? = some l := ⟨ls[i]'(by have := HX.out.1; omega), List.getElem?_eq_getElem _⟩
          obtain ⟨u, hu⟩ : ∃ u, vs[i]? = some u := ⟨vs[i]'(by have := HX.out; omega), List.getElem?_eq_getElem _⟩
          have hrl0 := HEL.out i l u hl hu
          obtain ⟨pa, ca, rfl⟩ := hrl0.form
          obtain ⟨b1, o1, k1, hv1, _, cell1⟩ := HR.out.at (by omega)
          simp only [Value.slice.injEq, true_and] at hv1
          obtain ⟨rfl, rfl⟩ := hv1
          have hc1 := cell1 i _ hu
          have bq1 := World.block_lt_of_cell? _ _ hc1
          have hcT := (hbr.cell (p := ⟨b1, o1 + i, none⟩) bq1).trans hc1
          have hrl := hrl0.keep hbr
          have hi0 : (0 : Int) ≤ (i : Int) := by omega
          have zi : (i : Int) < (n : Int) := by omega
          have HW7 : Hid (IntKind.i64.wrap ((i : Int) + 1) = ((i + 1 : Nat) : Int)) := Lib.hid ((IntWalk.i64_in _ (by omega)).trans (by omega))
          rw [layF_drop hl] at hlay
          have hlk := HOK.out.2 i l hl
          have hlen : acc.length + (frm l).length ≤ 100000000000000 := by
            rw [← hlay] at hLB
            simp only [List.length_append] at hLB
            omega
          have hfr := Frame_any (.slice pa l.length ca) l _ (by omega) hrl
          have HS := Lib.hid (And.intro hlay hl)
          have HBR := Lib.hid hbr
          clear hlay hl hu cell1 hc1 hbr hrl0 hrl
          go_wp2_with fail
          refine hfr.mono ?_
          rintro e w1 ⟨v1, rfl, hr1, hb1⟩
          have hown1 := own_keep hown hb1
          have hbB := HBR.out.trans (hb1.mono hzr)
          have hz1 := Nat.le_trans hzr hb1.size
          clear hown hb1 hfr
          go_wp2_with (at_builtin; refine wpList_app Try.underlying22 info8 rfl (by decide) rfl _ _ rfl rfl rfl hown1 hr1 (by omega) (by omega) hz1 ?_)
          intro v2 w2 hown2 hg2 _
          have hb2 := hbB.trans (hg2.below hz1 (own_block hown1))
          rw [← bv_append, ← List.length_append] at hown2
          obtain ⟨a7, c7, rfl⟩ := own_formq hown2
          have HF := Lib.hid (And.intro hown2 hb2)
          clear hown1 hown2 hg2 hbB hb2 hr1
          go_wp2_with fail
          go_roundw
          case rel => exact ⟨i + 1, acc ++ frm l, by omega, by first | rfl | (rw [HW7.out]) | go_num, HF.out.1, by rw [← HS.out.1, List.append_assoc], HF.out.2⟩
          case measure =>
            simp [intOf]
            omega
        · have zi : ¬ ((i : Int) < (n : Int)) := by omega
          have hacc : acc = layF ls := by
            rw [List.drop_of_length_le (by have := HX.out.1; omega), layF, List.append_nil, HLB.out] at hlay
            exact hlay
          have HAC := Lib.hid hacc
          have HF := Lib.hid (And.intro hown hbr)
          clear hown hbr hlay hacc
          go_wp2_with fail
          go_ret2
          exact LayD.good HOK.out.1 HAC.out HF.out.2 HF.out.1
/-- What each operation hands on. -/
def sameTF (i n b1 o1 c b2 o2 c2 L ca cb : Nat) (pa pb : Option Addr) (l : List UInt8) : Nat → Value → World → Prop
  | 0, v, _ => v = .slice (some ⟨b1, o1, none⟩) n c
  | 1, v, _ => v = .int .i64 i
  | 2, v, _ => v = .pointer (some ⟨b1, o1 + i, none⟩)
  | 3, v, _ => v = .slice pa L ca
  | 4, v, _ => v = .string ⟨l.toArray⟩
  | 5, v, _ => v = .slice (some ⟨b2, o2, none⟩) n c2
  | 6, v, _ => v = .int .i64 i
  | 7, v, _ => v = .pointer (some ⟨b2, o2 + i, none⟩)
  | 8, v, _ => v = .slice pb L cb
  | 9, v, _ => v = .string ⟨l.toArray⟩
  | 10, v, _ => v = .bool false
  | _, _, _ => True

set_option maxHeartbeats 4000000 in
set_option maxRecDepth 100000 in
theorem Same_any (v v2 : Value) (ls : List (List UInt8)) (w : World) (h : Txs w v ls) (h2 : Txs w v2 ls) (hnl : ls.length ≤ 1000000000000) :
    Calls Try.prog 28 #[v, v2] w fun e w' => e = .returned (.bool true) ∧ Below w.heap.size w w' := by
  obtain ⟨vs, hvl, hr, hel⟩ := h
  obtain ⟨vt, hvl2, hr2, hel2⟩ := h2
  obtain ⟨a, c, rfl⟩ := hr.form
  obtain ⟨a2, c2, rfl⟩ := hr2.form
  obtain ⟨n, hn⟩ : ∃ n, n = ls.length := ⟨_, rfl⟩
  rw [← hn] at hr hr2 hnl ⊢
  have HX := Lib.hid (And.intro hn (And.intro hvl hvl2))
  have HR := Lib.hid (And.intro hr hr2)
  have HEL := Lib.hid (And.intro hel hel2)
  clear hr hel hn hvl hr2 hel2 hvl2
  go_enter Try.func28, Try.ntmps28
  go_wp2_with fail
  go_loopw [5] (fun s5 wr => ∃ i : Nat, i ≤ n ∧ s5 = .int .i64 i ∧ Below w.heap.size w wr) (fun s5 _ => n - (intOf s5).toNat)
  case atStart => exact ⟨0, Nat.zero_le _, rfl, Below.refl _ _⟩
  case round =>
    obtain ⟨i, hi, rfl, hbr⟩ := hrel
    by_cases hA : i < n
    · obtain ⟨l, hl⟩ : ∃ l, ls[i]? = some l := ⟨ls[i]'(by have := HX.out.1; omega), List.getElem?_eq_getElem _⟩
      obtain ⟨u, hu⟩ : ∃ u, vs[i]? = some u := ⟨vs[i]'(by have := HX.out; omega), List.getElem?_eq_getElem _⟩
      obtain ⟨u2, hu2⟩ : ∃ u, vt[i]? = some u := ⟨vt[i]'(by have := HX.out; omega), List.getElem?_eq_getElem _⟩
      have hrl := (HEL.out.1 i l u hl hu).keep hbr
      have hrl2 := (HEL.out.2 i l u2 hl hu2).keep hbr
      obtain ⟨pa, ca, rfl⟩ := hrl.form
      obtain ⟨pb, cb, rfl⟩ := hrl2.form
      obtain ⟨b1, o1, k1, hv1, _, cell1⟩ := (HR.out.1.keep hbr).at (by omega)
      simp only [Value.slice.injEq, true_and] at hv1
      obtain ⟨rfl, rfl⟩ := hv1
      obtain ⟨b2, o2, k2, hv2, _, cell2⟩ := (HR.out.2.keep hbr).at (by omega)
      simp only [Value.slice.injEq, true_and] at hv2
      obtain ⟨rfl, rfl⟩ := hv2
      have hc1 := cell1 i _ hu
      have hc2 := cell2 i _ hu2
      have HC := Lib.hid (And.intro (And.intro hc1 (World.block_lt_of_cell? _ _ hc1)) (And.intro hc2 (World.block_lt_of_cell? _ _ hc2)))
      have HL := Lib.hid (And.intro hrl hrl2)
      have HBR := Lib.hid hbr
      have hi0 : (0 : Int) ≤ (i : Int) := by omega
      have zi : (i : Int) < (n : Int) := by omega
      have HW7 : Hid (IntKind.i64.wrap ((i : Int) + 1) = ((i + 1 : Nat) : Int)) := Lib.hid ((IntWalk.i64_in _ (by omega)).trans (by omega))
      clear hl hu hu2 hrl hrl2 cell1 cell2 hc1 hc2 hbr
      go_wp2_with fail
      refine wp_region_steps [some 17, some 18, some 19, some 20, some 21, some 22, some 23, some 24, some 25, some 26, some 27] [] (sameTF i n b1 o1 c b2 o2 c2 l.length ca cb pa pb l) (fun _ wx wy => Below wx.heap.size wx wy) (fun wx => Below wr.heap.size wr wx) (by kernel_rfl) (by kernel_rfl) rfl (by kernel_rfl) (Below.refl _ _).drew (fun _ wx => Below.refl _ _) (fun _ wx wy h k => h.trans (k.mono h.size)) ?hF ?hstep ?hend
      case hF =>
        exact ⟨fun _ _ _ _ _ _ h => h, ⟨fun _ _ _ _ _ _ h => h, ⟨fun _ _ _ _ _ _ h => h, ⟨fun _ _ _ _ _ _ h => h, ⟨fun _ _ _ _ _ _ h => h, ⟨fun _ _ _ _ _ _ h => h, ⟨fun _ _ _ _ _ _ h => h, ⟨fun _ _ _ _ _ _ h => h, ⟨fun _ _ _ _ _ _ h => h, ⟨fun _ _ _ _ _ _ h => h, ⟨fun _ _ _ _ _ _ h => h, trivial⟩⟩⟩⟩⟩⟩⟩⟩⟩⟩⟩
      case hstep =>
        -- operation 0: Op.move (tmp 0)
        refine ⟨fun r wx hG hs hq hf => ?_, ?_⟩
        · have e0 : r 0 = .slice (some ⟨b1, o1, none⟩) n c := hs 0 rfl
          refine (if_pos rfl).symm ▸ ?_
          clear hs hq hf
          unfold gives
          go_simp
          exact ⟨Below.refl _ _, rfl⟩
        -- operation 1: Op.move (tmp 5)
        refine ⟨fun r wx hG hs hq hf => ?_, ?_⟩
        · have e5 : r 5 = .int .i64 i := hs 5 rfl
          refine (if_pos rfl).symm ▸ ?_
          clear hs hq hf
          unfold gives
          go_simp
          exact ⟨Below.refl _ _, rfl⟩
        -- operation 2: Op.indexAddr 35 (tmp 17) (tmp 18)
        refine ⟨fun r wx hG hs hq hf => ?_, ?_⟩
        · have h0 : r 17 = .slice (some ⟨b1, o1, none⟩) n c := hf.1
          have h1 : r 18 = .int .i64 i := hf.2.1
          refine (if_pos rfl).symm ▸ ?_
          clear hs hq hf
          unfold gives
          go_simp
          exact ⟨Below.refl _ _, rfl⟩
        -- operation 3: Op.load 22 (tmp 19)
        refine ⟨fun r wx hG hs hq hf => ?_, ?_⟩
        · have h2 : r 19 = .pointer (some ⟨b1, o1 + i, none⟩) := hf.1
          refine (if_pos rfl).symm ▸ ?_
          clear hs hq hf
          unfold gives
          have hc := (hG.cell (p := ⟨b1, o1 + i, none⟩) HC.out.1.2).trans HC.out.1.1
          go_simp
          exact ⟨Below.refl _ _, rfl⟩
        -- operation 4: Op.convert 22 9 (tmp 20)
        refine ⟨fun r wx hG hs hq hf => ?_, ?_⟩
        · have h3 : r 20 = .slice pa l.length ca := hf.1
          refine (if_pos rfl).symm ▸ ?_
          clear hs hq hf
          unfold gives
          have hcv := string_of_bytes (P := Try.prog) Try.underlying22 Try.underlying5 Try.underlying9 (l := l) (HL.out.1.keep hG)
          go_simp
          exact ⟨Below.refl _ _, rfl⟩
        -- operation 5: Op.move (tmp 1)
        refine ⟨fun r wx hG hs hq hf => ?_, ?_⟩
        · have e1 : r 1 = .slice (some ⟨b2, o2, none⟩) n c2 := hs 1 rfl
          refine (if_pos rfl).symm ▸ ?_
          clear hs hq hf
          unfold gives
          go_simp
          exact ⟨Below.refl _ _, rfl⟩
        -- operation 6: Op.move (tmp 5)
        refine ⟨fun r wx hG hs hq hf => ?_, ?_⟩
        · have e5 : r 5 = .int .i64 i := hs 5 rfl
          refine (if_pos rfl).symm ▸ ?_
          clear hs hq hf
          unfold gives
          go_simp
          exact ⟨Below.refl _ _, rfl⟩
        -- operation 7: Op.indexAddr 35 (tmp 22) (tmp 23)
        refine ⟨fun r wx hG hs hq hf => ?_, ?_⟩
        · have h5 : r 22 = .slice (some ⟨b2, o2, none⟩) n c2 := hf.1
          have h6 : r 23 = .int .i64 i := hf.2.1
          refine (if_pos rfl).symm ▸ ?_
          clear hs hq hf
          unfold gives
          go_simp
          exact ⟨Below.refl _ _, rfl⟩
        -- operation 8: Op.load 22 (tmp 24)
        refine ⟨fun r wx hG hs hq hf => ?_, ?_⟩
        · have h7 : r 24 = .pointer (some ⟨b2, o2 + i, none⟩) := hf.1
          refine (if_pos rfl).symm ▸ ?_
          clear hs hq hf
          unfold gives
          have hc := (hG.cell (p := ⟨b2, o2 + i, none⟩) HC.out.2.2).trans HC.out.2.1
          go_simp
          exact ⟨Below.refl _ _, rfl⟩
        -- operation 9: Op.convert 22 9 (tmp 25)
        refine ⟨fun r wx hG hs hq hf => ?_, ?_⟩
        · have h8 : r 25 = .slice pb l.length cb := hf.1
          refine (if_pos rfl).symm ▸ ?_
          clear hs hq hf
          unfold gives
          have hcv := string_of_bytes (P := Try.prog) Try.underlying22 Try.underlying5 Try.underlying9 (l := l) (HL.out.2.keep hG)
          go_simp
          exact ⟨Below.refl _ _, rfl⟩
        -- operation 10: Op.binOp BinOp.neq 9 (tmp 21) (tmp 26) 9
        refine ⟨fun r wx hG hs hq hf => ?_, ?_⟩
        · have h4 : r 21 = .string ⟨l.toArray⟩ := hf.1
          have h9 : r 26 = .string ⟨l.toArray⟩ := hf.2.1
          refine (if_pos rfl).symm ▸ ?_
          clear hs hq hf
          unfold gives
          go_simp
          exact ⟨Below.refl _ _, rfl⟩
        exact trivial
      case hend =>
        intro u wz hG hfin
        have z10 : u 10 = .bool false := hfin 10 (by decide) (by kernel_rfl)
        clear hfin
        simp only [fill]
        go_simp
        go_wp2_with fail
        go_roundw
        case rel => exact ⟨i + 1, by omega, by first | rfl | (rw [HW7.out]) | go_num, HBR.out.trans (hG.mono HBR.out.size)⟩
        case measure =>
          simp [intOf]
          omega
    · have zi : ¬ ((i : Int) < (n : Int)) := by omega
      have HBR := Lib.hid hbr
      clear hbr
      go_wp2_with fail
      go_ret
      exact ⟨rfl, HBR.out⟩
end Go.Proofs.Ytpdlocdlnoibbaa
