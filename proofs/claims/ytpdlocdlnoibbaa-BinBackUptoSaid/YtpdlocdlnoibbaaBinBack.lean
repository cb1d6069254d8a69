/- The law BinBack: numbers and texts that were laid one behind the other are read so (gen/binback.py). -/
import Derived.Test.YtpdlocdlnoibbaaBackP
import Derived.Test.YtpdlocdlnoibbaaRdb
import Derived.Test.YtpdlocdlnoibbaaTw
import Derived.Deep.DeepCutAuto
import Derived.Deep.CutBlock
namespace Go.Proofs.Ytpdlocdlnoibbaa
open Go.ChangeShapes Go.WideShapes Go.ChangeAt Go.RowKit

theorem infoU8p : (Try.prog.info? 5).map (fun i => (i.zero, i.size, i.bytes)) = some (some (.int .u8 0), 1, 1) := by kernel_rfl
theorem own_formp {w : World} {B : Nat} {e : TypeId} {size : Nat} {v : Value} {n : Nat} {xs : List Value} (h : w.ownsRow B e size v n xs) : ∃ a c, v = .slice a n c := by
  obtain ⟨hl, ⟨rfl, rfl⟩ | ⟨g, cap, cur, hv, _⟩⟩ := h
  · exact ⟨_, _, rfl⟩
  · exact ⟨_, _, hv⟩
theorem below_p {w w' : World} {p B : Nat} (hg : w.grownBy w' (some p)) (hp : B ≤ p) (hB : B ≤ w.heap.size) : Below B w w' :=
  ⟨hg.os, hg.tape, hg.output, hg.size, fun k hk => hg.block k (by omega) (fun e => by simp only [Option.some.injEq] at e; omega)⟩
theorem grown_below {a b c : World} {r : Option Nat} (h : a.grownBy b r) (k : Below b.heap.size b c) : a.grownBy c r :=
  ⟨by first | exact k.os.trans h.os | exact h.os.trans k.os, by first | exact k.tape.trans h.tape | exact h.tape.trans k.tape, by first | exact k.output.trans h.output | exact h.output.trans k.output, Nat.le_trans h.size k.size, fun i hi hn => (k.block i (Nat.lt_of_lt_of_le hi h.size)).trans (h.block i hi hn)⟩
/-- What each operation hands on. -/
def backF (l : List UInt8) (j b1 o1 y c1 ca cr : Nat) (pa ar : Option Addr) : Nat → Value → World → Prop
  | 0, v, _ => v = .int .i64 0
  | 1, v, _ => v = .bool false
  | 2, v, _ => v = .bool false
  | 3, v, _ => v = .slice ar l.length cr
  | 4, v, _ => v = .string ⟨l.toArray⟩
  | 5, v, _ => v = .slice (some ⟨b1, o1, none⟩) y c1
  | 6, v, _ => v = .int .i64 j
  | 7, v, _ => v = .pointer (some ⟨b1, o1 + j, none⟩)
  | 8, v, _ => v = .slice pa l.length ca
  | 9, v, _ => v = .string ⟨l.toArray⟩
  | 10, v, _ => v = .bool false
  | 11, v, _ => v = .bool false
  | _, _, _ => True

set_option maxHeartbeats 4000000 in
set_option maxRecDepth 100000 in
theorem binBack_walk (v0 v1 : Value) (ns : List Nat) (vs : List Value) (ts : List (List UInt8)) (w : World) (hr0 : Rd w 1 v0 ns.length (uv ns)) (hr1 : Rd w 1 v1 vs.length vs) (hn : ts.length = vs.length)
    (hns : ∀ n ∈ ns, n < 18446744073709551616) (hel : ∀ (i : Nat) (l : List UInt8) (u : Value), ts[i]? = some l → vs[i]? = some u → Rd w 1 u l.length (bv l))
    (hLB : (layB ns ts).length ≤ 100000000000000) (hnl : ns.length ≤ 1048576) (htl : ts.length ≤ 1048576) :
    Calls Try.prog 4 #[v0, v1] w fun e w' => e = .returned (.bool true) ∧ Below w.heap.size w w' := by
  obtain ⟨a0, c0, rfl⟩ := hr0.form
  obtain ⟨a1, c1, rfl⟩ := hr1.form
  obtain ⟨x, hx⟩ : ∃ x, x = ns.length := ⟨_, rfl⟩
  obtain ⟨y, hy⟩ : ∃ y, y = ts.length := ⟨_, rfl⟩
  rw [← hx] at hr0 hnl
  rw [← hn, ← hy] at hr1
  rw [← hy] at htl
  rw [← hx, ← hn, ← hy]
  have HX := Lib.hid (And.intro hx (And.intro hy hn))
  have haw := awake01_any w
  obtain ⟨LB, hLBe⟩ : ∃ LB, LB = layB ns ts := ⟨_, rfl⟩
  rw [← hLBe] at hLB
  clear hx hy hn
  go_enter Try.func4, Try.ntmps4
  go_wp2_with fail
  refine haw.mono ?_
  rintro e w2 ⟨rfl, hb1⟩
  have hr3 := hr0.keep hb1
  have hr4 := hr1.keep hb1
  have hel3 : ∀ (i : Nat) (l : List UInt8) (u : Value), ts[i]? = some l → vs[i]? = some u → Rd w2 1 u l.length (bv l) := fun i l u h1 h2 => (hel i l u h1 h2).keep hb1
  clear hr0 hr1 hel haw
  have HB1 := Lib.hid hb1
  clear hb1
  go_wp2_with fail
  obtain ⟨B, hBe⟩ : ∃ B, B = w2.heap.size := ⟨_, rfl⟩
  have hBw : B ≤ w2.heap.size := by omega
  go_loopw [5, 6] (fun s5 s6 wr => ∃ (i : Nat) (acc : List UInt8), i ≤ max x y ∧ s6 = .int .i64 i ∧ wr.ownsRow B 5 1 s5 acc.length (bv acc) ∧ acc ++ layB (ns.drop i) (ts.drop i) = LB ∧ Below B w2 wr ∧ B ≤ wr.heap.size) (fun _ i _ => max x y - (intOf i).toNat)
  case atStart => exact ⟨0, [], Nat.zero_le _, rfl, World.ownsRow_nil w2 B 5 1, by rw [hLBe]; rfl, Below.refl _ _, hBw⟩
  case round =>
    obtain ⟨i, acc, hi, rfl, hown, hlay, hbr, hBr⟩ := hrel
    have hnx := layB_next ns ts i
    have hiB : i ≤ 1048576 := by omega
    have z7 : IntKind.i64.wrap ((i : Int) + 1) = ((i + 1 : Nat) : Int) := (IntWalk.i64_in _ (by omega)).trans (by omega)
    rw [hnx] at hlay
    have hlen : acc.length + (numO ns[i]?).length + (rawO ts[i]?).length ≤ 100000000000000 := by
      rw [← hlay] at hLB
      simp only [List.length_append] at hLB
      omega

    by_cases hA : i < x
    · by_cases hB : i < y
      · skip
        have zA : ((i : Int) < (x : Int)) := by omega
        have zB : ((i : Int) < (y : Int)) := by omega
        obtain ⟨N, hN⟩ : ∃ N, ns[i]? = some N := ⟨ns[i]'(by have := HX.out.1; omega), List.getElem?_eq_getElem _⟩
        have hN64 := hns N (List.mem_of_getElem? hN)
        obtain ⟨b0, o0, k0, hv0, _, cell0⟩ := hr3.at (by omega)
        simp only [Value.slice.injEq, true_and] at hv0
        obtain ⟨rfl, rfl⟩ := hv0
        have hc0 := cell0 i (.int .u64 N) (by simp [uv, hN])
        have bq0 : b0 < B := by rw [hBe]; exact World.block_lt_of_cell? _ _ hc0
        have hcA := (hbr.cell (p := ⟨b0, o0 + i, none⟩) bq0).trans hc0
        rw [hN] at hlay hlen
        have HN := Lib.hid hN
        clear cell0 hc0 hN
        obtain ⟨l, hl⟩ : ∃ l, ts[i]? = some l := ⟨ts[i]'(by have := HX.out.2.1; omega), List.getElem?_eq_getElem _⟩
        obtain ⟨u, hu⟩ : ∃ u, vs[i]? = some u := ⟨vs[i]'(by have := HX.out.2; omega), List.getElem?_eq_getElem _⟩
        have hrl0 := hel3 i l u hl hu
        obtain ⟨pa, ca, rfl⟩ := hrl0.form
        obtain ⟨b1, o1, k1, hv1, _, cell1⟩ := hr4.at (by omega)
        simp only [Value.slice.injEq, true_and] at hv1
        obtain ⟨rfl, rfl⟩ := hv1
        have hc1 := cell1 i _ hu
        have bq1 : b1 < B := by rw [hBe]; exact World.block_lt_of_cell? _ _ hc1
        rw [hl] at hlay hlen
        have HL := Lib.hid (And.intro hl hu)
        have HR0 := Lib.hid hrl0
        have HC1 := Lib.hid hc1
        clear cell1 hc1 hl hu hrl0
        simp only [numO, rawO, List.length_append, List.length_nil] at hlen
        have HLAY := Lib.hid hlay
        have HBE := Lib.hid hBe
        have H34 := Lib.hid (And.intro hr3 (And.intro hr4 hel3))
        have HLB := Lib.hid (And.intro hLBe hLB)
        clear hlay hnx hBe hr3 hr4 hel3 hLBe hLB hns
        obtain ⟨av, cv, rfl⟩ := own_formp hown
        go_wp2_with fail
        refine (Num_any N wr hN64).mono ?_
        rintro e wa ⟨va, rfl, hra, hba⟩
        have hownA := own_keep hown hba
        have hBa := Nat.le_trans hBr hba.size
        have hbA := hbr.trans (hba.mono hBr)
        clear hown hbr hba hcA
        go_wp2_with (at_builtin; refine wpList_app Try.underlying22 infoU8p rfl (by decide) rfl _ _ rfl rfl rfl hownA hra (by omega) (by omega) hBa ?_)
        intro v' wc ho hg _
        have hbC := hbA.trans (hg.below hBa (own_block hownA))
        have hBc := Nat.le_trans hBa hg.grown.size
        rw [← bv_append, ← List.length_append] at ho
        obtain ⟨acc2, hac2⟩ : ∃ q, q = acc ++ numB N := ⟨_, rfl⟩
        rw [← hac2] at ho
        have hl2 : acc2.length ≤ acc.length + (numB N).length := by rw [hac2, List.length_append]; exact Nat.le_refl _
        have HA2 := Lib.hid hac2
        clear hownA hra hbA hg hBr hac2
        obtain ⟨av2, cv2, rfl⟩ := own_formp ho
        have hc1 := (hbC.cell (p := ⟨b1, o1 + i, none⟩) bq1).trans HC1.out
        have hrl := HR0.out.keepB hbC (Nat.le_of_eq HBE.out.symm)
        go_wp2_with fail
        refine (Raw_any _ l wc (by omega) hrl).mono ?_
        rintro e wd ⟨vd, rfl, hrd, hbd⟩
        have hownD := own_keep ho hbd
        have hBd := Nat.le_trans hBc hbd.size
        have hbD := hbC.trans (hbd.mono hBc)
        clear ho hbC hbd hc1 hrl
        go_wp2_with (at_builtin; refine wpList_app Try.underlying22 infoU8p rfl (by decide) rfl _ _ rfl rfl rfl hownD hrd (by simp only [List.length_append]; omega) (by simp only [List.length_append]; omega) hBd ?_)
        intro v2 we ho2 hg2 _
        have hbE := hbD.trans (hg2.below hBd (own_block hownD))
        have hBE := Nat.le_trans hBd hg2.grown.size
        obtain ⟨acc3, hac3⟩ : ∃ q, q = acc2 ++ (numB l.length ++ l) := ⟨_, rfl⟩
        have ho3 : we.ownsRow B 5 1 v2 acc3.length (bv acc3) := by rw [hac3, List.length_append, List.length_append, bv_append]; exact ho2
        clear ho2
        have ho2 := ho3
        clear ho3
        have HA3 := Lib.hid hac3
        clear hownD hrd hbD hg2 hac3
        obtain ⟨af, cf, rfl⟩ := own_formp ho2
        go_wp2_with fail
        go_roundw
        case rel => exact ⟨i + 1, acc3, by omega, by first | rfl | (rw [z7]) | go_num, ho2, by rw [← HLAY.out]; simp [numO, rawO, HA3.out, HA2.out], hbE, hBE⟩
        case measure =>
          simp [intOf]
          omega
      · skip
        have zA : ((i : Int) < (x : Int)) := by omega
        have zB : ¬ ((i : Int) < (y : Int)) := by omega
        obtain ⟨N, hN⟩ : ∃ N, ns[i]? = some N := ⟨ns[i]'(by have := HX.out.1; omega), List.getElem?_eq_getElem _⟩
        have hN64 := hns N (List.mem_of_getElem? hN)
        obtain ⟨b0, o0, k0, hv0, _, cell0⟩ := hr3.at (by omega)
        simp only [Value.slice.injEq, true_and] at hv0
        obtain ⟨rfl, rfl⟩ := hv0
        have hc0 := cell0 i (.int .u64 N) (by simp [uv, hN])
        have bq0 : b0 < B := by rw [hBe]; exact World.block_lt_of_cell? _ _ hc0
        have hcA := (hbr.cell (p := ⟨b0, o0 + i, none⟩) bq0).trans hc0
        rw [hN] at hlay hlen
        have HN := Lib.hid hN
        clear cell0 hc0 hN
        have hl : ts[i]? = none := List.getElem?_eq_none (by have := HX.out.2.1; omega)
        rw [hl] at hlay hlen
        clear hl
        simp only [numO, rawO, List.length_append, List.length_nil] at hlen
        have HLAY := Lib.hid hlay
        have HBE := Lib.hid hBe
        have H34 := Lib.hid (And.intro hr3 (And.intro hr4 hel3))
        have HLB := Lib.hid (And.intro hLBe hLB)
        clear hlay hnx hBe hr3 hr4 hel3 hLBe hLB hns
        obtain ⟨av, cv, rfl⟩ := own_formp hown
        go_wp2_with fail
        refine (Num_any N wr hN64).mono ?_
        rintro e wa ⟨va, rfl, hra, hba⟩
        have hownA := own_keep hown hba
        have hBa := Nat.le_trans hBr hba.size
        have hbA := hbr.trans (hba.mono hBr)
        clear hown hbr hba hcA
        go_wp2_with (at_builtin; refine wpList_app Try.underlying22 infoU8p rfl (by decide) rfl _ _ rfl rfl rfl hownA hra (by omega) (by omega) hBa ?_)
        intro v' wc ho hg _
        have hbC := hbA.trans (hg.below hBa (own_block hownA))
        have hBc := Nat.le_trans hBa hg.grown.size
        rw [← bv_append, ← List.length_append] at ho
        obtain ⟨acc2, hac2⟩ : ∃ q, q = acc ++ numB N := ⟨_, rfl⟩
        rw [← hac2] at ho
        have hl2 : acc2.length ≤ acc.length + (numB N).length := by rw [hac2, List.length_append]; exact Nat.le_refl _
        have HA2 := Lib.hid hac2
        clear hownA hra hbA hg hBr hac2
        obtain ⟨af, cf, rfl⟩ := own_formp ho
        go_wp2_with fail
        go_roundw
        case rel => exact ⟨i + 1, acc2, by omega, by first | rfl | (rw [z7]) | go_num, ho, by rw [← HLAY.out]; simp [numO, rawO, HA2.out], hbC, hBc⟩
        case measure =>
          simp [intOf]
          omega
    · by_cases hB : i < y
      · skip
        have zA : ¬ ((i : Int) < (x : Int)) := by omega
        have zB : ((i : Int) < (y : Int)) := by omega
        have hN : ns[i]? = none := List.getElem?_eq_none (by have := HX.out.1; omega)
        rw [hN] at hlay hlen
        clear hN
        obtain ⟨l, hl⟩ : ∃ l, ts[i]? = some l := ⟨ts[i]'(by have := HX.out.2.1; omega), List.getElem?_eq_getElem _⟩
        obtain ⟨u, hu⟩ : ∃ u, vs[i]? = some u := ⟨vs[i]'(by have := HX.out.2; omega), List.getElem?_eq_getElem _⟩
        have hrl0 := hel3 i l u hl hu
        obtain ⟨pa, ca, rfl⟩ := hrl0.form
        obtain ⟨b1, o1, k1, hv1, _, cell1⟩ := hr4.at (by omega)
        simp only [Value.slice.injEq, true_and] at hv1
        obtain ⟨rfl, rfl⟩ := hv1
        have hc1 := cell1 i _ hu
        have bq1 : b1 < B := by rw [hBe]; exact World.block_lt_of_cell? _ _ hc1
        rw [hl] at hlay hlen
        have HL := Lib.hid (And.intro hl hu)
        have HR0 := Lib.hid hrl0
        have HC1 := Lib.hid hc1
        clear cell1 hc1 hl hu hrl0
        simp only [numO, rawO, List.length_append, List.length_nil] at hlen
        have HLAY := Lib.hid hlay
        have HBE := Lib.hid hBe
        have H34 := Lib.hid (And.intro hr3 (And.intro hr4 hel3))
        have HLB := Lib.hid (And.intro hLBe hLB)
        clear hlay hnx hBe hr3 hr4 hel3 hLBe hLB hns
        have ho := hown
        have hbC := hbr
        have hBc := hBr
        clear hown hbr hBr
        obtain ⟨av2, cv2, rfl⟩ := own_formp ho
        have hc1 := (hbC.cell (p := ⟨b1, o1 + i, none⟩) bq1).trans HC1.out
        have hrl := HR0.out.keepB hbC (Nat.le_of_eq HBE.out.symm)
        go_wp2_with fail
        refine (Raw_any _ l wr (by omega) hrl).mono ?_
        rintro e wd ⟨vd, rfl, hrd, hbd⟩
        have hownD := own_keep ho hbd
        have hBd := Nat.le_trans hBc hbd.size
        have hbD := hbC.trans (hbd.mono hBc)
        clear ho hbC hbd hc1 hrl
        go_wp2_with (at_builtin; refine wpList_app Try.underlying22 infoU8p rfl (by decide) rfl _ _ rfl rfl rfl hownD hrd (by simp only [List.length_append]; omega) (by simp only [List.length_append]; omega) hBd ?_)
        intro v2 we ho2 hg2 _
        have hbE := hbD.trans (hg2.below hBd (own_block hownD))
        have hBE := Nat.le_trans hBd hg2.grown.size
        obtain ⟨acc3, hac3⟩ : ∃ q, q = acc ++ (numB l.length ++ l) := ⟨_, rfl⟩
        have ho3 : we.ownsRow B 5 1 v2 acc3.length (bv acc3) := by rw [hac3, List.length_append, List.length_append, bv_append]; exact ho2
        clear ho2
        have ho2 := ho3
        clear ho3
        have HA3 := Lib.hid hac3
        clear hownD hrd hbD hg2 hac3
        obtain ⟨af, cf, rfl⟩ := own_formp ho2
        go_wp2_with fail
        go_roundw
        case rel => exact ⟨i + 1, acc3, by omega, by first | rfl | (rw [z7]) | go_num, ho2, by rw [← HLAY.out]; simp [numO, rawO, HA3.out], hbE, hBE⟩
        case measure =>
          simp [intOf]
          omega
      · skip
        have zA : ¬ ((i : Int) < (x : Int)) := by omega
        have zB : ¬ ((i : Int) < (y : Int)) := by omega
        have hend := layB_end ns ts i (by have := HX.out.1; omega) (by have := HX.out.2.1; omega)
        rw [← hnx, hend, List.append_nil] at hlay
        subst hlay
        obtain ⟨av, cv, rfl⟩ := own_formp hown
        have hra := own_rd hown (bv_one _)
        have hr5 := hr3.keepB hbr (Nat.le_of_eq hBe.symm)
        have hr6 := hr4.keepB hbr (Nat.le_of_eq hBe.symm)
        have hel5 : ∀ (i : Nat) (l : List UInt8) (u : Value), ts[i]? = some l → vs[i]? = some u → Rd wr 1 u l.length (bv l) := fun i l u h1 h2 => (hel3 i l u h1 h2).keepB hbr (Nat.le_of_eq hBe.symm)
        have hnew := New_any _ acc wr hra (by omega)
        have HBR := Lib.hid (And.intro hbr (And.intro hBr (And.intro hBe hLBe)))
        have HBL : Hid ((∀ b o k, a0 = some ⟨b, o, k⟩ → 0 < x → b < B) ∧ (∀ b o k, a1 = some ⟨b, o, k⟩ → 0 < y → b < B)) := Lib.hid (by
          refine ⟨fun b o k h h0 => ?_, fun b o k h h0 => ?_⟩
          · obtain ⟨b', o', k', hv, _, cell⟩ := hr3.at h0
            simp only [Value.slice.injEq, true_and] at hv
            rw [h] at hv
            have hb : b = b' := by have := Option.some.inj hv.1; simp only [Addr.mk.injEq] at this; exact this.1
            obtain ⟨u, hu⟩ : ∃ u, (uv ns)[0]? = some u := ⟨(uv ns)[0]'(by have := HX.out.1; rw [uv_length]; omega), List.getElem?_eq_getElem _⟩
            rw [hBe, hb]; exact World.block_lt_of_cell? _ _ (cell 0 u hu)
          · obtain ⟨b', o', k', hv, _, cell⟩ := hr4.at h0
            simp only [Value.slice.injEq, true_and] at hv
            rw [h] at hv
            have hb : b = b' := by have := Option.some.inj hv.1; simp only [Addr.mk.injEq] at this; exact this.1
            obtain ⟨u, hu⟩ : ∃ u, vs[0]? = some u := ⟨vs[0]'(by have := HX.out.2; omega), List.getElem?_eq_getElem _⟩
            rw [hBe, hb]; exact World.block_lt_of_cell? _ _ (cell 0 u hu))
        have HEL := Lib.hid hel3
        clear hr3 hr4 hel3 hown hbr hBr hBe hend hlen hnx hra hLBe
        go_wp2_with fail
        refine hnew.mono ?_
        rintro e w5 ⟨p, a, c, rfl, hp, hrd, hb5⟩
        have hr7 := hr5.keep hb5
        have hr8 := hr6.keep hb5
        have hel6 : ∀ (i : Nat) (l : List UInt8) (u : Value), ts[i]? = some l → vs[i]? = some u → Rd w5 1 u l.length (bv l) := fun i l u h1 h2 => (hel5 i l u h1 h2).keep hb5
        have HB5 := Lib.hid (And.intro hp hb5)
        clear hr5 hr6 hel5 hp hb5 hnew
        go_wp2_with fail
        have hBp : B ≤ p := Nat.le_trans HBR.out.2.1 HB5.out.1
        have hB5 : B ≤ w5.heap.size := Nat.le_trans HBR.out.2.1 HB5.out.2.size
        go_loopw [8, 9, 10, 11, 12] (fun s8 s9 s10 s11 s12 wr => ∃ (i : Nat) (a : Option Addr) (c : Nat), i ≤ max x y ∧ s8 = .int .i64 i ∧ Rdr wr p a c 0 (layB (ns.drop i) (ts.drop i)) ∧ w5.grownBy wr (some p)) (fun i _ _ _ _ _ => max x y - (intOf i).toNat)
        case atStart => exact ⟨0, a, c, Nat.zero_le _, rfl, by simpa [← HBR.out.2.2.2] using hrd, World.grownBy.refl _ _⟩
        case round =>
          obtain ⟨j, a, c, hj, rfl, hrd, hgr⟩ := hrel
          have zj : IntKind.i64.wrap ((j : Int) + 1) = ((j + 1 : Nat) : Int) := (IntWalk.i64_in _ (by omega)).trans (by omega)
          have hnx := layB_next ns ts j
          by_cases hA2 : j < x
          · obtain ⟨N, hN⟩ : ∃ N, ns[j]? = some N := ⟨ns[j]'(by have := HX.out.1; omega), List.getElem?_eq_getElem _⟩
            have hN64 := hns N (List.mem_of_getElem? hN)
            obtain ⟨b0, o0, k0, hv0, _, cell0⟩ := hr7.at (by omega)
            simp only [Value.slice.injEq, true_and] at hv0
            obtain ⟨rfl, rfl⟩ := hv0
            have hc0 := cell0 j (.int .u64 N) (by simp [uv, hN])
            have bq0 : b0 < B := HBL.out.1 _ _ _ rfl (by omega)
            rw [hnx, hN] at hrd
            have hrn : rdN (numO (some N) ++ rawO ts[j]? ++ layB (ns.drop (j + 1)) (ts.drop (j + 1))) = (0, N, rawO ts[j]? ++ layB (ns.drop (j + 1)) (ts.drop (j + 1))) := by rw [List.append_assoc]; exact rdN_numB N _ hN64
            have hnum := RNum_any _ _ _ _ _ _ hrd
            have hwr := hgr
            have HC0 := Lib.hid (And.intro hc0 hwr)
            have HNX := Lib.hid hnx
            have zA2 : (j : Int) < (x : Int) := by omega
            clear cell0 hc0 hN hrd hgr hwr hnx
            go_wp2_with fail
            refine hnum.mono ?_
            rintro e w6 ⟨hg6, hres⟩
            rw [if_pos rfl, hrn, if_pos rfl] at hres
            obtain ⟨rfl, a6, c6, hr6⟩ := hres
            have hg56 := grown_trans HC0.out.2 hg6 (fun j hj => .inl hj)
            have hcN : w6.cell? ⟨b0, o0 + j, none⟩ = some (.int .u64 N) := ((below_p hg56 hBp hB5).cell (p := ⟨b0, o0 + j, none⟩) bq0).trans HC0.out.1
            by_cases hB2 : j < y
            · skip
              obtain ⟨l, hl⟩ : ∃ l, ts[j]? = some l := ⟨ts[j]'(by have := HX.out.2.1; omega), List.getElem?_eq_getElem _⟩
              obtain ⟨u, hu⟩ : ∃ u, vs[j]? = some u := ⟨vs[j]'(by have := HX.out.2; omega), List.getElem?_eq_getElem _⟩
              have hrl0 := HEL.out j l u hl hu
              obtain ⟨pa, ca, rfl⟩ := hrl0.form
              obtain ⟨b1, o1, k1, hv1, _, cell1⟩ := hr8.at (by omega)
              simp only [Value.slice.injEq, true_and] at hv1
              obtain ⟨rfl, rfl⟩ := hv1
              have hc1 := cell1 j _ hu
              have bq1 : b1 < B := HBL.out.2 _ _ _ rfl (by omega)
              have hbq := below_p hg56 hBp hB5
              have hb2q := HBR.out.1.trans ((HB5.out.2.mono HBR.out.2.1).trans hbq)
              have hcT := (hbq.cell (p := ⟨b1, o1 + j, none⟩) bq1).trans hc1
              have hLBn : (layB ns ts).length ≤ 100000000000000 := by rw [← HBR.out.2.2.2]; exact hLB
              have hle := layB_drop_le ns ts j
              rw [hl] at hr6
              have hll : l.length ≤ 100000000000000 := by
                rw [HNX.out, hl] at hle
                simp only [rawO, List.length_append] at hle
                omega
              have hrr : rdR l.length (rawO (some l) ++ layB (ns.drop (j + 1)) (ts.drop (j + 1))) = (0, l, layB (ns.drop (j + 1)) (ts.drop (j + 1))) := rdR_of l _ (by omega)
              have hraw := RawR_any _ _ _ _ _ _ l.length hr6 (by rw [HNX.out, hl] at hle; simp only [List.length_append] at hle ⊢; omega) (by omega) (by omega)
              have zB2 : (j : Int) < (y : Int) := by omega
              have HS := Lib.hid (And.intro hrl0 (And.intro hcT (And.intro hb2q hg56)))
              clear hrl0 hb2q hbq hle cell1 hc1 hl hu hLBn hg6 hnum hrn
              go_wp2_with fail
              refine hraw.mono ?_
              rintro e w7 ⟨hg7, hres⟩
              rw [if_pos rfl, hrr, if_pos rfl] at hres
              obtain ⟨⟨v', rfl, how⟩, a7, c7, hr7'⟩ := hres
              obtain ⟨ar, cr, rfl⟩ := own_formp how
              have hb7 := below_p hg7 hBp (Nat.le_trans hB5 HS.out.2.2.2.size)
              have HRA := Lib.hid (own_rd how (bv_one _))
              have HT := Lib.hid (HS.out.1.keepB (HS.out.2.2.1.trans hb7) (Nat.le_of_eq HBR.out.2.2.1.symm))
              have hc7 := (hb7.cell (p := ⟨b1, o1 + j, none⟩) bq1).trans HS.out.2.1
              have HC7 := Lib.hid (And.intro hc7 (World.block_lt_of_cell? _ _ hc7))
              have HR7 := Lib.hid (And.intro hr7' (grown_trans HS.out.2.2.2 hg7 (fun j hj => .inl hj)))
              clear how hcT hr7' hb7 hc7 hg7 hraw hrr
              go_wp2_with fail
              refine wp_region_steps [some 98, some 99, some 100, some 101, some 102, some 103, some 104, some 105, some 106, some 107, some 108, some 109] [] (backF l j b1 o1 y c1 ca cr pa ar) (fun _ wx wy => Below wx.heap.size wx wy) (fun wx => Below w7.heap.size w7 wx) (by kernel_rfl) (by kernel_rfl) rfl (by kernel_rfl) (Below.refl _ _).drew (fun _ wx => Below.refl _ _) (fun _ wx wy h k => h.trans (k.mono h.size)) ?hF ?hstep ?hend
              case hF =>
                exact ⟨fun _ _ _ _ _ _ h => h, ⟨fun _ _ _ _ _ _ h => h, ⟨fun _ _ _ _ _ _ h => h, ⟨fun _ _ _ _ _ _ h => h, ⟨fun _ _ _ _ _ _ h => h, ⟨fun _ _ _ _ _ _ h => h, ⟨fun _ _ _ _ _ _ h => h, ⟨fun _ _ _ _ _ _ h => h, ⟨fun _ _ _ _ _ _ h => h, ⟨fun _ _ _ _ _ _ h => h, ⟨fun _ _ _ _ _ _ h => h, ⟨fun _ _ _ _ _ _ h => h, trivial⟩⟩⟩⟩⟩⟩⟩⟩⟩⟩⟩⟩
              case hstep =>
                -- operation 0: Op.move (tmp 12)
                refine ⟨fun r wx hG hs hq hf => ?_, ?_⟩
                · have e12 : r 12 = .int .i64 0 := hs 12 rfl
                  refine (if_pos rfl).symm ▸ ?_
                  clear hs hq hf
                  unfold gives
                  go_simp
                  exact ⟨Below.refl _ _, rfl⟩
                -- operation 1: Op.binOp BinOp.neq 27 (tmp 98) (const (Value.int IntKind.i64 0)) 27
                refine ⟨fun r wx hG hs hq hf => ?_, ?_⟩
                · have h0 : r 98 = .int .i64 0 := hf.1
                  refine (if_pos rfl).symm ▸ ?_
                  clear hs hq hf
                  unfold gives
                  go_simp
                  exact ⟨Below.refl _ _, rfl⟩
                -- operation 2: Op.move (tmp 99)
                refine ⟨fun r wx hG hs hq hf => ?_, ?_⟩
                · have h1 : r 99 = .bool false := hf.1
                  refine (if_pos rfl).symm ▸ ?_
                  clear hs hq hf
                  unfold gives
                  go_simp
                  exact ⟨Below.refl _ _, rfl⟩
                -- operation 3: Op.move (tmp 11)
                refine ⟨fun r wx hG hs hq hf => ?_, ?_⟩
                · have e11 : r 11 = .slice ar l.length cr := hs 11 rfl
                  have h2 : r 100 = .bool false := hf.1
                  have hy : ydD [some 98, some 99, some 100, some 101, some 102, some 103, some 104, some 105, some 106, some 107, some 108, some 109] r 2 = some false := by show (match r 100 with | .bool b => some b | _ => none) = some false; rw [h2]
                  simp only [Region.wanted, hy, beq_self_eq_true, if_true]
                  clear hs hq hf hy
                  unfold gives
                  go_simp
                  exact ⟨Below.refl _ _, rfl⟩
                -- operation 4: Op.convert 22 9 (tmp 101)
                refine ⟨fun r wx hG hs hq hf => ?_, ?_⟩
                · have h3 : r 101 = .slice ar l.length cr := hf.1
                  have h2 : r 100 = .bool false := hf.2.1
                  have hy : ydD [some 98, some 99, some 100, some 101, some 102, some 103, some 104, some 105, some 106, some 107, some 108, some 109] r 2 = some false := by show (match r 100 with | .bool b => some b | _ => none) = some false; rw [h2]
                  simp only [Region.wanted, hy, beq_self_eq_true, if_true]
                  clear hs hq hf hy
                  unfold gives
                  have hcv := string_of_bytes (P := Try.prog) Try.underlying22 Try.underlying5 Try.underlying9 (l := l) (HRA.out.keep hG)
                  go_simp
                  exact ⟨Below.refl _ _, rfl⟩
                -- operation 5: Op.move (tmp 1)
                refine ⟨fun r wx hG hs hq hf => ?_, ?_⟩
                · have e1 : r 1 = .slice (some ⟨b1, o1, none⟩) y c1 := hs 1 rfl
                  have h2 : r 100 = .bool false := hf.1
                  have hy : ydD [some 98, some 99, some 100, some 101, some 102, some 103, some 104, some 105, some 106, some 107, some 108, some 109] r 2 = some false := by show (match r 100 with | .bool b => some b | _ => none) = some false; rw [h2]
                  simp only [Region.wanted, hy, beq_self_eq_true, if_true]
                  clear hs hq hf hy
                  unfold gives
                  go_simp
                  exact ⟨Below.refl _ _, rfl⟩
                -- operation 6: Op.move (tmp 8)
                refine ⟨fun r wx hG hs hq hf => ?_, ?_⟩
                · have e8 : r 8 = .int .i64 j := hs 8 rfl
                  have h2 : r 100 = .bool false := hf.1
                  have hy : ydD [some 98, some 99, some 100, some 101, some 102, some 103, some 104, some 105, some 106, some 107, some 108, some 109] r 2 = some false := by show (match r 100 with | .bool b => some b | _ => none) = some false; rw [h2]
                  simp only [Region.wanted, hy, beq_self_eq_true, if_true]
                  clear hs hq hf hy
                  unfold gives
                  go_simp
                  exact ⟨Below.refl _ _, rfl⟩
                -- operation 7: Op.indexAddr 35 (tmp 103) (tmp 104)
                refine ⟨fun r wx hG hs hq hf => ?_, ?_⟩
                · have h5 : r 103 = .slice (some ⟨b1, o1, none⟩) y c1 := hf.1
                  have h6 : r 104 = .int .i64 j := hf.2.1
                  have h2 : r 100 = .bool false := hf.2.2.1
                  have hy : ydD [some 98, some 99, some 100, some 101, some 102, some 103, some 104, some 105, some 106, some 107, some 108, some 109] r 2 = some false := by show (match r 100 with | .bool b => some b | _ => none) = some false; rw [h2]
                  simp only [Region.wanted, hy, beq_self_eq_true, if_true]
                  clear hs hq hf hy
                  unfold gives
                  have hj0 : (0 : Int) ≤ (j : Int) := by omega
                  go_simp
                  exact ⟨Below.refl _ _, rfl⟩
                -- operation 8: Op.load 22 (tmp 105)
                refine ⟨fun r wx hG hs hq hf => ?_, ?_⟩
                · have h7 : r 105 = .pointer (some ⟨b1, o1 + j, none⟩) := hf.1
                  have h2 : r 100 = .bool false := hf.2.1
                  have hy : ydD [some 98, some 99, some 100, some 101, some 102, some 103, some 104, some 105, some 106, some 107, some 108, some 109] r 2 = some false := by show (match r 100 with | .bool b => some b | _ => none) = some false; rw [h2]
                  simp only [Region.wanted, hy, beq_self_eq_true, if_true]
                  clear hs hq hf hy
                  unfold gives
                  have hc := (hG.cell (p := ⟨b1, o1 + j, none⟩) HC7.out.2).trans HC7.out.1
                  go_simp
                  exact ⟨Below.refl _ _, rfl⟩
                -- operation 9: Op.convert 22 9 (tmp 106)
                refine ⟨fun r wx hG hs hq hf => ?_, ?_⟩
                · have h8 : r 106 = .slice pa l.length ca := hf.1
                  have h2 : r 100 = .bool false := hf.2.1
                  have hy : ydD [some 98, some 99, some 100, some 101, some 102, some 103, some 104, some 105, some 106, some 107, some 108, some 109] r 2 = some false := by show (match r 100 with | .bool b => some b | _ => none) = some false; rw [h2]
                  simp only [Region.wanted, hy, beq_self_eq_true, if_true]
                  clear hs hq hf hy
                  unfold gives
                  have hcv := string_of_bytes (P := Try.prog) Try.underlying22 Try.underlying5 Try.underlying9 (l := l) (HT.out.keep hG)
                  go_simp
                  exact ⟨Below.refl _ _, rfl⟩
                -- operation 10: Op.binOp BinOp.neq 9 (tmp 102) (tmp 107) 9
                refine ⟨fun r wx hG hs hq hf => ?_, ?_⟩
                · have h4 : r 102 = .string ⟨l.toArray⟩ := hf.1
                  have h9 : r 107 = .string ⟨l.toArray⟩ := hf.2.1
                  have h2 : r 100 = .bool false := hf.2.2.1
                  have hy : ydD [some 98, some 99, some 100, some 101, some 102, some 103, some 104, some 105, some 106, some 107, some 108, some 109] r 2 = some false := by show (match r 100 with | .bool b => some b | _ => none) = some false; rw [h2]
                  simp only [Region.wanted, hy, beq_self_eq_true, if_true]
                  clear hs hq hf hy
                  unfold gives
                  go_simp
                  exact ⟨Below.refl _ _, rfl⟩
                -- operation 11: Op.pick (tmp 100) (const (Value.bool true)) (tmp 108)
                refine ⟨fun r wx hG hs hq hf => ?_, ?_⟩
                · have h2 : r 100 = .bool false := hf.1
                  have h10 : r 108 = .bool false := hf.2.1
                  refine (if_pos rfl).symm ▸ ?_
                  clear hs hq hf
                  unfold gives
                  go_simp
                  exact ⟨Below.refl _ _, rfl⟩
                exact trivial
              case hend =>
                intro u wz hG hfin
                have z11 : u 11 = .bool false := hfin 11 (by decide) (by kernel_rfl)
                clear hfin
                simp only [fill]
                go_simp
                go_wp2_with fail
                go_roundw
                case rel => exact ⟨j + 1, a7, c7, by omega, by first | rfl | (rw [zj]) | go_num, HR7.out.1.below hG, grown_below HR7.out.2 hG⟩
                case measure =>
                  simp [intOf]
                  omega
            · have zB2 : ¬ ((j : Int) < (y : Int)) := by omega
              have hl : ts[j]? = none := List.getElem?_eq_none (by have := HX.out.2.1; omega)
              rw [hl] at hr6
              have HR6 := Lib.hid (And.intro hr6 hg56)
              clear hr6 hg56 hg6 hnum hrn hl
              go_wp2_with fail
              go_roundw
              case rel => exact ⟨j + 1, a6, c6, by omega, by first | rfl | (rw [zj]) | go_num, by simpa [rawO] using HR6.out.1, HR6.out.2⟩
              case measure =>
                simp [intOf]
                omega
          · by_cases hB2 : j < y
            · skip
              have hNn : ns[j]? = none := List.getElem?_eq_none (by have := HX.out.1; omega)
              have hrd2 := hrd
              rw [hnx, hNn] at hrd2
              simp only [numO, List.nil_append] at hrd2
              obtain ⟨l, hl⟩ : ∃ l, ts[j]? = some l := ⟨ts[j]'(by have := HX.out.2.1; omega), List.getElem?_eq_getElem _⟩
              obtain ⟨u, hu⟩ : ∃ u, vs[j]? = some u := ⟨vs[j]'(by have := HX.out.2; omega), List.getElem?_eq_getElem _⟩
              have hrl0 := HEL.out j l u hl hu
              obtain ⟨pa, ca, rfl⟩ := hrl0.form
              obtain ⟨b1, o1, k1, hv1, _, cell1⟩ := hr8.at (by omega)
              simp only [Value.slice.injEq, true_and] at hv1
              obtain ⟨rfl, rfl⟩ := hv1
              have hc1 := cell1 j _ hu
              have bq1 : b1 < B := HBL.out.2 _ _ _ rfl (by omega)
              have hbq := below_p hgr hBp hB5
              have hb2q := HBR.out.1.trans ((HB5.out.2.mono HBR.out.2.1).trans hbq)
              have hcT := (hbq.cell (p := ⟨b1, o1 + j, none⟩) bq1).trans hc1
              have hLBn : (layB ns ts).length ≤ 100000000000000 := by rw [← HBR.out.2.2.2]; exact hLB
              have hle := layB_drop_le ns ts j
              rw [hl] at hrd2
              have hll : l.length ≤ 100000000000000 := by
                rw [hnx, hl] at hle
                simp only [rawO, List.length_append] at hle
                omega
              have hrr : rdR l.length (rawO (some l) ++ layB (ns.drop (j + 1)) (ts.drop (j + 1))) = (0, l, layB (ns.drop (j + 1)) (ts.drop (j + 1))) := rdR_of l _ (by omega)
              have hraw := RawR_any _ _ _ _ _ _ l.length hrd2 (by rw [hnx, hl] at hle; simp only [List.length_append] at hle ⊢; omega) (by omega) (by omega)
              have zB2 : (j : Int) < (y : Int) := by omega
              have HS := Lib.hid (And.intro hrl0 (And.intro hcT (And.intro hb2q hgr)))
              clear hrl0 hb2q hbq hle cell1 hc1 hl hu hLBn hnx
              go_wp2_with fail
              refine hraw.mono ?_
              rintro e w7 ⟨hg7, hres⟩
              rw [if_pos rfl, hrr, if_pos rfl] at hres
              obtain ⟨⟨v', rfl, how⟩, a7, c7, hr7'⟩ := hres
              obtain ⟨ar, cr, rfl⟩ := own_formp how
              have hb7 := below_p hg7 hBp (Nat.le_trans hB5 HS.out.2.2.2.size)
              have HRA := Lib.hid (own_rd how (bv_one _))
              have HT := Lib.hid (HS.out.1.keepB (HS.out.2.2.1.trans hb7) (Nat.le_of_eq HBR.out.2.2.1.symm))
              have hc7 := (hb7.cell (p := ⟨b1, o1 + j, none⟩) bq1).trans HS.out.2.1
              have HC7 := Lib.hid (And.intro hc7 (World.block_lt_of_cell? _ _ hc7))
              have HR7 := Lib.hid (And.intro hr7' (grown_trans HS.out.2.2.2 hg7 (fun j hj => .inl hj)))
              clear how hcT hr7' hb7 hc7 hg7 hraw hrr
              go_wp2_with fail
              refine wp_region_steps [some 98, some 99, some 100, some 101, some 102, some 103, some 104, some 105, some 106, some 107, some 108, some 109] [] (backF l j b1 o1 y c1 ca cr pa ar) (fun _ wx wy => Below wx.heap.size wx wy) (fun wx => Below w7.heap.size w7 wx) (by kernel_rfl) (by kernel_rfl) rfl (by kernel_rfl) (Below.refl _ _).drew (fun _ wx => Below.refl _ _) (fun _ wx wy h k => h.trans (k.mono h.size)) ?hF ?hstep ?hend
              case hF =>
                exact ⟨fun _ _ _ _ _ _ h => h, ⟨fun _ _ _ _ _ _ h => h, ⟨fun _ _ _ _ _ _ h => h, ⟨fun _ _ _ _ _ _ h => h, ⟨fun _ _ _ _ _ _ h => h, ⟨fun _ _ _ _ _ _ h => h, ⟨fun _ _ _ _ _ _ h => h, ⟨fun _ _ _ _ _ _ h => h, ⟨fun _ _ _ _ _ _ h => h, ⟨fun _ _ _ _ _ _ h => h, ⟨fun _ _ _ _ _ _ h => h, ⟨fun _ _ _ _ _ _ h => h, trivial⟩⟩⟩⟩⟩⟩⟩⟩⟩⟩⟩⟩
              case hstep =>
                -- operation 0: Op.move (tmp 12)
                refine ⟨fun r wx hG hs hq hf => ?_, ?_⟩
                · have e12 : r 12 = .int .i64 0 := hs 12 rfl
                  refine (if_pos rfl).symm ▸ ?_
                  clear hs hq hf
                  unfold gives
                  go_simp
                  exact ⟨Below.refl _ _, rfl⟩
                -- operation 1: Op.binOp BinOp.neq 27 (tmp 98) (const (Value.int IntKind.i64 0)) 27
                refine ⟨fun r wx hG hs hq hf => ?_, ?_⟩
                · have h0 : r 98 = .int .i64 0 := hf.1
                  refine (if_pos rfl).symm ▸ ?_
                  clear hs hq hf
                  unfold gives
                  go_simp
                  exact ⟨Below.refl _ _, rfl⟩
                -- operation 2: Op.move (tmp 99)
                refine ⟨fun r wx hG hs hq hf => ?_, ?_⟩
                · have h1 : r 99 = .bool false := hf.1
                  refine (if_pos rfl).symm ▸ ?_
                  clear hs hq hf
                  unfold gives
                  go_simp
                  exact ⟨Below.refl _ _, rfl⟩
                -- operation 3: Op.move (tmp 11)
                refine ⟨fun r wx hG hs hq hf => ?_, ?_⟩
                · have e11 : r 11 = .slice ar l.length cr := hs 11 rfl
                  have h2 : r 100 = .bool false := hf.1
                  have hy : ydD [some 98, some 99, some 100, some 101, some 102, some 103, some 104, some 105, some 106, some 107, some 108, some 109] r 2 = some false := by show (match r 100 with | .bool b => some b | _ => none) = some false; rw [h2]
                  simp only [Region.wanted, hy, beq_self_eq_true, if_true]
                  clear hs hq hf hy
                  unfold gives
                  go_simp
                  exact ⟨Below.refl _ _, rfl⟩
                -- operation 4: Op.convert 22 9 (tmp 101)
                refine ⟨fun r wx hG hs hq hf => ?_, ?_⟩
                · have h3 : r 101 = .slice ar l.length cr := hf.1
                  have h2 : r 100 = .bool false := hf.2.1
                  have hy : ydD [some 98, some 99, some 100, some 101, some 102, some 103, some 104, some 105, some 106, some 107, some 108, some 109] r 2 = some false := by show (match r 100 with | .bool b => some b | _ => none) = some false; rw [h2]
                  simp only [Region.wanted, hy, beq_self_eq_true, if_true]
                  clear hs hq hf hy
                  unfold gives
                  have hcv := string_of_bytes (P := Try.prog) Try.underlying22 Try.underlying5 Try.underlying9 (l := l) (HRA.out.keep hG)
                  go_simp
                  exact ⟨Below.refl _ _, rfl⟩
                -- operation 5: Op.move (tmp 1)
                refine ⟨fun r wx hG hs hq hf => ?_, ?_⟩
                · have e1 : r 1 = .slice (some ⟨b1, o1, none⟩) y c1 := hs 1 rfl
                  have h2 : r 100 = .bool false := hf.1
                  have hy : ydD [some 98, some 99, some 100, some 101, some 102, some 103, some 104, some 105, some 106, some 107, some 108, some 109] r 2 = some false := by show (match r 100 with | .bool b => some b | _ => none) = some false; rw [h2]
                  simp only [Region.wanted, hy, beq_self_eq_true, if_true]
                  clear hs hq hf hy
                  unfold gives
                  go_simp
                  exact ⟨Below.refl _ _, rfl⟩
                -- operation 6: Op.move (tmp 8)
                refine ⟨fun r wx hG hs hq hf => ?_, ?_⟩
                · have e8 : r 8 = .int .i64 j := hs 8 rfl
                  have h2 : r 100 = .bool false := hf.1
                  have hy : ydD [some 98, some 99, some 100, some 101, some 102, some 103, some 104, some 105, some 106, some 107, some 108, some 109] r 2 = some false := by show (match r 100 with | .bool b => some b | _ => none) = some false; rw [h2]
                  simp only [Region.wanted, hy, beq_self_eq_true, if_true]
                  clear hs hq hf hy
                  unfold gives
                  go_simp
                  exact ⟨Below.refl _ _, rfl⟩
                -- operation 7: Op.indexAddr 35 (tmp 103) (tmp 104)
                refine ⟨fun r wx hG hs hq hf => ?_, ?_⟩
                · have h5 : r 103 = .slice (some ⟨b1, o1, none⟩) y c1 := hf.1
                  have h6 : r 104 = .int .i64 j := hf.2.1
                  have h2 : r 100 = .bool false := hf.2.2.1
                  have hy : ydD [some 98, some 99, some 100, some 101, some 102, some 103, some 104, some 105, some 106, some 107, some 108, some 109] r 2 = some false := by show (match r 100 with | .bool b => some b | _ => none) = some false; rw [h2]
                  simp only [Region.wanted, hy, beq_self_eq_true, if_true]
                  clear hs hq hf hy
                  unfold gives
                  have hj0 : (0 : Int) ≤ (j : Int) := by omega
                  go_simp
                  exact ⟨Below.refl _ _, rfl⟩
                -- operation 8: Op.load 22 (tmp 105)
                refine ⟨fun r wx hG hs hq hf => ?_, ?_⟩
                · have h7 : r 105 = .pointer (some ⟨b1, o1 + j, none⟩) := hf.1
                  have h2 : r 100 = .bool false := hf.2.1
                  have hy : ydD [some 98, some 99, some 100, some 101, some 102, some 103, some 104, some 105, some 106, some 107, some 108, some 109] r 2 = some false := by show (match r 100 with | .bool b => some b | _ => none) = some false; rw [h2]
                  simp only [Region.wanted, hy, beq_self_eq_true, if_true]
                  clear hs hq hf hy
                  unfold gives
                  have hc := (hG.cell (p := ⟨b1, o1 + j, none⟩) HC7.out.2).trans HC7.out.1
                  go_simp
                  exact ⟨Below.refl _ _, rfl⟩
                -- operation 9: Op.convert 22 9 (tmp 106)
                refine ⟨fun r wx hG hs hq hf => ?_, ?_⟩
                · have h8 : r 106 = .slice pa l.length ca := hf.1
                  have h2 : r 100 = .bool false := hf.2.1
                  have hy : ydD [some 98, some 99, some 100, some 101, some 102, some 103, some 104, some 105, some 106, some 107, some 108, some 109] r 2 = some false := by show (match r 100 with | .bool b => some b | _ => none) = some false; rw [h2]
                  simp only [Region.wanted, hy, beq_self_eq_true, if_true]
                  clear hs hq hf hy
                  unfold gives
                  have hcv := string_of_bytes (P := Try.prog) Try.underlying22 Try.underlying5 Try.underlying9 (l := l) (HT.out.keep hG)
                  go_simp
                  exact ⟨Below.refl _ _, rfl⟩
                -- operation 10: Op.binOp BinOp.neq 9 (tmp 102) (tmp 107) 9
                refine ⟨fun r wx hG hs hq hf => ?_, ?_⟩
                · have h4 : r 102 = .string ⟨l.toArray⟩ := hf.1
                  have h9 : r 107 = .string ⟨l.toArray⟩ := hf.2.1
                  have h2 : r 100 = .bool false := hf.2.2.1
                  have hy : ydD [some 98, some 99, some 100, some 101, some 102, some 103, some 104, some 105, some 106, some 107, some 108, some 109] r 2 = some false := by show (match r 100 with | .bool b => some b | _ => none) = some false; rw [h2]
                  simp only [Region.wanted, hy, beq_self_eq_true, if_true]
                  clear hs hq hf hy
                  unfold gives
                  go_simp
                  exact ⟨Below.refl _ _, rfl⟩
                -- operation 11: Op.pick (tmp 100) (const (Value.bool true)) (tmp 108)
                refine ⟨fun r wx hG hs hq hf => ?_, ?_⟩
                · have h2 : r 100 = .bool false := hf.1
                  have h10 : r 108 = .bool false := hf.2.1
                  refine (if_pos rfl).symm ▸ ?_
                  clear hs hq hf
                  unfold gives
                  go_simp
                  exact ⟨Below.refl _ _, rfl⟩
                exact trivial
              case hend =>
                intro u wz hG hfin
                have z11 : u 11 = .bool false := hfin 11 (by decide) (by kernel_rfl)
                clear hfin
                simp only [fill]
                go_simp
                go_wp2_with fail
                go_roundw
                case rel => exact ⟨j + 1, a7, c7, by omega, by first | rfl | (rw [zj]) | go_num, HR7.out.1.below hG, grown_below HR7.out.2 hG⟩
                case measure =>
                  simp [intOf]
                  omega
            · have zA2 : ¬ ((j : Int) < (x : Int)) := by omega
              have zB2 : ¬ ((j : Int) < (y : Int)) := by omega
              rw [layB_end ns ts j (by have := HX.out.1; omega) (by have := HX.out.2.1; omega)] at hrd
              have hleft := Left_any _ _ _ _ _ _ hrd
              have hend := End_any _ _ _ _ _ _ hrd
              rw [if_neg (fun h => h.2 rfl)] at hend
              have HG := Lib.hid hgr
              clear hrd hgr
              go_wp2_with fail
              refine hleft.mono ?_
              rintro e w6 ⟨rfl, rfl⟩
              go_wp2_with fail
              refine hend.mono ?_
              rintro e w7 ⟨rfl, _, hg7⟩
              go_wp2_with fail
              go_ret
              refine ⟨rfl, ?_⟩
              have hb := below_p (HG.out) hBp hB5
              have hb7 := below_p hg7 hBp (Nat.le_trans hB5 HG.out.size)
              have hbb := HBR.out.1.trans ((HB5.out.2.mono HBR.out.2.1).trans (hb.trans hb7))
              rw [HBR.out.2.2.1] at hbb
              exact HB1.out.trans (hbb.mono HB1.out.size)
end Go.Proofs.Ytpdlocdlnoibbaa
