/- The law BinReads: any bytes are read by any calls as the document says (gen/brreads.py). -/
import Derived.Test.YtpdlocdlnoibbaaBrS
import Derived.Test.YtpdlocdlnoibbaaTw
import Derived.Deep.DeepCutAuto
import Derived.Deep.CutBlock
import Derived.Deep.LoopGhost
namespace Go.Proofs.Ytpdlocdlnoibbaa
open Go.ChangeShapes Go.WideShapes Go.ChangeAt Go.RowKit

/-- What a script of calls says. -/
def Scr (w : World) (v : Value) (n : Nat) : Prop :=
  ((∃ a c, v = .slice a n c) ∧ n = 0) ∨ ∃ b off c, v = .slice (some ⟨b, off, none⟩) n c ∧ n ≤ c ∧ b < w.heap.size ∧ ∀ i, i < n → ∃ kd most : Int, (-9223372036854775808 ≤ kd ∧ kd ≤ 9223372036854775807) ∧ (-9223372036854775808 ≤ most ∧ most ≤ 9223372036854775807) ∧
    w.cell? ⟨b, off + i * 2, none⟩ = some (.int .i64 kd) ∧ w.cell? ⟨b, off + i * 2 + 1, none⟩ = some (.int .i64 most)
theorem Scr.form {w : World} {v : Value} {n : Nat} (h : Scr w v n) : ∃ a c, v = .slice a n c := by
  rcases h with ⟨h, _⟩ | ⟨b, off, c, rfl, _⟩
  · exact h
  · exact ⟨_, _, rfl⟩
theorem Scr.below {w w' : World} {v : Value} {n : Nat} (h : Scr w v n) (hb : Below w.heap.size w w') : Scr w' v n := by
  rcases h with h | ⟨b, off, c, hv, hc, hlt, h⟩
  · exact .inl h
  · refine .inr ⟨b, off, c, hv, hc, Nat.lt_of_lt_of_le hlt hb.size, fun i hi => ?_⟩
    have e : ∀ o, w'.cell? ⟨b, o, none⟩ = w.cell? ⟨b, o, none⟩ := fun o => hb.cell (p := ⟨b, o, none⟩) hlt
    simp only [e]
    exact h i hi
/-- Bytes of a row of one's own, whatever they are. -/
def Bump (w : World) (g n : Nat) : Prop := ∀ j, j < n → (∃ z : Int, w.cell? ⟨g, j, none⟩ = some (.int .u8 z)) ∧ w.frozen? ⟨g, j, none⟩ = false
theorem Bump.set {w : World} {g n : Nat} (h : Bump w g n) (k : Nat) (z : Int) : Bump (w.setCell ⟨g, k, none⟩ (.int .u8 z)) g n := fun j hj => by
  obtain ⟨⟨y, hy⟩, hf⟩ := h j hj
  refine ⟨?_, (World.frozen?_setCell _ _ _ _).trans hf⟩
  by_cases hjk : j = k
  · subst hjk; exact ⟨z, World.cell?_setCell_same _ _ _ hy⟩
  · exact ⟨y, (World.cell?_setCell_other _ _ _ _ (by simp <;> omega)).trans hy⟩
theorem Bump.block {w w' : World} {g n : Nat} (h : Bump w g n) (hb : w'.heap[g]? = w.heap[g]?) : Bump w' g n := fun j hj => by
  obtain ⟨⟨y, hy⟩, hf⟩ := h j hj
  exact ⟨⟨y, (World.cell?_of_block (a := ⟨g, j, none⟩) hb).trans hy⟩, (World.frozen?_of_block (a := ⟨g, j, none⟩) hb).trans hf⟩
/-- Where a row of one's own lies. -/
theorem own_blk {w : World} {B n : Nat} {v : Value} {l : List UInt8} (h : w.ownsRow B 5 1 v n (bv l)) (G : Nat) (hG : B ≤ G) :
    ∃ g a c, v = .slice a n c ∧ B ≤ g ∧ (g < w.heap.size ∨ g = G) ∧ (0 < n → a = some ⟨g, 0, none⟩ ∧ n ≤ c ∧ g < w.heap.size) ∧ Bump w g n := by
  rcases Nat.eq_zero_or_pos n with h0 | h0
  · obtain ⟨a, c, hv⟩ := own_formq h
    exact ⟨G, a, c, hv, hG, .inr rfl, fun h => by omega, fun j hj => by omega⟩
  · obtain ⟨g, cap, hv, hB, hc, _, hlt⟩ := own_at h h0
    refine ⟨g, _, cap, hv, hB, .inl hlt, fun _ => ⟨rfl, hc, hlt⟩, fun j hj => ?_⟩
    obtain ⟨b, o, k, hv2, _, cell⟩ := (own_rd h (bv_one _)).at h0
    have hln := h.1
    rw [bv_length, Nat.mul_one] at hln
    rw [hv] at hv2 h
    simp only [Value.slice.injEq, Option.some.injEq, Addr.mk.injEq, and_true, true_and] at hv2
    obtain ⟨⟨rfl, rfl⟩, rfl⟩ := hv2
    have hu : (bv l)[j]? = some (.int .u8 ((l[j]'(by omega)).toNat : Int)) := by simp [bv, List.getElem?_eq_getElem (show j < l.length by omega)]
    refine ⟨⟨_, by have := cell j _ hu; rwa [Nat.zero_add] at this⟩, h.frozenAt j⟩
set_option maxHeartbeats 8000000 in
set_option maxRecDepth 100000 in
theorem binReads_walk (v0 vs : Value) (l : List UInt8) (m : Nat) (w : World) (hr : Rd w 1 v0 l.length (bv l)) (hl : l.length ≤ 140737488351232) (hs : Scr w vs m) :
    Calls Try.prog 5 #[v0, vs] w fun e w' => e = .returned (.bool true) ∧ Below w.heap.size w w' := by
  obtain ⟨a0, c0, rfl⟩ := hr.form
  obtain ⟨av, cv, rfl⟩ := hs.form
  have HS := Lib.hid hs
  have HLL := Lib.hid hl
  have HA0 : Hid (l ≠ [] → ∀ x, a0 = some x → x.block < w.heap.size) := Lib.hid (fun hn x hx => by
    obtain ⟨b, o, k, hv, _, cell⟩ := hr.at (List.length_pos_iff.2 hn)
    simp only [Value.slice.injEq] at hv
    rw [hx] at hv
    obtain rfl := Option.some.inj hv.1
    obtain ⟨u, hu⟩ : ∃ u, (bv l)[0]? = some u := ⟨(bv l)[0]'(by rw [bv_length]; exact List.length_pos_iff.2 hn), List.getElem?_eq_getElem _⟩
    exact World.block_lt_of_cell? _ _ (cell 0 u hu))
  have haw := awake01_any w
  go_enter Try.func5, Try.ntmps5
  go_wp2_with fail
  refine haw.mono ?_
  rintro e w1 ⟨rfl, hb1⟩
  have hs1 := hb1.size
  go_wp2_with (at_builtin; refine wpList_app Try.underlying22 info8 rfl (by decide) rfl _ _ rfl rfl rfl (own_new w1 5 1 0 w1.heap.size [] rfl (by omega) (Nat.le_refl _)) ((hr.keep hb1).alloc _) (by omega) (by omega) (by simp) ?_)
  intro v2 w2 hown2 hg2 _
  have hb2 := hg2.alloc.below (B := w1.heap.size) (Nat.le_refl _) (fun j hj => by simp [Value.ownBlock] at hj; omega)
  have hs2 := hb2.size
  obtain ⟨G, hG⟩ : ∃ G, G = w2.heap.size := ⟨_, rfl⟩
  obtain ⟨ao, co, rfl⟩ := own_formq hown2
  have hnew := New_far _ l w2 (own_rd hown2 (bv_one _)) (by omega)
  have H2 := Lib.hid (And.intro hown2 (And.intro (hb1.trans (hb2.mono hs1)) (And.intro hs1 hs2)))
  clear hown2 hg2 hb2 hs2 hb1 hs1 haw hG
  go_wp2_with fail
  refine hnew.mono ?_
  rintro e w3 ⟨p, a, c, rfl, hp, hrd, hb3, hfar⟩
  obtain ⟨g, ax, cx, hv, hgB, hgz, hax, hbu⟩ := own_blk H2.out.1 w3.heap.size (by have := hb3.size; have := H2.out.2.2.2; omega)
  simp only [Value.slice.injEq, true_and] at hv
  obtain ⟨rfl, rfl⟩ := hv
  have hpw3 : p < w3.heap.size := (Array.getElem?_eq_some_iff.1 hrd.row).1
  have HN : Hid (w.heap.size ≤ p ∧ Rdr w3 p a c 0 l ∧ (∀ x, a = some x → w2.heap.size ≤ x.block) ∧ Below w.heap.size w w3 ∧ (w.heap.size ≤ g ∧ w.heap.size ≤ w3.heap.size ∧ (g < w2.heap.size ∨ g = w3.heap.size) ∧ w2.heap.size ≤ p ∧ p < w3.heap.size)) := Lib.hid
    ⟨by have := H2.out.2.2; omega, hrd, hfar, H2.out.2.1.trans (hb3.mono (by have := H2.out.2.2; omega)), by have := H2.out.2.2; omega, by have := H2.out.2.2; have := hb3.size; omega, hgz, hp, hpw3⟩
  have HBU : Hid (Bump w3 g l.length) := Lib.hid (by
    rcases hgz with h | h
    · exact hbu.block (hb3.block g h)
    · intro j hj; exact absurd (hax (by omega)).2.2 (by have := hb3.size; omega))
  have HOW : Hid (True ∧ True ∧ (0 < l.length → ao = some ⟨g, 0, none⟩ ∧ l.length ≤ co ∧ g < w2.heap.size)) := Lib.hid ⟨trivial, trivial, hax⟩
  clear hrd hb3 hfar hnew hbu hax hp hpw3 hgz hgB
  go_wp2_with fail
  go_loopw [7] (fun s7 wx => ∃ k : Nat, k ≤ l.length ∧ s7 = .int .i64 k ∧ Bump wx g l.length ∧ w3.grownBy wx (some g)) (fun s7 _ => l.length - (intOf s7).toNat)
  case atStart => exact ⟨0, Nat.zero_le _, rfl, HBU.out, World.grownBy.refl _ _⟩
  case round =>
    obtain ⟨k, hk, rfl, hbu, hgx⟩ := hrel
    by_cases hkl : k < l.length
    · obtain ⟨⟨z, hz⟩, hfz⟩ := hbu k hkl
      obtain ⟨rfl, hca, _⟩ := HOW.out.2.2 (by omega)
      have zk : (k : Int) < (l.length : Int) := by omega
      have zk0 : (0 : Int) ≤ (k : Int) := by omega
      have HK := Lib.hid (And.intro hbu hgx)
      have HW : Hid (IntKind.i64.wrap ((k : Int) + 1) = ((k + 1 : Nat) : Int)) := Lib.hid ((IntWalk.i64_in _ (by omega)).trans (by omega))
      clear hbu hgx
      go_wp2_with fail
      go_roundw
      case rel => exact ⟨k + 1, by omega, by first | rfl | (rw [HW.out]) | go_num, HK.out.1.set k _, grown_set1 HK.out.2 k _⟩
      case measure =>
        simp [intOf]
        omega
    · have zk : ¬ ((k : Int) < (l.length : Int)) := by omega
      have hLp := HN.out.1
      have hbx : Below w.heap.size w wr := below_row HN.out.2.2.2.1 hgx (by have := HN.out.2.2.2.2; omega) (by have := HN.out.2.2.2.2; omega)
      have hrx : Rdr wr p a c 0 l := HN.out.2.1.keep hgx (fun e => by have := HN.out.2.2.2.2; simp only [Option.some.injEq] at e; omega) (fun x hx e => by have := HN.out.2.2.1 x hx; have := HN.out.2.1.off x hx; have := HN.out.2.2.2.2; simp only [Option.some.injEq] at e; omega)
      have h0x : Rd wr 1 (.slice a0 l.length c0) l.length (bv l) := hr.keepB hbx (Nat.le_refl _)
      have hszx : w3.heap.size ≤ wr.heap.size := hgx.size
      clear hbu hgx
      go_wp2_with fail
      obtain ⟨wy, hwy⟩ : ∃ x : World, x = wr.alloc (Obj.cells #[Value.slice a0 l.length c0, .int .i64 0, .int .i64 0] 43) := ⟨_, rfl⟩
      have hby : Below wr.heap.size wr wy := by rw [hwy]; exact (Below.refl _ _).alloc (Nat.le_refl _) _
      have hry := heap_alloc_new wr (Obj.cells #[Value.slice a0 l.length c0, .int .i64 0, .int .i64 0] 43)
      rw [← hwy] at hry
      have hszy : wr.heap.size < wy.heap.size := (Array.getElem?_eq_some_iff.1 hry).1
      rw [← hwy]
      obtain ⟨q, hq⟩ : ∃ q, q = wr.heap.size := ⟨_, rfl⟩
      rw [← hq] at hry hszy ⊢
      have hpx : p < wr.heap.size := (Array.getElem?_eq_some_iff.1 hrx.row).1
      have HL : Hid (Lie w.heap.size p q a0 l) := Lib.hid ⟨by omega, by omega, fun hn x hx => HA0.out hn x hx⟩
      have HY : Hid (SV wy p q a0 c0 l 0 ∧ Below w.heap.size w wy ∧ q < wy.heap.size) := Lib.hid ⟨⟨a, c, 0, hrx.below hby, hry, h0x.keep hby, fun hn x hx e => by have := HA0.out hn x hx; omega, Nat.zero_le _⟩, hbx.trans (hby.mono (by omega)), hszy⟩
      clear hwy hby hry hbx hrx h0x hszx hszy hpx hq
      go_loopg [9, 10, 11, 12, 13, 14, 15, 16, 17, 18, 19, 20, 21] 60 (fun g s9 s10 s11 s12 s13 s14 s15 s16 s17 s18 s19 s20 s21 wr => ∃ (i : Nat) (no : Int), i ≤ 60 ∧ i ≤ m ∧ g = 60 - i ∧ s9 = .int .i64 i ∧ SV wr p q a0 c0 l no ∧ Below w.heap.size w wr ∧ q < wr.heap.size)
      case atStart => exact ⟨0, 0, by omega, by omega, rfl, rfl, HY.out.1, HY.out.2.1, HY.out.2.2⟩
      case round =>
        obtain ⟨i, no, hi, him, rfl, rfl, hsv, hbr, hqr⟩ := hrel
        have hsr := HS.out.below (hbr.mono (Nat.le_refl _))
        by_cases hlt : i < 60 ∧ i < m
        · obtain ⟨h60, hm⟩ := hlt
          rcases hsr with ⟨_, h0⟩ | ⟨b, off, cc, hv, hc, hbl, hsr⟩
          · omega
          obtain ⟨kd, most, hkd, ⟨hm1, hm2⟩, q0, q1⟩ := hsr i hm
          clear hsr
          simp only [Value.slice.injEq, true_and] at hv
          obtain ⟨rfl, rfl⟩ := hv
          have l3 : (i : Int) < 60 := by omega
          have l4 : (i : Int) < (m : Int) := by omega
          have hxx : i * 2 = 2 * i := Nat.mul_comm _ _
          have HXX := Lib.hid hxx
          have HSV := Lib.hid (And.intro hsv hbr)
          have HZ1 : Hid (IntKind.i64.wrap ((i : Int) + 1) = ((i + 1 : Nat) : Int)) := Lib.hid ((IntWalk.i64_in _ (by omega)).trans (by omega))
          clear hxx hsv hbr
          go_upto_block 4 with fail
          generalize (wrap64 (kd.tmod 5 + 5)).tmod 5 = T
          go_cut [11, 12, 13, 14, 15, 16, 17, 18, 19, 20] (fun s11 s12 s13 s14 s15 s16 s17 s18 s19 s20 wz => ∃ (N : Nat) (E : Int) (X : List UInt8) (no' : Int) (ay : Option Addr) (cy : Nat), s13 = .int .u64 N ∧ s14 = .int .u64 N ∧ s15 = .int .i64 E ∧ s16 = .int .i64 E ∧ s12 = .slice ay X.length cy ∧ X.length ≤ 140737488355328 ∧ wz.ownsRow (q + 1) 5 1 s11 X.length (bv X) ∧ Rd wz 1 (.slice ay X.length cy) X.length (bv X) ∧ SV wz p q a0 c0 l no' ∧ Below w.heap.size w wz ∧ q < wz.heap.size)
          case first =>
            clear q0 q1 hkd HXX
            obtain ⟨wA, hwA⟩ : ∃ x : World, x = wr.alloc (Obj.cells #[Value.int IntKind.i64 kd, Value.int IntKind.i64 most] 45) := ⟨_, rfl⟩
            have hbA : Below wr.heap.size wr wA := by rw [hwA]; exact (Below.refl _ _).alloc (Nat.le_refl _) _
            have hrA := heap_alloc_new wr (Obj.cells #[Value.int IntKind.i64 kd, Value.int IntKind.i64 most] 45)
            rw [← hwA] at hrA
            have hck := cell_of_row (v := .int .i64 kd) (i := 0) hrA rfl
            have hcm := cell_of_row (v := .int .i64 most) (i := 1) hrA rfl
            have hszA : wr.heap.size < wA.heap.size := (Array.getElem?_eq_some_iff.1 hrA).1
            obtain ⟨a, c, pos, h1, h2⟩ := HSV.out.1
            have HA := Lib.hid (And.intro (h1.below hbA) (And.intro (h2.below hbA) (And.intro (HSV.out.2.trans (hbA.mono (by have := HL.out.p0; have := HL.out.pq; omega))) hbA)))
            have hb0 : w.heap.size ≤ wA.heap.size := by have := HL.out.p0; have := HL.out.pq; omega
            rw [← hwA]
            clear hwA hbA hrA h1 h2
            cases e0 : (T == 0) with
            | true =>
              have hp := RByte_any wA p a c no _ HA.out.1
              have hf := fun (w5 : World) (h5 : Rfr w5 q a0 c0 l pos no) => rByte_out w5 q a0 c0 l pos no _ rfl h5 (by have := HLL.out; omega)
              go_wp2_with fail
              refine hp.mono ?_
              rintro e w5 h5
              obtain ⟨hg1, rfl, ap, cp, hr5⟩ := h5.out
              have hrf5 := HA.out.2.1.other HL.out hg1
              go_wp2_with fail
              refine (hf w5 hrf5).mono ?_
              rintro e w6 h6
              obtain ⟨hg2, rfl, pos6, hrf6, hdr6⟩ := h6
              have hr6 := hr5.ref HL.out hg2
              have hlt := rdB_lt no (l.drop pos)
              obtain ⟨R, hR⟩ : ∃ R, R = outO 0 no (l.drop pos) (rdB (l.drop pos)) := ⟨_, rfl⟩
              rw [← hR] at hr6 hrf6 hdr6 hlt ⊢
              have HZ := Lib.hid (And.intro hr6 (And.intro hrf6 (And.intro hdr6 (And.intro hg1 hg2))))
              have zw : IntKind.u64.wrap (R.1 : Int) = (R.1 : Int) := IntWalk.u64_in _ (by omega)
              have HWR := Lib.hid zw
              clear hr6 hrf6 hdr6 hg1 hg2 hr5 hrf5 h5 hp hf hR
              go_wp2_with fail
              go_meet
              obtain ⟨hr6, hrf6, hdr6, hg1, hg2⟩ := HZ.out
              exact ⟨R.1, R.2.1, [], R.2.2.1, none, 0, (by first | rfl | (rw [HWR.out])), (by first | rfl | (rw [HWR.out])), rfl, rfl, rfl, by simp, World.ownsRow_nil _ _ _ _, Rd.nil _ _, ⟨_, _, _, by rw [hdr6]; exact hr6, hrf6⟩, below_row (below_row HA.out.2.2.1 hg1 HL.out.p0 (by omega)) hg2 (by have := HL.out.p0; have := HL.out.pq; omega) (by have := hg1.size; omega), by have := hg1.size; have := hg2.size; omega⟩
            | false =>
              cases e1 : (T == 1) with
              | true =>
                have hp := RNum_any wA p a c no _ HA.out.1
                have hf := fun (w5 : World) (h5 : Rfr w5 q a0 c0 l pos no) => rNum_any w5 q a0 c0 l pos no h5 (by have := HLL.out; omega)
                go_wp2_with fail
                refine hp.mono ?_
                rintro e w5 h5
                obtain ⟨hg1, rfl, ap, cp, hr5⟩ := h5.out
                have hrf5 := HA.out.2.1.other HL.out hg1
                go_wp2_with fail
                refine (hf w5 hrf5).mono ?_
                rintro e w6 h6
                obtain ⟨hg2, rfl, pos6, hrf6, hdr6⟩ := RfNum.out rfl h6
                have hr6 := hr5.ref HL.out hg2
                skip
                obtain ⟨R, hR⟩ : ∃ R, R = outO 0 no (l.drop pos) (rdN (l.drop pos)) := ⟨_, rfl⟩
                rw [← hR] at hr6 hrf6 hdr6 ⊢
                have HZ := Lib.hid (And.intro hr6 (And.intro hrf6 (And.intro hdr6 (And.intro hg1 hg2))))
                clear hr6 hrf6 hdr6 hg1 hg2 hr5 hrf5 h5 h6 hp hf hR
                go_wp2_with fail
                go_meet
                obtain ⟨hr6, hrf6, hdr6, hg1, hg2⟩ := HZ.out
                exact ⟨R.1, R.2.1, [], R.2.2.1, none, 0, rfl, rfl, rfl, rfl, rfl, by simp, World.ownsRow_nil _ _ _ _, Rd.nil _ _, ⟨_, _, _, by rw [hdr6]; exact hr6, hrf6⟩, below_row (below_row HA.out.2.2.1 hg1 HL.out.p0 (by omega)) hg2 (by have := HL.out.p0; have := HL.out.pq; omega) (by have := hg1.size; omega), by have := hg1.size; have := hg2.size; omega⟩
              | false =>
                cases e2 : (T == 2) with
                | true =>
                  have hp := RawR_any wA p a c no _ most HA.out.1 (by rw [List.length_drop]; have := HLL.out; omega) hm1 (by omega)
                  have hf := fun (w5 : World) (h5 : Rfr w5 q a0 c0 l pos no) => rRaw_any w5 q a0 c0 l pos no most h5 (by have := HLL.out; omega) hm1 (by omega)
                  go_wp2_with fail
                  refine hp.mono ?_
                  rintro e w5 h5
                  obtain ⟨hg1, ⟨v5, rfl, ho5⟩, ap, cp, hr5⟩ := h5.out
                  have hrf5 := HA.out.2.1.other HL.out hg1
                  have hcm5 : w5.cell? ⟨wr.heap.size, 1, none⟩ = some (.int .i64 most) := (World.cell?_of_block (a := ⟨wr.heap.size, 1, none⟩) (hg1.block _ (by omega) (fun e => by have := HL.out.pq; simp only [Option.some.injEq] at e; omega))).trans hcm
                  go_wp2_with fail
                  refine (hf w5 hrf5).mono ?_
                  rintro e w6 h6
                  obtain ⟨hg2, ⟨a6, c6, rfl, hrd6⟩, pos6, hrf6, hdr6⟩ := RfRaw.out rfl h6
                  have hr6 := hr5.ref HL.out hg2
                  have ho6 : w6.ownsRow (q + 1) 5 1 v5 (outO [] no (l.drop pos) (rdR most (l.drop pos))).1.length (bv (outO [] no (l.drop pos) (rdR most (l.drop pos))).1) := own_base (ho5.kept hg2 (by
                    rcases hov : v5.ownBlock with _ | j
                    · exact .inl rfl
                    · refine .inr (fun e => ?_)
                      have := own_block ho5 j hov
                      simp only [Option.some.injEq] at e
                      omega)) (by omega)
                  have hxl := rdR_len no most (l.drop pos)
                  obtain ⟨R, hR⟩ : ∃ R, R = outO [] no (l.drop pos) (rdR most (l.drop pos)) := ⟨_, rfl⟩
                  rw [← hR] at hr6 hrf6 hdr6 ho6 hrd6 hxl ⊢
                  have HZ := Lib.hid (And.intro hr6 (And.intro hrf6 (And.intro hdr6 (And.intro hg1 (And.intro hg2 (And.intro ho6 (And.intro hrd6 hxl)))))))
                  clear hr6 hrf6 hdr6 hg1 hg2 hr5 hrf5 h5 h6 hp hf hR ho6 hrd6 ho5 hcm5 hxl
                  go_wp2_with fail
                  go_meet
                  obtain ⟨hr6, hrf6, hdr6, hg1, hg2, ho6, hrd6, hxl⟩ := HZ.out
                  exact ⟨0, R.2.1, R.1, R.2.2.1, _, _, rfl, rfl, rfl, rfl, rfl, by rw [List.length_drop] at hxl; have := HLL.out; omega, ho6, hrd6, ⟨_, _, _, by rw [hdr6]; exact hr6, hrf6⟩, below_row (below_row HA.out.2.2.1 hg1 HL.out.p0 (by omega)) hg2 (by have := HL.out.p0; have := HL.out.pq; omega) (by have := hg1.size; omega), by have := hg1.size; have := hg2.size; omega⟩
                | false =>
                  cases e3 : (T == 3) with
                  | true =>
                    have hp := End_any wA p a c no _ HA.out.1
                    have hf := fun (w5 : World) (h5 : Rfr w5 q a0 c0 l pos no) => rEnd_any w5 q a0 c0 l pos no h5 (by have := HLL.out; omega)
                    obtain ⟨E, hE⟩ : ∃ E, E = if no = 0 ∧ l.drop pos ≠ [] then (5 : Int) else no := ⟨_, rfl⟩
                    rw [← hE] at hp hf
                    clear hE
                    go_wp2_with fail
                    refine hp.mono ?_
                    rintro e w5 ⟨rfl, hr5, hg1⟩
                    have hrf5 := HA.out.2.1.other HL.out hg1
                    go_wp2_with fail
                    refine (hf w5 hrf5).mono ?_
                    rintro e w6 ⟨rfl, hrf6, hg2⟩
                    have hr6 := hr5.ref HL.out hg2
                    have HZ := Lib.hid (And.intro hr6 (And.intro hrf6 (And.intro hg1 hg2)))
                    clear hr6 hrf6 hg1 hg2 hr5 hrf5 hp hf
                    go_wp2_with fail
                    go_meet
                    obtain ⟨hr6, hrf6, hg1, hg2⟩ := HZ.out
                    exact ⟨0, E, [], E, none, 0, rfl, rfl, rfl, rfl, rfl, by simp, World.ownsRow_nil _ _ _ _, Rd.nil _ _, ⟨_, _, _, hr6, hrf6⟩, below_row (below_row HA.out.2.2.1 hg1 HL.out.p0 (by omega)) hg2 (by have := HL.out.p0; have := HL.out.pq; omega) (by have := hg1.size; omega), by have := hg1.size; have := hg2.size; omega⟩
                  | false =>
                    go_wp2_with fail
                    go_meet
                    exact ⟨0, 0, [], no, none, 0, rfl, rfl, rfl, rfl, rfl, by simp, World.ownsRow_nil _ _ _ _, Rd.nil _ _, ⟨_, _, _, HA.out.1, HA.out.2.1⟩, HA.out.2.2.1, by omega⟩
          case rest =>
            obtain ⟨N, E, X, no', ay, cy, rfl, rfl, rfl, rfl, rfl, hxl, hox, hry, hsv, hbw, hqz⟩ := hcut
            obtain ⟨gx, ax, cx, rfl, hgq, hgz, hax, hbx⟩ := own_blk hox wc.heap.size (by omega)
            have hsx := string_of_bytes (P := Try.prog) Try.underlying22 Try.underlying5 Try.underlying9 (own_rd hox (bv_one _))
            have hsy := string_of_bytes (P := Try.prog) Try.underlying22 Try.underlying5 Try.underlying9 hry
            obtain ⟨ap, cp, pos6, hrp, hrf⟩ := hsv
            have hl1 := Left_any wc p ap cp no' _ hrp
            have hl2 := rLeft_any wc q a0 c0 l pos6 no' hrf (by have := HLL.out; omega)
            rw [List.length_drop] at hl1
            obtain ⟨LN, hLN⟩ : ∃ LN, LN = l.length - pos6 := ⟨_, rfl⟩
            rw [← hLN] at hl1 hl2
            have HC := Lib.hid (And.intro hrp (And.intro hrf (And.intro hbx (And.intro hbw (And.intro hqz (And.intro hgz hgq))))))
            have zN : (N == N) = true := by simp
            clear hrp hrf hbx hbw hgz hox hry hLN
            have hqz := HC.out.2.2.2.2.1
            go_wp2_with fail
            refine hl1.mono ?_
            rintro e w5 ⟨rfl, rfl⟩
            go_wp2_with fail
            refine hl2.mono ?_
            rintro e w6 ⟨rfl, hb6⟩
            have hbu6 : Bump w6 gx X.length := by
              rcases HC.out.2.2.2.2.2.1 with h | h
              · exact HC.out.2.2.1.block (hb6.block gx h)
              · intro j hj; exact absurd (hax (by omega)).2.2 (by omega)
            have hs6 := hb6.size
            have H6 := Lib.hid (And.intro hb6 hbu6)
            clear hb6 hbu6 hl1 hl2 hsx hsy
            go_wp2_with fail
            go_loopw [21] (fun s21 wx => ∃ k : Nat, k ≤ X.length ∧ s21 = .int .i64 k ∧ Bump wx gx X.length ∧ w6.grownBy wx (some gx)) (fun s21 _ => X.length - (intOf s21).toNat)
            case atStart => exact ⟨0, Nat.zero_le _, rfl, H6.out.2, World.grownBy.refl _ _⟩
            case round =>
              obtain ⟨k, hk, rfl, hbu, hgx⟩ := hrel
              by_cases hkl : k < X.length
              · obtain ⟨⟨z, hz⟩, hfz⟩ := hbu k hkl
                obtain ⟨rfl, hca, _⟩ := hax (by omega)
                have zk : (k : Int) < (X.length : Int) := by omega
                have zk0 : (0 : Int) ≤ (k : Int) := by omega
                have HK := Lib.hid (And.intro hbu hgx)
                have HW : Hid (IntKind.i64.wrap ((k : Int) + 1) = ((k + 1 : Nat) : Int)) := Lib.hid ((IntWalk.i64_in _ (by omega)).trans (by omega))
                clear hbu hgx
                go_wp2_with fail
                go_roundw
                case rel => exact ⟨k + 1, by omega, by first | rfl | (rw [HW.out]) | go_num, HK.out.1.set k _, grown_set1 HK.out.2 k _⟩
                case measure =>
                  simp [intOf]
                  omega
              · have zk : ¬ ((k : Int) < (X.length : Int)) := by omega
                have HX := Lib.hid (And.intro hbu hgx)
                clear hbu hgx
                go_wp2_with fail
                go_roundg (60 - (i + 1))
                case measure => omega
                case rel =>
                  have hsv : SV w5 p q a0 c0 l no' := ⟨_, _, _, HC.out.1, HC.out.2.1⟩
                  exact ⟨i + 1, no', by omega, by omega, by omega, by first | rfl | (rw [HZ1.out]) | go_num, (hsv.below H6.out.1).far HL.out (by have := HC.out.2.2.2.2.2.2; omega) HX.out.2,
                    below_row (HC.out.2.2.2.1.trans (H6.out.1.mono (by have := HL.out.p0; have := HL.out.pq; omega))) HX.out.2 (by have := HC.out.2.2.2.2.2.2; have := HL.out.p0; have := HL.out.pq; omega) (by have := HL.out.p0; have := HL.out.pq; omega), by have := HX.out.2.size; omega⟩
        · have HF := Lib.hid (And.intro hsv hbr)
          clear hsv hbr
          have hor : ¬ ((i : Int) < 60) ∨ ¬ ((i : Int) < (m : Int)) := by omega
          have hn1 := byte_none
          have hn2 := num_none
          have hn3 := raw_none
          have hn4 := end_none
          have hn5 := left_none
          rcases Nat.lt_or_ge i m with him2 | him2
          · have l4 : (i : Int) < (m : Int) := by omega
            have l3 : ¬ ((i : Int) < 60) := by omega
            clear hor
            go_wp2_with fail
            refine (hn1 wr).mono ?_
            rintro e wa ⟨rfl, hba⟩
            go_wp2_with fail
            refine (hn2 wa).mono ?_
            rintro e wb ⟨rfl, hbb⟩
            go_wp2_with fail
            refine (hn3 wb 5).mono ?_
            rintro e wc ⟨rfl, hbc⟩
            go_wp2_with fail
            refine (hn4 wc).mono ?_
            rintro e wd ⟨rfl, rfl⟩
            go_wp2_with fail
            refine (hn5 wd).mono ?_
            rintro e we ⟨rfl, rfl⟩
            have hz0 : w.heap.size ≤ wr.heap.size := by have := HL.out.p0; have := HL.out.pq; omega
            have hz1 := hba.size
            have hz2 := hbb.size
            have HE := Lib.hid (HF.out.2.trans ((hba.mono hz0).trans ((hbb.mono (by omega)).trans (hbc.mono (by omega)))))
            clear hba hbb hbc hn1 hn2 hn3 hn4 hn5
            go_wp2_with fail
            go_ret
            exact ⟨rfl, HE.out⟩
          · have l4 : ¬ ((i : Int) < (m : Int)) := by omega
            clear hor
            go_wp2_with fail
            refine (hn1 wr).mono ?_
            rintro e wa ⟨rfl, hba⟩
            go_wp2_with fail
            refine (hn2 wa).mono ?_
            rintro e wb ⟨rfl, hbb⟩
            go_wp2_with fail
            refine (hn3 wb 5).mono ?_
            rintro e wc ⟨rfl, hbc⟩
            go_wp2_with fail
            refine (hn4 wc).mono ?_
            rintro e wd ⟨rfl, rfl⟩
            go_wp2_with fail
            refine (hn5 wd).mono ?_
            rintro e we ⟨rfl, rfl⟩
            have hz0 : w.heap.size ≤ wr.heap.size := by have := HL.out.p0; have := HL.out.pq; omega
            have hz1 := hba.size
            have hz2 := hbb.size
            have HE := Lib.hid (HF.out.2.trans ((hba.mono hz0).trans ((hbb.mono (by omega)).trans (hbc.mono (by omega)))))
            clear hba hbb hbc hn1 hn2 hn3 hn4 hn5
            go_wp2_with fail
            go_ret
            exact ⟨rfl, HE.out⟩
end Go.Proofs.Ytpdlocdlnoibbaa
