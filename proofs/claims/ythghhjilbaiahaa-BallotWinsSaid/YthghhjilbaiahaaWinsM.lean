/- The law BallotWins: the walk. (printed by gen/ballotwins.py) -/
import Derived.Test.YthghhjilbaiahaaWinsP
import Derived.Test.YthghhjilbaiahaaReg
import Derived.Test.YthghhjilbaiahaaProg
import Derived.Deep.QuietTactic
import Derived.Deep.DeepCutAuto
import Derived.Deep.CutBlock
namespace Go.Proofs.Ythghhjilbaiahaa
open Go.RowKit

/-- What each operation hands on. -/
def bw17F (q i : Nat) (hst : HS) (l : LogE) (t : TurnE) (ts : List TurnE) (HB gt ot tc nt nv : Nat) (ok : Bool) (B0 : Nat) : Nat → Value → World → Prop
  | 0, v, _ => v = .int .i64 (q : Nat)
  | 1, v, _ => v = .pointer (some ⟨HB, q * 2, none⟩)
  | 2, v, _ => v = .agg #[.int .u64 (hst (q + 1)).1, .int .u64 (hst (q + 1)).2]
  | 3, v, _ => v = .agg #[.int .u64 l.base, .int .u64 l.bt, l.val]
  | 4, v, _ => v = .slice (some ⟨gt, ot, none⟩) ts.length tc
  | 5, v, _ => v = .int .i64 (i : Nat)
  | 6, v, _ => v = .pointer (some ⟨gt, ot + i * 13, none⟩)
  | 7, v, _ => v = .pointer (some ⟨gt, ot + i * 13 + 1, none⟩)
  | 8, v, _ => v = .agg t.m.cells.toArray
  | 9, v, _ => v = .tuple #[.agg #[.int .u64 nt, .int .u64 nv], .bool ok]
  | 10, v, _ => v = .tuple #[.agg #[.int .u64 nt, .int .u64 nv], .bool ok]
  | 11, v, _ => v = .agg #[.int .u64 nt, .int .u64 nv]
  | 12, v, _ => v = .bool ok
  | 13, v, w => ∃ R, v = .pointer (some ⟨R, 0, none⟩) ∧ B0 ≤ R ∧ HRow w R 0 0
  | 14, v, w => ∃ R, v = .pointer (some ⟨R, 0, none⟩) ∧ B0 ≤ R ∧ HRow w R nt nv
  | 15, v, _ => v = .bool ok
  | _, _, _ => True
/-- What each operation hands on. -/
def bw33A (g8 : Nat) (i : Nat) (k : Nat) (ms : List MsgV) (c8 : Nat) (xi : MsgV) (xk : MsgV) : Nat → Value → World → Prop
  | 0, v, _ => v = .slice (some ⟨g8, 0, none⟩) ms.length c8
  | 1, v, _ => v = .int .i64 (i : Nat)
  | 2, v, _ => v = .pointer (some ⟨g8, i * 12, none⟩)
  | 3, v, _ => v = .pointer (some ⟨g8, i * 12 + 3, none⟩)
  | 4, v, _ => v = .int .u64 xi.x
  | 5, v, _ => v = .slice (some ⟨g8, 0, none⟩) ms.length c8
  | 6, v, _ => v = .int .i64 (k : Nat)
  | 7, v, _ => v = .pointer (some ⟨g8, k * 12, none⟩)
  | 8, v, _ => v = .pointer (some ⟨g8, k * 12 + 3, none⟩)
  | 9, v, _ => v = .int .u64 xk.x
  | 10, v, _ => v = .bool false
  | 11, v, _ => v = .bool false
  | 12, v, _ => v = undef
  | 13, v, _ => v = undef
  | 14, v, _ => v = undef
  | 15, v, _ => v = undef
  | 16, v, _ => v = undef
  | 17, v, _ => v = undef
  | 18, v, _ => v = .bool false
  | 19, v, _ => v = .bool false
  | 20, v, _ => v = undef
  | 21, v, _ => v = undef
  | 22, v, _ => v = undef
  | 23, v, _ => v = undef
  | 24, v, _ => v = undef
  | 25, v, _ => v = undef
  | 26, v, _ => v = .bool false
  | _, _, _ => True
/-- What each operation hands on. -/
def bw33B (g8 : Nat) (g9 : Nat) (i : Nat) (k : Nat) (ms : List MsgV) (bs : List Value) (c8 : Nat) (c9 : Nat) (xi : MsgV) (xk : MsgV) (ma : Option Addr) (mc : Nat) (mb : List Nat) (ai : Option Addr) (li : List Nat) (ci : Nat) : Nat → Value → World → Prop
  | 0, v, _ => v = .slice (some ⟨g8, 0, none⟩) ms.length c8
  | 1, v, _ => v = .int .i64 (i : Nat)
  | 2, v, _ => v = .pointer (some ⟨g8, i * 12, none⟩)
  | 3, v, _ => v = .pointer (some ⟨g8, i * 12 + 3, none⟩)
  | 4, v, _ => v = .int .u64 xi.x
  | 5, v, _ => v = .slice (some ⟨g8, 0, none⟩) ms.length c8
  | 6, v, _ => v = .int .i64 (k : Nat)
  | 7, v, _ => v = .pointer (some ⟨g8, k * 12, none⟩)
  | 8, v, _ => v = .pointer (some ⟨g8, k * 12 + 3, none⟩)
  | 9, v, _ => v = .int .u64 xk.x
  | 10, v, _ => v = .bool true
  | 11, v, _ => v = .bool true
  | 12, v, _ => v = .slice ma mb.length mc
  | 13, v, _ => v = .slice (some ⟨g9, 0, none⟩) bs.length c9
  | 14, v, _ => v = .int .i64 (i : Nat)
  | 15, v, _ => v = .pointer (some ⟨g9, i, none⟩)
  | 16, v, _ => v = .slice ai li.length ci
  | 17, v, _ => v = .bool false
  | 18, v, _ => v = .bool false
  | 19, v, _ => v = .bool false
  | 20, v, _ => v = undef
  | 21, v, _ => v = undef
  | 22, v, _ => v = undef
  | 23, v, _ => v = undef
  | 24, v, _ => v = undef
  | 25, v, _ => v = undef
  | 26, v, _ => v = .bool false
  | _, _, _ => True
/-- What each operation hands on. -/
def bw33C (g8 : Nat) (g9 : Nat) (i : Nat) (k : Nat) (ms : List MsgV) (bs : List Value) (c8 : Nat) (c9 : Nat) (xi : MsgV) (xk : MsgV) (ma : Option Addr) (mc : Nat) (mb : List Nat) (ai : Option Addr) (ak : Option Addr) (li : List Nat) (lk : List Nat) (ci : Nat) (ck : Nat) : Nat → Value → World → Prop
  | 0, v, _ => v = .slice (some ⟨g8, 0, none⟩) ms.length c8
  | 1, v, _ => v = .int .i64 (i : Nat)
  | 2, v, _ => v = .pointer (some ⟨g8, i * 12, none⟩)
  | 3, v, _ => v = .pointer (some ⟨g8, i * 12 + 3, none⟩)
  | 4, v, _ => v = .int .u64 xi.x
  | 5, v, _ => v = .slice (some ⟨g8, 0, none⟩) ms.length c8
  | 6, v, _ => v = .int .i64 (k : Nat)
  | 7, v, _ => v = .pointer (some ⟨g8, k * 12, none⟩)
  | 8, v, _ => v = .pointer (some ⟨g8, k * 12 + 3, none⟩)
  | 9, v, _ => v = .int .u64 xk.x
  | 10, v, _ => v = .bool true
  | 11, v, _ => v = .bool true
  | 12, v, _ => v = .slice ma mb.length mc
  | 13, v, _ => v = .slice (some ⟨g9, 0, none⟩) bs.length c9
  | 14, v, _ => v = .int .i64 (i : Nat)
  | 15, v, _ => v = .pointer (some ⟨g9, i, none⟩)
  | 16, v, _ => v = .slice ai li.length ci
  | 17, v, _ => v = .bool true
  | 18, v, _ => v = .bool true
  | 19, v, _ => v = .bool true
  | 20, v, _ => v = .slice ma mb.length mc
  | 21, v, _ => v = .slice (some ⟨g9, 0, none⟩) bs.length c9
  | 22, v, _ => v = .int .i64 (k : Nat)
  | 23, v, _ => v = .pointer (some ⟨g9, k, none⟩)
  | 24, v, _ => v = .slice ak lk.length ck
  | 25, v, _ => v = .bool false
  | 26, v, _ => v = .bool false
  | _, _, _ => True

set_option maxHeartbeats 16000000 in
set_option maxRecDepth 100000 in
theorem ballotWins_walk (lv mv tv : Value) (ls : List LogE) (mb : List Nat) (ts : List TurnE) (w : World) (hls : Rd w 3 lv ls.length (ls.flatMap LogE.cells)) (hlok : ∀ l ∈ ls, l.ok w) (hll : ls.length ≤ 140737488355328)
    (hmr : Rd w 1 mv mb.length (uv mb)) (hml : mb.length ≤ 140737488355328) (htr : Rd w 13 tv ts.length (ts.flatMap TurnE.cells)) (htl : ts.length ≤ 140737488355328) (htok : ∀ t ∈ ts, t.m.ok) :
    Calls Try.prog 4 #[lv, mv, tv] w fun e w' => e = .returned (.bool true) ∧ Below w.heap.size w w' := by
  obtain ⟨la, lc, rfl⟩ := hls.form
  obtain ⟨ma, mc, rfl⟩ := hmr.form
  obtain ⟨ta, tc, rfl⟩ := htr.form
  have HL := Lib.hid (And.intro hls hlok)
  have HT := Lib.hid (And.intro htr htok)
  have HM := Lib.hid hmr
  clear hls hlok htr htok hmr
  go_enter Try.func4, Try.ntmps4
  go_wp2_with fail
  refine (awake22_any _).mono ?_
  rintro e w1 ⟨rfl, hb1⟩
  go_wp2_with fail
  refine (Members_any _ mb _ hml (HM.out.keep hb1)).mono ?_
  rintro e w2 ⟨rfl, hb2⟩
  have HB12 := Lib.hid (hb1.trans (hb2.mono hb1.size))
  clear hb1 hb2
  cases hmb : memB 0 mb with
  | false =>
    go_wp2_with fail
    go_ret
    exact ⟨rfl, HB12.out⟩
  | true =>
    clear hmb
    go_wp2_with fail
    obtain ⟨w3, hw3⟩ : ∃ x : World, x = w2.alloc (.cells #[.int .u64 0, .int .u64 0, .int .u64 0, .int .u64 0, .int .u64 0, .int .u64 0, .int .u64 0, .int .u64 0, .int .u64 0, .int .u64 0, .int .u64 0, .int .u64 0, .int .u64 0, .int .u64 0] 45) := ⟨_, rfl⟩
    rw [← hw3]
    obtain ⟨HB, hHB⟩ : ∃ HB, HB = w2.heap.size := ⟨_, rfl⟩
    have hB0 : BC w w3 (HB + 1) HB (.slice none 0 0) (.slice none 0 0) (fun _ => (0, 0)) [] [] [] := by
      subst hHB
      refine ⟨fun q hq => ?_, fun q => ?_, World.ownsRow_nil _ _ _ _, World.ownsRow_nil _ _ _ _, by simp [Value.ownBlock], rfl, by simp, by simp, by simp, ?_, HB12.out.size, by omega, ?_⟩
      · rcases (show q = 0 ∨ q = 1 ∨ q = 2 ∨ q = 3 ∨ q = 4 ∨ q = 5 ∨ q = 6 by omega) with rfl | rfl | rfl | rfl | rfl | rfl | rfl <;> (rw [hw3]; simp [go_sem])
      · rw [hw3]; simp [go_sem]
      · rw [hw3]; exact HB12.out.alloc HB12.out.size _
      · rw [hw3]; simp
    rw [← hHB]
    clear hw3 HB12
    go_loopw [8, 9, 10] (fun s8 s9 s10 wr => ∃ (i : Nat) (hst : HS) (ws : List Won) (ms : List MsgV) (bs : List Value), i ≤ 80 ∧ i ≤ ts.length ∧ s10 = .int .i64 i ∧ BL i hst ws ms ∧ BC w wr (HB + 1) HB s8 s9 hst ws ms bs) (fun _ _ s10 _ => 80 - (intOf s10).toNat)
    case atStart => exact ⟨0, _, _, _, _, by omega, by omega, rfl, BL.nil _, hB0⟩
    case round =>
      clear hB0 hHB
      obtain ⟨i, hst, ws, ms, bs, hi80, hit, rfl, hbl, hbc⟩ := hrel
      obtain ⟨a8, c8, rfl⟩ := own_form hbc.ow
      obtain ⟨a9, c9, rfl⟩ := own_form hbc.ob
      have HBL := Lib.hid hbl
      have HBC := Lib.hid hbc
      clear hbl hbc
      by_cases hlt : i < ts.length ∧ i < 80
      · obtain ⟨hl1, hl2⟩ := hlt
        have y1 : (i : Int) < (ts.length : Int) := by omega
        have y2 : (i : Int) < 80 := by omega
        have y0 : (0 : Int) ≤ (i : Int) := by omega
        obtain ⟨t, ht⟩ : ∃ t, ts[i]? = some t := ⟨ts[i], List.getElem?_eq_getElem hl1⟩
        obtain ⟨gt, ot, tc', hv, _, hcell⟩ := (HT.out.1.keep HBC.out.bl).atN (by omega) (by omega)
        simp only [Value.slice.injEq, true_and] at hv
        obtain ⟨rfl, rfl⟩ := hv
        obtain ⟨V, hV, hV2⟩ := wrap_nat t.vt
        obtain ⟨q, hmod, hv6⟩ := mod_nat V 6 7 (by omega)
        obtain ⟨hvt, hfr, _, hmr⟩ := (HT.out.1.keep HBC.out.bl).turn ht
        have hgt : gt < wr.heap.size := World.block_lt_of_cell? _ _ hvt
        have HMR := Lib.hid hmr
        have HOK := Lib.hid (HT.out.2 t (List.mem_of_getElem? ht))
        have HTT := Lib.hid ht
        clear hcell ht hmr
        go_upto_if 44 with fail
        obtain ⟨LB, hLB⟩ : ∃ LB, LB = wr.heap.size := ⟨_, rfl⟩
        obtain ⟨w4, hw4⟩ : ∃ x : World, x = wr.alloc (.cells #[.int .u64 0, .int .u64 0, .slice none 0 0] 25) := ⟨_, rfl⟩
        have k4 : Below wr.heap.size wr w4 := by rw [hw4]; exact (Below.refl _ _).alloc (Nat.le_refl _) _
        have hz0 : w4.cell? ⟨LB, 0, none⟩ = some (.int .u64 0) := by rw [hw4, hLB]; simp [go_sem]
        have hz1 : w4.cell? ⟨LB, 1, none⟩ = some (.int .u64 0) := by rw [hw4, hLB]; simp [go_sem]
        have hz2 : w4.cell? ⟨LB, 2, none⟩ = some (.slice none 0 0) := by rw [hw4, hLB]; simp [go_sem]
        have hf0 : w4.frozen? ⟨LB, 0, none⟩ = false := by rw [hw4, hLB]; simp [go_sem]
        have hf1 : w4.frozen? ⟨LB, 1, none⟩ = false := by rw [hw4, hLB]; simp [go_sem]
        have hf2 : w4.frozen? ⟨LB, 2, none⟩ = false := by rw [hw4, hLB]; simp [go_sem]
        have hLl : LB < w4.heap.size := by rw [hw4, hLB]; simp
        rw [← hw4, ← hLB]
        have hvt4 := (k4.cell (p := ⟨gt, ot + i * 13, none⟩) hgt).trans hvt
        have HW4 := Lib.hid hw4
        have HLB := Lib.hid hLB
        clear hw4 hvt hLB
        go_cut [12] (fun s12 wz => ∃ l : LogE, s12 = .pointer (some ⟨LB, 0, none⟩) ∧ l.ok w ∧ wz.rangeAt LB 0 l.cells ∧ LB < wz.heap.size ∧ Below LB w4 wz)
        case first =>
          by_cases hvl : q < ls.length
          · have hvz : (q : Int) < (ls.length : Int) := by omega
            have hv0 : (0 : Int) ≤ (q : Int) := by omega
            obtain ⟨l, hl⟩ : ∃ l, ls[q]? = some l := ⟨ls[q], List.getElem?_eq_getElem hvl⟩
            obtain ⟨gl, ol, lc', hv, _, hcell⟩ := ((HL.out.1.keep HBC.out.bl).keep k4).atN (by omega) (by omega)
            simp only [Value.slice.injEq, true_and] at hv
            obtain ⟨rfl, rfl⟩ := hv
            have hll : ∀ j u, l.cells[j]? = some u → w4.cell? ⟨gl, ol + q * 3 + j, none⟩ = some u := by
              intro j u hu
              have hj : j < 3 := (List.getElem?_eq_some_iff.1 hu).1
              have := hcell (q * 3 + j) u (by rw [flat_get LogE.cells 3 ls (fun _ _ => rfl) q l hl j hj]; exact hu)
              rw [← Nat.add_assoc] at this; exact this
            have hlk := HL.out.2 l (List.mem_of_getElem? hl)
            have q0 := hll 0 _ rfl
            have q1 := hll 1 _ rfl
            have q2 := hll 2 _ rfl
            rw [Nat.add_zero] at q0
            have HLK := Lib.hid hlk
            obtain ⟨lb, lbt, le, les⟩ := l
            simp only at q0 q1 q2
            obtain ⟨aE, cE, hE⟩ := hlk.rd.form
            simp only at hE
            rw [hE] at q2
            have HE := Lib.hid hE
            clear hcell hll hlk hl hE
            go_wp2_with fail
            go_meet
            refine ⟨⟨lb, lbt, le, les⟩, rfl, HLK.out, ?_, by simpa using hLl, ((((Below.refl _ _).setCell (p := ⟨LB, 0, none⟩) (Nat.le_refl _) _).setCell (p := ⟨LB, 1, none⟩) (Nat.le_refl _) _).setCell (p := ⟨LB, 2, none⟩) (Nat.le_refl _) _)⟩
            rw [show LogE.cells ⟨lb, lbt, le, les⟩ = [.int .u64 lb, .int .u64 lbt, .slice aE les.length cE] by rw [← HE.out]; rfl]
            exact World.rangeAt_setCells_same w4 LB 0 [.int .u64 lb, .int .u64 lbt, .slice aE les.length cE] (by
              intro j hj
              have hj : j < 3 := hj
              rcases (show j = 0 ∨ j = 1 ∨ j = 2 by omega) with rfl | rfl | rfl
              · exact ⟨by rw [hz0]; rfl, hf0⟩
              · exact ⟨by rw [hz1]; rfl, hf1⟩
              · exact ⟨by rw [hz2]; rfl, hf2⟩)
          · have hvz : ¬ (q : Int) < (ls.length : Int) := by omega
            go_wp2_with fail
            go_meet
            refine ⟨⟨0, 0, .slice none 0 0, []⟩, rfl, ⟨Rd.nil _ _, by simp⟩, fun j u hu => ?_, hLl, Below.refl _ _⟩
            have hj : j < 3 := (List.getElem?_eq_some_iff.1 hu).1
            rcases (show j = 0 ∨ j = 1 ∨ j = 2 by omega) with rfl | rfl | rfl
            · exact hz0.trans hu
            · exact hz1.trans hu
            · exact hz2.trans hu
        case rest =>
          obtain ⟨l, rfl, hlk, hlr, hLz, hbz⟩ := hcut
          clear hz0 hz1 hz2 hf0 hf1 hf2 hLl
          have hkz : Below wr.heap.size wr wc := k4.trans (hbz.mono (by rw [HLB.out]; exact Nat.le_refl _))
          have hBC5 := HBC.out.keep hkz
          have hfr5 := (hkz.cell (p := ⟨gt, ot + i * 13 + 1 + 1, none⟩) hgt).trans hfr
          have hlb0 : wc.cell? ⟨LB, 0, none⟩ = some (.int .u64 l.base) := hlr 0 _ rfl
          have hmr5 : wc.rangeAt gt (ot + i * 13 + 1) t.m.cells := fun j u hu => (hkz.cell (p := ⟨gt, ot + i * 13 + 1 + j, none⟩) hgt).trans (HMR.out j u hu)
          have hgt5 : gt < wc.heap.size := Nat.lt_of_lt_of_le hgt hkz.size
          have HMR5 := Lib.hid hmr5
          have HBC5 := Lib.hid hBC5
          have HLR := Lib.hid hlr
          have HLKz := Lib.hid hlk
          clear hlk hlr hbz hBC5 hmr5 HMR HBC HLB HW4 hkz k4 hfr hgt hvt4
          cases hd : decide ((4611686018427387904 : Int) < (l.base : Int)) with
          | true =>
            go_wp2_with fail
            go_ret
            exact ⟨rfl, HBC5.out.bl⟩
          | false =>
            by_cases hf0 : t.m.fr = 0
            · have hfz : ((t.m.fr : Int) == 0) = true := by rw [hf0]; rfl
              go_wp2_with fail
              go_ret
              exact ⟨rfl, HBC5.out.bl⟩
            · have hfz : ((t.m.fr : Int) == 0) = false := by simp; omega
              have HF0 := Lib.hid hf0
              clear hf0
              have hv7 : q < 7 := by omega
              obtain ⟨nt, nv, ok, hG⟩ : ∃ nt nv ok, grantS (hst (q + 1)).1 (hst (q + 1)).2 t.m.fr t.m.x (newerP l.base l.bt l.es t.m.idx t.m.lt) = ((nt, nv), ok) := ⟨_, _, _, rfl⟩
              have hGR : ∀ wx, Below wc.heap.size wc wx → Calls Try.prog 6 #[.agg #[.int .u64 (hst (q + 1)).1, .int .u64 (hst (q + 1)).2], .agg #[.int .u64 l.base, .int .u64 l.bt, l.val], .agg t.m.cells.toArray] wx fun e w' => e = .returned (.tuple #[.agg #[.int .u64 nt, .int .u64 nv], .bool ok]) ∧ Below wx.heap.size wx w' := by
                intro wx hx
                have hlw := HLKz.out
                have := Grant_ex (hst (q + 1)).1 (hst (q + 1)).2 l.base l.bt l.val l.es t.m.k t.m.fr t.m.to_ t.m.x t.m.idx t.m.lt t.m.cm t.m.st t.m.yes t.m.en t.m.me t.m.im wx (by simp at hd; omega) hlw.len ((hlw.rd.keep HBC5.out.bl).keep hx)
                rw [hG] at this
                exact this
              have HGR := Lib.hid hGR
              have HGS := Lib.hid hG
              obtain ⟨B0, hB0⟩ : ∃ B0, B0 = wc.heap.size := ⟨_, rfl⟩
              have HB0 := Lib.hid hB0
              clear hG hGR hB0
              go_upto_region 17 with fail
              refine wp_region_link [some 62, some 63, some 64, some 65, some 66, some 67, some 68, some 69, some 70, some 71, some 61, some 72, some 73, some 13, none, some 14] [] 0 (fun _ => True) [] [(14, 13)] (bw17F q i hst l t ts HB gt ot tc nt nv ok B0) (kOne 14 B0) (fun wx => Below wc.heap.size wc wx) (by kernel_rfl) (by kernel_rfl) rfl (by kernel_rfl) (by kernel_rfl) (by kernel_rfl) (Below.refl _ _).drew (trivial) (fun _ _ _ _ _ _ => trivial) (fun _ _ => kOne_refl _ _ _ _) (fun _ _ _ h k => h.trans ((kOne_base (by rw [HB0.out]; exact h.size) k).mono (by rw [HB0.out]; exact Nat.le_refl _))) ?hF ?hstep ?hend
              case hF =>
                exact ⟨fun _ _ _ _ _ _ h => h, ⟨fun _ _ _ _ _ _ h => h, ⟨fun _ _ _ _ _ _ h => h, ⟨fun _ _ _ _ _ _ h => h, ⟨fun _ _ _ _ _ _ h => h, ⟨fun _ _ _ _ _ _ h => h, ⟨fun _ _ _ _ _ _ h => h, ⟨fun _ _ _ _ _ _ h => h, ⟨fun _ _ _ _ _ _ h => h, ⟨fun _ _ _ _ _ _ h => h, ⟨fun _ _ _ _ _ _ h => h, ⟨fun _ _ _ _ _ _ h => h, ⟨fun _ _ _ _ _ _ h => h, ⟨fun j hg _ _ _ k h => by
                  have kb := kOne_below (fun e => by subst e; exact absurd hg (by rw [show goneB _ 13 14 = true by kernel_rfl]; simp)) k
                  obtain ⟨R, h1, h2, h3⟩ := h
                  exact ⟨R, h1, h2, h3.keep kb⟩, ⟨fun j hg _ _ _ k h => by
                  have kb := kOne_below (fun e => by subst e; exact absurd hg (by rw [show goneB _ 14 14 = true by kernel_rfl]; simp)) k
                  obtain ⟨R, h1, h2, h3⟩ := h
                  exact ⟨R, h1, h2, h3.keep kb⟩, ⟨fun _ _ _ _ _ _ h => h, trivial⟩⟩⟩⟩⟩⟩⟩⟩⟩⟩⟩⟩⟩⟩⟩⟩
              case hstep =>
                -- operation 0: Op.move (tmp 11)
                refine ⟨fun r wx hG hs hq hf => ?_, ?_⟩
                · have e11 : r 11 = .int .i64 q := hs 11 rfl
                  refine (if_pos rfl).symm ▸ ?_
                  clear hs hq hf
                  unfold gives
                  go_simp
                  exact ⟨kOne_refl _ _ _ _, rfl⟩
                -- operation 1: Op.indexAddr 45 (tmp 7) (tmp 62)
                refine ⟨fun r wx hG hs hq hf => ?_, ?_⟩
                · have e7 : r 7 = .pointer (some ⟨HB, 0, none⟩) := hs 7 rfl
                  have h0 : r 62 = .int .i64 (q : Nat) := hf.1
                  refine (if_pos rfl).symm ▸ ?_
                  clear hs hq hf
                  unfold gives
                  have z0 : (0 : Int) ≤ (q : Int) := by omega
                  have z1 : (q : Int) < 7 := by omega
                  go_simp
                  exact ⟨kOne_refl _ _ _ _, rfl⟩
                -- operation 2: Op.load 29 (tmp 63)
                refine ⟨fun r wx hG hs hq hf => ?_, ?_⟩
                · have h1 : r 63 = .pointer (some ⟨HB, q * 2, none⟩) := hf.1
                  refine (if_pos rfl).symm ▸ ?_
                  clear hs hq hf
                  unfold gives
                  refine gives_load_mid 29 _ rfl HB (q * 2) h1 _ _ ((HBC5.out.keep hG).range hv7) Try.underlying29 rfl (by kernel_rfl) ⟨kOne_refl _ _ _ _, rfl⟩
                -- operation 3: Op.load 25 (tmp 12)
                refine ⟨fun r wx hG hs hq hf => ?_, ?_⟩
                · have e12 : r 12 = .pointer (some ⟨LB, 0, none⟩) := hs 12 rfl
                  refine (if_pos rfl).symm ▸ ?_
                  clear hs hq hf
                  unfold gives
                  refine gives_load_mid 25 _ rfl LB 0 e12 l.cells _ (fun j u hu => (hG.cell (p := ⟨LB, 0 + j, none⟩) hLz).trans (HLR.out j u hu)) Try.underlying25 rfl (by kernel_rfl) ⟨kOne_refl _ _ _ _, rfl⟩
                -- operation 4: Op.move (tmp 2)
                refine ⟨fun r wx hG hs hq hf => ?_, ?_⟩
                · have e2 : r 2 = .slice (some ⟨gt, ot, none⟩) ts.length tc := hs 2 rfl
                  refine (if_pos rfl).symm ▸ ?_
                  clear hs hq hf
                  unfold gives
                  go_simp
                  exact ⟨kOne_refl _ _ _ _, rfl⟩
                -- operation 5: Op.move (tmp 10)
                refine ⟨fun r wx hG hs hq hf => ?_, ?_⟩
                · have e10 : r 10 = .int .i64 i := hs 10 rfl
                  refine (if_pos rfl).symm ▸ ?_
                  clear hs hq hf
                  unfold gives
                  go_simp
                  exact ⟨kOne_refl _ _ _ _, rfl⟩
                -- operation 6: Op.indexAddr 43 (tmp 66) (tmp 67)
                refine ⟨fun r wx hG hs hq hf => ?_, ?_⟩
                · have h4 : r 66 = .slice (some ⟨gt, ot, none⟩) ts.length tc := hf.1
                  have h5 : r 67 = .int .i64 (i : Nat) := hf.2.1
                  refine (if_pos rfl).symm ▸ ?_
                  clear hs hq hf
                  unfold gives
                  have z0 : (0 : Int) ≤ (i : Int) := by omega
                  go_simp
                  exact ⟨kOne_refl _ _ _ _, rfl⟩
                -- operation 7: Op.fieldAddr 50 (tmp 68) 1
                refine ⟨fun r wx hG hs hq hf => ?_, ?_⟩
                · have h6 : r 68 = .pointer (some ⟨gt, ot + i * 13, none⟩) := hf.1
                  refine (if_pos rfl).symm ▸ ?_
                  clear hs hq hf
                  unfold gives
                  go_simp
                  exact ⟨kOne_refl _ _ _ _, rfl⟩
                -- operation 8: Op.load 34 (tmp 69)
                refine ⟨fun r wx hG hs hq hf => ?_, ?_⟩
                · have h7 : r 69 = .pointer (some ⟨gt, ot + i * 13 + 1, none⟩) := hf.1
                  refine (if_pos rfl).symm ▸ ?_
                  clear hs hq hf
                  unfold gives
                  refine gives_load_mid 34 _ rfl gt (ot + i * 13 + 1) h7 t.m.cells _ (fun j u hu => (hG.cell (p := ⟨gt, ot + i * 13 + 1 + j, none⟩) hgt5).trans (HMR5.out j u hu)) Try.underlying34 rfl (by kernel_rfl) ⟨kOne_refl _ _ _ _, rfl⟩
                -- operation 9: Op.call ( callee := Callee.value (func 6), args := #[tmp 64, tmp 65, tmp 70], argTypes := #[29, 25, 34] )
                refine ⟨fun r wx hG hs hq hf => ?_, ?_⟩
                · have h2 : r 64 = .agg #[.int .u64 (hst (q + 1)).1, .int .u64 (hst (q + 1)).2] := hf.1
                  have h3 : r 65 = .agg #[.int .u64 l.base, .int .u64 l.bt, l.val] := hf.2.1
                  have h8 : r 70 = .agg t.m.cells.toArray := hf.2.2.1
                  refine (if_pos rfl).symm ▸ ?_
                  clear hs hq hf
                  unfold gives
                  go_simp
                  refine (HGR.out wx hG).mono ?_
                  rintro e wy ⟨rfl, hb1⟩
                  exact ⟨_, rfl, kOne_of rfl hb1, rfl⟩
                -- operation 10: Op.move (tmp 71)
                refine ⟨fun r wx hG hs hq hf => ?_, ?_⟩
                · have h9 : r 71 = .tuple #[.agg #[.int .u64 nt, .int .u64 nv], .bool ok] := hf.1
                  refine (if_pos rfl).symm ▸ ?_
                  clear hs hq hf
                  unfold gives
                  go_simp
                  exact ⟨kOne_refl _ _ _ _, rfl⟩
                -- operation 11: Op.extract (tmp 61) 0
                refine ⟨fun r wx hG hs hq hf => ?_, ?_⟩
                · have h10 : r 61 = .tuple #[.agg #[.int .u64 nt, .int .u64 nv], .bool ok] := hf.1
                  refine (if_pos rfl).symm ▸ ?_
                  clear hs hq hf
                  unfold gives
                  go_simp
                  exact ⟨kOne_refl _ _ _ _, rfl⟩
                -- operation 12: Op.extract (tmp 61) 1
                refine ⟨fun r wx hG hs hq hf => ?_, ?_⟩
                · have h10 : r 61 = .tuple #[.agg #[.int .u64 nt, .int .u64 nv], .bool ok] := hf.1
                  refine (if_pos rfl).symm ▸ ?_
                  clear hs hq hf
                  unfold gives
                  go_simp
                  exact ⟨kOne_refl _ _ _ _, rfl⟩
                -- operation 13: Op.alloc 29
                refine ⟨fun r wx hG hs hq hf => ?_, ?_⟩
                · refine (if_pos rfl).symm ▸ ?_
                  clear hs hq hf
                  unfold gives
                  go_simp
                  exact ⟨kOne_of rfl ((Below.refl _ _).alloc (Nat.le_refl _) _), wx.heap.size, rfl, by rw [HB0.out]; exact hG.size, HRow.new _ _⟩
                -- operation 14: Op.store 29 (tmp 13) (tmp 72)
                refine ⟨fun r wx hG hs hq hf => ?_, ?_⟩
                · have h13 : ∃ R, (r 13) = .pointer (some ⟨R, 0, none⟩) ∧ B0 ≤ R ∧ HRow wx R 0 0 := hf.1
                  have h11 : r 72 = .agg #[.int .u64 nt, .int .u64 nv] := hf.2.1
                  refine (if_pos rfl).symm ▸ ?_
                  clear hs hq hf
                  unfold gives
                  obtain ⟨R, h13, hR, hrow⟩ := h13
                  obtain ⟨c0, c1, g0, g1⟩ := hrow
                  go_simp
                  exact ⟨kOne_at (((Below.refl _ _).setCell (p := ⟨R, 0, none⟩) hR _).setCell (p := ⟨R, 1, none⟩) hR _), R, h13, hR, HRow.set ⟨c0, c1, g0, g1⟩ nt nv⟩
                -- operation 15: Op.assign (tmp 73)
                refine ⟨fun r wx hG hs hq hf => ?_, ?_⟩
                · have h12 : r 73 = .bool ok := hf.1
                  have h14 : ∃ R, (r 13) = .pointer (some ⟨R, 0, none⟩) ∧ B0 ≤ R ∧ HRow wx R nt nv := hf.2.1
                  refine (if_pos rfl).symm ▸ ?_
                  clear hs hq hf
                  unfold gives
                  go_simp
                  exact ⟨kOne_refl _ _ _ _, rfl⟩
                exact trivial
              case hend =>
                intro u wz hG hfin
                have z14 : ∃ R, (u 13) = .pointer (some ⟨R, 0, none⟩) ∧ B0 ≤ R ∧ HRow wz R nt nv := hfin 14 (by decide) (by kernel_rfl)
                have z15 : u 15 = .bool ok := hfin 15 (by decide) (by kernel_rfl)
                clear hfin
                simp only [fill]
                obtain ⟨R, z14, hR, hrow⟩ := z14
                rw [z14]
                go_simp
                have hbz := HBC5.out.keep hG
                obtain ⟨c0, c1, _, _⟩ := hrow
                have hbh := hbz.hard (t := nt) (v := nv) hv7
                obtain ⟨w6, hw6⟩ : ∃ x : World, x = wz.setCells HB (q * 2) [.int .u64 nt, .int .u64 nv] := ⟨_, rfl⟩
                rw [← hw6] at hbh
                have HBH := Lib.hid hbh
                have HW6 := Lib.hid hw6
                obtain ⟨x0, x1⟩ := hbz.hd q hv7
                have f0 := hbz.hf (q * 2)
                have f1 := hbz.hf (q * 2 + 1)
                have zq0 : (0 : Int) ≤ (q : Int) := by omega
                have zq1 : (q : Int) < 7 := by omega
                clear hbz hbh hw6
                go_upto_region 19 with fail
                rw [show (wz.setCell ⟨HB, q * 2, none⟩ (.int .u64 nt)).setCell ⟨HB, q * 2 + 1, none⟩ (.int .u64 nv) = w6 from HW6.out.symm]
                clear x0 x1 f0 f1 zq0 zq1
                clear c0 c1 hG hR
                cases ok with
                | false =>
                  go_wp2_with fail
                  go_roundw
                  case rel =>
                    have hsk := HBL.out.skip (q := q + 1) (fr := t.m.fr) (x := t.m.x) (b := newerP l.base l.bt l.es t.m.idx t.m.lt)
                    rw [HGS.out] at hsk
                    exact ⟨i + 1, _, ws, ms, bs, by omega, by omega, by go_num, hsk, HBH.out⟩
                  case measure => simp [intOf]; omega
                | true =>
                  have hms : ms.length ≤ 80 := by have := HBL.out.nn; have := HBL.out.lm; omega
                  obtain ⟨_, hfr6, hx6, hmr6⟩ := (HT.out.1.keep HBH.out.bl).turn HTT.out
                  have HMR6 := Lib.hid hmr6
                  clear hmr6
                  go_wp2_with fail
                  go_loopw [15] (fun s15 wx => (∃ k : Nat, k ≤ ms.length ∧ s15 = .int .i64 k ∧ ∀ (j : Nat) (y : MsgV), j < k → ms[j]? = some y → ¬ (y.x = t.m.x ∧ y.fr = t.m.fr)) ∧ ∃ nq, wx = w6.drewN nq) (fun s15 _ => ms.length - (intOf s15).toNat)
                  case atStart => exact ⟨⟨0, by omega, rfl, by intro j y hj; omega⟩, 0, rfl⟩
                  case round =>
                    obtain ⟨⟨k, hk, rfl, hno⟩, na, rfl⟩ := hrel
                    have HNO := Lib.hid hno
                    clear hno
                    by_cases hkl : k < ms.length
                    · obtain ⟨y, hy⟩ : ∃ y, ms[k]? = some y := ⟨ms[k], List.getElem?_eq_getElem hkl⟩
                      obtain ⟨g8, cap8, hv8, _⟩ := own_at HBH.out.ow (by omega)
                      simp only [Value.slice.injEq, true_and] at hv8
                      obtain ⟨rfl, rfl⟩ := hv8
                      obtain ⟨af, ax⟩ := HBH.out.ask hy
                      have hkz : (k : Int) < (ms.length : Int) := by omega
                      have hk0 : (0 : Int) ≤ (k : Int) := by omega
                      have HY := Lib.hid hy
                      clear hy
                      cases b4 : ((y.x : Int) != (t.m.x : Int)) with
                      | true =>
                        go_wp2_with fail
                        go_quiet (fail)
                        go_wp2_with fail
                        go_roundw
                        case rel =>
                          refine ⟨⟨k + 1, by omega, by go_num, fun j z hj hz => ?_⟩, na + nq, by simp [World.drewN]⟩
                          by_cases e : j = k
                          · subst e
                            rw [HY.out] at hz
                            obtain rfl : y = z := by simpa using hz
                            simp at b4; omega
                          · exact HNO.out j z (by omega) hz
                        case measure => simp [intOf]; omega
                      | false =>
                        cases b5 : ((y.fr : Int) != (t.m.fr : Int)) with
                        | true =>
                          go_wp2_with fail
                          go_quiet (fail)
                          go_wp2_with fail
                          go_roundw
                          case rel =>
                            refine ⟨⟨k + 1, by omega, by go_num, fun j z hj hz => ?_⟩, na + nq, by simp [World.drewN]⟩
                            by_cases e : j = k
                            · subst e
                              rw [HY.out] at hz
                              obtain rfl : y = z := by simpa using hz
                              simp at b5; omega
                            · exact HNO.out j z (by omega) hz
                          case measure => simp [intOf]; omega
                        | false =>
                          go_wp2_with fail
                          go_quiet (fail)
                          obtain ⟨w7, hw7⟩ : ∃ x : World, x = (w6.drewN na).drewN nq := ⟨_, rfl⟩
                          rw [← hw7]
                          have hb7 : BC w w7 (HB + 1) HB (.slice (some ⟨g8, 0, none⟩) ms.length c8) (.slice a9 bs.length c9) (fun u => if u = q + 1 then (nt, nv) else hst u) ws ms bs := by
                            rw [hw7]; exact (HBH.out.keep (below_drewN _ _)).keep (below_drewN _ _)
                          obtain ⟨b, hbk⟩ : ∃ b, bs[k]? = some b := ⟨bs[k]'(by have := HBH.out.lb; have := HBL.out.lm; omega), List.getElem?_eq_getElem _⟩
                          obtain ⟨g9, cap9, hv9, _⟩ := own_at hb7.ob (by have := (List.getElem?_eq_some_iff.1 hbk).1; omega)
                          simp only [Value.slice.injEq, true_and] at hv9
                          obtain ⟨rfl, rfl⟩ := hv9
                          obtain ⟨⟨T, F, l9⟩, hwk⟩ := hb7.won hbk
                          have hown := hb7.ea k b _ hbk hwk
                          obtain ⟨ab, cb, rfl⟩ := own_form hown
                          have hmt := HBL.out.mt k y _ HY.out hwk
                          have h9c := hb7.who hbk
                          have hBz := hb7.Bl
                          have hbl9 := HBL.out.nb _ (List.mem_of_getElem? hwk)
                          have hklen : k < bs.length := (List.getElem?_eq_some_iff.1 hbk).1
                          have hkb : (k : Int) < (bs.length : Int) := by omega
                          simp only at hown hmt hbl9
                          have HB7 := Lib.hid hb7
                          have HKB := Lib.hid hbk
                          have HWK := Lib.hid hwk
                          have HMT := Lib.hid hmt
                          clear hb7 hbk hwk hmt hfr6 hx6 af ax hw7
                          go_upto_region 26 with fail
                          go_wp2_with (at_builtin; refine wpList_app (o := ⟨some 138, _, _, _, _, _⟩) Try.underlying31 infoU64w rfl (by decide) rfl _ _ rfl rfl rfl (own_keep hown ((Below.refl _ _).alloc (Nat.le_refl _) _)) (Rd.one w7 (.int .u64 ((q : Int) + 1)) 22 rfl) (by omega) (by omega) (by simp; omega) ?_)
                          intro v8 w8 hown8 hg8 _
                          replace hg8 := hg8.alloc
                          obtain ⟨hc9, hf9⟩ := HB7.out.vote_at HKB.out hg8
                          have HO8 := Lib.hid hown8
                          have HG8 := Lib.hid hg8
                          obtain ⟨a8', c8', rfl⟩ := own_form hown8
                          clear hown8 hg8 hown h9c hBz
                          go_wp2_with fail
                          go_roundw
                          case rel =>
                            have e1 : T = t.m.x := by have := HMT.out.1; simp at b4; omega
                            have e2 : F = t.m.fr := by have := HMT.out.2; simp at b5; omega
                            subst e1 e2
                            have hvt := BL.vote (b := newerP l.base l.bt l.es t.m.idx t.m.lt) (q := q + 1) HBL.out.inv HBL.out.lm HBL.out.mt (by have := HBL.out.nn; omega) HBL.out.nb HWK.out (by rw [HGS.out])
                            rw [HGS.out] at hvt
                            have hvb := HB7.out.vote (x := q + 1) HKB.out HWK.out (by have := HO8.out; rwa [show ((q : Int) + 1) = ((q + 1 : Nat) : Int) by omega] at this) HG8.out
                            have hbl : (bs.set k (.slice a8' (l9.length + 1) c8')).length = bs.length := by simp
                            exact ⟨i + 1, _, _, ms, _, by omega, by omega, by go_num, hvt, hvb⟩
                          case measure => simp [intOf]; omega
                    · obtain rfl : k = ms.length := by omega
                      have hkz : ¬ (ms.length : Int) < (ms.length : Int) := by omega
                      have hks : ((ms.length : Int) == (ms.length : Int)) = true := by simp
                      go_wp2_with fail
                      go_quiet (fail)
                      obtain ⟨w7, hw7⟩ : ∃ x : World, x = (w6.drewN na).drewN nq := ⟨_, rfl⟩
                      rw [← hw7]
                      have hb7 : BC w w7 (HB + 1) HB (.slice a8 ms.length c8) (.slice a9 bs.length c9) (fun u => if u = q + 1 then (nt, nv) else hst u) ws ms bs := by
                        rw [hw7]; exact (HBH.out.keep (below_drewN _ _)).keep (below_drewN _ _)
                      obtain ⟨_, _, _, hmr7⟩ := (HT.out.1.keep hb7.bl).turn HTT.out
                      have how7 := hb7.ow
                      have hBz := hb7.Bl
                      have HB7 := Lib.hid hb7
                      have m0 := hmr7 0 _ rfl
                      have m1 := hmr7 1 _ rfl
                      have m2 := hmr7 2 _ rfl
                      have m3 := hmr7 3 _ rfl
                      have m4 := hmr7 4 _ rfl
                      have m5 := hmr7 5 _ rfl
                      have m6 := hmr7 6 _ rfl
                      have m7 := hmr7 7 _ rfl
                      have m8 := hmr7 8 _ rfl
                      have m9 := hmr7 9 _ rfl
                      have m10 := hmr7 10 _ rfl
                      have m11 := hmr7 11 _ rfl
                      rw [Nat.add_zero] at m0
                      clear hb7 hfr6 hx6 hw7 hmr7
                      obtain ⟨me1, me2, me3⟩ := HOK.out
                      go_wp2_with (at_builtin; refine wpList_app (o := ⟨some 124, _, _, _, _, _⟩) Try.underlying46 infoMsg rfl (by decide) rfl _ _ rfl rfl rfl (own_keep how7 ((Below.refl _ _).alloc (Nat.le_refl _) _)) (Rd.row w7 34 12 t.m.cells.toArray rfl (by intro u hu; exact MsgV.one ⟨me1, me2, me3⟩ u (by simpa using hu))) (by omega) (by omega) (by simp; omega) ?_)
                      intro v8 w8 hown8 hg8 _
                      replace hg8 := hg8.alloc
                      have hb8 := HB7.out.push8 (m := t.m) (by simpa using hown8) hg8
                      have hob8 := hb8.ob
                      have hBz8 := hb8.Bl
                      have HB8 := Lib.hid hb8
                      clear hb8 hown8 hg8 how7 hBz m0 m1 m2 m3 m4 m5 m6 m7 m8 m9 m10 m11 me1 me2 me3
                      have hbsl : bs.length ≤ 80 := by have := HBL.out.nn; have := HB8.out.lb; omega
                      go_wp2_with (at_builtin; refine wpList_app (o := ⟨some 127, _, _, _, _, _⟩) Try.underlying47 infoNums rfl (by decide) rfl _ _ rfl rfl rfl (own_keep hob8 ((Below.refl _ _).alloc (Nat.le_refl _) _)) (Rd.one w8 (.slice none 0 0) 31 rfl) (by omega) (by omega) (by simp; omega) ?_)
                      intro v9 w9 hown9 hg9 _
                      replace hg9 := hg9.alloc
                      have hb9 := HB8.out.push9 t.m.x t.m.fr hown9 hg9
                      have hbk : (bs ++ [Value.slice none 0 0])[ms.length]? = some (.slice none 0 0) := by
                        have e : ms.length = bs.length := by have := HB8.out.lb; have := HBL.out.lm; omega
                        rw [e, List.getElem?_append_right (Nat.le_refl _)]; simp
                      have hwk : (ws ++ [(⟨t.m.x, t.m.fr, []⟩ : Won)])[ms.length]? = some ⟨t.m.x, t.m.fr, []⟩ := by
                        have e : ms.length = ws.length := by have := HBL.out.lm; omega
                        rw [e, List.getElem?_append_right (Nat.le_refl _)]; simp
                      have hpush := HBL.out.push t.m HF0.out (fun j y hj => HNO.out j y (by have := (List.getElem?_eq_some_iff.1 hj).1; omega) hj)
                      have hnb : ∀ x ∈ ws ++ [(⟨t.m.x, t.m.fr, []⟩ : Won)], x.by_.length ≤ i := by
                        intro x hx
                        rcases List.mem_append.1 hx with hx | hx
                        · exact HBL.out.nb x hx
                        · simp at hx; subst hx; simp
                      have hvt := BL.vote (b := newerP l.base l.bt l.es t.m.idx t.m.lt) (q := q + 1) hpush.inv hpush.lm hpush.mt hpush.nn hnb hwk (by rw [HGS.out])
                      rw [HGS.out] at hvt
                      obtain ⟨bs2, hbs2⟩ : ∃ x, x = bs ++ [Value.slice none 0 0] := ⟨_, rfl⟩
                      obtain ⟨ms2, hms2⟩ : ∃ x, x = ms ++ [t.m] := ⟨_, rfl⟩
                      rw [← hbs2] at hb9 hbk
                      rw [← hms2] at hb9 hvt
                      clear hbs2 hms2 hpush hnb hown9 hg9 hob8 hBz8
                      obtain ⟨a8', c8', rfl⟩ := own_form hb9.ow
                      obtain ⟨g9, cap9, rfl, _⟩ := own_at hb9.ob (by have := (List.getElem?_eq_some_iff.1 hbk).1; omega)
                      have h9c := hb9.who hbk
                      have hBz9 := hb9.Bl
                      have hklen : ms.length < bs2.length := (List.getElem?_eq_some_iff.1 hbk).1
                      have hkb : (ms.length : Int) < (bs2.length : Int) := by omega
                      have hk0 : (0 : Int) ≤ (ms.length : Int) := by omega
                      have HB9 := Lib.hid hb9
                      have HKB := Lib.hid hbk
                      have HWK := Lib.hid hwk
                      have HVT := Lib.hid hvt
                      clear hb9 hbk hwk hvt hkz hks
                      go_wp2_with (at_builtin; refine wpList_app (o := ⟨some 138, _, _, _, _, _⟩) Try.underlying31 infoU64w rfl (by decide) rfl _ _ rfl rfl rfl (World.ownsRow_nil _ (HB + 1) 22 1) (Rd.one w9 (.int .u64 ((q : Int) + 1)) 22 rfl) (by omega) (by omega) (by simp; omega) ?_)
                      intro v10 w10 hown10 hg10 _
                      replace hg10 := hg10.alloc
                      obtain ⟨hc9, hf9⟩ := HB9.out.vote_at HKB.out hg10
                      have HO10 := Lib.hid hown10
                      have HG10 := Lib.hid hg10
                      obtain ⟨a10, c10, rfl⟩ := own_form hown10
                      clear hown10 hg10 h9c hBz9
                      go_wp2_with fail
                      go_roundw
                      case rel =>
                        have hvb := HB9.out.vote (x := q + 1) (l := []) HKB.out HWK.out (by have := HO10.out; rwa [show ((q : Int) + 1) = ((q + 1 : Nat) : Int) by omega] at this) HG10.out
                        have hbl : (bs2.set ms.length (.slice a10 (0 + 1) c10)).length = bs2.length := by simp
                        exact ⟨i + 1, _, _, ms2, _, by omega, by omega, by go_num, HVT.out, hvb⟩
                      case measure => simp [intOf]; omega

      · go_upto_region 9 with fail
        go_cut [30] (fun s30 wx => s30 = .bool false ∧ wx = wr)
        case first =>
          by_cases hl1 : i < ts.length
          · have y1 : (i : Int) < (ts.length : Int) := by omega
            have y2 : ¬ (i : Int) < 80 := by omega
            go_wp2_with fail
            go_meet
            exact ⟨rfl, rfl⟩
          · have y1 : ¬ (i : Int) < (ts.length : Int) := by omega
            go_wp2_with fail
            go_meet
            exact ⟨rfl, rfl⟩
        case rest =>
          obtain ⟨rfl, rfl⟩ := hcut
          have hms : ms.length ≤ 80 := by have := HBL.out.nn; have := HBL.out.lm; omega
          have hlt2 := Lib.hid hlt
          clear hlt hlt2
          go_wp2_with fail
          go_loopw [16] (fun s16 wx => ∃ i : Nat, i ≤ ms.length ∧ s16 = .int .i64 i ∧ BC w wx (HB + 1) HB (.slice a8 ms.length c8) (.slice a9 bs.length c9) hst ws ms bs) (fun s16 _ => ms.length - (intOf s16).toNat)
          case atStart => exact ⟨0, by omega, rfl, HBC.out⟩
          case round =>
            clear HBC
            obtain ⟨i, hi, rfl, hbc⟩ := hrel
            have HBC := Lib.hid hbc
            clear hbc
            by_cases hil : i < ms.length
            · have z1 : (i : Int) < (ms.length : Int) := by omega
              have z0 : (0 : Int) ≤ (i : Int) := by omega
              obtain ⟨g8, cap8, hv8, _⟩ := own_at HBC.out.ow (by omega)
              obtain ⟨g9, cap9, hv9, _⟩ := own_at HBC.out.ob (by have := HBC.out.lb; have := HBL.out.lm; omega)
              simp only [Value.slice.injEq, true_and] at hv8 hv9
              obtain ⟨rfl, rfl⟩ := hv8
              obtain ⟨rfl, rfl⟩ := hv9
              obtain ⟨xi, hxi⟩ : ∃ x, ms[i]? = some x := ⟨ms[i], List.getElem?_eq_getElem hil⟩
              obtain ⟨bi, hbi⟩ : ∃ b, bs[i]? = some b := ⟨bs[i]'(by have := HBC.out.lb; have := HBL.out.lm; omega), List.getElem?_eq_getElem _⟩
              obtain ⟨⟨Ti, Fi, li⟩, hwi⟩ := HBC.out.won hbi
              obtain ⟨ai, ci, rfl⟩ := own_form (HBC.out.ea i bi _ hbi hwi)
              have hlen := HBC.out.lb.trans HBL.out.lm.symm
              have hlen2 : i < bs.length := by omega
              have HXI := Lib.hid hxi
              have HBI := Lib.hid hbi
              have HWI := Lib.hid hwi
              have HLEN := Lib.hid hlen
              clear hxi hbi hwi hlen
              go_wp2_with fail
              go_loopw [17] (fun s17 wx => ∃ k : Nat, k ≤ i ∧ s17 = .int .i64 k ∧ BC w wx (HB + 1) HB (.slice (some ⟨g8, 0, none⟩) ms.length c8) (.slice (some ⟨g9, 0, none⟩) bs.length c9) hst ws ms bs) (fun s17 _ => i - (intOf s17).toNat)
              case atStart => exact ⟨0, by omega, rfl, HBC.out⟩
              case round =>
                clear HBC
                obtain ⟨k, hk, rfl, hbc⟩ := hrel
                have HBC := Lib.hid hbc
                clear hbc
                by_cases hki : k < i
                · have z2 : (k : Int) < (i : Int) := by omega
                  have z3 : (0 : Int) ≤ (k : Int) := by omega
                  have z4 : (k : Int) < (ms.length : Int) := by omega
                  have hkl : k < ms.length := by omega
                  obtain ⟨xk, hxk⟩ : ∃ x, ms[k]? = some x := ⟨ms[k], List.getElem?_eq_getElem hkl⟩
                  obtain ⟨bk, hbk⟩ : ∃ b, bs[k]? = some b := ⟨bs[k]'(by omega), List.getElem?_eq_getElem _⟩
                  obtain ⟨⟨Tk, Fk, lk⟩, hwk⟩ := HBC.out.won hbk
                  obtain ⟨ak, ck, rfl⟩ := own_form (HBC.out.ea k bk _ hbk hwk)
                  have hkb : k < bs.length := by omega
                  have hti : xi.x = Ti := (HBL.out.mt i xi _ HXI.out HWI.out).1
                  have htk : xk.x = Tk := (HBL.out.mt k xk _ hxk hwk).1
                  have hni : li.length ≤ 80 := by have := HBL.out.nb _ (List.mem_of_getElem? HWI.out); simp only at this; omega
                  have hnk : lk.length ≤ 80 := by have := HBL.out.nb _ (List.mem_of_getElem? hwk); simp only at this; omega
                  have hlone : xi.x = xk.x → mb.length / 2 + 1 ≤ among li mb → ¬ mb.length / 2 + 1 ≤ among lk mb := fun e q1 q2 => HBL.out.inv.lone HWI.out hwk (by show Ti = Tk; omega) (by omega) mb q1 q2
                  have hqi : ∀ wx, BC w wx (HB + 1) HB (.slice (some ⟨g8, 0, none⟩) ms.length c8) (.slice (some ⟨g9, 0, none⟩) bs.length c9) hst ws ms bs → Calls Try.prog 10 #[.slice ma mb.length mc, .slice ai li.length ci] wx fun e w' => e = .returned (.bool (decide (mb.length / 2 + 1 ≤ among li mb))) ∧ Below wx.heap.size wx w' :=
                    fun wx hx => Quorum_any _ _ mb li wx hml (by omega) (HM.out.keep hx.bl) (own_rd (hx.ea i _ _ HBI.out HWI.out) (uv_one _))
                  have hqk : ∀ wx, BC w wx (HB + 1) HB (.slice (some ⟨g8, 0, none⟩) ms.length c8) (.slice (some ⟨g9, 0, none⟩) bs.length c9) hst ws ms bs → Calls Try.prog 10 #[.slice ma mb.length mc, .slice ak lk.length ck] wx fun e w' => e = .returned (.bool (decide (mb.length / 2 + 1 ≤ among lk mb))) ∧ Below wx.heap.size wx w' :=
                    fun wx hx => Quorum_any _ _ mb lk wx hml (by omega) (HM.out.keep hx.bl) (own_rd (hx.ea k _ _ hbk hwk) (uv_one _))
                  have HXK := Lib.hid hxk
                  have HBK := Lib.hid hbk
                  have HQI := Lib.hid hqi
                  have HQK := Lib.hid hqk
                  have HLO := Lib.hid hlone
                  clear hxk hbk hqi hqk hlone hwk hti htk
                  go_upto_region 33 with fail
                  by_cases ht : xi.x = xk.x
                  · have hb10 : ((xi.x : Int) == (xk.x : Int)) = true := by simp; omega
                    by_cases hqi : mb.length / 2 + 1 ≤ among li mb
                    · have hqk := HLO.out ht hqi
                      have hQI := HQI.out
                      have hQK := HQK.out
                      rw [decide_eq_true hqi] at hQI
                      rw [decide_eq_false hqk] at hQK
                      have HQI2 := Lib.hid hQI
                      have HQK2 := Lib.hid hQK
                      clear hQI hQK hqi hqk ht HQI HQK
                      refine wp_region_steps [some 151, some 152, some 153, some 154, some 155, some 156, some 157, some 158, some 159, some 160, some 161, some 162, some 163, some 164, some 165, some 166, some 167, some 168, some 169, some 170, some 171, some 172, some 173, some 174, some 175, some 176, some 177] [] (bw33C g8 g9 i k ms bs c8 c9 xi xk ma mc mb ai ak li lk ci ck) (fun _ wx wy => Below wx.heap.size wx wy) (fun wx => BC w wx (HB + 1) HB (.slice (some ⟨g8, 0, none⟩) ms.length c8) (.slice (some ⟨g9, 0, none⟩) bs.length c9) hst ws ms bs) (by kernel_rfl) (by kernel_rfl) rfl (by kernel_rfl) HBC.out.drew (fun _ wx => Below.refl _ _) (fun _ _ _ h k => h.keep k) ?hF ?hstep ?hend
                      case hF =>
                        exact ⟨fun _ _ _ _ _ _ h => h, ⟨fun _ _ _ _ _ _ h => h, ⟨fun _ _ _ _ _ _ h => h, ⟨fun _ _ _ _ _ _ h => h, ⟨fun _ _ _ _ _ _ h => h, ⟨fun _ _ _ _ _ _ h => h, ⟨fun _ _ _ _ _ _ h => h, ⟨fun _ _ _ _ _ _ h => h, ⟨fun _ _ _ _ _ _ h => h, ⟨fun _ _ _ _ _ _ h => h, ⟨fun _ _ _ _ _ _ h => h, ⟨fun _ _ _ _ _ _ h => h, ⟨fun _ _ _ _ _ _ h => h, ⟨fun _ _ _ _ _ _ h => h, ⟨fun _ _ _ _ _ _ h => h, ⟨fun _ _ _ _ _ _ h => h, ⟨fun _ _ _ _ _ _ h => h, ⟨fun _ _ _ _ _ _ h => h, ⟨fun _ _ _ _ _ _ h => h, ⟨fun _ _ _ _ _ _ h => h, ⟨fun _ _ _ _ _ _ h => h, ⟨fun _ _ _ _ _ _ h => h, ⟨fun _ _ _ _ _ _ h => h, ⟨fun _ _ _ _ _ _ h => h, ⟨fun _ _ _ _ _ _ h => h, ⟨fun _ _ _ _ _ _ h => h, ⟨fun _ _ _ _ _ _ h => h, trivial⟩⟩⟩⟩⟩⟩⟩⟩⟩⟩⟩⟩⟩⟩⟩⟩⟩⟩⟩⟩⟩⟩⟩⟩⟩⟩⟩
                      case hstep =>
                        -- operation 0: Op.move (tmp 8)
                        refine ⟨fun r wx hG hs hq hf => ?_, ?_⟩
                        · have e8 : r 8 = .slice (some ⟨g8, 0, none⟩) ms.length c8 := hs 8 rfl
                          refine (if_pos rfl).symm ▸ ?_
                          clear hs hq hf
                          unfold gives
                          go_simp
                          exact ⟨Below.refl _ _, rfl⟩
                        -- operation 1: Op.move (tmp 16)
                        refine ⟨fun r wx hG hs hq hf => ?_, ?_⟩
                        · have e16 : r 16 = .int .i64 i := hs 16 rfl
                          refine (if_pos rfl).symm ▸ ?_
                          clear hs hq hf
                          unfold gives
                          go_simp
                          exact ⟨Below.refl _ _, rfl⟩
                        -- operation 2: Op.indexAddr 46 (tmp 151) (tmp 152)
                        refine ⟨fun r wx hG hs hq hf => ?_, ?_⟩
                        · have h0 : r 151 = .slice (some ⟨g8, 0, none⟩) ms.length c8 := hf.1
                          have h1 : r 152 = .int .i64 (i : Nat) := hf.2.1
                          refine (if_pos rfl).symm ▸ ?_
                          clear hs hq hf
                          unfold gives
                          go_simp
                          exact ⟨Below.refl _ _, rfl⟩
                        -- operation 3: Op.fieldAddr 34 (tmp 153) 3
                        refine ⟨fun r wx hG hs hq hf => ?_, ?_⟩
                        · have h2 : r 153 = .pointer (some ⟨g8, i * 12, none⟩) := hf.1
                          refine (if_pos rfl).symm ▸ ?_
                          clear hs hq hf
                          unfold gives
                          go_simp
                          exact ⟨Below.refl _ _, rfl⟩
                        -- operation 4: Op.load 22 (tmp 154)
                        refine ⟨fun r wx hG hs hq hf => ?_, ?_⟩
                        · have h3 : r 154 = .pointer (some ⟨g8, i * 12 + 3, none⟩) := hf.1
                          refine (if_pos rfl).symm ▸ ?_
                          clear hs hq hf
                          unfold gives
                          have cx := (hG.ask HXI.out).2
                          go_simp
                          exact ⟨Below.refl _ _, rfl⟩
                        -- operation 5: Op.move (tmp 8)
                        refine ⟨fun r wx hG hs hq hf => ?_, ?_⟩
                        · have e8 : r 8 = .slice (some ⟨g8, 0, none⟩) ms.length c8 := hs 8 rfl
                          refine (if_pos rfl).symm ▸ ?_
                          clear hs hq hf
                          unfold gives
                          go_simp
                          exact ⟨Below.refl _ _, rfl⟩
                        -- operation 6: Op.move (tmp 17)
                        refine ⟨fun r wx hG hs hq hf => ?_, ?_⟩
                        · have e17 : r 17 = .int .i64 k := hs 17 rfl
                          refine (if_pos rfl).symm ▸ ?_
                          clear hs hq hf
                          unfold gives
                          go_simp
                          exact ⟨Below.refl _ _, rfl⟩
                        -- operation 7: Op.indexAddr 46 (tmp 156) (tmp 157)
                        refine ⟨fun r wx hG hs hq hf => ?_, ?_⟩
                        · have h5 : r 156 = .slice (some ⟨g8, 0, none⟩) ms.length c8 := hf.1
                          have h6 : r 157 = .int .i64 (k : Nat) := hf.2.1
                          refine (if_pos rfl).symm ▸ ?_
                          clear hs hq hf
                          unfold gives
                          go_simp
                          exact ⟨Below.refl _ _, rfl⟩
                        -- operation 8: Op.fieldAddr 34 (tmp 158) 3
                        refine ⟨fun r wx hG hs hq hf => ?_, ?_⟩
                        · have h7 : r 158 = .pointer (some ⟨g8, k * 12, none⟩) := hf.1
                          refine (if_pos rfl).symm ▸ ?_
                          clear hs hq hf
                          unfold gives
                          go_simp
                          exact ⟨Below.refl _ _, rfl⟩
                        -- operation 9: Op.load 22 (tmp 159)
                        refine ⟨fun r wx hG hs hq hf => ?_, ?_⟩
                        · have h8 : r 159 = .pointer (some ⟨g8, k * 12 + 3, none⟩) := hf.1
                          refine (if_pos rfl).symm ▸ ?_
                          clear hs hq hf
                          unfold gives
                          have cx := (hG.ask HXK.out).2
                          go_simp
                          exact ⟨Below.refl _ _, rfl⟩
                        -- operation 10: Op.binOp BinOp.eql 22 (tmp 155) (tmp 160) 22
                        refine ⟨fun r wx hG hs hq hf => ?_, ?_⟩
                        · have h4 : r 155 = .int .u64 xi.x := hf.1
                          have h9 : r 160 = .int .u64 xk.x := hf.2.1
                          refine (if_pos rfl).symm ▸ ?_
                          clear hs hq hf
                          unfold gives
                          go_simp
                          exact ⟨Below.refl _ _, rfl⟩
                        -- operation 11: Op.move (tmp 161)
                        refine ⟨fun r wx hG hs hq hf => ?_, ?_⟩
                        · have h10 : r 161 = .bool true := hf.1
                          refine (if_pos rfl).symm ▸ ?_
                          clear hs hq hf
                          unfold gives
                          go_simp
                          exact ⟨Below.refl _ _, rfl⟩
                        -- operation 12: Op.move (tmp 1)
                        refine ⟨fun r wx hG hs hq hf => ?_, ?_⟩
                        · have e1 : r 1 = .slice ma mb.length mc := hs 1 rfl
                          have h11 : r 162 = .bool true := hf.1
                          have hy : ydD [some 151, some 152, some 153, some 154, some 155, some 156, some 157, some 158, some 159, some 160, some 161, some 162, some 163, some 164, some 165, some 166, some 167, some 168, some 169, some 170, some 171, some 172, some 173, some 174, some 175, some 176, some 177] r 11 = some true := by show (match r 162 with | .bool b => some b | _ => none) = some true; rw [h11]
                          simp only [Region.wanted, hy, beq_self_eq_true, if_true]
                          clear hs hq hf hy
                          unfold gives
                          go_simp
                          exact ⟨Below.refl _ _, rfl⟩
                        -- operation 13: Op.move (tmp 9)
                        refine ⟨fun r wx hG hs hq hf => ?_, ?_⟩
                        · have e9 : r 9 = .slice (some ⟨g9, 0, none⟩) bs.length c9 := hs 9 rfl
                          have h11 : r 162 = .bool true := hf.1
                          have hy : ydD [some 151, some 152, some 153, some 154, some 155, some 156, some 157, some 158, some 159, some 160, some 161, some 162, some 163, some 164, some 165, some 166, some 167, some 168, some 169, some 170, some 171, some 172, some 173, some 174, some 175, some 176, some 177] r 11 = some true := by show (match r 162 with | .bool b => some b | _ => none) = some true; rw [h11]
                          simp only [Region.wanted, hy, beq_self_eq_true, if_true]
                          clear hs hq hf hy
                          unfold gives
                          go_simp
                          exact ⟨Below.refl _ _, rfl⟩
                        -- operation 14: Op.move (tmp 16)
                        refine ⟨fun r wx hG hs hq hf => ?_, ?_⟩
                        · have e16 : r 16 = .int .i64 i := hs 16 rfl
                          have h11 : r 162 = .bool true := hf.1
                          have hy : ydD [some 151, some 152, some 153, some 154, some 155, some 156, some 157, some 158, some 159, some 160, some 161, some 162, some 163, some 164, some 165, some 166, some 167, some 168, some 169, some 170, some 171, some 172, some 173, some 174, some 175, some 176, some 177] r 11 = some true := by show (match r 162 with | .bool b => some b | _ => none) = some true; rw [h11]
                          simp only [Region.wanted, hy, beq_self_eq_true, if_true]
                          clear hs hq hf hy
                          unfold gives
                          go_simp
                          exact ⟨Below.refl _ _, rfl⟩
                        -- operation 15: Op.indexAddr 47 (tmp 164) (tmp 165)
                        refine ⟨fun r wx hG hs hq hf => ?_, ?_⟩
                        · have h13 : r 164 = .slice (some ⟨g9, 0, none⟩) bs.length c9 := hf.1
                          have h14 : r 165 = .int .i64 (i : Nat) := hf.2.1
                          have h11 : r 162 = .bool true := hf.2.2.1
                          have hy : ydD [some 151, some 152, some 153, some 154, some 155, some 156, some 157, some 158, some 159, some 160, some 161, some 162, some 163, some 164, some 165, some 166, some 167, some 168, some 169, some 170, some 171, some 172, some 173, some 174, some 175, some 176, some 177] r 11 = some true := by show (match r 162 with | .bool b => some b | _ => none) = some true; rw [h11]
                          simp only [Region.wanted, hy, beq_self_eq_true, if_true]
                          clear hs hq hf hy
                          unfold gives
                          go_simp
                          exact ⟨Below.refl _ _, rfl⟩
                        -- operation 16: Op.load 31 (tmp 166)
                        refine ⟨fun r wx hG hs hq hf => ?_, ?_⟩
                        · have h15 : r 166 = .pointer (some ⟨g9, i, none⟩) := hf.1
                          have h11 : r 162 = .bool true := hf.2.1
                          have hy : ydD [some 151, some 152, some 153, some 154, some 155, some 156, some 157, some 158, some 159, some 160, some 161, some 162, some 163, some 164, some 165, some 166, some 167, some 168, some 169, some 170, some 171, some 172, some 173, some 174, some 175, some 176, some 177] r 11 = some true := by show (match r 162 with | .bool b => some b | _ => none) = some true; rw [h11]
                          simp only [Region.wanted, hy, beq_self_eq_true, if_true]
                          clear hs hq hf hy
                          unfold gives
                          have cb := hG.who HBI.out
                          go_simp
                          exact ⟨Below.refl _ _, rfl⟩
                        -- operation 17: Op.call ( callee := Callee.value (func 10), args := #[tmp 163, tmp 167], argTypes := #[31, 31] )
                        refine ⟨fun r wx hG hs hq hf => ?_, ?_⟩
                        · have h12 : r 163 = .slice ma mb.length mc := hf.1
                          have h16 : r 167 = .slice ai li.length ci := hf.2.1
                          have h11 : r 162 = .bool true := hf.2.2.1
                          have hy : ydD [some 151, some 152, some 153, some 154, some 155, some 156, some 157, some 158, some 159, some 160, some 161, some 162, some 163, some 164, some 165, some 166, some 167, some 168, some 169, some 170, some 171, some 172, some 173, some 174, some 175, some 176, some 177] r 11 = some true := by show (match r 162 with | .bool b => some b | _ => none) = some true; rw [h11]
                          simp only [Region.wanted, hy, beq_self_eq_true, if_true]
                          clear hs hq hf hy
                          unfold gives
                          go_simp
                          refine (HQI2.out wx hG).mono ?_
                          rintro e wy ⟨rfl, hb1⟩
                          exact ⟨_, rfl, hb1, rfl⟩
                        -- operation 18: Op.pick (tmp 162) (tmp 168) (const (Value.bool false))
                        refine ⟨fun r wx hG hs hq hf => ?_, ?_⟩
                        · have h11 : r 162 = .bool true := hf.1
                          have h17 : r 168 = .bool true := hf.2.1
                          refine (if_pos rfl).symm ▸ ?_
                          clear hs hq hf
                          unfold gives
                          go_simp
                          exact ⟨Below.refl _ _, rfl⟩
                        -- operation 19: Op.move (tmp 169)
                        refine ⟨fun r wx hG hs hq hf => ?_, ?_⟩
                        · have h18 : r 169 = .bool true := hf.1
                          refine (if_pos rfl).symm ▸ ?_
                          clear hs hq hf
                          unfold gives
                          go_simp
                          exact ⟨Below.refl _ _, rfl⟩
                        -- operation 20: Op.move (tmp 1)
                        refine ⟨fun r wx hG hs hq hf => ?_, ?_⟩
                        · have e1 : r 1 = .slice ma mb.length mc := hs 1 rfl
                          have h19 : r 170 = .bool true := hf.1
                          have hy : ydD [some 151, some 152, some 153, some 154, some 155, some 156, some 157, some 158, some 159, some 160, some 161, some 162, some 163, some 164, some 165, some 166, some 167, some 168, some 169, some 170, some 171, some 172, some 173, some 174, some 175, some 176, some 177] r 19 = some true := by show (match r 170 with | .bool b => some b | _ => none) = some true; rw [h19]
                          simp only [Region.wanted, hy, beq_self_eq_true, if_true]
                          clear hs hq hf hy
                          unfold gives
                          go_simp
                          exact ⟨Below.refl _ _, rfl⟩
                        -- operation 21: Op.move (tmp 9)
                        refine ⟨fun r wx hG hs hq hf => ?_, ?_⟩
                        · have e9 : r 9 = .slice (some ⟨g9, 0, none⟩) bs.length c9 := hs 9 rfl
                          have h19 : r 170 = .bool true := hf.1
                          have hy : ydD [some 151, some 152, some 153, some 154, some 155, some 156, some 157, some 158, some 159, some 160, some 161, some 162, some 163, some 164, some 165, some 166, some 167, some 168, some 169, some 170, some 171, some 172, some 173, some 174, some 175, some 176, some 177] r 19 = some true := by show (match r 170 with | .bool b => some b | _ => none) = some true; rw [h19]
                          simp only [Region.wanted, hy, beq_self_eq_true, if_true]
                          clear hs hq hf hy
                          unfold gives
                          go_simp
                          exact ⟨Below.refl _ _, rfl⟩
                        -- operation 22: Op.move (tmp 17)
                        refine ⟨fun r wx hG hs hq hf => ?_, ?_⟩
                        · have e17 : r 17 = .int .i64 k := hs 17 rfl
                          have h19 : r 170 = .bool true := hf.1
                          have hy : ydD [some 151, some 152, some 153, some 154, some 155, some 156, some 157, some 158, some 159, some 160, some 161, some 162, some 163, some 164, some 165, some 166, some 167, some 168, some 169, some 170, some 171, some 172, some 173, some 174, some 175, some 176, some 177] r 19 = some true := by show (match r 170 with | .bool b => some b | _ => none) = some true; rw [h19]
                          simp only [Region.wanted, hy, beq_self_eq_true, if_true]
                          clear hs hq hf hy
                          unfold gives
                          go_simp
                          exact ⟨Below.refl _ _, rfl⟩
                        -- operation 23: Op.indexAddr 47 (tmp 172) (tmp 173)
                        refine ⟨fun r wx hG hs hq hf => ?_, ?_⟩
                        · have h21 : r 172 = .slice (some ⟨g9, 0, none⟩) bs.length c9 := hf.1
                          have h22 : r 173 = .int .i64 (k : Nat) := hf.2.1
                          have h19 : r 170 = .bool true := hf.2.2.1
                          have hy : ydD [some 151, some 152, some 153, some 154, some 155, some 156, some 157, some 158, some 159, some 160, some 161, some 162, some 163, some 164, some 165, some 166, some 167, some 168, some 169, some 170, some 171, some 172, some 173, some 174, some 175, some 176, some 177] r 19 = some true := by show (match r 170 with | .bool b => some b | _ => none) = some true; rw [h19]
                          simp only [Region.wanted, hy, beq_self_eq_true, if_true]
                          clear hs hq hf hy
                          unfold gives
                          go_simp
                          exact ⟨Below.refl _ _, rfl⟩
                        -- operation 24: Op.load 31 (tmp 174)
                        refine ⟨fun r wx hG hs hq hf => ?_, ?_⟩
                        · have h23 : r 174 = .pointer (some ⟨g9, k, none⟩) := hf.1
                          have h19 : r 170 = .bool true := hf.2.1
                          have hy : ydD [some 151, some 152, some 153, some 154, some 155, some 156, some 157, some 158, some 159, some 160, some 161, some 162, some 163, some 164, some 165, some 166, some 167, some 168, some 169, some 170, some 171, some 172, some 173, some 174, some 175, some 176, some 177] r 19 = some true := by show (match r 170 with | .bool b => some b | _ => none) = some true; rw [h19]
                          simp only [Region.wanted, hy, beq_self_eq_true, if_true]
                          clear hs hq hf hy
                          unfold gives
                          have cb := hG.who HBK.out
                          go_simp
                          exact ⟨Below.refl _ _, rfl⟩
                        -- operation 25: Op.call ( callee := Callee.value (func 10), args := #[tmp 171, tmp 175], argTypes := #[31, 31] )
                        refine ⟨fun r wx hG hs hq hf => ?_, ?_⟩
                        · have h20 : r 171 = .slice ma mb.length mc := hf.1
                          have h24 : r 175 = .slice ak lk.length ck := hf.2.1
                          have h19 : r 170 = .bool true := hf.2.2.1
                          have hy : ydD [some 151, some 152, some 153, some 154, some 155, some 156, some 157, some 158, some 159, some 160, some 161, some 162, some 163, some 164, some 165, some 166, some 167, some 168, some 169, some 170, some 171, some 172, some 173, some 174, some 175, some 176, some 177] r 19 = some true := by show (match r 170 with | .bool b => some b | _ => none) = some true; rw [h19]
                          simp only [Region.wanted, hy, beq_self_eq_true, if_true]
                          clear hs hq hf hy
                          unfold gives
                          go_simp
                          refine (HQK2.out wx hG).mono ?_
                          rintro e wy ⟨rfl, hb1⟩
                          exact ⟨_, rfl, hb1, rfl⟩
                        -- operation 26: Op.pick (tmp 170) (tmp 176) (const (Value.bool false))
                        refine ⟨fun r wx hG hs hq hf => ?_, ?_⟩
                        · have h19 : r 170 = .bool true := hf.1
                          have h25 : r 176 = .bool false := hf.2.1
                          refine (if_pos rfl).symm ▸ ?_
                          clear hs hq hf
                          unfold gives
                          go_simp
                          exact ⟨Below.refl _ _, rfl⟩
                        exact trivial
                      case hend =>
                        intro u wz hG hfin
                        have z26 : u 26 = .bool false := hfin 26 (by decide) (by kernel_rfl)
                        clear hfin
                        simp only [fill]
                        go_simp
                        go_wp2_with fail
                        go_roundw
                        case rel => exact ⟨k + 1, by omega, by go_num, hG⟩
                        case measure => simp [intOf]; omega

                    · have hQI := HQI.out
                      rw [decide_eq_false hqi] at hQI
                      have HQI2 := Lib.hid hQI
                      clear hQI hqi ht HQI
                      refine wp_region_steps [some 151, some 152, some 153, some 154, some 155, some 156, some 157, some 158, some 159, some 160, some 161, some 162, some 163, some 164, some 165, some 166, some 167, some 168, some 169, some 170, some 171, some 172, some 173, some 174, some 175, some 176, some 177] [] (bw33B g8 g9 i k ms bs c8 c9 xi xk ma mc mb ai li ci) (fun _ wx wy => Below wx.heap.size wx wy) (fun wx => BC w wx (HB + 1) HB (.slice (some ⟨g8, 0, none⟩) ms.length c8) (.slice (some ⟨g9, 0, none⟩) bs.length c9) hst ws ms bs) (by kernel_rfl) (by kernel_rfl) rfl (by kernel_rfl) HBC.out.drew (fun _ wx => Below.refl _ _) (fun _ _ _ h k => h.keep k) ?hF ?hstep ?hend
                      case hF =>
                        exact ⟨fun _ _ _ _ _ _ h => h, ⟨fun _ _ _ _ _ _ h => h, ⟨fun _ _ _ _ _ _ h => h, ⟨fun _ _ _ _ _ _ h => h, ⟨fun _ _ _ _ _ _ h => h, ⟨fun _ _ _ _ _ _ h => h, ⟨fun _ _ _ _ _ _ h => h, ⟨fun _ _ _ _ _ _ h => h, ⟨fun _ _ _ _ _ _ h => h, ⟨fun _ _ _ _ _ _ h => h, ⟨fun _ _ _ _ _ _ h => h, ⟨fun _ _ _ _ _ _ h => h, ⟨fun _ _ _ _ _ _ h => h, ⟨fun _ _ _ _ _ _ h => h, ⟨fun _ _ _ _ _ _ h => h, ⟨fun _ _ _ _ _ _ h => h, ⟨fun _ _ _ _ _ _ h => h, ⟨fun _ _ _ _ _ _ h => h, ⟨fun _ _ _ _ _ _ h => h, ⟨fun _ _ _ _ _ _ h => h, ⟨fun _ _ _ _ _ _ h => h, ⟨fun _ _ _ _ _ _ h => h, ⟨fun _ _ _ _ _ _ h => h, ⟨fun _ _ _ _ _ _ h => h, ⟨fun _ _ _ _ _ _ h => h, ⟨fun _ _ _ _ _ _ h => h, ⟨fun _ _ _ _ _ _ h => h, trivial⟩⟩⟩⟩⟩⟩⟩⟩⟩⟩⟩⟩⟩⟩⟩⟩⟩⟩⟩⟩⟩⟩⟩⟩⟩⟩⟩
                      case hstep =>
                        -- operation 0: Op.move (tmp 8)
                        refine ⟨fun r wx hG hs hq hf => ?_, ?_⟩
                        · have e8 : r 8 = .slice (some ⟨g8, 0, none⟩) ms.length c8 := hs 8 rfl
                          refine (if_pos rfl).symm ▸ ?_
                          clear hs hq hf
                          unfold gives
                          go_simp
                          exact ⟨Below.refl _ _, rfl⟩
                        -- operation 1: Op.move (tmp 16)
                        refine ⟨fun r wx hG hs hq hf => ?_, ?_⟩
                        · have e16 : r 16 = .int .i64 i := hs 16 rfl
                          refine (if_pos rfl).symm ▸ ?_
                          clear hs hq hf
                          unfold gives
                          go_simp
                          exact ⟨Below.refl _ _, rfl⟩
                        -- operation 2: Op.indexAddr 46 (tmp 151) (tmp 152)
                        refine ⟨fun r wx hG hs hq hf => ?_, ?_⟩
                        · have h0 : r 151 = .slice (some ⟨g8, 0, none⟩) ms.length c8 := hf.1
                          have h1 : r 152 = .int .i64 (i : Nat) := hf.2.1
                          refine (if_pos rfl).symm ▸ ?_
                          clear hs hq hf
                          unfold gives
                          go_simp
                          exact ⟨Below.refl _ _, rfl⟩
                        -- operation 3: Op.fieldAddr 34 (tmp 153) 3
                        refine ⟨fun r wx hG hs hq hf => ?_, ?_⟩
                        · have h2 : r 153 = .pointer (some ⟨g8, i * 12, none⟩) := hf.1
                          refine (if_pos rfl).symm ▸ ?_
                          clear hs hq hf
                          unfold gives
                          go_simp
                          exact ⟨Below.refl _ _, rfl⟩
                        -- operation 4: Op.load 22 (tmp 154)
                        refine ⟨fun r wx hG hs hq hf => ?_, ?_⟩
                        · have h3 : r 154 = .pointer (some ⟨g8, i * 12 + 3, none⟩) := hf.1
                          refine (if_pos rfl).symm ▸ ?_
                          clear hs hq hf
                          unfold gives
                          have cx := (hG.ask HXI.out).2
                          go_simp
                          exact ⟨Below.refl _ _, rfl⟩
                        -- operation 5: Op.move (tmp 8)
                        refine ⟨fun r wx hG hs hq hf => ?_, ?_⟩
                        · have e8 : r 8 = .slice (some ⟨g8, 0, none⟩) ms.length c8 := hs 8 rfl
                          refine (if_pos rfl).symm ▸ ?_
                          clear hs hq hf
                          unfold gives
                          go_simp
                          exact ⟨Below.refl _ _, rfl⟩
                        -- operation 6: Op.move (tmp 17)
                        refine ⟨fun r wx hG hs hq hf => ?_, ?_⟩
                        · have e17 : r 17 = .int .i64 k := hs 17 rfl
                          refine (if_pos rfl).symm ▸ ?_
                          clear hs hq hf
                          unfold gives
                          go_simp
                          exact ⟨Below.refl _ _, rfl⟩
                        -- operation 7: Op.indexAddr 46 (tmp 156) (tmp 157)
                        refine ⟨fun r wx hG hs hq hf => ?_, ?_⟩
                        · have h5 : r 156 = .slice (some ⟨g8, 0, none⟩) ms.length c8 := hf.1
                          have h6 : r 157 = .int .i64 (k : Nat) := hf.2.1
                          refine (if_pos rfl).symm ▸ ?_
                          clear hs hq hf
                          unfold gives
                          go_simp
                          exact ⟨Below.refl _ _, rfl⟩
                        -- operation 8: Op.fieldAddr 34 (tmp 158) 3
                        refine ⟨fun r wx hG hs hq hf => ?_, ?_⟩
                        · have h7 : r 158 = .pointer (some ⟨g8, k * 12, none⟩) := hf.1
                          refine (if_pos rfl).symm ▸ ?_
                          clear hs hq hf
                          unfold gives
                          go_simp
                          exact ⟨Below.refl _ _, rfl⟩
                        -- operation 9: Op.load 22 (tmp 159)
                        refine ⟨fun r wx hG hs hq hf => ?_, ?_⟩
                        · have h8 : r 159 = .pointer (some ⟨g8, k * 12 + 3, none⟩) := hf.1
                          refine (if_pos rfl).symm ▸ ?_
                          clear hs hq hf
                          unfold gives
                          have cx := (hG.ask HXK.out).2
                          go_simp
                          exact ⟨Below.refl _ _, rfl⟩
                        -- operation 10: Op.binOp BinOp.eql 22 (tmp 155) (tmp 160) 22
                        refine ⟨fun r wx hG hs hq hf => ?_, ?_⟩
                        · have h4 : r 155 = .int .u64 xi.x := hf.1
                          have h9 : r 160 = .int .u64 xk.x := hf.2.1
                          refine (if_pos rfl).symm ▸ ?_
                          clear hs hq hf
                          unfold gives
                          go_simp
                          exact ⟨Below.refl _ _, rfl⟩
                        -- operation 11: Op.move (tmp 161)
                        refine ⟨fun r wx hG hs hq hf => ?_, ?_⟩
                        · have h10 : r 161 = .bool true := hf.1
                          refine (if_pos rfl).symm ▸ ?_
                          clear hs hq hf
                          unfold gives
                          go_simp
                          exact ⟨Below.refl _ _, rfl⟩
                        -- operation 12: Op.move (tmp 1)
                        refine ⟨fun r wx hG hs hq hf => ?_, ?_⟩
                        · have e1 : r 1 = .slice ma mb.length mc := hs 1 rfl
                          have h11 : r 162 = .bool true := hf.1
                          have hy : ydD [some 151, some 152, some 153, some 154, some 155, some 156, some 157, some 158, some 159, some 160, some 161, some 162, some 163, some 164, some 165, some 166, some 167, some 168, some 169, some 170, some 171, some 172, some 173, some 174, some 175, some 176, some 177] r 11 = some true := by show (match r 162 with | .bool b => some b | _ => none) = some true; rw [h11]
                          simp only [Region.wanted, hy, beq_self_eq_true, if_true]
                          clear hs hq hf hy
                          unfold gives
                          go_simp
                          exact ⟨Below.refl _ _, rfl⟩
                        -- operation 13: Op.move (tmp 9)
                        refine ⟨fun r wx hG hs hq hf => ?_, ?_⟩
                        · have e9 : r 9 = .slice (some ⟨g9, 0, none⟩) bs.length c9 := hs 9 rfl
                          have h11 : r 162 = .bool true := hf.1
                          have hy : ydD [some 151, some 152, some 153, some 154, some 155, some 156, some 157, some 158, some 159, some 160, some 161, some 162, some 163, some 164, some 165, some 166, some 167, some 168, some 169, some 170, some 171, some 172, some 173, some 174, some 175, some 176, some 177] r 11 = some true := by show (match r 162 with | .bool b => some b | _ => none) = some true; rw [h11]
                          simp only [Region.wanted, hy, beq_self_eq_true, if_true]
                          clear hs hq hf hy
                          unfold gives
                          go_simp
                          exact ⟨Below.refl _ _, rfl⟩
                        -- operation 14: Op.move (tmp 16)
                        refine ⟨fun r wx hG hs hq hf => ?_, ?_⟩
                        · have e16 : r 16 = .int .i64 i := hs 16 rfl
                          have h11 : r 162 = .bool true := hf.1
                          have hy : ydD [some 151, some 152, some 153, some 154, some 155, some 156, some 157, some 158, some 159, some 160, some 161, some 162, some 163, some 164, some 165, some 166, some 167, some 168, some 169, some 170, some 171, some 172, some 173, some 174, some 175, some 176, some 177] r 11 = some true := by show (match r 162 with | .bool b => some b | _ => none) = some true; rw [h11]
                          simp only [Region.wanted, hy, beq_self_eq_true, if_true]
                          clear hs hq hf hy
                          unfold gives
                          go_simp
                          exact ⟨Below.refl _ _, rfl⟩
                        -- operation 15: Op.indexAddr 47 (tmp 164) (tmp 165)
                        refine ⟨fun r wx hG hs hq hf => ?_, ?_⟩
                        · have h13 : r 164 = .slice (some ⟨g9, 0, none⟩) bs.length c9 := hf.1
                          have h14 : r 165 = .int .i64 (i : Nat) := hf.2.1
                          have h11 : r 162 = .bool true := hf.2.2.1
                          have hy : ydD [some 151, some 152, some 153, some 154, some 155, some 156, some 157, some 158, some 159, some 160, some 161, some 162, some 163, some 164, some 165, some 166, some 167, some 168, some 169, some 170, some 171, some 172, some 173, some 174, some 175, some 176, some 177] r 11 = some true := by show (match r 162 with | .bool b => some b | _ => none) = some true; rw [h11]
                          simp only [Region.wanted, hy, beq_self_eq_true, if_true]
                          clear hs hq hf hy
                          unfold gives
                          go_simp
                          exact ⟨Below.refl _ _, rfl⟩
                        -- operation 16: Op.load 31 (tmp 166)
                        refine ⟨fun r wx hG hs hq hf => ?_, ?_⟩
                        · have h15 : r 166 = .pointer (some ⟨g9, i, none⟩) := hf.1
                          have h11 : r 162 = .bool true := hf.2.1
                          have hy : ydD [some 151, some 152, some 153, some 154, some 155, some 156, some 157, some 158, some 159, some 160, some 161, some 162, some 163, some 164, some 165, some 166, some 167, some 168, some 169, some 170, some 171, some 172, some 173, some 174, some 175, some 176, some 177] r 11 = some true := by show (match r 162 with | .bool b => some b | _ => none) = some true; rw [h11]
                          simp only [Region.wanted, hy, beq_self_eq_true, if_true]
                          clear hs hq hf hy
                          unfold gives
                          have cb := hG.who HBI.out
                          go_simp
                          exact ⟨Below.refl _ _, rfl⟩
                        -- operation 17: Op.call ( callee := Callee.value (func 10), args := #[tmp 163, tmp 167], argTypes := #[31, 31] )
                        refine ⟨fun r wx hG hs hq hf => ?_, ?_⟩
                        · have h12 : r 163 = .slice ma mb.length mc := hf.1
                          have h16 : r 167 = .slice ai li.length ci := hf.2.1
                          have h11 : r 162 = .bool true := hf.2.2.1
                          have hy : ydD [some 151, some 152, some 153, some 154, some 155, some 156, some 157, some 158, some 159, some 160, some 161, some 162, some 163, some 164, some 165, some 166, some 167, some 168, some 169, some 170, some 171, some 172, some 173, some 174, some 175, some 176, some 177] r 11 = some true := by show (match r 162 with | .bool b => some b | _ => none) = some true; rw [h11]
                          simp only [Region.wanted, hy, beq_self_eq_true, if_true]
                          clear hs hq hf hy
                          unfold gives
                          go_simp
                          refine (HQI2.out wx hG).mono ?_
                          rintro e wy ⟨rfl, hb1⟩
                          exact ⟨_, rfl, hb1, rfl⟩
                        -- operation 18: Op.pick (tmp 162) (tmp 168) (const (Value.bool false))
                        refine ⟨fun r wx hG hs hq hf => ?_, ?_⟩
                        · have h11 : r 162 = .bool true := hf.1
                          have h17 : r 168 = .bool false := hf.2.1
                          refine (if_pos rfl).symm ▸ ?_
                          clear hs hq hf
                          unfold gives
                          go_simp
                          exact ⟨Below.refl _ _, rfl⟩
                        -- operation 19: Op.move (tmp 169)
                        refine ⟨fun r wx hG hs hq hf => ?_, ?_⟩
                        · have h18 : r 169 = .bool false := hf.1
                          refine (if_pos rfl).symm ▸ ?_
                          clear hs hq hf
                          unfold gives
                          go_simp
                          exact ⟨Below.refl _ _, rfl⟩
                        -- operation 20: Op.move (tmp 1)
                        refine ⟨fun r wx hG hs hq hf => ?_, ?_⟩
                        · have e1 : r 1 = .slice ma mb.length mc := hs 1 rfl
                          have h19 : r 170 = .bool false := hf.1
                          have hy : ydD [some 151, some 152, some 153, some 154, some 155, some 156, some 157, some 158, some 159, some 160, some 161, some 162, some 163, some 164, some 165, some 166, some 167, some 168, some 169, some 170, some 171, some 172, some 173, some 174, some 175, some 176, some 177] r 19 = some false := by show (match r 170 with | .bool b => some b | _ => none) = some false; rw [h19]
                          simp only [Region.wanted, hy]
                          rw [if_neg (show ¬ (some false == some true) = true by decide)]
                          clear hs hq hf hy
                          rfl
                        -- operation 21: Op.move (tmp 9)
                        refine ⟨fun r wx hG hs hq hf => ?_, ?_⟩
                        · have e9 : r 9 = .slice (some ⟨g9, 0, none⟩) bs.length c9 := hs 9 rfl
                          have h19 : r 170 = .bool false := hf.1
                          have hy : ydD [some 151, some 152, some 153, some 154, some 155, some 156, some 157, some 158, some 159, some 160, some 161, some 162, some 163, some 164, some 165, some 166, some 167, some 168, some 169, some 170, some 171, some 172, some 173, some 174, some 175, some 176, some 177] r 19 = some false := by show (match r 170 with | .bool b => some b | _ => none) = some false; rw [h19]
                          simp only [Region.wanted, hy]
                          rw [if_neg (show ¬ (some false == some true) = true by decide)]
                          clear hs hq hf hy
                          rfl
                        -- operation 22: Op.move (tmp 17)
                        refine ⟨fun r wx hG hs hq hf => ?_, ?_⟩
                        · have e17 : r 17 = .int .i64 k := hs 17 rfl
                          have h19 : r 170 = .bool false := hf.1
                          have hy : ydD [some 151, some 152, some 153, some 154, some 155, some 156, some 157, some 158, some 159, some 160, some 161, some 162, some 163, some 164, some 165, some 166, some 167, some 168, some 169, some 170, some 171, some 172, some 173, some 174, some 175, some 176, some 177] r 19 = some false := by show (match r 170 with | .bool b => some b | _ => none) = some false; rw [h19]
                          simp only [Region.wanted, hy]
                          rw [if_neg (show ¬ (some false == some true) = true by decide)]
                          clear hs hq hf hy
                          rfl
                        -- operation 23: Op.indexAddr 47 (tmp 172) (tmp 173)
                        refine ⟨fun r wx hG hs hq hf => ?_, ?_⟩
                        · have h21 : r 172 = undef := hf.1
                          have h22 : r 173 = undef := hf.2.1
                          have h19 : r 170 = .bool false := hf.2.2.1
                          have hy : ydD [some 151, some 152, some 153, some 154, some 155, some 156, some 157, some 158, some 159, some 160, some 161, some 162, some 163, some 164, some 165, some 166, some 167, some 168, some 169, some 170, some 171, some 172, some 173, some 174, some 175, some 176, some 177] r 19 = some false := by show (match r 170 with | .bool b => some b | _ => none) = some false; rw [h19]
                          simp only [Region.wanted, hy]
                          rw [if_neg (show ¬ (some false == some true) = true by decide)]
                          clear hs hq hf hy
                          rfl
                        -- operation 24: Op.load 31 (tmp 174)
                        refine ⟨fun r wx hG hs hq hf => ?_, ?_⟩
                        · have h23 : r 174 = undef := hf.1
                          have h19 : r 170 = .bool false := hf.2.1
                          have hy : ydD [some 151, some 152, some 153, some 154, some 155, some 156, some 157, some 158, some 159, some 160, some 161, some 162, some 163, some 164, some 165, some 166, some 167, some 168, some 169, some 170, some 171, some 172, some 173, some 174, some 175, some 176, some 177] r 19 = some false := by show (match r 170 with | .bool b => some b | _ => none) = some false; rw [h19]
                          simp only [Region.wanted, hy]
                          rw [if_neg (show ¬ (some false == some true) = true by decide)]
                          clear hs hq hf hy
                          rfl
                        -- operation 25: Op.call ( callee := Callee.value (func 10), args := #[tmp 171, tmp 175], argTypes := #[31, 31] )
                        refine ⟨fun r wx hG hs hq hf => ?_, ?_⟩
                        · have h20 : r 171 = undef := hf.1
                          have h24 : r 175 = undef := hf.2.1
                          have h19 : r 170 = .bool false := hf.2.2.1
                          have hy : ydD [some 151, some 152, some 153, some 154, some 155, some 156, some 157, some 158, some 159, some 160, some 161, some 162, some 163, some 164, some 165, some 166, some 167, some 168, some 169, some 170, some 171, some 172, some 173, some 174, some 175, some 176, some 177] r 19 = some false := by show (match r 170 with | .bool b => some b | _ => none) = some false; rw [h19]
                          simp only [Region.wanted, hy]
                          rw [if_neg (show ¬ (some false == some true) = true by decide)]
                          clear hs hq hf hy
                          rfl
                        -- operation 26: Op.pick (tmp 170) (tmp 176) (const (Value.bool false))
                        refine ⟨fun r wx hG hs hq hf => ?_, ?_⟩
                        · have h19 : r 170 = .bool false := hf.1
                          have h25 : r 176 = undef := hf.2.1
                          refine (if_pos rfl).symm ▸ ?_
                          clear hs hq hf
                          unfold gives
                          go_simp
                          exact ⟨Below.refl _ _, rfl⟩
                        exact trivial
                      case hend =>
                        intro u wz hG hfin
                        have z26 : u 26 = .bool false := hfin 26 (by decide) (by kernel_rfl)
                        clear hfin
                        simp only [fill]
                        go_simp
                        go_wp2_with fail
                        go_roundw
                        case rel => exact ⟨k + 1, by omega, by go_num, hG⟩
                        case measure => simp [intOf]; omega

                  · have hb10 : ((xi.x : Int) == (xk.x : Int)) = false := by simp; omega
                    clear ht
                    refine wp_region_steps [some 151, some 152, some 153, some 154, some 155, some 156, some 157, some 158, some 159, some 160, some 161, some 162, some 163, some 164, some 165, some 166, some 167, some 168, some 169, some 170, some 171, some 172, some 173, some 174, some 175, some 176, some 177] [] (bw33A g8 i k ms c8 xi xk) (fun _ wx wy => Below wx.heap.size wx wy) (fun wx => BC w wx (HB + 1) HB (.slice (some ⟨g8, 0, none⟩) ms.length c8) (.slice (some ⟨g9, 0, none⟩) bs.length c9) hst ws ms bs) (by kernel_rfl) (by kernel_rfl) rfl (by kernel_rfl) HBC.out.drew (fun _ wx => Below.refl _ _) (fun _ _ _ h k => h.keep k) ?hF ?hstep ?hend
                    case hF =>
                      exact ⟨fun _ _ _ _ _ _ h => h, ⟨fun _ _ _ _ _ _ h => h, ⟨fun _ _ _ _ _ _ h => h, ⟨fun _ _ _ _ _ _ h => h, ⟨fun _ _ _ _ _ _ h => h, ⟨fun _ _ _ _ _ _ h => h, ⟨fun _ _ _ _ _ _ h => h, ⟨fun _ _ _ _ _ _ h => h, ⟨fun _ _ _ _ _ _ h => h, ⟨fun _ _ _ _ _ _ h => h, ⟨fun _ _ _ _ _ _ h => h, ⟨fun _ _ _ _ _ _ h => h, ⟨fun _ _ _ _ _ _ h => h, ⟨fun _ _ _ _ _ _ h => h, ⟨fun _ _ _ _ _ _ h => h, ⟨fun _ _ _ _ _ _ h => h, ⟨fun _ _ _ _ _ _ h => h, ⟨fun _ _ _ _ _ _ h => h, ⟨fun _ _ _ _ _ _ h => h, ⟨fun _ _ _ _ _ _ h => h, ⟨fun _ _ _ _ _ _ h => h, ⟨fun _ _ _ _ _ _ h => h, ⟨fun _ _ _ _ _ _ h => h, ⟨fun _ _ _ _ _ _ h => h, ⟨fun _ _ _ _ _ _ h => h, ⟨fun _ _ _ _ _ _ h => h, ⟨fun _ _ _ _ _ _ h => h, trivial⟩⟩⟩⟩⟩⟩⟩⟩⟩⟩⟩⟩⟩⟩⟩⟩⟩⟩⟩⟩⟩⟩⟩⟩⟩⟩⟩
                    case hstep =>
                      -- operation 0: Op.move (tmp 8)
                      refine ⟨fun r wx hG hs hq hf => ?_, ?_⟩
                      · have e8 : r 8 = .slice (some ⟨g8, 0, none⟩) ms.length c8 := hs 8 rfl
                        refine (if_pos rfl).symm ▸ ?_
                        clear hs hq hf
                        unfold gives
                        go_simp
                        exact ⟨Below.refl _ _, rfl⟩
                      -- operation 1: Op.move (tmp 16)
                      refine ⟨fun r wx hG hs hq hf => ?_, ?_⟩
                      · have e16 : r 16 = .int .i64 i := hs 16 rfl
                        refine (if_pos rfl).symm ▸ ?_
                        clear hs hq hf
                        unfold gives
                        go_simp
                        exact ⟨Below.refl _ _, rfl⟩
                      -- operation 2: Op.indexAddr 46 (tmp 151) (tmp 152)
                      refine ⟨fun r wx hG hs hq hf => ?_, ?_⟩
                      · have h0 : r 151 = .slice (some ⟨g8, 0, none⟩) ms.length c8 := hf.1
                        have h1 : r 152 = .int .i64 (i : Nat) := hf.2.1
                        refine (if_pos rfl).symm ▸ ?_
                        clear hs hq hf
                        unfold gives
                        go_simp
                        exact ⟨Below.refl _ _, rfl⟩
                      -- operation 3: Op.fieldAddr 34 (tmp 153) 3
                      refine ⟨fun r wx hG hs hq hf => ?_, ?_⟩
                      · have h2 : r 153 = .pointer (some ⟨g8, i * 12, none⟩) := hf.1
                        refine (if_pos rfl).symm ▸ ?_
                        clear hs hq hf
                        unfold gives
                        go_simp
                        exact ⟨Below.refl _ _, rfl⟩
                      -- operation 4: Op.load 22 (tmp 154)
                      refine ⟨fun r wx hG hs hq hf => ?_, ?_⟩
                      · have h3 : r 154 = .pointer (some ⟨g8, i * 12 + 3, none⟩) := hf.1
                        refine (if_pos rfl).symm ▸ ?_
                        clear hs hq hf
                        unfold gives
                        have cx := (hG.ask HXI.out).2
                        go_simp
                        exact ⟨Below.refl _ _, rfl⟩
                      -- operation 5: Op.move (tmp 8)
                      refine ⟨fun r wx hG hs hq hf => ?_, ?_⟩
                      · have e8 : r 8 = .slice (some ⟨g8, 0, none⟩) ms.length c8 := hs 8 rfl
                        refine (if_pos rfl).symm ▸ ?_
                        clear hs hq hf
                        unfold gives
                        go_simp
                        exact ⟨Below.refl _ _, rfl⟩
                      -- operation 6: Op.move (tmp 17)
                      refine ⟨fun r wx hG hs hq hf => ?_, ?_⟩
                      · have e17 : r 17 = .int .i64 k := hs 17 rfl
                        refine (if_pos rfl).symm ▸ ?_
                        clear hs hq hf
                        unfold gives
                        go_simp
                        exact ⟨Below.refl _ _, rfl⟩
                      -- operation 7: Op.indexAddr 46 (tmp 156) (tmp 157)
                      refine ⟨fun r wx hG hs hq hf => ?_, ?_⟩
                      · have h5 : r 156 = .slice (some ⟨g8, 0, none⟩) ms.length c8 := hf.1
                        have h6 : r 157 = .int .i64 (k : Nat) := hf.2.1
                        refine (if_pos rfl).symm ▸ ?_
                        clear hs hq hf
                        unfold gives
                        go_simp
                        exact ⟨Below.refl _ _, rfl⟩
                      -- operation 8: Op.fieldAddr 34 (tmp 158) 3
                      refine ⟨fun r wx hG hs hq hf => ?_, ?_⟩
                      · have h7 : r 158 = .pointer (some ⟨g8, k * 12, none⟩) := hf.1
                        refine (if_pos rfl).symm ▸ ?_
                        clear hs hq hf
                        unfold gives
                        go_simp
                        exact ⟨Below.refl _ _, rfl⟩
                      -- operation 9: Op.load 22 (tmp 159)
                      refine ⟨fun r wx hG hs hq hf => ?_, ?_⟩
                      · have h8 : r 159 = .pointer (some ⟨g8, k * 12 + 3, none⟩) := hf.1
                        refine (if_pos rfl).symm ▸ ?_
                        clear hs hq hf
                        unfold gives
                        have cx := (hG.ask HXK.out).2
                        go_simp
                        exact ⟨Below.refl _ _, rfl⟩
                      -- operation 10: Op.binOp BinOp.eql 22 (tmp 155) (tmp 160) 22
                      refine ⟨fun r wx hG hs hq hf => ?_, ?_⟩
                      · have h4 : r 155 = .int .u64 xi.x := hf.1
                        have h9 : r 160 = .int .u64 xk.x := hf.2.1
                        refine (if_pos rfl).symm ▸ ?_
                        clear hs hq hf
                        unfold gives
                        go_simp
                        exact ⟨Below.refl _ _, rfl⟩
                      -- operation 11: Op.move (tmp 161)
                      refine ⟨fun r wx hG hs hq hf => ?_, ?_⟩
                      · have h10 : r 161 = .bool false := hf.1
                        refine (if_pos rfl).symm ▸ ?_
                        clear hs hq hf
                        unfold gives
                        go_simp
                        exact ⟨Below.refl _ _, rfl⟩
                      -- operation 12: Op.move (tmp 1)
                      refine ⟨fun r wx hG hs hq hf => ?_, ?_⟩
                      · have e1 : r 1 = .slice ma mb.length mc := hs 1 rfl
                        have h11 : r 162 = .bool false := hf.1
                        have hy : ydD [some 151, some 152, some 153, some 154, some 155, some 156, some 157, some 158, some 159, some 160, some 161, some 162, some 163, some 164, some 165, some 166, some 167, some 168, some 169, some 170, some 171, some 172, some 173, some 174, some 175, some 176, some 177] r 11 = some false := by show (match r 162 with | .bool b => some b | _ => none) = some false; rw [h11]
                        simp only [Region.wanted, hy]
                        rw [if_neg (show ¬ (some false == some true) = true by decide)]
                        clear hs hq hf hy
                        rfl
                      -- operation 13: Op.move (tmp 9)
                      refine ⟨fun r wx hG hs hq hf => ?_, ?_⟩
                      · have e9 : r 9 = .slice (some ⟨g9, 0, none⟩) bs.length c9 := hs 9 rfl
                        have h11 : r 162 = .bool false := hf.1
                        have hy : ydD [some 151, some 152, some 153, some 154, some 155, some 156, some 157, some 158, some 159, some 160, some 161, some 162, some 163, some 164, some 165, some 166, some 167, some 168, some 169, some 170, some 171, some 172, some 173, some 174, some 175, some 176, some 177] r 11 = some false := by show (match r 162 with | .bool b => some b | _ => none) = some false; rw [h11]
                        simp only [Region.wanted, hy]
                        rw [if_neg (show ¬ (some false == some true) = true by decide)]
                        clear hs hq hf hy
                        rfl
                      -- operation 14: Op.move (tmp 16)
                      refine ⟨fun r wx hG hs hq hf => ?_, ?_⟩
                      · have e16 : r 16 = .int .i64 i := hs 16 rfl
                        have h11 : r 162 = .bool false := hf.1
                        have hy : ydD [some 151, some 152, some 153, some 154, some 155, some 156, some 157, some 158, some 159, some 160, some 161, some 162, some 163, some 164, some 165, some 166, some 167, some 168, some 169, some 170, some 171, some 172, some 173, some 174, some 175, some 176, some 177] r 11 = some false := by show (match r 162 with | .bool b => some b | _ => none) = some false; rw [h11]
                        simp only [Region.wanted, hy]
                        rw [if_neg (show ¬ (some false == some true) = true by decide)]
                        clear hs hq hf hy
                        rfl
                      -- operation 15: Op.indexAddr 47 (tmp 164) (tmp 165)
                      refine ⟨fun r wx hG hs hq hf => ?_, ?_⟩
                      · have h13 : r 164 = undef := hf.1
                        have h14 : r 165 = undef := hf.2.1
                        have h11 : r 162 = .bool false := hf.2.2.1
                        have hy : ydD [some 151, some 152, some 153, some 154, some 155, some 156, some 157, some 158, some 159, some 160, some 161, some 162, some 163, some 164, some 165, some 166, some 167, some 168, some 169, some 170, some 171, some 172, some 173, some 174, some 175, some 176, some 177] r 11 = some false := by show (match r 162 with | .bool b => some b | _ => none) = some false; rw [h11]
                        simp only [Region.wanted, hy]
                        rw [if_neg (show ¬ (some false == some true) = true by decide)]
                        clear hs hq hf hy
                        rfl
                      -- operation 16: Op.load 31 (tmp 166)
                      refine ⟨fun r wx hG hs hq hf => ?_, ?_⟩
                      · have h15 : r 166 = undef := hf.1
                        have h11 : r 162 = .bool false := hf.2.1
                        have hy : ydD [some 151, some 152, some 153, some 154, some 155, some 156, some 157, some 158, some 159, some 160, some 161, some 162, some 163, some 164, some 165, some 166, some 167, some 168, some 169, some 170, some 171, some 172, some 173, some 174, some 175, some 176, some 177] r 11 = some false := by show (match r 162 with | .bool b => some b | _ => none) = some false; rw [h11]
                        simp only [Region.wanted, hy]
                        rw [if_neg (show ¬ (some false == some true) = true by decide)]
                        clear hs hq hf hy
                        rfl
                      -- operation 17: Op.call ( callee := Callee.value (func 10), args := #[tmp 163, tmp 167], argTypes := #[31, 31] )
                      refine ⟨fun r wx hG hs hq hf => ?_, ?_⟩
                      · have h12 : r 163 = undef := hf.1
                        have h16 : r 167 = undef := hf.2.1
                        have h11 : r 162 = .bool false := hf.2.2.1
                        have hy : ydD [some 151, some 152, some 153, some 154, some 155, some 156, some 157, some 158, some 159, some 160, some 161, some 162, some 163, some 164, some 165, some 166, some 167, some 168, some 169, some 170, some 171, some 172, some 173, some 174, some 175, some 176, some 177] r 11 = some false := by show (match r 162 with | .bool b => some b | _ => none) = some false; rw [h11]
                        simp only [Region.wanted, hy]
                        rw [if_neg (show ¬ (some false == some true) = true by decide)]
                        clear hs hq hf hy
                        rfl
                      -- operation 18: Op.pick (tmp 162) (tmp 168) (const (Value.bool false))
                      refine ⟨fun r wx hG hs hq hf => ?_, ?_⟩
                      · have h11 : r 162 = .bool false := hf.1
                        have h17 : r 168 = undef := hf.2.1
                        refine (if_pos rfl).symm ▸ ?_
                        clear hs hq hf
                        unfold gives
                        go_simp
                        exact ⟨Below.refl _ _, rfl⟩
                      -- operation 19: Op.move (tmp 169)
                      refine ⟨fun r wx hG hs hq hf => ?_, ?_⟩
                      · have h18 : r 169 = .bool false := hf.1
                        refine (if_pos rfl).symm ▸ ?_
                        clear hs hq hf
                        unfold gives
                        go_simp
                        exact ⟨Below.refl _ _, rfl⟩
                      -- operation 20: Op.move (tmp 1)
                      refine ⟨fun r wx hG hs hq hf => ?_, ?_⟩
                      · have e1 : r 1 = .slice ma mb.length mc := hs 1 rfl
                        have h19 : r 170 = .bool false := hf.1
                        have hy : ydD [some 151, some 152, some 153, some 154, some 155, some 156, some 157, some 158, some 159, some 160, some 161, some 162, some 163, some 164, some 165, some 166, some 167, some 168, some 169, some 170, some 171, some 172, some 173, some 174, some 175, some 176, some 177] r 19 = some false := by show (match r 170 with | .bool b => some b | _ => none) = some false; rw [h19]
                        simp only [Region.wanted, hy]
                        rw [if_neg (show ¬ (some false == some true) = true by decide)]
                        clear hs hq hf hy
                        rfl
                      -- operation 21: Op.move (tmp 9)
                      refine ⟨fun r wx hG hs hq hf => ?_, ?_⟩
                      · have e9 : r 9 = .slice (some ⟨g9, 0, none⟩) bs.length c9 := hs 9 rfl
                        have h19 : r 170 = .bool false := hf.1
                        have hy : ydD [some 151, some 152, some 153, some 154, some 155, some 156, some 157, some 158, some 159, some 160, some 161, some 162, some 163, some 164, some 165, some 166, some 167, some 168, some 169, some 170, some 171, some 172, some 173, some 174, some 175, some 176, some 177] r 19 = some false := by show (match r 170 with | .bool b => some b | _ => none) = some false; rw [h19]
                        simp only [Region.wanted, hy]
                        rw [if_neg (show ¬ (some false == some true) = true by decide)]
                        clear hs hq hf hy
                        rfl
                      -- operation 22: Op.move (tmp 17)
                      refine ⟨fun r wx hG hs hq hf => ?_, ?_⟩
                      · have e17 : r 17 = .int .i64 k := hs 17 rfl
                        have h19 : r 170 = .bool false := hf.1
                        have hy : ydD [some 151, some 152, some 153, some 154, some 155, some 156, some 157, some 158, some 159, some 160, some 161, some 162, some 163, some 164, some 165, some 166, some 167, some 168, some 169, some 170, some 171, some 172, some 173, some 174, some 175, some 176, some 177] r 19 = some false := by show (match r 170 with | .bool b => some b | _ => none) = some false; rw [h19]
                        simp only [Region.wanted, hy]
                        rw [if_neg (show ¬ (some false == some true) = true by decide)]
                        clear hs hq hf hy
                        rfl
                      -- operation 23: Op.indexAddr 47 (tmp 172) (tmp 173)
                      refine ⟨fun r wx hG hs hq hf => ?_, ?_⟩
                      · have h21 : r 172 = undef := hf.1
                        have h22 : r 173 = undef := hf.2.1
                        have h19 : r 170 = .bool false := hf.2.2.1
                        have hy : ydD [some 151, some 152, some 153, some 154, some 155, some 156, some 157, some 158, some 159, some 160, some 161, some 162, some 163, some 164, some 165, some 166, some 167, some 168, some 169, some 170, some 171, some 172, some 173, some 174, some 175, some 176, some 177] r 19 = some false := by show (match r 170 with | .bool b => some b | _ => none) = some false; rw [h19]
                        simp only [Region.wanted, hy]
                        rw [if_neg (show ¬ (some false == some true) = true by decide)]
                        clear hs hq hf hy
                        rfl
                      -- operation 24: Op.load 31 (tmp 174)
                      refine ⟨fun r wx hG hs hq hf => ?_, ?_⟩
                      · have h23 : r 174 = undef := hf.1
                        have h19 : r 170 = .bool false := hf.2.1
                        have hy : ydD [some 151, some 152, some 153, some 154, some 155, some 156, some 157, some 158, some 159, some 160, some 161, some 162, some 163, some 164, some 165, some 166, some 167, some 168, some 169, some 170, some 171, some 172, some 173, some 174, some 175, some 176, some 177] r 19 = some false := by show (match r 170 with | .bool b => some b | _ => none) = some false; rw [h19]
                        simp only [Region.wanted, hy]
                        rw [if_neg (show ¬ (some false == some true) = true by decide)]
                        clear hs hq hf hy
                        rfl
                      -- operation 25: Op.call ( callee := Callee.value (func 10), args := #[tmp 171, tmp 175], argTypes := #[31, 31] )
                      refine ⟨fun r wx hG hs hq hf => ?_, ?_⟩
                      · have h20 : r 171 = undef := hf.1
                        have h24 : r 175 = undef := hf.2.1
                        have h19 : r 170 = .bool false := hf.2.2.1
                        have hy : ydD [some 151, some 152, some 153, some 154, some 155, some 156, some 157, some 158, some 159, some 160, some 161, some 162, some 163, some 164, some 165, some 166, some 167, some 168, some 169, some 170, some 171, some 172, some 173, some 174, some 175, some 176, some 177] r 19 = some false := by show (match r 170 with | .bool b => some b | _ => none) = some false; rw [h19]
                        simp only [Region.wanted, hy]
                        rw [if_neg (show ¬ (some false == some true) = true by decide)]
                        clear hs hq hf hy
                        rfl
                      -- operation 26: Op.pick (tmp 170) (tmp 176) (const (Value.bool false))
                      refine ⟨fun r wx hG hs hq hf => ?_, ?_⟩
                      · have h19 : r 170 = .bool false := hf.1
                        have h25 : r 176 = undef := hf.2.1
                        refine (if_pos rfl).symm ▸ ?_
                        clear hs hq hf
                        unfold gives
                        go_simp
                        exact ⟨Below.refl _ _, rfl⟩
                      exact trivial
                    case hend =>
                      intro u wz hG hfin
                      have z26 : u 26 = .bool false := hfin 26 (by decide) (by kernel_rfl)
                      clear hfin
                      simp only [fill]
                      go_simp
                      go_wp2_with fail
                      go_roundw
                      case rel => exact ⟨k + 1, by omega, by go_num, hG⟩
                      case measure => simp [intOf]; omega

                · have z2 : ¬ (k : Int) < (i : Int) := by omega
                  go_wp2_with fail
                  go_roundw
                  case rel => exact ⟨i + 1, by omega, by go_num, HBC.out⟩
                  case measure => simp [intOf]; omega
            · have z1 : ¬ (i : Int) < (ms.length : Int) := by omega
              go_wp2_with fail
              go_ret
              exact ⟨rfl, HBC.out.bl⟩
end Go.Proofs.Ythghhjilbaiahaa
