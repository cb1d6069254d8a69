/- Contracts: entries, lists of entries and logs are the same as themselves. -/
import Derived.Test.YteflpphpbecciaaRowsA
import Derived.Deep.QuietTactic
import Derived.BigQuiet
import Derived.Test.YteflpphpbecciaaReg
namespace Go.Proofs.Yteflpphpbecciaa
open Go.RowKit

theorem below_drewN' {B : Nat} {w w' : World} (h : Below B w w') (n : Nat) : Below B w (w'.drewN n) := ⟨h.os, h.tape, h.output, h.size, h.block⟩

set_option maxHeartbeats 1000000 in
theorem Nums_self (v : Value) (l : List Nat) (w : World) (hl : l.length ≤ 140737488355328) (hr : Rd w 1 v l.length (uv l)) :
    Calls Try.prog 27 #[v, v] w fun e w' => e = .returned (.bool true) ∧ Below w.heap.size w w' := by
  obtain ⟨a, c, rfl⟩ := hr.form
  go_enter Try.func27, Try.ntmps27
  go_wp2_with fail
  go_loopw [5] (fun s5 wr => ∃ k : Nat, k ≤ l.length ∧ s5 = .int .i64 k ∧ Below w.heap.size w wr) (fun i _ => l.length - (intOf i).toNat)
  case atStart => exact ⟨0, by omega, rfl, Below.refl _ _⟩
  case round =>
    obtain ⟨k, hk, rfl, hbr⟩ := hrel
    have HB := Lib.hid hbr
    by_cases hlt : k < l.length
    · have hkz : (k : Int) < (l.length : Int) := by omega
      have hk0 : (0 : Int) ≤ (k : Int) := by omega
      obtain ⟨q, o, c', hv, _, hcell⟩ := (hr.keep hbr).at (by omega)
      simp only [Value.slice.injEq, true_and] at hv
      obtain ⟨rfl, rfl⟩ := hv
      obtain ⟨y, hy⟩ : ∃ y, l[k]? = some y := ⟨l[k], List.getElem?_eq_getElem hlt⟩
      have hc := hcell k (.int .u64 y) (by simp [uv, hy])
      clear hcell hr hy hbr
      go_wp2_with fail
      go_quiet (fail)
      have hk1 := below_drewN' HB.out nq
      go_wp2_with fail
      go_roundw
      case rel => exact ⟨k + 1, by omega, by go_num, hk1⟩
      case measure => simp [intOf]; omega
    · have hkz : ¬ (k : Int) < (l.length : Int) := by omega
      clear hr hbr
      go_wp2_with fail
      go_ret
      exact ⟨rfl, HB.out⟩

set_option maxHeartbeats 1000000 in
theorem Same_self (ee : EE) (w : World) (h : EOk w ee) :
    Calls Try.prog 24 #[.agg #[.int .u64 ee.t, .int .i64 ee.k, .int .u64 ee.c, .int .u64 ee.s, ee.d, ee.m], .agg #[.int .u64 ee.t, .int .i64 ee.k, .int .u64 ee.c, .int .u64 ee.s, ee.d, ee.m]] w fun e w' => e = .returned (.bool true) ∧ Below w.heap.size w w' := by
  obtain ⟨dl, ml, h1, h2, h3, h4⟩ := h
  obtain ⟨t, k, c, s, d, m⟩ := ee
  simp only at h1 h2 ⊢
  obtain ⟨a1, c1, rfl⟩ := h1.form
  obtain ⟨a2, c2, rfl⟩ := h2.form
  have hb : Below w.heap.size w ((w.alloc (.cells #[.int .u64 t, .int .i64 k, .int .u64 c, .int .u64 s, .slice a1 dl.length c1, .slice a2 ml.length c2] 31)).alloc (.cells #[.int .u64 t, .int .i64 k, .int .u64 c, .int .u64 s, .slice a1 dl.length c1, .slice a2 ml.length c2] 31)) := ((Below.refl _ _).alloc (Nat.le_refl _) _).alloc (by simp) _
  have hcv := string_of_bytes (P := Try.prog) Try.underlying28 Try.underlying5 Try.underlying9 (h1.keep hb)
  have hnm := Nums_self _ ml _ h4 (h2.keep hb)
  have HN := Lib.hid hnm
  have HB := Lib.hid hb
  clear h1 h2 hnm hb
  go_enter Try.func24, Try.ntmps24
  go_wp2_with fail
  refine HN.out.mono ?_
  rintro e w1 ⟨rfl, hb1⟩
  go_wp2_with fail
  go_ret
  exact ⟨rfl, HB.out.trans (hb1.mono HB.out.size)⟩

/-- What each operation hands on. -/
def slF (q o c q2 o2 c2 k : Nat) (es : List EE) (ee : EE) : Nat → Value → World → Prop
  | 0, v, _ => v = .slice (some ⟨q, o, none⟩) es.length c
  | 1, v, _ => v = .int .i64 k
  | 2, v, _ => v = .pointer (some ⟨q, o + k * 6, none⟩)
  | 3, v, _ => v = .agg #[.int .u64 ee.t, .int .i64 ee.k, .int .u64 ee.c, .int .u64 ee.s, ee.d, ee.m]
  | 4, v, _ => v = .slice (some ⟨q2, o2, none⟩) es.length c2
  | 5, v, _ => v = .int .i64 k
  | 6, v, _ => v = .pointer (some ⟨q2, o2 + k * 6, none⟩)
  | 7, v, _ => v = .agg #[.int .u64 ee.t, .int .i64 ee.k, .int .u64 ee.c, .int .u64 ee.s, ee.d, ee.m]
  | 8, v, _ => v = .bool true
  | 9, v, _ => v = .bool false
  | _, _, _ => True

set_option maxHeartbeats 2000000 in
theorem SameList_self (v1 v2 : Value) (es : List EE) (w : World) (hl : es.length ≤ 140737488355328) (h1 : Rd w 6 v1 es.length (ecells es)) (h2 : Rd w 6 v2 es.length (ecells es)) (hok : ESok w es) :
    Calls Try.prog 12 #[v1, v2] w fun e w' => e = .returned (.bool true) ∧ Below w.heap.size w w' := by
  obtain ⟨a1, c1, rfl⟩ := h1.form
  obtain ⟨a2, c2, rfl⟩ := h2.form
  go_enter Try.func12, Try.ntmps12
  go_wp2_with fail
  go_loopw [5] (fun s5 wr => ∃ k : Nat, k ≤ es.length ∧ s5 = .int .i64 k ∧ Below w.heap.size w wr) (fun i _ => es.length - (intOf i).toNat)
  case atStart => exact ⟨0, by omega, rfl, Below.refl _ _⟩
  case round =>
    obtain ⟨k, hk, rfl, hbr⟩ := hrel
    have HB := Lib.hid hbr
    by_cases hlt : k < es.length
    · have hkz : (k : Int) < (es.length : Int) := by omega
      have hk0 : (0 : Int) ≤ (k : Int) := by omega
      obtain ⟨ee, he⟩ : ∃ ee, es[k]? = some ee := ⟨es[k], List.getElem?_eq_getElem hlt⟩
      obtain ⟨q, o, c', hv, _, hq, x0, x1, x2, x3, x4, x5⟩ := ent_at (h1.keep hbr) k ee he
      simp only [Value.slice.injEq, true_and] at hv
      obtain ⟨rfl, rfl⟩ := hv
      obtain ⟨q2, o2, c2', hv, _, hq2, y0, y1, y2, y3, y4, y5⟩ := ent_at (h2.keep hbr) k ee he
      simp only [Value.slice.injEq, true_and] at hv
      obtain ⟨rfl, rfl⟩ := hv
      have hs := fun wx (hx : Below wr.heap.size wr wx) => Same_self ee wx (((hok ee (List.mem_of_getElem? he)).keep hbr).keep hx)
      have HS := Lib.hid hs
      clear h1 h2 hok he hbr hs
      go_wp2_with fail
      refine wp_region_steps [some 17, some 18, some 19, some 20, some 21, some 22, some 23, some 24, some 25, some 26] [] (slF q o c1 q2 o2 c2 k es ee) (fun _ wx wy => Below wx.heap.size wx wy) (fun wx => Below wr.heap.size wr wx) (by kernel_rfl) (by kernel_rfl) rfl (by kernel_rfl) (Below.refl _ _).drew (fun _ wx => Below.refl _ _) (fun _ wx wy h k => h.trans (k.mono h.size)) ?hF ?hstep ?hend
      case hF =>
        exact ⟨fun _ _ _ _ _ _ h => h, ⟨fun _ _ _ _ _ _ h => h, ⟨fun _ _ _ _ _ _ h => h, ⟨fun _ _ _ _ _ _ h => h, ⟨fun _ _ _ _ _ _ h => h, ⟨fun _ _ _ _ _ _ h => h, ⟨fun _ _ _ _ _ _ h => h, ⟨fun _ _ _ _ _ _ h => h, ⟨fun _ _ _ _ _ _ h => h, ⟨fun _ _ _ _ _ _ h => h, trivial⟩⟩⟩⟩⟩⟩⟩⟩⟩⟩
      case hstep =>
        -- operation 0: Op.move (tmp 0)
        refine ⟨fun r wx hG hs hq hf => ?_, ?_⟩
        · have e0 : r 0 = .slice (some ⟨q, o, none⟩) es.length c1 := hs 0 rfl
          refine (if_pos rfl).symm ▸ ?_
          clear hs hq hf
          unfold gives
          go_simp
          exact ⟨Below.refl _ _, rfl⟩
        -- operation 1: Op.move (tmp 5)
        refine ⟨fun r wx hG hs hq hf => ?_, ?_⟩
        · have e5 : r 5 = .int .i64 k := hs 5 rfl
          refine (if_pos rfl).symm ▸ ?_
          clear hs hq hf
          unfold gives
          go_simp
          exact ⟨Below.refl _ _, rfl⟩
        -- operation 2: Op.indexAddr 23 (tmp 17) (tmp 18)
        refine ⟨fun r wx hG hs hq hf => ?_, ?_⟩
        · have h0 : r 17 = .slice (some ⟨q, o, none⟩) es.length c1 := hf.1
          have h1 : r 18 = .int .i64 k := hf.2.1
          refine (if_pos rfl).symm ▸ ?_
          clear hs hq hf
          unfold gives
          have z0 : (0 : Int) ≤ (k : Int) := by omega
          have z1 : (k : Int) < (es.length : Int) := by omega
          go_simp
          exact ⟨Below.refl _ _, rfl⟩
        -- operation 3: Op.load 31 (tmp 19)
        refine ⟨fun r wx hG hs hq hf => ?_, ?_⟩
        · have h2 : r 19 = .pointer (some ⟨q, o + k * 6, none⟩) := hf.1
          refine (if_pos rfl).symm ▸ ?_
          clear hs hq hf
          unfold gives
          have g0 := (hG.cell (p := ⟨q, o + k * 6, none⟩) (by exact hq)).trans x0
          have g1 := (hG.cell (p := ⟨q, o + k * 6 + 1, none⟩) (by exact hq)).trans x1
          have g2 := (hG.cell (p := ⟨q, o + k * 6 + 2, none⟩) (by exact hq)).trans x2
          have g3 := (hG.cell (p := ⟨q, o + k * 6 + 3, none⟩) (by exact hq)).trans x3
          have g4 := (hG.cell (p := ⟨q, o + k * 6 + 4, none⟩) (by exact hq)).trans x4
          have g5 := (hG.cell (p := ⟨q, o + k * 6 + 5, none⟩) (by exact hq)).trans x5
          go_simp
          exact ⟨Below.refl _ _, rfl⟩
        -- operation 4: Op.move (tmp 1)
        refine ⟨fun r wx hG hs hq hf => ?_, ?_⟩
        · have e1 : r 1 = .slice (some ⟨q2, o2, none⟩) es.length c2 := hs 1 rfl
          refine (if_pos rfl).symm ▸ ?_
          clear hs hq hf
          unfold gives
          go_simp
          exact ⟨Below.refl _ _, rfl⟩
        -- operation 5: Op.move (tmp 5)
        refine ⟨fun r wx hG hs hq hf => ?_, ?_⟩
        · have e5 : r 5 = .int .i64 k := hs 5 rfl
          refine (if_pos rfl).symm ▸ ?_
          clear hs hq hf
          unfold gives
          go_simp
          exact ⟨Below.refl _ _, rfl⟩
        -- operation 6: Op.indexAddr 23 (tmp 21) (tmp 22)
        refine ⟨fun r wx hG hs hq hf => ?_, ?_⟩
        · have h4 : r 21 = .slice (some ⟨q2, o2, none⟩) es.length c2 := hf.1
          have h5 : r 22 = .int .i64 k := hf.2.1
          refine (if_pos rfl).symm ▸ ?_
          clear hs hq hf
          unfold gives
          have z0 : (0 : Int) ≤ (k : Int) := by omega
          have z1 : (k : Int) < (es.length : Int) := by omega
          go_simp
          exact ⟨Below.refl _ _, rfl⟩
        -- operation 7: Op.load 31 (tmp 23)
        refine ⟨fun r wx hG hs hq hf => ?_, ?_⟩
        · have h6 : r 23 = .pointer (some ⟨q2, o2 + k * 6, none⟩) := hf.1
          refine (if_pos rfl).symm ▸ ?_
          clear hs hq hf
          unfold gives
          have g0 := (hG.cell (p := ⟨q2, o2 + k * 6, none⟩) (by exact hq2)).trans y0
          have g1 := (hG.cell (p := ⟨q2, o2 + k * 6 + 1, none⟩) (by exact hq2)).trans y1
          have g2 := (hG.cell (p := ⟨q2, o2 + k * 6 + 2, none⟩) (by exact hq2)).trans y2
          have g3 := (hG.cell (p := ⟨q2, o2 + k * 6 + 3, none⟩) (by exact hq2)).trans y3
          have g4 := (hG.cell (p := ⟨q2, o2 + k * 6 + 4, none⟩) (by exact hq2)).trans y4
          have g5 := (hG.cell (p := ⟨q2, o2 + k * 6 + 5, none⟩) (by exact hq2)).trans y5
          go_simp
          exact ⟨Below.refl _ _, rfl⟩
        -- operation 8: Op.call ( callee := Callee.value (func 24), args := #[tmp 20, tmp 24], argTypes := #[31, 31] )
        refine ⟨fun r wx hG hs hq hf => ?_, ?_⟩
        · have h3 : r 20 = .agg #[.int .u64 ee.t, .int .i64 ee.k, .int .u64 ee.c, .int .u64 ee.s, ee.d, ee.m] := hf.1
          have h7 : r 24 = .agg #[.int .u64 ee.t, .int .i64 ee.k, .int .u64 ee.c, .int .u64 ee.s, ee.d, ee.m] := hf.2.1
          refine (if_pos rfl).symm ▸ ?_
          clear hs hq hf
          unfold gives
          go_simp
          refine (HS.out wx hG).mono ?_
          rintro e wy ⟨rfl, hb1⟩
          exact ⟨_, rfl, hb1, rfl⟩
        -- operation 9: Op.unOp UnOp.not 4 (tmp 25)
        refine ⟨fun r wx hG hs hq hf => ?_, ?_⟩
        · have h8 : r 25 = .bool true := hf.1
          refine (if_pos rfl).symm ▸ ?_
          clear hs hq hf
          unfold gives
          go_simp
          exact ⟨Below.refl _ _, rfl⟩
        exact trivial
      case hend =>
        intro u wz hG hfin
        have z9 : u 9 = .bool false := hfin 9 (by decide) (by kernel_rfl)
        clear hfin
        simp only [fill]
        have hk1 := HB.out.trans (hG.mono HB.out.size)
        clear hG
        go_simp
        go_wp2_with fail
        go_roundw
        (case rel => exact ⟨k + 1, by omega, by go_num, hk1⟩)
        (case measure => simp [intOf]; omega)
    · have hkz : ¬ (k : Int) < (es.length : Int) := by omega
      clear h1 h2 hbr
      go_wp2_with fail
      go_ret
      exact ⟨rfl, HB.out⟩

theorem SameLog_self (b bt : Nat) (v1 v2 : Value) (es : List EE) (w : World) (hl : es.length ≤ 140737488355328) (h1 : Rd w 6 v1 es.length (ecells es)) (h2 : Rd w 6 v2 es.length (ecells es)) (hok : ESok w es) :
    Calls Try.prog 11 #[.agg #[.int .u64 b, .int .u64 bt, v1], .agg #[.int .u64 b, .int .u64 bt, v2]] w fun e w' => e = .returned (.bool true) ∧ Below w.heap.size w w' := by
  obtain ⟨a1, c1, rfl⟩ := h1.form
  obtain ⟨a2, c2, rfl⟩ := h2.form
  have hb : Below w.heap.size w ((w.alloc (.cells #[.int .u64 b, .int .u64 bt, .slice a1 es.length c1] 25)).alloc (.cells #[.int .u64 b, .int .u64 bt, .slice a2 es.length c2] 25)) := ((Below.refl _ _).alloc (Nat.le_refl _) _).alloc (by simp) _
  have hnm := SameList_self _ _ es _ hl (h1.keep hb) (h2.keep hb) (hok.keep hb)
  have HN := Lib.hid hnm
  have HB := Lib.hid hb
  clear h1 h2 hnm hb hok
  go_enter Try.func11, Try.ntmps11
  go_wp2_with fail
  refine HN.out.mono ?_
  rintro e w1 ⟨rfl, hb1⟩
  go_wp2_with fail
  go_ret
  exact ⟨rfl, HB.out.trans (hb1.mono HB.out.size)⟩
end Go.Proofs.Yteflpphpbecciaa
