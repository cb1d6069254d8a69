/- Exact contracts of rows.Last, rows.Newer and ballot.Grant (BallotWins). -/
import Derived.Test.YthghhjilbaiahaaEnt
import Derived.Test.YthghhjilbaiahaaBallotLaw
namespace Go.Proofs.Ythghhjilbaiahaa
open Go.RowKit

theorem ret_bool {a b : Bool} (h : a = b) : Ending.returned (.bool a) = .returned (.bool b) := by rw [h]
theorem Last_ex (b bt n c : Nat) (a : Option Addr) (w : World) (hb : b ≤ 4611686018427387904) (hn : n ≤ 140737488355328) :
    Calls Try.prog 15 #[.agg #[.int .u64 b, .int .u64 bt, .slice a n c]] w fun e w' => e = .returned (.int .u64 ((b + n : Nat) : Int)) ∧ Below w.heap.size w w' := by
  have h1 : IntKind.u64.wrap ((b : Int) + (n : Int)) = (b : Int) + (n : Int) := IntWalk.u64_in _ (by omega)
  go_enter Try.func15, Try.ntmps15
  go_wp2_with fail
  go_ret
  exact ⟨by go_num, (Below.refl _ _).alloc (Nat.le_refl _) _⟩
set_option maxHeartbeats 2000000 in
theorem Newer_ex (b bt : Nat) (v : Value) (es : List EE) (i t : Nat) (w : World) (hb : b ≤ 4611686018427387904) (hl : es.length ≤ 140737488355328) (hr : Rd w 6 v es.length (ecells es)) :
    Calls Try.prog 12 #[.agg #[.int .u64 b, .int .u64 bt, v], .int .u64 i, .int .u64 t] w fun e w' => e = .returned (.bool (newerP b bt es i t)) ∧ Below w.heap.size w w' := by
  obtain ⟨a, c, rfl⟩ := hr.form
  have hpos : es.length = 0 ∨ 0 < es.length := by omega
  have hla := Last_ex b bt es.length c a (w.alloc (.cells #[.int .u64 b, .int .u64 bt, .slice a es.length c] 25)) hb hl
  have HLA := Lib.hid hla
  clear hla
  have fin : ∀ L : Nat, lastT bt es = L → (L < t → newerP b bt es i t = true) ∧ (t < L → newerP b bt es i t = false) ∧ (t = L → newerP b bt es i t = decide (((b + es.length : Nat) : Int) ≤ (i : Int))) := by
    intro L hL
    unfold newerP
    rw [hL]
    refine ⟨fun h => by simp [h], fun h => ?_, fun h => ?_⟩
    · rw [decide_eq_false (by omega), decide_eq_false (by omega)]; rfl
    · rw [decide_eq_false (by omega), decide_eq_true h]
      simp only [Bool.false_or, Bool.true_and, decide_eq_decide]; omega
  rcases hpos with h0 | h0
  · have hL : lastT bt es = bt := by
      cases es with
      | nil => rfl
      | cons _ _ => simp at h0
    obtain ⟨f1, f2, f3⟩ := fin _ hL
    rw [h0] at HLA f3 ⊢
    have F1 := Lib.hid f1
    have F2 := Lib.hid f2
    have F3 := Lib.hid f3
    clear fin hL h0 hr f1 f2 f3
    rcases Nat.lt_trichotomy bt t with h | h | h
    · rw [F1.out h]
      have hz : (bt : Int) < (t : Int) := by omega
      go_enter Try.func12, Try.ntmps12
      go_wp2_with fail
      go_ret
      exact ⟨rfl, (Below.refl _ _).alloc (Nat.le_refl _) _⟩
    · subst h
      rw [F3.out rfl]
      have hz : ¬ (bt : Int) < (bt : Int) := by omega
      go_enter Try.func12, Try.ntmps12
      go_wp2_with fail
      refine HLA.out.mono ?_
      rintro e w1 ⟨rfl, hb1⟩
      have hbb : Below w.heap.size w w1 := ((Below.refl _ _).alloc (Nat.le_refl _) _).trans (hb1.mono (by simp))
      clear hb1
      go_wp2_with fail
      go_ret
      exact ⟨ret_bool (decide_eq_decide.2 (by omega)), hbb⟩
    · rw [F2.out h]
      have hz : ¬ (bt : Int) < (t : Int) := by omega
      have hz2 : ((t : Int) == (bt : Int)) = false := by simp; omega
      go_enter Try.func12, Try.ntmps12
      go_wp2_with fail
      go_ret
      exact ⟨rfl, (Below.refl _ _).alloc (Nat.le_refl _) _⟩
  · have hlt : es.length - 1 < es.length := by omega
    obtain ⟨ee, he⟩ : ∃ ee, es[es.length - 1]? = some ee := ⟨es[es.length - 1], List.getElem?_eq_getElem hlt⟩
    have hL := lastT_at bt es ee he
    obtain ⟨q, o, c', hv, _, hq, c0, _⟩ := ent_at hr _ ee he
    simp only [Value.slice.injEq, true_and] at hv
    obtain ⟨rfl, rfl⟩ := hv
    obtain ⟨f1, f2, f3⟩ := fin _ hL
    obtain ⟨j, hj⟩ : ∃ j, es.length = j + 1 := ⟨es.length - 1, by omega⟩
    rw [hj, Nat.add_sub_cancel] at c0
    rw [hj] at HLA f3 hl ⊢
    generalize newerP b bt es i t = R at *
    generalize ee.t = T at *
    have F1 := Lib.hid f1
    have F2 := Lib.hid f2
    have F3 := Lib.hid f3
    have hw : IntKind.i64.wrap ((j : Int) + 1 - 1) = (j : Int) := by rw [IntWalk.i64_in _ (by omega)]; omega
    have hjl : (j : Int) < (j : Int) + 1 := by omega
    have hj0 : (0 : Int) ≤ (j : Int) := by omega
    have hjp : (0 : Int) < (j : Int) + 1 := by omega
    clear fin hL h0 hr f1 f2 f3 hj he hlt
    rcases Nat.lt_trichotomy T t with h | h | h
    · rw [F1.out h]
      have hz : (T : Int) < (t : Int) := by omega
      go_enter Try.func12, Try.ntmps12
      go_wp2_with fail
      go_ret
      exact ⟨rfl, (Below.refl _ _).alloc (Nat.le_refl _) _⟩
    · subst h
      rw [F3.out rfl]
      have hz : ¬ (T : Int) < (T : Int) := by omega
      go_enter Try.func12, Try.ntmps12
      go_wp2_with fail
      refine HLA.out.mono ?_
      rintro e w1 ⟨rfl, hb1⟩
      have hbb : Below w.heap.size w w1 := ((Below.refl _ _).alloc (Nat.le_refl _) _).trans (hb1.mono (by simp))
      clear hb1
      go_wp2_with fail
      go_ret
      exact ⟨ret_bool (decide_eq_decide.2 (by omega)), hbb⟩
    · rw [F2.out h]
      have hz : ¬ (T : Int) < (t : Int) := by omega
      have hz2 : ((t : Int) == (T : Int)) = false := by simp; omega
      go_enter Try.func12, Try.ntmps12
      go_wp2_with fail
      go_ret
      exact ⟨rfl, (Below.refl _ _).alloc (Nat.le_refl _) _⟩

set_option maxHeartbeats 4000000 in
theorem Grant_ex (t v base bt : Nat) (ent : Value) (es : List EE) (k : Int) (fr to_ x index lt commit stamp : Nat) (yes : Bool) (en me im : Value) (w : World) (hb : base ≤ 4611686018427387904) (hel : es.length ≤ 140737488355328) (hn : Rd w 6 ent es.length (ecells es)) :
    Calls Try.prog 6 #[.agg #[.int .u64 t, .int .u64 v], .agg #[.int .u64 base, .int .u64 bt, ent], .agg #[.int .i64 k, .int .u64 fr, .int .u64 to_, .int .u64 x, .int .u64 index, .int .u64 lt, .int .u64 commit, .int .u64 stamp, .bool yes, en, me, im]] w fun e w' =>
      e = .returned (.tuple #[.agg #[.int .u64 (grantS t v fr x (newerP base bt es index lt)).1.1, .int .u64 (grantS t v fr x (newerP base bt es index lt)).1.2], .bool (grantS t v fr x (newerP base bt es index lt)).2]) ∧ Below w.heap.size w w' := by
  have hN := fun w' h => Newer_ex base bt ent es index lt w' hb hel h
  generalize newerP base bt es index lt = b at *
  have HN := Lib.hid hN
  clear hN
  generalize hH : hearS t v x = H
  obtain ⟨ht, hv⟩ := H
  have fin : ∀ b : Bool, grantS t v fr x b = if (hv = 0 ∨ hv = fr) ∧ ht = x ∧ b = true then ((ht, fr), true) else ((ht, hv), false) := by
    intro b; unfold grantS; rw [hH]
  have FIN := Lib.hid fin
  clear fin
  have HH : Hid (hearS t v x = (ht, hv)) := hH
  clear hH
  go_enter Try.func6, Try.ntmps6
  go_wp2_with fail
  refine (Hear_any t v x _).mono ?_
  rintro e w1 ⟨rfl, hb1⟩
  rw [HH.out]
  obtain ⟨hc1, hf1⟩ := bcell hb1
  have hz1 : w.heap.size + 4 ≤ w1.heap.size := by have := hb1.size; simp at this; omega
  have c0 : w1.cell? ⟨w.heap.size, 0, none⟩ = some (.int .u64 t) := by rw [hc1 _ _ (by simp <;> omega)]; simp [go_sem]
  have c1 : w1.cell? ⟨w.heap.size, 1, none⟩ = some (.int .u64 v) := by rw [hc1 _ _ (by simp <;> omega)]; simp [go_sem]
  have f0 : w1.frozen? ⟨w.heap.size, 0, none⟩ = false := by rw [hf1 _ _ (by simp <;> omega)]; simp [go_sem]
  have c3 : w1.cell? ⟨w.heap.size + 1 + 1 + 1, 0, none⟩ = some (.int .u64 0) := by rw [hc1 _ _ (by simp <;> omega)]; simp [go_sem]
  have c4 : w1.cell? ⟨w.heap.size + 1 + 1 + 1, 1, none⟩ = some (.int .u64 0) := by rw [hc1 _ _ (by simp <;> omega)]; simp [go_sem]
  have hbb : Below w.heap.size w w1 := ((((Below.refl _ _).alloc (Nat.le_refl _) _).alloc (by simp <;> omega) _).alloc (by simp <;> omega) _).alloc (by simp <;> omega) _ |>.trans (hb1.mono (by simp <;> omega))
  have hb0 := (hbb.setCell (p := ⟨w.heap.size, 0, none⟩) (Nat.le_refl _) (.int .u64 ht)).setCell (p := ⟨w.heap.size, 1, none⟩) (Nat.le_refl _) (.int .u64 hv)
  cases e1 : ((hv : Int) == 0) <;> cases e2 : ((hv : Int) == (fr : Int)) <;> cases e3 : ((ht : Int) == (x : Int))
  · go_wp2_with fail
    refine bodyPost_ret (v := .tuple #[.agg #[.int .u64 ht, .int .u64 hv], .bool false]) (by simp [results, Try.results6, go_sem, c0, c1, c3, c4]) rfl ⟨?_, (hb0.setCell (by simp <;> omega) _).setCell (by simp <;> omega) _⟩
    rw [FIN.out, if_neg (by simp at e1 e2 e3; omega)]
  · go_wp2_with fail
    refine bodyPost_ret (v := .tuple #[.agg #[.int .u64 ht, .int .u64 hv], .bool false]) (by simp [results, Try.results6, go_sem, c0, c1, c3, c4]) rfl ⟨?_, (hb0.setCell (by simp <;> omega) _).setCell (by simp <;> omega) _⟩
    rw [FIN.out, if_neg (by simp at e1 e2 e3; omega)]
  · go_wp2_with fail
    refine bodyPost_ret (v := .tuple #[.agg #[.int .u64 ht, .int .u64 hv], .bool false]) (by simp [results, Try.results6, go_sem, c0, c1, c3, c4]) rfl ⟨?_, (hb0.setCell (by simp <;> omega) _).setCell (by simp <;> omega) _⟩
    rw [FIN.out, if_neg (by simp at e1 e2 e3; omega)]
  · go_wp2_with fail
    refine (HN.out _ (hn.keep hb0)).mono ?_
    rintro e w2 ⟨rfl, hb2⟩
    obtain ⟨hc2, hf2⟩ := bcell hb2
    have hz2 : w.heap.size + 4 ≤ w2.heap.size := by have := hb2.size; simp at this; omega
    have d0 := (hc2 w.heap.size 0 (by simp <;> omega)).trans (set2 c0 c1).1
    have d1 := (hc2 w.heap.size 1 (by simp <;> omega)).trans (set2 c0 c1).2
    have d2 := hc2 (w.heap.size + 1 + 1) 1 (by simp <;> omega)
    have d3 := (hc2 (w.heap.size + 1 + 1 + 1) 0 (by simp <;> omega)).trans ((World.cell?_setCell_other _ _ _ _ (by simp <;> omega)).trans ((World.cell?_setCell_other _ _ _ _ (by simp <;> omega)).trans c3))
    have d4 := (hc2 (w.heap.size + 1 + 1 + 1) 1 (by simp <;> omega)).trans ((World.cell?_setCell_other _ _ _ _ (by simp <;> omega)).trans ((World.cell?_setCell_other _ _ _ _ (by simp <;> omega)).trans c4))
    have g0 := hf2 w.heap.size 0 (by simp <;> omega)
    have g1 := hf2 w.heap.size 1 (by simp <;> omega)
    have g3 := hf2 (w.heap.size + 1 + 1 + 1) 0 (by simp <;> omega)
    have g4 := hf2 (w.heap.size + 1 + 1 + 1) 1 (by simp <;> omega)
    have hb3 := hb0.trans (hb2.mono (by simp <;> omega))
    have hor : hv = 0 ∨ hv = fr := by simp at e1 e2; omega
    have hx : ht = x := by simp at e3; omega
    have HOR := Lib.hid hor
    have HX := Lib.hid hx
    clear hor hx hc2 hf2
    cases b with
    | false =>
      go_wp2_with fail
      refine bodyPost_ret (v := .tuple #[.agg #[.int .u64 ht, .int .u64 hv], .bool false]) (by simp [results, Try.results6, go_sem, d0, d1, d3, d4]) rfl ⟨?_, (hb3.setCell (by simp <;> omega) _).setCell (by simp <;> omega) _⟩
      rw [FIN.out, if_neg (by simp)]
    | true =>
      have d1' : (w2.setCell ⟨w.heap.size, 1, none⟩ (.int .u64 fr)).cell? ⟨w.heap.size, 1, none⟩ = some (.int .u64 fr) := World.cell?_setCell_same _ _ _ d1
      go_wp2_with fail
      refine bodyPost_ret (v := .tuple #[.agg #[.int .u64 ht, .int .u64 fr], .bool true]) (by simp [results, Try.results6, go_sem, d0, d1, d3, d4]) rfl ⟨?_, ((hb3.setCell (p := ⟨w.heap.size, 1, none⟩) (by simp <;> omega) _).setCell (by simp <;> omega) _).setCell (by simp <;> omega) _⟩
      rw [FIN.out, if_pos ⟨HOR.out, HX.out, rfl⟩]
  · go_wp2_with fail
    refine bodyPost_ret (v := .tuple #[.agg #[.int .u64 ht, .int .u64 hv], .bool false]) (by simp [results, Try.results6, go_sem, c0, c1, c3, c4]) rfl ⟨?_, (hb0.setCell (by simp <;> omega) _).setCell (by simp <;> omega) _⟩
    rw [FIN.out, if_neg (by simp at e1 e2 e3; omega)]
  · go_wp2_with fail
    refine (HN.out _ (hn.keep hb0)).mono ?_
    rintro e w2 ⟨rfl, hb2⟩
    obtain ⟨hc2, hf2⟩ := bcell hb2
    have hz2 : w.heap.size + 4 ≤ w2.heap.size := by have := hb2.size; simp at this; omega
    have d0 := (hc2 w.heap.size 0 (by simp <;> omega)).trans (set2 c0 c1).1
    have d1 := (hc2 w.heap.size 1 (by simp <;> omega)).trans (set2 c0 c1).2
    have d2 := hc2 (w.heap.size + 1 + 1) 1 (by simp <;> omega)
    have d3 := (hc2 (w.heap.size + 1 + 1 + 1) 0 (by simp <;> omega)).trans ((World.cell?_setCell_other _ _ _ _ (by simp <;> omega)).trans ((World.cell?_setCell_other _ _ _ _ (by simp <;> omega)).trans c3))
    have d4 := (hc2 (w.heap.size + 1 + 1 + 1) 1 (by simp <;> omega)).trans ((World.cell?_setCell_other _ _ _ _ (by simp <;> omega)).trans ((World.cell?_setCell_other _ _ _ _ (by simp <;> omega)).trans c4))
    have g0 := hf2 w.heap.size 0 (by simp <;> omega)
    have g1 := hf2 w.heap.size 1 (by simp <;> omega)
    have g3 := hf2 (w.heap.size + 1 + 1 + 1) 0 (by simp <;> omega)
    have g4 := hf2 (w.heap.size + 1 + 1 + 1) 1 (by simp <;> omega)
    have hb3 := hb0.trans (hb2.mono (by simp <;> omega))
    have hor : hv = 0 ∨ hv = fr := by simp at e1 e2; omega
    have hx : ht = x := by simp at e3; omega
    have HOR := Lib.hid hor
    have HX := Lib.hid hx
    clear hor hx hc2 hf2
    cases b with
    | false =>
      go_wp2_with fail
      refine bodyPost_ret (v := .tuple #[.agg #[.int .u64 ht, .int .u64 hv], .bool false]) (by simp [results, Try.results6, go_sem, d0, d1, d3, d4]) rfl ⟨?_, (hb3.setCell (by simp <;> omega) _).setCell (by simp <;> omega) _⟩
      rw [FIN.out, if_neg (by simp)]
    | true =>
      have d1' : (w2.setCell ⟨w.heap.size, 1, none⟩ (.int .u64 fr)).cell? ⟨w.heap.size, 1, none⟩ = some (.int .u64 fr) := World.cell?_setCell_same _ _ _ d1
      go_wp2_with fail
      refine bodyPost_ret (v := .tuple #[.agg #[.int .u64 ht, .int .u64 fr], .bool true]) (by simp [results, Try.results6, go_sem, d0, d1, d3, d4]) rfl ⟨?_, ((hb3.setCell (p := ⟨w.heap.size, 1, none⟩) (by simp <;> omega) _).setCell (by simp <;> omega) _).setCell (by simp <;> omega) _⟩
      rw [FIN.out, if_pos ⟨HOR.out, HX.out, rfl⟩]
  · go_wp2_with fail
    refine bodyPost_ret (v := .tuple #[.agg #[.int .u64 ht, .int .u64 hv], .bool false]) (by simp [results, Try.results6, go_sem, c0, c1, c3, c4]) rfl ⟨?_, (hb0.setCell (by simp <;> omega) _).setCell (by simp <;> omega) _⟩
    rw [FIN.out, if_neg (by simp at e1 e2 e3; omega)]
  · go_wp2_with fail
    refine (HN.out _ (hn.keep hb0)).mono ?_
    rintro e w2 ⟨rfl, hb2⟩
    obtain ⟨hc2, hf2⟩ := bcell hb2
    have hz2 : w.heap.size + 4 ≤ w2.heap.size := by have := hb2.size; simp at this; omega
    have d0 := (hc2 w.heap.size 0 (by simp <;> omega)).trans (set2 c0 c1).1
    have d1 := (hc2 w.heap.size 1 (by simp <;> omega)).trans (set2 c0 c1).2
    have d2 := hc2 (w.heap.size + 1 + 1) 1 (by simp <;> omega)
    have d3 := (hc2 (w.heap.size + 1 + 1 + 1) 0 (by simp <;> omega)).trans ((World.cell?_setCell_other _ _ _ _ (by simp <;> omega)).trans ((World.cell?_setCell_other _ _ _ _ (by simp <;> omega)).trans c3))
    have d4 := (hc2 (w.heap.size + 1 + 1 + 1) 1 (by simp <;> omega)).trans ((World.cell?_setCell_other _ _ _ _ (by simp <;> omega)).trans ((World.cell?_setCell_other _ _ _ _ (by simp <;> omega)).trans c4))
    have g0 := hf2 w.heap.size 0 (by simp <;> omega)
    have g1 := hf2 w.heap.size 1 (by simp <;> omega)
    have g3 := hf2 (w.heap.size + 1 + 1 + 1) 0 (by simp <;> omega)
    have g4 := hf2 (w.heap.size + 1 + 1 + 1) 1 (by simp <;> omega)
    have hb3 := hb0.trans (hb2.mono (by simp <;> omega))
    have hor : hv = 0 ∨ hv = fr := by simp at e1 e2; omega
    have hx : ht = x := by simp at e3; omega
    have HOR := Lib.hid hor
    have HX := Lib.hid hx
    clear hor hx hc2 hf2
    cases b with
    | false =>
      go_wp2_with fail
      refine bodyPost_ret (v := .tuple #[.agg #[.int .u64 ht, .int .u64 hv], .bool false]) (by simp [results, Try.results6, go_sem, d0, d1, d3, d4]) rfl ⟨?_, (hb3.setCell (by simp <;> omega) _).setCell (by simp <;> omega) _⟩
      rw [FIN.out, if_neg (by simp)]
    | true =>
      have d1' : (w2.setCell ⟨w.heap.size, 1, none⟩ (.int .u64 fr)).cell? ⟨w.heap.size, 1, none⟩ = some (.int .u64 fr) := World.cell?_setCell_same _ _ _ d1
      go_wp2_with fail
      refine bodyPost_ret (v := .tuple #[.agg #[.int .u64 ht, .int .u64 fr], .bool true]) (by simp [results, Try.results6, go_sem, d0, d1, d3, d4]) rfl ⟨?_, ((hb3.setCell (p := ⟨w.heap.size, 1, none⟩) (by simp <;> omega) _).setCell (by simp <;> omega) _).setCell (by simp <;> omega) _⟩
      rw [FIN.out, if_pos ⟨HOR.out, HX.out, rfl⟩]
end Go.Proofs.Ythghhjilbaiahaa
