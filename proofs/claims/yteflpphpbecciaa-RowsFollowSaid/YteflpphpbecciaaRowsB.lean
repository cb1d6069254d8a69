/- Contracts of the package rows and its reference: which log is newer; the law RowsOrder's own function. -/
import Derived.Test.YteflpphpbecciaaRowsA
namespace Go.Proofs.Yteflpphpbecciaa
open Go.RowKit

theorem ret_bool {a b : Bool} (h : a = b) : Ending.returned (.bool a) = .returned (.bool b) := by rw [h]
theorem newer_cases (b bt : Nat) (es : List EE) (i t : Nat) : newerP b bt es i t = (decide (lastT bt es < t) || (decide (t = lastT bt es) && decide (b + es.length ≤ i))) := rfl

set_option maxHeartbeats 2000000 in
theorem Newer_any (b bt : Nat) (v : Value) (es : List EE) (i t : Nat) (w : World) (hb : b ≤ 4611686018427387904) (hl : es.length ≤ 140737488355328) (hr : Rd w 6 v es.length (ecells es)) :
    Calls Try.prog 19 #[.agg #[.int .u64 b, .int .u64 bt, v], .int .u64 i, .int .u64 t] w fun e w' => e = .returned (.bool (newerP b bt es i t)) ∧ Below w.heap.size w w' := by
  obtain ⟨a, c, rfl⟩ := hr.form
  have hpos : es.length = 0 ∨ 0 < es.length := by omega
  have hla := Last_any b bt es.length c a (w.alloc (.cells #[.int .u64 b, .int .u64 bt, .slice a es.length c] 25)) hb hl
  have HLA := Lib.hid hla
  clear hla
  have fin : ∀ L : Nat, lastT bt es = L → (L < t → newerP b bt es i t = true) ∧ (t < L → newerP b bt es i t = false) ∧ (t = L → newerP b bt es i t = decide (((b + es.length : Nat) : Int) ≤ (i : Int))) := by
    intro L hL
    unfold newerP
    rw [hL]
    refine ⟨fun h => by simp [h], fun h => ?_, fun h => ?_⟩
    · rw [decide_eq_false (by omega), decide_eq_false (by omega)]; rfl
    · rw [decide_eq_false (by omega), decide_eq_true h]
      simp only [Bool.false_or, Bool.true_and, decide_eq_decide]; omega
  rcases hpos with h0 | h0
  · have hL : lastT bt es = bt := by
      cases es with
      | nil => rfl
      | cons _ _ => simp at h0
    obtain ⟨f1, f2, f3⟩ := fin _ hL
    rw [h0] at HLA f3 ⊢
    have F1 := Lib.hid f1
    have F2 := Lib.hid f2
    have F3 := Lib.hid f3
    clear fin hL h0 hr f1 f2 f3
    rcases Nat.lt_trichotomy bt t with h | h | h
    · rw [F1.out h]
      have hz : (bt : Int) < (t : Int) := by omega
      go_enter Try.func19, Try.ntmps19
      go_wp2_with fail
      go_ret
      exact ⟨rfl, (Below.refl _ _).alloc (Nat.le_refl _) _⟩
    · subst h
      rw [F3.out rfl]
      have hz : ¬ (bt : Int) < (bt : Int) := by omega
      go_enter Try.func19, Try.ntmps19
      go_wp2_with fail
      refine HLA.out.mono ?_
      rintro e w1 ⟨rfl, hb1⟩
      have hbb : Below w.heap.size w w1 := ((Below.refl _ _).alloc (Nat.le_refl _) _).trans (hb1.mono (by simp))
      clear hb1
      go_wp2_with fail
      go_ret
      exact ⟨ret_bool (decide_eq_decide.2 (by omega)), hbb⟩
    · rw [F2.out h]
      have hz : ¬ (bt : Int) < (t : Int) := by omega
      have hz2 : ((t : Int) == (bt : Int)) = false := by simp; omega
      go_enter Try.func19, Try.ntmps19
      go_wp2_with fail
      go_ret
      exact ⟨rfl, (Below.refl _ _).alloc (Nat.le_refl _) _⟩
  · have hlt : es.length - 1 < es.length := by omega
    obtain ⟨ee, he⟩ : ∃ ee, es[es.length - 1]? = some ee := ⟨es[es.length - 1], List.getElem?_eq_getElem hlt⟩
    have hL := lastT_at bt es ee he
    obtain ⟨q, o, c', hv, _, hq, c0, _⟩ := ent_at hr _ ee he
    simp only [Value.slice.injEq, true_and] at hv
    obtain ⟨rfl, rfl⟩ := hv
    obtain ⟨f1, f2, f3⟩ := fin _ hL
    obtain ⟨j, hj⟩ : ∃ j, es.length = j + 1 := ⟨es.length - 1, by omega⟩
    rw [hj, Nat.add_sub_cancel] at c0
    rw [hj] at HLA f3 hl ⊢
    generalize newerP b bt es i t = R at *
    generalize ee.t = T at *
    have F1 := Lib.hid f1
    have F2 := Lib.hid f2
    have F3 := Lib.hid f3
    have hw : IntKind.i64.wrap ((j : Int) + 1 - 1) = (j : Int) := by rw [IntWalk.i64_in _ (by omega)]; omega
    have hjl : (j : Int) < (j : Int) + 1 := by omega
    have hj0 : (0 : Int) ≤ (j : Int) := by omega
    have hjp : (0 : Int) < (j : Int) + 1 := by omega
    clear fin hL h0 hr f1 f2 f3 hj he hlt
    rcases Nat.lt_trichotomy T t with h | h | h
    · rw [F1.out h]
      have hz : (T : Int) < (t : Int) := by omega
      go_enter Try.func19, Try.ntmps19
      go_wp2_with fail
      go_ret
      exact ⟨rfl, (Below.refl _ _).alloc (Nat.le_refl _) _⟩
    · subst h
      rw [F3.out rfl]
      have hz : ¬ (T : Int) < (T : Int) := by omega
      go_enter Try.func19, Try.ntmps19
      go_wp2_with fail
      refine HLA.out.mono ?_
      rintro e w1 ⟨rfl, hb1⟩
      have hbb : Below w.heap.size w w1 := ((Below.refl _ _).alloc (Nat.le_refl _) _).trans (hb1.mono (by simp))
      clear hb1
      go_wp2_with fail
      go_ret
      exact ⟨ret_bool (decide_eq_decide.2 (by omega)), hbb⟩
    · rw [F2.out h]
      have hz : ¬ (T : Int) < (t : Int) := by omega
      have hz2 : ((t : Int) == (T : Int)) = false := by simp; omega
      go_enter Try.func19, Try.ntmps19
      go_wp2_with fail
      go_ret
      exact ⟨rfl, (Below.refl _ _).alloc (Nat.le_refl _) _⟩
end Go.Proofs.Yteflpphpbecciaa
