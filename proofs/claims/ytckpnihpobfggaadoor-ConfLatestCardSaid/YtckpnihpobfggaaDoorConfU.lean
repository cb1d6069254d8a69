/- Contracts: the reference's Latest; the law ConfLatest. -/
import Derived.Test.YtckpnihpobfggaaDoorConfT
namespace Go.Proofs.YtckpnihpobfggaaDoor
open Go.RowKit

theorem Latest_list (v u : Value) (l : List Nat) (w : World) {P : EE → Prop} (hP0 : P noE) (hP1 : ∀ e, P e → ∀ u ∈ e.cells, u.oneCell' = true) (es : List EE) (hes : ∀ e ∈ es, P e) (M : EE → List Nat) (hM : ∀ e, P e → Rd w 1 e.m (M e).length (uv (M e)) ∧ (M e).length * 8 ≤ 140737488351232)
    (hr : Rd w 1 v l.length (uv l)) (hl : l.length * 8 ≤ 140737488351232) (hu : Rd w 6 u es.length (ecells es)) (hlp : es.length ≤ 140737488355328) :
    Calls Tryd.prog 18 #[v, u] w fun e w' => ∃ (v' : Value) (X : List Nat), e = .returned v' ∧ Rd w' 1 v' X.length (uv X) ∧ Below w.heap.size w w' ∧
      ((lastConf es = none ∧ X = l) ∨ ∃ e : EE, lastConf es = some e ∧ X = M e) := by
  have e1 : (es.attachWith P hes).map (·.1) = es := List.attachWith_map_subtype_val _
  have e2 : (es.attachWith P hes).length = es.length := List.length_attachWith
  have := Latest_core v u l w hP0 hP1 (es.attachWith P hes) M (fun x => hM x.1 x.2) hr hl (by rw [e1, e2]; exact hu) (by rw [e2]; exact hlp)
  rwa [e1] at this

theorem last_at (es : List EE) (k : Nat) (e : EE) (hk : k < es.length) (he : es[es.length - 1 - k]? = some e) (h3 : e.k = 3) (hno : ∀ j x, j < k → es[es.length - 1 - j]? = some x → x.k ≠ 3) : lastConf es = some e := by
  unfold lastConf
  rw [List.find?_eq_some_iff_getElem]
  refine ⟨by simpa using h3, k, by simpa using hk, ?_, fun j hj => ?_⟩
  · rw [List.getElem_reverse]
    rw [List.getElem?_eq_getElem (by omega)] at he
    exact Option.some.inj he
  · rw [List.getElem_reverse]
    have := hno j _ hj (List.getElem?_eq_getElem (by omega))
    simpa using this
theorem last_no (es : List EE) (hno : ∀ j x, j < es.length → es[es.length - 1 - j]? = some x → x.k ≠ 3) : lastConf es = none := by
  unfold lastConf
  rw [List.find?_eq_none]
  intro e he
  obtain ⟨i, hi, rfl⟩ := List.getElem_of_mem (List.mem_reverse.1 he)
  have := hno (es.length - 1 - i) es[i] (by omega) (by rw [show es.length - 1 - (es.length - 1 - i) = i by omega]; exact List.getElem?_eq_getElem hi)
  simpa using this

set_option maxHeartbeats 2000000 in
theorem refLatest_any (v u : Value) (w : World) (es : List EE) (hu : Rd w 6 u es.length (ecells es)) (hlp : es.length ≤ 140737488355328) :
    Calls Tryd.prog 19 #[v, u] w fun e w' => (∃ v' : Value, e = .returned v' ∧ ((lastConf es = none ∧ v' = v) ∨ ∃ x, lastConf es = some x ∧ v' = x.m)) ∧ Below w.heap.size w w' := by
  obtain ⟨a, c, rfl⟩ := hu.form
  have hw0 : IntKind.i64.wrap ((es.length : Int) - 1) = (es.length : Int) - 1 := IntWalk.i64_in _ (by omega)
  go_enter Tryd.func19, Tryd.ntmps19
  go_wp2_with fail
  go_loopw [5] (fun s5 wr => ∃ k : Nat, k ≤ es.length ∧ s5 = .int .i64 ((es.length : Int) - 1 - k) ∧ (∀ (j : Nat) (x : EE), j < k → es[es.length - 1 - j]? = some x → x.k ≠ 3) ∧ Below w.heap.size w wr) (fun i _ => (intOf i + 1).toNat)
  case atStart => exact ⟨0, by omega, by simp, fun j x hj => absurd hj (by omega), Below.refl _ _⟩
  case round =>
    obtain ⟨k, hk, rfl, hno, hbr⟩ := hrel
    have HNO := Lib.hid hno
    clear hno hw0
    by_cases hlt : k < es.length
    · obtain ⟨i, hi⟩ : ∃ i : Nat, i = es.length - 1 - k := ⟨_, rfl⟩
      have hil : i < es.length := by omega
      have hiz : ((es.length : Int) - 1 - (k : Int)) = (i : Int) := by omega
      obtain ⟨x, hx⟩ : ∃ x, es[i]? = some x := ⟨_, List.getElem?_eq_getElem hil⟩
      obtain ⟨b, off, c', hv, hcc, hbl, _, ck, _, _, _, cm⟩ := ent_at (hu.keep hbr) i x hx
      simp only [Value.slice.injEq, true_and] at hv
      obtain ⟨rfl, rfl⟩ := hv
      rw [hiz]
      have h1 : (0 : Int) ≤ (i : Int) := by omega
      have h2 : (i : Int) < (es.length : Int) := by omega
      have HI := Lib.hid (And.intro hi (And.intro hx hiz))
      have hnx : IntKind.i64.wrap ((i : Int) - 1) = (i : Int) - 1 := IntWalk.i64_in _ (by omega)
      clear hi hx hiz hu
      by_cases h3 : x.k = 3
      · rw [h3] at ck
        have H3 := Lib.hid h3
        clear h3
        go_wp2_with fail
        go_ret
        exact ⟨⟨_, rfl, .inr ⟨x, last_at es k x hlt (by rw [← HI.out.1]; exact HI.out.2.1) H3.out HNO.out, rfl⟩⟩, hbr⟩
      · have h3z : ¬ x.k = 3 := h3
        go_wp2_with fail
        go_roundw
        case rel =>
          have e1 := HI.out.1
          refine ⟨k + 1, by omega, ?_, fun j y hj hy => ?_, hbr⟩
          · exact congrArg (Value.int .i64) (by omega)
          · by_cases hjk : j < k
            · exact HNO.out j y hjk hy
            · obtain rfl : j = k := by omega
              rw [← e1, HI.out.2.1] at hy
              obtain rfl := Option.some.inj hy
              exact h3z
        case measure => simp [intOf]
    · obtain rfl : k = es.length := by omega
      have hz : ¬ (0 : Int) ≤ (es.length : Int) - 1 - (es.length : Int) := by omega
      clear hu
      go_wp2_with fail
      go_ret
      exact ⟨⟨_, rfl, .inl ⟨last_no es HNO.out, rfl⟩⟩, hbr⟩
theorem last_put (es : List EE) (e : EE) (h : e.k ≠ 3) : lastConf (es ++ [e]) = lastConf es := by
  unfold lastConf
  rw [List.reverse_append, List.reverse_singleton, List.singleton_append, List.find?_cons, decide_eq_false h]
theorem last_mem (es : List EE) (e : EE) (h : lastConf es = some e) : e ∈ es := List.mem_reverse.1 (List.mem_of_find?_eq_some h)
end Go.Proofs.YtckpnihpobfggaaDoor
