/- A region that draws its order and makes rows and slices, stores rows, and appends: by facts of all its values. -/
import Derived.Test.YtjlligpdkkfmaaaDoorRegV
namespace Go.Proofs.YtjlligpdkkfmaaaDoor
open Go.RowKit

/-- The blocks that a value names. -/
def blk0 : Value → List Nat
  | .pointer (some a) => [a.block]
  | .slice (some a) _ _ => [a.block]
  | _ => []
def blk1 : Value → List Nat
  | .agg xs => xs.toList.flatMap blk0
  | .tuple xs => xs.toList.flatMap blk0
  | v => blk0 v
def blks : Value → List Nat
  | .tuple xs => xs.toList.flatMap blk1
  | v => blk1 v
theorem blks_undef : blks undef = [] := rfl

/-- What is made in the region lies apart; R: whose block an operation's value has. -/
def AlO (B : Nat) (A R : List Nat) (u : Nat → Value) (w : World) : Prop := ∀ a, a ∈ A → ∀ g, g ∈ blks (u a) → B ≤ g ∧ g < w.heap.size ∧ ∀ b, b ∈ A → g ∈ blks (u b) → R.getD a 0 = R.getD b 0

/-- Codes: 0 a value that is told · 1 makes a row · 2 stores row k of T · 3 stores the row that a has made · 4 makes slices · 5 appends to what a has made · 6 hands on (part of) what a has made. -/
def okR (T : List Nat) (u : Nat → Value) : Nat × Nat → Option Nat → Prop
  | (2, k), r => r = none ∨ r = some (T.getD k 0)
  | (3, a), r => ∀ g, r = some g → g ∈ blks (u a)
  | (5, a), r => ∀ g, r = some g → g ∈ blks (u a)
  | _, r => r = none
def okV (u : Nat → Value) (v : Value) (w w' : World) : Nat × Nat → Prop
  | (1, _) => ∀ g, g ∈ blks v → w.heap.size ≤ g ∧ g < w'.heap.size
  | (4, _) => ∀ g, g ∈ blks v → w.heap.size ≤ g ∧ g < w'.heap.size
  | (5, a) => ∀ g, g ∈ blks v → g ∈ blks (u a) ∨ (w.heap.size ≤ g ∧ g < w'.heap.size)
  | (6, a) => ∀ g, g ∈ blks v → g ∈ blks (u a)
  | _ => True
def cKO (T : List Nat) (C : List (Nat × Nat)) (j : Nat) (u : Nat → Value) (v : Value) (w w' : World) : Prop :=
  (∃ r, w.grownBy w' r ∧ okR T u (C.getD j (0, 0)) r) ∧ okV u v w w' (C.getD j (0, 0))
/-- What holds behind it. -/
def cFO (T : List Nat) (B : Nat) (C : List (Nat × Nat)) (Pv : Nat → Value → Prop) (Pw : Nat → Value → World → Prop) (Ob : Nat → Obj) (i : Nat) (u : Nat → Value) (w : World) : Prop :=
  match C.getD i (0, 0) with
  | (0, _) => Pv i (u i)
  | (1, _) => ∃ g, u i = .pointer (some ⟨g, 0, none⟩) ∧ B ≤ g ∧ w.heap[g]? = some (Ob i)
  | (2, k) => w.heap[T.getD k 0]? = some (Ob i)
  | (3, a) => ∃ g, u a = .pointer (some ⟨g, 0, none⟩) ∧ B ≤ g ∧ w.heap[g]? = some (Ob i)
  | _ => Pw i (u i) w
/-- The form of the codes. -/
def codesO (l : List Oper) (C : List (Nat × Nat)) (A R S : List Nat) : Bool :=
  (C.length == l.length) && (List.range l.length).all fun i =>
    match C.getD i (0, 0) with
    | (0, _) => true
    | (1, _) => A.contains i && (dstOf l i).isSome && (R.getD i 0 == i) && (List.range l.length).all fun j => (C.getD j (0, 0) != (3, i)) || goneB l i j
    | (2, k) => decide (k < S.length) && (i == S.getD k 0 || waits l l.length i (S.getD k 0)) && ((List.range l.length).all fun j => (C.getD j (0, 0) != (2, k)) || goneB l i j)
    | (3, a) => A.contains a && (C.getD a (0, 0)).1 == 1 && decide (a < l.length) && waits l l.length i a && (List.range l.length).all fun j => (C.getD j (0, 0) != (3, a)) || goneB l i j
    | (4, _) => A.contains i && (dstOf l i).isSome && (R.getD i 0 == i) && (List.range l.length).all fun j => !((C.getD j (0, 0)).1 == 5 && R.getD (C.getD j (0, 0)).2 0 == R.getD i 0) || goneB l i j
    | (5, a) => A.contains i && A.contains a && (dstOf l i).isSome && waits l l.length i a && (R.getD i 0 == R.getD a 0) && !((C.getD (R.getD a 0) (0, 0)).1 == 1) && (List.range l.length).all fun j => !((C.getD j (0, 0)).1 == 5 && R.getD (C.getD j (0, 0)).2 0 == R.getD i 0) || goneB l i j
    | (6, a) => A.contains i && A.contains a && (dstOf l i).isSome && waits l l.length i a && (R.getD i 0 == R.getD a 0) && !((C.getD (R.getD a 0) (0, 0)).1 == 1) && (List.range l.length).all fun j => !((C.getD j (0, 0)).1 == 5 && R.getD (C.getD j (0, 0)).2 0 == R.getD i 0) || goneB l i j
    | _ => false
/-- What an operation is asked to bring. -/
def obO (T : List Nat) (B : Nat) (D : List (Option Nat)) (Pv : Nat → Value → Prop) (Pw : Nat → Value → World → Prop) (Ob : Nat → Obj) (i : Nat) (r : Nat → Value) (s : Bool) (w : World) : Nat × Nat → Value → World → Prop
  | (0, _), v, w' => Below w.heap.size w w' ∧ Pv i (if s then v else undef)
  | (1, _), v, w' => ∃ g, v = .pointer (some ⟨g, 0, none⟩) ∧ w.heap.size ≤ g ∧ w'.heap[g]? = some (Ob i) ∧ Below w.heap.size w w'
  | (2, k), _, w' => w'.heap[T.getD k 0]? = some (Ob i) ∧ w.grownBy w' (some (T.getD k 0))
  | (3, a), _, w' => ∃ g, valD D r a = .pointer (some ⟨g, 0, none⟩) ∧ B ≤ g ∧ w.grownBy w' (some g) ∧ w'.heap[g]? = some (Ob i)
  | (4, _), v, w' => Below w.heap.size w w' ∧ (∀ g, g ∈ blks v → w.heap.size ≤ g ∧ g < w'.heap.size) ∧ Pw i v w'
  | (5, a), v, w' => (∃ q, w.grownBy w' q ∧ ∀ g, q = some g → g ∈ blks (valD D r a)) ∧ (∀ g, g ∈ blks v → g ∈ blks (valD D r a) ∨ (w.heap.size ≤ g ∧ g < w'.heap.size)) ∧ Pw i v w'
  | (6, a), v, w' => Below w.heap.size w w' ∧ (∀ g, g ∈ blks v → g ∈ blks (valD D r a)) ∧ Pw i v w'
  | _, _, _ => False
section
variable {T : List Nat} {B : Nat} {D : List (Option Nat)} {Pv : Nat → Value → Prop} {Pw : Nat → Value → World → Prop} {Ob : Nat → Obj} {i : Nat} {r : Nat → Value} {s : Bool} {w w' : World} {v : Value}
theorem obO_q {a : Nat} (h : Below w.heap.size w w') (hp : Pv i (if s then v else undef)) : obO T B D Pv Pw Ob i r s w (0, a) v w' := ⟨h, hp⟩
theorem obO_al {a g : Nat} (h1 : v = .pointer (some ⟨g, 0, none⟩)) (h2 : w.heap.size ≤ g) (h3 : w'.heap[g]? = some (Ob i)) (h : Below w.heap.size w w') : obO T B D Pv Pw Ob i r s w (1, a) v w' := ⟨g, h1, h2, h3, h⟩
theorem obO_st {k : Nat} (h1 : w'.heap[T.getD k 0]? = some (Ob i)) (h2 : w.grownBy w' (some (T.getD k 0))) : obO T B D Pv Pw Ob i r s w (2, k) v w' := ⟨h1, h2⟩
theorem obO_sa {a g : Nat} (h1 : valD D r a = .pointer (some ⟨g, 0, none⟩)) (h2 : B ≤ g) (h3 : w.grownBy w' (some g)) (h4 : w'.heap[g]? = some (Ob i)) : obO T B D Pv Pw Ob i r s w (3, a) v w' := ⟨g, h1, h2, h3, h4⟩
theorem obO_mk {a : Nat} (h : Below w.heap.size w w') (hb : ∀ g, g ∈ blks v → w.heap.size ≤ g ∧ g < w'.heap.size) (hp : Pw i v w') : obO T B D Pv Pw Ob i r s w (4, a) v w' := ⟨h, hb, hp⟩
theorem obO_ap {a : Nat} {q : Option Nat} (h : w.grownBy w' q) (hq : ∀ g, q = some g → g ∈ blks (valD D r a)) (hb : ∀ g, g ∈ blks v → g ∈ blks (valD D r a) ∨ (w.heap.size ≤ g ∧ g < w'.heap.size)) (hp : Pw i v w') : obO T B D Pv Pw Ob i r s w (5, a) v w' := ⟨⟨q, h, hq⟩, hb, hp⟩
theorem obO_on {a : Nat} (h : Below w.heap.size w w') (hb : ∀ g, g ∈ blks v → g ∈ blks (valD D r a)) (hp : Pw i v w') : obO T B D Pv Pw Ob i r s w (6, a) v w' := ⟨h, hb, hp⟩
end
def skO (Pv : Nat → Value → Prop) (Pw : Nat → Value → World → Prop) (i : Nat) (w : World) : Nat × Nat → Prop
  | (0, _) => Pv i undef
  | (4, _) => Pw i undef w
  | (5, _) => Pw i undef w
  | (6, _) => Pw i undef w
  | _ => False
def factsO (T : List Nat) (B : Nat) (C : List (Nat × Nat)) (Pv : Nat → Value → Prop) (Pw : Nat → Value → World → Prop) (Ob : Nat → Obj) (D : List (Option Nat)) (r : Nat → Value) (w : World) : List Edge → Prop
  | [] => True
  | e :: es => if hands e then cFO T B C Pv Pw Ob e.on (valD D r) w ∧ factsO T B C Pv Pw Ob D r w es else factsO T B C Pv Pw Ob D r w es
def stepsO (P : Program) (T : List Nat) (O : List Obj) (w1 : World) (C : List (Nat × Nat)) (Pv : Nat → Value → Prop) (Pw : Nat → Value → World → Prop) (Ob : Nat → Obj) (t0 : Array Value) (D : List (Option Nat)) (X Y : List (Nat × Nat)) : List Oper → Nat → Prop
  | [], _ => True
  | o :: rest, i => (∀ (r : Nat → Value) w, KeptT T w1 w → (∀ s, (!D.contains (some s) || X.contains (i, s)) = true → r s = t0.getD s undef) → (∀ k, Y.contains (i, k) = true → w.heap[T.getD k 0]? = some (O.getD k default)) → factsO T w1.heap.size C Pv Pw Ob D r w o.after.toList →
      if Region.wanted o (ydD D r) = true then gives P r o w (obO T w1.heap.size D Pv Pw Ob i r o.dst.isSome w (C.getD i (0, 0))) else skO Pv Pw i w (C.getD i (0, 0))) ∧ stepsO P T O w1 C Pv Pw Ob t0 D X Y rest (i + 1)
section
variable {P : Program} {id : Nat} {Q : Exit → Act → World → Prop} {t0 : Array Value} {df : List Deferred} {w : World} {l : List Oper}
theorem stepsO_at {T : List Nat} {O : List Obj} {w1 : World} {C : List (Nat × Nat)} {Pv : Nat → Value → Prop} {Pw : Nat → Value → World → Prop} {Ob : Nat → Obj} {D : List (Option Nat)} {X Y : List (Nat × Nat)} : ∀ (m : List Oper) (k : Nat), stepsO P T O w1 C Pv Pw Ob t0 D X Y m k → ∀ (i : Nat) o, m[i]? = some o → ∀ (r : Nat → Value) w, KeptT T w1 w → (∀ s, (!D.contains (some s) || X.contains (k + i, s)) = true → r s = t0.getD s undef) → (∀ q, Y.contains (k + i, q) = true → w.heap[T.getD q 0]? = some (O.getD q default)) → factsO T w1.heap.size C Pv Pw Ob D r w o.after.toList →
      if Region.wanted o (ydD D r) = true then gives P r o w (obO T w1.heap.size D Pv Pw Ob (k + i) r o.dst.isSome w (C.getD (k + i) (0, 0))) else skO Pv Pw (k + i) w (C.getD (k + i) (0, 0))
  | [], _, _, i, _, hi => by simp at hi
  | o :: m, k, h, 0, o', hi => by
    simp only [List.getElem?_cons_zero, Option.some.injEq] at hi
    subst hi
    exact h.1
  | o :: m, k, h, i + 1, o', hi => by
    have := stepsO_at m (k + 1) h.2 i o' (by simpa using hi)
    rwa [show k + 1 + i = k + (i + 1) by omega] at this
theorem factsO_of {T : List Nat} {B : Nat} {C : List (Nat × Nat)} {Pv : Nat → Value → Prop} {Pw : Nat → Value → World → Prop} {Ob : Nat → Obj} {D : List (Option Nat)} {r : Nat → Value} : ∀ (es : List Edge), (∀ e ∈ es, hands e = true → cFO T B C Pv Pw Ob e.on (valD D r) w) → factsO T B C Pv Pw Ob D r w es
  | [], _ => trivial
  | e :: es, h => by
    have := factsO_of es fun e' he' hh => h e' (by simp [he']) hh
    unfold factsO
    split
    · rename_i hh; exact ⟨h e (by simp) hh, this⟩
    · exact this

/-- A block that an operation does not touch stays. -/
theorem blk_cKO {T : List Nat} {C : List (Nat × Nat)} {j g : Nat} {u : Nat → Value} {v : Value} {w w' : World} (k : cKO T C j u v w w') (h : g < w.heap.size)
    (h2 : ∀ q, C.getD j (0, 0) = (2, q) → T.getD q 0 ≠ g) (h3 : ∀ a, C.getD j (0, 0) = (3, a) → g ∉ blks (u a)) (h5 : ∀ a, C.getD j (0, 0) = (5, a) → g ∉ blks (u a)) : w'.heap[g]? = w.heap[g]? := by
  obtain ⟨⟨r, hr, ho⟩, _⟩ := k
  refine hr.block g h (fun e => ?_)
  subst e
  unfold okR at ho
  split at ho
  · rename_i q hq
    rcases ho with ho | ho
    · cases ho
    · exact h2 q hq (by simpa using ho.symm)
  · rename_i a ha; exact h3 a ha (ho g rfl)
  · rename_i a ha; exact h5 a ha (ho g rfl)
  · cases ho
theorem ptr_blks (g : Nat) : blks (.pointer (some ⟨g, 0, none⟩)) = [g] := rfl

theorem wp_region_own (D : List (Option Nat)) (X Y : List (Nat × Nat)) (C : List (Nat × Nat)) (A R S : List Nat) (T : List Nat) (O : List Obj) (Pv : Nat → Value → Prop) (Pw : Nat → Value → World → Prop) (Ob : Nat → Obj)
    (hm : P.follows .mixedOrders = true) (hB : factsB t0.size l = true) (hD : l.map (·.dst) = D) (hX : beforeB l X = true) (hY : nearB l S Y = true) (hC : codesO l C A R S = true) (hS : S.length = T.length)
    (hO : olds w T O) (hTd : T.Nodup) (hAc : A.all (fun a => [1, 4, 5, 6].contains (C.getD a (0, 0)).1) = true)
    (hL : ∀ i v w1 w2, Pw i v w1 → w1.heap.size ≤ w2.heap.size → (∀ g, g ∈ blks v → w2.heap[g]? = w1.heap[g]?) → Pw i v w2)
    (hstep : stepsO P T O w C Pv Pw Ob t0 D X Y l 0)
    (hend : ∀ (u : Nat → Value) w', KeptT T w w' → (∀ i, i < l.length → uses l i = [] → cFO T w.heap.size C Pv Pw Ob i u w') → Q .normal ⟨fill t0 l 0 u, df⟩ w') :
    (Code.region id l.toArray true).wp P Q ⟨t0, df⟩ w := by
  obtain ⟨hlO, hrow⟩ := olds_at hO
  have hTB : ∀ k, k < T.length → T.getD k 0 < w.heap.size := fun k hk => (Array.getElem?_eq_some_iff.1 (hrow k hk)).1
  have hTm : ∀ k, k < T.length → T.getD k 0 ∈ T := fun k hk => by rw [List.getD_eq_getElem?_getD, List.getElem?_eq_getElem hk]; exact List.getElem_mem _
  have hTi : ∀ k q, k < T.length → q < T.length → T.getD k 0 = T.getD q 0 → k = q := fun k q hk hq e => by
    rw [List.getD_eq_getElem?_getD, List.getD_eq_getElem?_getD, List.getElem?_eq_getElem hk, List.getElem?_eq_getElem hq] at e
    have hp := List.pairwise_iff_getElem.1 hTd
    have e : T[k] = T[q] := by simpa using e
    rcases Nat.lt_trichotomy k q with h | h | h
    · exact absurd e (hp k q hk hq h)
    · exact h
    · exact absurd e.symm (hp q k hq hk h)
  have hcl : C.length = l.length := by unfold codesO at hC; simp only [Bool.and_eq_true, beq_iff_eq] at hC; exact hC.1
  have hcode : ∀ i, i < l.length → _ := fun i hi => by
    unfold codesO at hC
    simp only [Bool.and_eq_true, List.all_eq_true] at hC
    exact hC.2 i (List.mem_range.2 hi)
  have hout : ∀ i, ¬ i < l.length → C.getD i (0, 0) = (0, 0) := fun i hi => by rw [List.getD_eq_getElem?_getD, List.getElem?_eq_none (by omega)]; rfl
  have hlt : ∀ i c a, C.getD i (0, 0) = (c, a) → c ≠ 0 → i < l.length := fun i c a h hc => by
    rcases Nat.lt_or_ge i l.length with h1 | h1
    · exact h1
    · rw [hout i (by omega)] at h; simp at h; omega
  have h1c : ∀ i a, C.getD i (0, 0) = (1, a) → i ∈ A ∧ (dstOf l i).isSome = true ∧ R.getD i 0 = i ∧ ∀ j, C.getD j (0, 0) = (3, i) → goneB l i j = true := fun i a h => by
    have := hcode i (hlt i 1 a h (by decide))
    simp only [h, Bool.and_eq_true, List.all_eq_true, Bool.or_eq_true, bne_iff_ne, ne_eq, beq_iff_eq] at this
    obtain ⟨⟨⟨h1, h2⟩, h4⟩, h3⟩ := this
    exact ⟨by simpa using h1, h2, h4, fun j hj => (h3 j (List.mem_range.2 (hlt j 3 i hj (by decide)))).resolve_left (fun h => h hj)⟩
  have h2c : ∀ i k, C.getD i (0, 0) = (2, k) → k < T.length ∧ (i = S.getD k 0 ∨ waits l l.length i (S.getD k 0) = true) ∧ ∀ j, C.getD j (0, 0) = (2, k) → goneB l i j = true := fun i k h => by
    have := hcode i (hlt i 2 k h (by decide))
    simp only [h, Bool.and_eq_true, List.all_eq_true, Bool.or_eq_true, bne_iff_ne, ne_eq, decide_eq_true_eq, beq_iff_eq] at this
    obtain ⟨⟨h1, h2⟩, h3⟩ := this
    exact ⟨by omega, h2, fun j hj => (h3 j (List.mem_range.2 (hlt j 2 k hj (by decide)))).resolve_left (fun h => h hj)⟩
  have h3c : ∀ i a, C.getD i (0, 0) = (3, a) → a ∈ A ∧ (C.getD a (0, 0)).1 = 1 ∧ waits l l.length i a = true ∧ ∀ j, C.getD j (0, 0) = (3, a) → goneB l i j = true := fun i a h => by
    have := hcode i (hlt i 3 a h (by decide))
    simp only [h, Bool.and_eq_true, List.all_eq_true, Bool.or_eq_true, bne_iff_ne, ne_eq, decide_eq_true_eq, beq_iff_eq] at this
    obtain ⟨⟨⟨⟨h1, h2⟩, _⟩, h3⟩, h4⟩ := this
    exact ⟨by simpa using h1, h2, h3, fun j hj => (h4 j (List.mem_range.2 (hlt j 3 a hj (by decide)))).resolve_left (fun h => h hj)⟩
  have hgone : ∀ i, (∀ x, x ∈ List.range l.length → (!((C.getD x (0, 0)).1 == 5 && R.getD (C.getD x (0, 0)).2 0 == R.getD i 0)) = true ∨ goneB l i x = true) → ∀ j a, C.getD j (0, 0) = (5, a) → R.getD a 0 = R.getD i 0 → goneB l i j = true := fun i h j a hj hr => by
    refine (h j (List.mem_range.2 (hlt j 5 a hj (by decide)))).resolve_left (fun h => ?_)
    rw [hj] at h
    simp only [beq_self_eq_true, Bool.true_and, Bool.not_eq_true', beq_eq_false_iff_ne, ne_eq] at h
    exact h hr
  have h4c : ∀ i a, C.getD i (0, 0) = (4, a) → i ∈ A ∧ (dstOf l i).isSome = true ∧ R.getD i 0 = i ∧ ∀ j a, C.getD j (0, 0) = (5, a) → R.getD a 0 = R.getD i 0 → goneB l i j = true := fun i a h => by
    have := hcode i (hlt i 4 a h (by decide))
    simp only [h, Bool.and_eq_true, List.all_eq_true, Bool.or_eq_true, beq_iff_eq] at this
    obtain ⟨⟨⟨h1, h2⟩, h3⟩, h4⟩ := this
    exact ⟨by simpa using h1, h2, h3, hgone i h4⟩
  have h5c : ∀ i a, C.getD i (0, 0) = (5, a) ∨ C.getD i (0, 0) = (6, a) → i ∈ A ∧ a ∈ A ∧ (dstOf l i).isSome = true ∧ waits l l.length i a = true ∧ R.getD i 0 = R.getD a 0 ∧ (C.getD (R.getD a 0) (0, 0)).1 ≠ 1 ∧ ∀ j b, C.getD j (0, 0) = (5, b) → R.getD b 0 = R.getD i 0 → goneB l i j = true := fun i a h => by
    have hil : i < l.length := h.elim (fun h => hlt i 5 a h (by decide)) (fun h => hlt i 6 a h (by decide))
    have := hcode i hil
    rcases h with h | h
    all_goals
      simp only [h, Bool.and_eq_true, List.all_eq_true, Bool.or_eq_true, beq_iff_eq] at this
      obtain ⟨⟨⟨⟨⟨⟨h1, h2⟩, h3⟩, h4⟩, h5⟩, h6⟩, h7⟩ := this
      exact ⟨by simpa using h1, by simpa using h2, h3, h4, h5, by simpa using h6, hgone i h7⟩
  have hroot : ∀ j a, C.getD j (0, 0) = (5, a) → ∀ i x, C.getD i (0, 0) = (1, x) → R.getD a 0 ≠ R.getD i 0 := fun j a hj i x hi e => by
    have h1 := (h5c j a (.inl hj)).2.2.2.2.2.1
    rw [e, (h1c i x hi).2.2.1, hi] at h1
    exact h1 rfl
  have hAl : ∀ a, a ∈ A → (∃ x, C.getD a (0, 0) = (1, x)) ∨ (∃ x, C.getD a (0, 0) = (4, x)) ∨ (∃ x, C.getD a (0, 0) = (5, x)) ∨ (∃ x, C.getD a (0, 0) = (6, x)) := fun a ha => by
    rw [List.all_eq_true] at hAc
    have := hAc a ha
    rcases hce : C.getD a (0, 0) with ⟨c, x⟩
    rw [hce] at this
    simp at this
    rcases this with h | h | h | h
    · exact .inl ⟨x, by rw [h]⟩
    · exact .inr (.inl ⟨x, by rw [h]⟩)
    · exact .inr (.inr (.inl ⟨x, by rw [h]⟩))
    · exact .inr (.inr (.inr ⟨x, by rw [h]⟩))
  have hvD : ∀ (r : Nat → Value), valOf l r = valD D r := fun r => funext fun i => valD_eq hD r i
  refine wp_region_factsV (cFO T w.heap.size C Pv Pw Ob) (cKO T C) (fun u wx => KeptT T w wx ∧ AlO w.heap.size A R u wx) T.length (fun k => S.getD k 0) (fun k wx => wx.heap[T.getD k 0]? = some (O.getD k default)) hm hB ⟨KeptT.drew _ _, fun a _ g hg => by simp [blks_undef] at hg⟩ (fun k hk => hrow k hk) ?_ ?_ ?_ ?_ ?_ ?_
  · intro k hk j hj hw u v w1 w2 ⟨_, hA⟩ hK h
    refine (blk_cKO hK (Array.getElem?_eq_some_iff.1 h).1 (fun q hq e => ?_) (fun a ha hb => ?_) (fun a ha hb => ?_)).trans h
    · obtain ⟨hq1, hq2, _⟩ := h2c j q hq
      have := hTi q k hq1 hk e
      subst this
      rcases hq2 with hq2 | hq2
      · exact hj hq2
      · rw [hw] at hq2; cases hq2
    · have := (hA a (h3c j a ha).1 _ hb).1; have := hTB k hk; omega
    · have := (hA a (h5c j a (.inl ha)).2.1 _ hb).1; have := hTB k hk; omega
  · intro j u wx
    refine ⟨⟨none, World.grownBy.refl _ _, ?_⟩, ?_⟩
    · unfold okR
      split
      · exact .inl rfl
      · intro g hg; cases hg
      · intro g hg; cases hg
      · rfl
    · unfold okV
      split
      · intro g hg; simp [blks_undef] at hg
      · intro g hg; simp [blks_undef] at hg
      · intro g hg; simp [blks_undef] at hg
      · intro g hg; simp [blks_undef] at hg
      · trivial
  · intro j u v w1 w2 hv ⟨hG, hA⟩ hK
    obtain ⟨⟨r, hr, ho⟩, hkv⟩ := hK
    have hsz := hr.size
    refine ⟨?_, ?_⟩
    · cases r with
      | none => exact hG.then_below ⟨hr.os, hr.tape, hr.output, hr.size, fun k hk => hr.block k hk (by simp)⟩
      | some g =>
        refine hG.then_at hr ?_
        unfold okR at ho
        split at ho
        · rename_i q hq
          rcases ho with ho | ho
          · cases ho
          · left
            obtain rfl : g = T.getD q 0 := by simpa using ho
            exact hTm q (h2c j q hq).1
        · rename_i a ha; exact .inr (hA a (h3c j a ha).1 g (ho g rfl)).1
        · rename_i a ha; exact .inr (hA a (h5c j a (.inl ha)).2.1 g (ho g rfl)).1
        · cases ho
    · have hwsz := hG.size
      -- a fresh block is named by no other value
      have hnew : ∀ g, w1.heap.size ≤ g → ∀ b, b ∈ A → g ∈ blks (u b) → False := fun g hg b hb hgb => by have := (hA b hb g hgb).2.1; omega
      have hself : j ∈ A → ∀ g, g ∈ blks v → (w.heap.size ≤ g ∧ g < w2.heap.size) ∧ ∀ b, b ∈ A → b ≠ j → g ∈ blks (u b) → R.getD j 0 = R.getD b 0 := fun hj g hg => by
        unfold okV at hkv
        split at hkv
        · obtain ⟨h1, h2⟩ := hkv g hg
          exact ⟨⟨by omega, h2⟩, fun b hb _ hgb => (hnew g h1 b hb hgb).elim⟩
        · obtain ⟨h1, h2⟩ := hkv g hg
          exact ⟨⟨by omega, h2⟩, fun b hb _ hgb => (hnew g h1 b hb hgb).elim⟩
        · rename_i a ha
          obtain ⟨_, haA, _, _, hR, _⟩ := h5c j a (.inl ha)
          rcases hkv g hg with h1 | ⟨h1, h2⟩
          · obtain ⟨h3, h4, h5⟩ := hA a haA g h1
            exact ⟨⟨h3, by omega⟩, fun b hb _ hgb => by rw [hR]; exact h5 b hb hgb⟩
          · exact ⟨⟨by omega, h2⟩, fun b hb _ hgb => (hnew g h1 b hb hgb).elim⟩
        · rename_i a ha
          obtain ⟨_, haA, _, _, hR, _⟩ := h5c j a (.inr ha)
          obtain ⟨h3, h4, h5⟩ := hA a haA g (hkv g hg)
          exact ⟨⟨h3, by omega⟩, fun b hb _ hgb => by rw [hR]; exact h5 b hb hgb⟩
        · rename_i x1 x2 x3 x4
          rcases hAl j hj with ⟨x, hx⟩ | ⟨x, hx⟩ | ⟨x, hx⟩ | ⟨x, hx⟩
          · exact absurd hx (x1 x)
          · exact absurd hx (x2 x)
          · exact absurd hx (x3 x)
          · exact absurd hx (x4 x)
      intro a ha g hg
      by_cases haj : a = j
      · subst haj
        rw [updV_self] at hg
        obtain ⟨⟨h1, h2⟩, h3⟩ := hself ha g hg
        refine ⟨h1, h2, fun b hb hgb => ?_⟩
        by_cases hba : b = a
        · rw [hba]
        · rw [updV_ne _ _ hba] at hgb; exact h3 b hb hba hgb
      · rw [updV_ne _ _ haj] at hg
        obtain ⟨h1, h2, h3⟩ := hA a ha g hg
        refine ⟨h1, by omega, fun b hb hgb => ?_⟩
        by_cases hbj : b = j
        · subst hbj
          rw [updV_self] at hgb
          exact ((hself hb g hgb).2 a ha haj hg).symm
        · rw [updV_ne _ _ hbj] at hgb; exact h3 b hb hgb
  · intro i j hg u v w1 w2 ⟨hG, hA⟩ hK h
    have hij : i ≠ j := fun e => by subst e; simp [goneB] at hg
    have hwij : waits l l.length i j = false := by
      unfold goneB at hg
      simp only [Bool.or_eq_false_iff] at hg
      exact hg.1.2
    have own : ∀ i', i' ∈ A → (C.getD i' (0, 0)).1 ≠ 1 → (∀ j a, C.getD j (0, 0) = (5, a) → R.getD a 0 = R.getD i' 0 → goneB l i' j = true) → goneB l i' j = false → (∀ a x, C.getD a (0, 0) = (1, x) → R.getD i' 0 ≠ a) → ∀ g, g ∈ blks (u i') → w2.heap[g]? = w1.heap[g]? := fun i' hi' _ hno hg' hr g hgb => by
      obtain ⟨h1, h2, h3⟩ := hA i' hi' g hgb
      refine blk_cKO hK h2 (fun q hq e => ?_) (fun a ha hb => ?_) (fun a ha hb => ?_)
      · have := hTB q (h2c j q hq).1; omega
      · obtain ⟨haA, ha1, _, _⟩ := h3c j a ha
        have e := h3 a haA hb
        rcases hce : C.getD a (0, 0) with ⟨c, x⟩
        rw [hce] at ha1
        obtain rfl : c = 1 := ha1
        rw [(h1c a x hce).2.2.1] at e
        exact hr a x hce e
      · have e := h3 a (h5c j a (.inl ha)).2.1 hb
        rw [hno j a ha e.symm] at hg'; cases hg'
    unfold cFO at h ⊢
    split at h
    · rw [updV_ne _ _ hij]; exact h
    · rename_i x hx
      obtain ⟨g, h1, h2, h3⟩ := h
      obtain ⟨hiA, _, hRi, hno⟩ := h1c i x hx
      have hgi : g ∈ blks (u i) := by rw [h1, ptr_blks]; simp
      refine ⟨g, by rw [updV_ne _ _ hij]; exact h1, h2, (blk_cKO hK (Array.getElem?_eq_some_iff.1 h3).1 (fun q hq e => ?_) (fun a ha hb => ?_) (fun a ha hb => ?_)).trans h3⟩
      · have := hTB q (h2c j q hq).1; omega
      · obtain ⟨haA, ha1, _, _⟩ := h3c j a ha
        have e := (hA i hiA g hgi).2.2 a haA hb
        rcases hce : C.getD a (0, 0) with ⟨c, y⟩
        rw [hce] at ha1
        obtain rfl : c = 1 := ha1
        rw [hRi, (h1c a y hce).2.2.1] at e
        subst e
        rw [hno j ha] at hg; cases hg
      · exact hroot j a ha i x hx ((hA i hiA g hgi).2.2 a (h5c j a (.inl ha)).2.1 hb).symm
    · rename_i k hk
      obtain ⟨hkT, _, hno⟩ := h2c i k hk
      refine (blk_cKO hK (Array.getElem?_eq_some_iff.1 h).1 (fun q hq e => ?_) (fun a ha hb => ?_) (fun a ha hb => ?_)).trans h
      · have := hTi q k (h2c j q hq).1 hkT e
        subst this
        rw [hno j hq] at hg; cases hg
      · have := (hA a (h3c j a ha).1 _ hb).1; have := hTB k hkT; omega
      · have := (hA a (h5c j a (.inl ha)).2.1 _ hb).1; have := hTB k hkT; omega
    · rename_i a ha
      obtain ⟨g, h1, h2, h3⟩ := h
      obtain ⟨haA, ha1, hwa, hno⟩ := h3c i a ha
      have haj : a ≠ j := fun e => by subst e; rw [hwij] at hwa; cases hwa
      have hga : g ∈ blks (u a) := by rw [h1, ptr_blks]; simp
      rcases hce : C.getD a (0, 0) with ⟨c, y⟩
      rw [hce] at ha1
      obtain rfl : c = 1 := ha1
      refine ⟨g, by rw [updV_ne _ _ haj]; exact h1, h2, (blk_cKO hK (Array.getElem?_eq_some_iff.1 h3).1 (fun q hq e => ?_) (fun b hb hgb => ?_) (fun b hb hgb => ?_)).trans h3⟩
      · have := hTB q (h2c j q hq).1; omega
      · obtain ⟨hbA, hb1, _, _⟩ := h3c j b hb
        have e := (hA a haA g hga).2.2 b hbA hgb
        rcases hcb : C.getD b (0, 0) with ⟨c, z⟩
        rw [hcb] at hb1
        obtain rfl : c = 1 := hb1
        rw [(h1c a y hce).2.2.1, (h1c b z hcb).2.2.1] at e
        subst e
        rw [hno j hb] at hg; cases hg
      · exact hroot j b hb a y hce ((hA a haA g hga).2.2 b (h5c j b (.inl hb)).2.1 hgb).symm
    · rename_i h0 h1 h2 h3
      rw [updV_ne _ _ hij]
      have hsz : w1.heap.size ≤ w2.heap.size := by obtain ⟨⟨r, hr, _⟩, _⟩ := hK; exact hr.size
      refine hL i (u i) w1 w2 h hsz ?_
      rcases hce : C.getD i (0, 0) with ⟨c, a⟩
      have hil : i < l.length := hlt i c a hce (fun e => h0 a (by rw [hce, e]))
      have hcd := hcode i hil
      rw [hce] at hcd
      match c, hce, hcd with
      | 0, hce, _ => exact absurd hce (h0 a)
      | 1, hce, _ => exact absurd hce (h1 a)
      | 2, hce, _ => exact absurd hce (h2 a)
      | 3, hce, _ => exact absurd hce (h3 a)
      | 4, hce, _ =>
        obtain ⟨hiA, _, hRi, hno⟩ := h4c i a hce
        exact own i hiA (by rw [hce]; simp) hno hg (fun b x hb e => by rw [hRi] at e; subst e; rw [hce] at hb; cases hb)
      | 5, hce, _ =>
        obtain ⟨hiA, _, _, _, hRi, hR1, hno⟩ := h5c i a (.inl hce)
        exact own i hiA (by rw [hce]; simp) hno hg (fun b x hb e => by rw [hRi] at e; rw [e, hb] at hR1; exact hR1 rfl)
      | 6, hce, _ =>
        obtain ⟨hiA, _, _, _, hRi, hR1, hno⟩ := h5c i a (.inr hce)
        exact own i hiA (by rw [hce]; simp) hno hg (fun b x hb e => by rw [hRi] at e; rw [e, hb] at hR1; exact hR1 rfl)
      | c + 7, _, hcd => simp at hcd
  · intro i o hi r u wx ⟨hG, hA⟩ hu hr hq hf
    have hil : i < l.length := (List.getElem?_eq_some_iff.1 hi).1
    have hlow : ∀ e ∈ o.after, hands e = true → e.on < i ∧ waits l l.length i e.on = true := fun e he hh => by
      have hb : Region.binds .any e = true := by simp only [hands, Bool.and_eq_true] at hh; exact hh.1
      refine ⟨binds_low hB i o hi e he hb, ?_⟩
      obtain ⟨f, hf0⟩ : ∃ f, l.length = f + 1 := ⟨l.length - 1, by omega⟩
      rw [hf0]
      unfold waits
      rw [hi]
      simp only [Option.map_some, Option.getD_some, Array.any_eq_true', Bool.and_eq_true, Bool.or_eq_true, beq_iff_eq]
      exact ⟨e, he, hb, .inl rfl⟩
    have huD : ∀ m, waits l l.length i m = true → u m = valD D r m := fun m hm => (hu m hm).trans (congrFun (hvD r) m)
    have hwtr : ∀ e ∈ o.after, hands e = true → ∀ a, waits l l.length e.on a = true → waits l l.length i a = true := fun e he hh a ha =>
      waits_step hB hi he (by simp only [hands, Bool.and_eq_true] at hh; exact hh.1) ha
    have hstp := stepsO_at l 0 hstep i o hi r wx hG (fun s hs => hr s (before_of hD hX (by rwa [Nat.zero_add] at hs))) (fun k hk => by
        rw [Nat.zero_add] at hk
        unfold nearB at hY
        rw [List.all_eq_true] at hY
        have := hY (i, k) (by simpa using hk)
        simp only [Bool.and_eq_true, decide_eq_true_eq, Bool.or_eq_true, beq_iff_eq] at this
        exact hq k (by omega) this.2) (factsO_of _ fun e he hh => by
        have he' : e ∈ o.after := by simpa using he
        have h := hf e he' hh
        obtain ⟨hel, hew⟩ := hlow e he' hh
        unfold cFO at h ⊢
        split at h
        · rw [huD _ hew] at h; exact h
        · rw [huD _ hew] at h; exact h
        · exact h
        · rename_i a ha
          rw [huD a (hwtr e he' hh a (h3c _ a ha).2.2.1)] at h; exact h
        · rw [huD _ hew] at h; exact h)
    rw [Nat.zero_add] at hstp
    have hy : ydD D r = ydOf l r := funext fun j => by unfold ydD ydOf; rw [valD_eq hD]
    rw [hy] at hstp
    have hdi : dstOf l i = o.dst := by simp [dstOf, hi]
    have hbel : ∀ {w1 w2 : World}, Below w1.heap.size w1 w2 → w1.grownBy w2 none := fun k => ⟨k.os, k.tape, k.output, k.size, fun b hb _ => k.block b hb⟩
    split
    · rename_i hw
      rw [if_pos hw] at hstp
      refine gives_mono hstp fun v w' hob => ?_
      rcases hce : C.getD i (0, 0) with ⟨c, a⟩
      rw [hce] at hob
      unfold cKO cFO
      rw [hce]
      match c, hce, hob with
      | 0, _, hob => exact ⟨⟨⟨none, hbel hob.1, rfl⟩, trivial⟩, by rw [updV_self]; exact hob.2⟩
      | 1, hce, hob =>
        obtain ⟨g, h1, h2, h3, h4⟩ := hob
        have hd : o.dst.isSome = true := by rw [← hdi]; exact (h1c i a hce).2.1
        rw [hd]
        exact ⟨⟨⟨none, hbel h4, rfl⟩, fun b hb => by
          rw [if_pos rfl, h1, ptr_blks] at hb
          obtain rfl : b = g := by simpa using hb
          exact ⟨h2, (Array.getElem?_eq_some_iff.1 h3).1⟩⟩, g, by rw [updV_self]; exact h1, Nat.le_trans hG.size h2, h3⟩
      | 2, _, hob => exact ⟨⟨⟨_, hob.2, .inr rfl⟩, trivial⟩, hob.1⟩
      | 3, hce, hob =>
        obtain ⟨g, h1, h2, h3, h4⟩ := hob
        have hwa := (h3c i a hce).2.2.1
        rw [← huD a hwa] at h1
        have hai : a ≠ i := fun e => by
          subst e
          have := (h3c a a hce).2.1
          rw [hce] at this
          cases this
        exact ⟨⟨⟨some g, h3, fun b hb => by rw [h1, ptr_blks]; simpa using hb.symm⟩, trivial⟩, g, by rw [updV_ne _ _ hai]; exact h1, h2, h4⟩
      | 4, hce, hob =>
        have hd : o.dst.isSome = true := by rw [← hdi]; exact (h4c i a hce).2.1
        rw [hd]
        exact ⟨⟨⟨none, hbel hob.1, rfl⟩, hob.2.1⟩, by rw [updV_self]; exact hob.2.2⟩
      | 5, hce, hob =>
        obtain ⟨_, _, hd0, hwa, _⟩ := h5c i a (.inl hce)
        have hd : o.dst.isSome = true := by rw [← hdi]; exact hd0
        rw [hd]
        obtain ⟨⟨q, h1, h2⟩, h3, h4⟩ := hob
        rw [← huD a hwa] at h2 h3
        exact ⟨⟨⟨q, h1, h2⟩, h3⟩, by rw [updV_self]; exact h4⟩
      | 6, hce, hob =>
        obtain ⟨_, _, hd0, hwa, _⟩ := h5c i a (.inr hce)
        have hd : o.dst.isSome = true := by rw [← hdi]; exact hd0
        rw [hd]
        obtain ⟨h1, h3, h4⟩ := hob
        rw [← huD a hwa] at h3
        exact ⟨⟨⟨none, hbel h1, rfl⟩, h3⟩, by rw [updV_self]; exact h4⟩
      | c + 7, _, hob => exact absurd hob (fun h => h)
    · rename_i hw
      rw [if_neg hw] at hstp
      rcases hce : C.getD i (0, 0) with ⟨c, a⟩
      rw [hce] at hstp
      unfold cFO
      rw [hce]
      match c, hstp with
      | 0, hstp => rw [updV_self]; exact hstp
      | 1, hstp => exact absurd hstp (fun h => h)
      | 2, hstp => exact absurd hstp (fun h => h)
      | 3, hstp => exact absurd hstp (fun h => h)
      | 4, hstp => rw [updV_self]; exact hstp
      | 5, hstp => rw [updV_self]; exact hstp
      | 6, hstp => rw [updV_self]; exact hstp
      | c + 7, hstp => exact absurd hstp (fun h => h)
  · intro u w' hG hf
    exact hend u w' hG.1 hf
end
theorem blks_slice (a : Option Addr) (n c : Nat) : blks (.slice a n c) = match a with | some x => [x.block] | none => [] := by cases a <;> rfl
theorem blks_own {a : Option Addr} {n c g : Nat} (h : (Value.slice a n c).ownBlock = some g) : g ∈ blks (.slice a n c) := by
  cases a with
  | none => simp [Value.ownBlock] at h
  | some x => rw [blks_slice]; simpa [Value.ownBlock, eq_comm] using h
theorem own_of_blks {a : Option Addr} {n c g : Nat} (h : g ∈ blks (.slice a n c)) : (Value.slice a n c).ownBlock = some g := by
  cases a with
  | none => simp [blks_slice] at h
  | some x => rw [blks_slice] at h; simpa [Value.ownBlock, eq_comm] using h
theorem blks_tup {a : Option Addr} {n c g : Nat} {X : Value} (h : g ∈ blks (.slice a n c)) : g ∈ blks (.tuple #[.slice a n c, X]) := by
  show g ∈ List.flatMap blk1 [Value.slice a n c, X]
  rw [List.flatMap_cons]
  exact List.mem_append_left _ h
theorem blks_tup' {a : Option Addr} {n c g : Nat} {X : Value} (h : g ∈ blks (.tuple #[.slice a n c, X])) (hX : blk1 X = [] := by rfl) : g ∈ blks (.slice a n c) := by
  have h : g ∈ List.flatMap blk1 [Value.slice a n c, X] := h
  rw [List.flatMap_cons, List.flatMap_cons, hX, List.flatMap_nil, List.append_nil, List.append_nil] at h
  exact h
theorem own_fresh {w : World} {B : Nat} {e : TypeId} {size n n' c : Nat} {a : Option Addr} {xs : List Value} (h : w.ownsRow B e size (.slice a n' c) n xs) (g : Nat) (hg : g ∈ blks (.slice a n' c)) : B ≤ g ∧ g < w.heap.size := h.lt g (own_of_blks hg)
theorem own_keepB {w1 w2 : World} {B : Nat} {e : TypeId} {size n : Nat} {v : Value} {xs : List Value} (h : w1.ownsRow B e size v n xs) (hb : ∀ g, v.ownBlock = some g → w2.heap[g]? = w1.heap[g]?) : w2.ownsRow B e size v n xs := by
  obtain ⟨h1, h2 | ⟨g, cap, cur, hv, hB, hg, r⟩⟩ := h
  · exact ⟨h1, .inl h2⟩
  · exact ⟨h1, .inr ⟨g, cap, cur, hv, hB, (hb g (by rw [hv]; rfl)).trans hg, r⟩⟩
theorem own_loc {w1 w2 : World} {B : Nat} {e : TypeId} {size n : Nat} {v : Value} {xs : List Value} (h : ∃ a c, v = .slice a n c ∧ w1.ownsRow B e size (.slice a n c) n xs) (hb : ∀ g, g ∈ blks v → w2.heap[g]? = w1.heap[g]?) : ∃ a c, v = .slice a n c ∧ w2.ownsRow B e size (.slice a n c) n xs := by
  obtain ⟨a, c, rfl, ho⟩ := h
  exact ⟨a, c, rfl, own_keepB ho (fun g hg => hb g (blks_own hg))⟩
theorem own_locT {w1 w2 : World} {B : Nat} {e : TypeId} {size n : Nat} {v X : Value} {xs : List Value} (h : ∃ a c, v = .tuple #[.slice a n c, X] ∧ w1.ownsRow B e size (.slice a n c) n xs) (hb : ∀ g, g ∈ blks v → w2.heap[g]? = w1.heap[g]?) : ∃ a c, v = .tuple #[.slice a n c, X] ∧ w2.ownsRow B e size (.slice a n c) n xs := by
  obtain ⟨a, c, rfl, ho⟩ := h
  exact ⟨a, c, rfl, own_keepB ho (fun g hg => hb g (blks_tup (blks_own hg)))⟩
theorem own_one {xs ys : List Value} (hx : ∀ u ∈ xs, u.oneCell' = true) (hy : ∀ u ∈ ys, u.oneCell' = true) : ∀ u ∈ xs ++ ys, u.oneCell' = true := fun u hu => (List.mem_append.1 hu).elim (hx u) (hy u)
end Go.Proofs.YtjlligpdkkfmaaaDoor
