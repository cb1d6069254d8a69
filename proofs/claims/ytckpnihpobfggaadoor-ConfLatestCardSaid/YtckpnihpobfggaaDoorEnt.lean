/- Entries of a log: plain words; no program is named here. -/
import Derived.Test.YtckpnihpobfggaaDoorBase
import Derived.Test.YtckpnihpobfggaaDoorWords
namespace Go.Proofs.YtckpnihpobfggaaDoor
open Go.RowKit

/-- An entry: its numbers, and where its bytes and its members lie. -/
structure EE where
  t : Nat
  k : Int
  c : Nat
  s : Nat
  d : Value
  m : Value
def EE.cells (e : EE) : List Value := [.int .u64 e.t, .int .i64 e.k, .int .u64 e.c, .int .u64 e.s, e.d, e.m]
def ecells (l : List EE) : List Value := l.flatMap EE.cells
theorem ecells_nil : ecells [] = [] := rfl
theorem ecells_cons (e : EE) (l : List EE) : ecells (e :: l) = e.cells ++ ecells l := by simp [ecells]
theorem ecells_append (a b : List EE) : ecells (a ++ b) = ecells a ++ ecells b := by simp [ecells]
theorem ecells_length (l : List EE) : (ecells l).length = l.length * 6 := by
  induction l with
  | nil => rfl
  | cons e l ih => rw [ecells_cons, List.length_append, ih, List.length_cons]; simp [EE.cells]; omega
theorem ecells_get (l : List EE) : ∀ (i : Nat) (e : EE), l[i]? = some e → ∀ j, j < 6 → (ecells l)[i * 6 + j]? = e.cells[j]? := by
  induction l with
  | nil => intro i e h; simp at h
  | cons q l ih =>
    intro i e h j hj
    rw [ecells_cons]
    cases i with
    | zero =>
      simp only [List.getElem?_cons_zero, Option.some.injEq] at h
      subst h
      rw [List.getElem?_append_left (by simp [EE.cells]; omega), Nat.zero_mul, Nat.zero_add]
    | succ i =>
      rw [List.getElem?_append_right (by simp [EE.cells]; omega)]
      have := ih i e (by simpa using h) j hj
      rw [← this]
      congr 1
      simp [EE.cells]; omega
theorem ecells_take (l : List EE) (k : Nat) : ecells (l.take k) = (ecells l).take (k * 6) := by
  induction l generalizing k with
  | nil => simp [ecells]
  | cons e l ih =>
    cases k with
    | zero => simp [ecells]
    | succ k =>
      rw [List.take_succ_cons, ecells_cons, ecells_cons, ih, show (k + 1) * 6 = e.cells.length + k * 6 by simp [EE.cells]; omega, List.take_length_add_append]
theorem ecells_drop (l : List EE) (k : Nat) : ecells (l.drop k) = (ecells l).drop (k * 6) := by
  induction l generalizing k with
  | nil => simp [ecells]
  | cons e l ih =>
    cases k with
    | zero => simp [ecells]
    | succ k =>
      rw [List.drop_succ_cons, ecells_cons, ih, show (k + 1) * 6 = e.cells.length + k * 6 by simp [EE.cells]; omega, List.drop_length_add_append]

/-- What an entry leads to reads as bytes and numbers. -/
def EOk (w : World) (e : EE) : Prop := ∃ (dl : List UInt8) (ml : List Nat), Rd w 1 e.d dl.length (bv dl) ∧ Rd w 1 e.m ml.length (uv ml) ∧ dl.length ≤ 140737488355328 ∧ ml.length ≤ 140737488355328
def ESok (w : World) (es : List EE) : Prop := ∀ e ∈ es, EOk w e
theorem EOk.keep {w w' : World} {e : EE} (h : EOk w e) (hb : Below w.heap.size w w') : EOk w' e := by
  obtain ⟨dl, ml, h1, h2, h3⟩ := h
  exact ⟨dl, ml, h1.keep hb, h2.keep hb, h3⟩
theorem ESok.keep {w w' : World} {es : List EE} (h : ESok w es) (hb : Below w.heap.size w w') : ESok w' es := fun e he => (h e he).keep hb
theorem ecells_one {w : World} {es : List EE} (h : ESok w es) : ∀ u ∈ ecells es, u.oneCell' = true := by
  intro u hu
  obtain ⟨e, he, hu⟩ := List.mem_flatMap.1 hu
  obtain ⟨dl, ml, h1, h2, _⟩ := h e he
  obtain ⟨a, c, hd⟩ := h1.form
  obtain ⟨a2, c2, hm⟩ := h2.form
  simp only [EE.cells, List.mem_cons, List.not_mem_nil, or_false] at hu
  rcases hu with rfl | rfl | rfl | rfl | rfl | rfl
  · rfl
  · rfl
  · rfl
  · rfl
  · rw [hd]; rfl
  · rw [hm]; rfl

/-- A slice of entries that are several cells each. -/
theorem Rd.atN {w : World} {size : Nat} {v : Value} {n : Nat} {xs : List Value} (h : Rd w size v n xs) (h0 : 0 < n) (hs : 0 < size) :
    ∃ b off c, v = .slice (some ⟨b, off, none⟩) n c ∧ n ≤ c ∧ ∀ j u, xs[j]? = some u → w.cell? ⟨b, off + j, none⟩ = some u := by
  obtain ⟨hl, h1, ⟨_, h2⟩ | ⟨ad, c, hv, hc, hcell⟩⟩ := h
  · omega
  · obtain ⟨b, off, spot⟩ := ad
    have hpos : 0 < xs.length := by rw [hl]; exact Nat.mul_pos h0 hs
    have h3 := hcell 0 xs[0] (by simp)
    have hspot : spot = none := by
      have := World.cell?_spot h3
      simpa [Addr.add] using this
    subst hspot
    refine ⟨b, off, c, hv, hc, fun j u hu => ?_⟩
    have := hcell j u hu
    rwa [Addr.add_lit] at this
/-- An entry's cells. -/
theorem ent_at {w : World} {v : Value} {es : List EE} (h : Rd w 6 v es.length (ecells es)) (i : Nat) (e : EE) (hi : es[i]? = some e) :
    ∃ b off c, v = .slice (some ⟨b, off, none⟩) es.length c ∧ es.length ≤ c ∧ b < w.heap.size ∧ w.cell? ⟨b, off + i * 6, none⟩ = some (.int .u64 e.t) ∧ w.cell? ⟨b, off + i * 6 + 1, none⟩ = some (.int .i64 e.k) ∧
      w.cell? ⟨b, off + i * 6 + 2, none⟩ = some (.int .u64 e.c) ∧ w.cell? ⟨b, off + i * 6 + 3, none⟩ = some (.int .u64 e.s) ∧ w.cell? ⟨b, off + i * 6 + 4, none⟩ = some e.d ∧ w.cell? ⟨b, off + i * 6 + 5, none⟩ = some e.m := by
  have hlt := (List.getElem?_eq_some_iff.1 hi).1
  obtain ⟨b, off, c, hv, hc, hcell⟩ := h.atN (by omega) (by omega)
  have g := ecells_get es i e hi
  have c0 := hcell _ _ (g 0 (by omega)); have c1 := hcell _ _ (g 1 (by omega)); have c2 := hcell _ _ (g 2 (by omega))
  have c3 := hcell _ _ (g 3 (by omega)); have c4 := hcell _ _ (g 4 (by omega)); have c5 := hcell _ _ (g 5 (by omega))
  simp only [← Nat.add_assoc, Nat.add_zero] at c0 c1 c2 c3 c4 c5
  exact ⟨b, off, c, hv, hc, World.block_lt_of_cell? _ _ c0, c0, c1, c2, c3, c4, c5⟩

/-- A part of a slice. -/
theorem Rd.sub {w : World} {size : Nat} {b off n c : Nat} {xs : List Value} (h : Rd w size (.slice (some ⟨b, off, none⟩) n c) n xs) (lo : Nat) (h1 : lo ≤ n) :
    Rd w size (.slice (some ⟨b, off + lo * size, none⟩) (n - lo) (c - lo)) (n - lo) (xs.drop (lo * size)) := by
  obtain ⟨hl, ho, ⟨h2, _⟩ | ⟨ad, c', hv, hc, hcell⟩⟩ := h
  · cases h2
  · cases hv
    refine ⟨by rw [List.length_drop, hl, Nat.sub_mul], fun u hu => ho u (List.mem_of_mem_drop hu), .inr ⟨_, _, rfl, by omega, fun j u hu => ?_⟩⟩
    rw [List.getElem?_drop] at hu
    have := hcell _ u hu
    rw [Addr.add_lit] at this ⊢
    rw [← this, Nat.add_assoc]
theorem Rd.takeN {w : World} {size : Nat} {a : Option Addr} {n c : Nat} {xs : List Value} (h : Rd w size (.slice a n c) n xs) (k : Nat) (hk : k ≤ n) : Rd w size (.slice a k c) k (xs.take (k * size)) := by
  obtain ⟨hl, ho, ⟨h2, h3⟩ | ⟨ad, c', hv, hc, hcell⟩⟩ := h
  · cases h2
    obtain rfl : k = 0 := by omega
    exact ⟨by simp, by simp, .inl ⟨rfl, rfl⟩⟩
  · cases hv
    refine ⟨by rw [List.length_take, hl]; exact Nat.min_eq_left (Nat.mul_le_mul_right _ hk), fun u hu => ho u (List.mem_of_mem_take hu), .inr ⟨_, _, rfl, by omega, fun j u hu => ?_⟩⟩
    have hj : j < k * size := by have := (List.getElem?_eq_some_iff.1 hu).1; simp at this; omega
    rw [List.getElem?_take_of_lt hj] at hu
    exact hcell j u hu

/-- The term of an index. -/
def termP (b bt : Nat) (es : List EE) (i : Nat) : Nat × Bool :=
  if i = b then (bt, true) else if b < i ∧ i ≤ b + es.length then (((es[i - b - 1]?).map EE.t).getD 0, true) else (0, false)
/-- The last term. -/
def lastT (bt : Nat) (es : List EE) : Nat := ((es.getLast?).map EE.t).getD bt
/-- Is a log that ends so at least as new? -/
def newerP (b bt : Nat) (es : List EE) (i t : Nat) : Bool := decide (lastT bt es < t) || (decide (t = lastT bt es) && decide (b + es.length ≤ i))
theorem lastT_nil (bt : Nat) : lastT bt [] = bt := rfl
theorem lastT_at (bt : Nat) (es : List EE) (e : EE) (h : es[es.length - 1]? = some e) : lastT bt es = e.t := by
  unfold lastT; rw [List.getLast?_eq_getElem?, h]; rfl
theorem termP_last (b bt : Nat) (es : List EE) : termP b bt es (b + es.length) = (lastT bt es, true) := by
  unfold termP lastT
  cases es with
  | nil => simp
  | cons e l =>
    rw [if_neg (by simp), if_pos (by simp), List.getLast?_eq_getElem?, show b + (e :: l).length - b - 1 = (e :: l).length - 1 by omega]
    have : (e :: l).length - 1 < (e :: l).length := by simp
    rw [List.getElem?_eq_getElem this]; rfl
theorem newer_total (b bt : Nat) (es : List EE) (b2 bt2 : Nat) (es2 : List EE) :
    (newerP b2 bt2 es2 (b + es.length) (lastT bt es) || newerP b bt es (b2 + es2.length) (lastT bt2 es2)) = true := by
  unfold newerP
  generalize lastT bt es = p; generalize lastT bt2 es2 = q
  simp only [Bool.or_eq_true, Bool.and_eq_true, decide_eq_true_eq]; omega
theorem newer_trans (b1 t1 : Nat) (e1 : List EE) (b2 t2 : Nat) (e2 : List EE) (b3 t3 : Nat) (e3 : List EE)
    (h1 : newerP b2 t2 e2 (b1 + e1.length) (lastT t1 e1) = true) (h2 : newerP b3 t3 e3 (b2 + e2.length) (lastT t2 e2) = true) : newerP b3 t3 e3 (b1 + e1.length) (lastT t1 e1) = true := by
  unfold newerP at *
  generalize lastT t1 e1 = p at *; generalize lastT t2 e2 = q at *; generalize lastT t3 e3 = r at *
  simp only [Bool.or_eq_true, Bool.and_eq_true, decide_eq_true_eq] at *; omega
theorem newer_refl (b bt : Nat) (es : List EE) : newerP b bt es (b + es.length) (lastT bt es) = true := by
  unfold newerP; simp
end Go.Proofs.YtckpnihpobfggaaDoor
