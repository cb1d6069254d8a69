/- Float arithmetic up to the bits of a NaN: plain laws, and how an operation runs. -/
import Derived.Test.YtdociiogddihfaaEdgeBits
import Derived.Laws.FloatArith
namespace Go.Proofs.Ytdociiogddihfaa
open Ieee

/-- What an operation on floats may give: its bits, or some NaN. -/
def FR (op : BinOp) (x y r : Nat) : Prop := floatBits op .f64 x y = some r ∨ (floatBits op .f64 x y = none ∧ fnan r = true)
theorem nan_none (op : BinOp) (hop : op = .add ∨ op = .sub ∨ op = .mul ∨ op = .quo) (x y : Nat) (h : fnan x = true ∨ fnan y = true) : floatBits op .f64 x y = none := by
  have key : ∀ (a b : Datum), ((∃ s f, a = .nan s f) ∨ (∃ s f, b = .nan s f)) → a.sum b = none ∧ a.sum b.opposite = none ∧ a.product b = none ∧ ∀ n, Datum.quotient n a b = none := by
    intro a b hab
    rcases hab with ⟨s, f, rfl⟩ | ⟨s, f, rfl⟩
    · cases b <;> simp [Datum.sum, Datum.product, Datum.quotient]
    · cases a <;> simp [Datum.sum, Datum.product, Datum.quotient, Datum.opposite]
  have hk := key (double.read x) (double.read y) (h.imp (read_nan x) (read_nan y))
  rcases hop with rfl | rfl | rfl | rfl
  · show (((double.read x).sum (double.read y)).map _) = none
    rw [hk.1]; rfl
  · show (((double.read x).sum (double.read y).opposite).map _) = none
    rw [hk.2.1]; rfl
  · show (((double.read x).product (double.read y)).map _) = none
    rw [hk.2.2.1]; rfl
  · show ((Datum.quotient _ (double.read x) (double.read y)).map _) = none
    rw [hk.2.2.2]; rfl
theorem canB_nan (x : Nat) (h : fnan x = true) : canB x = 9221120237041090560 := by rw [canB, if_pos h]
theorem canB_num (x : Nat) (h : fnan x = false) : canB x = x := by rw [canB, if_neg (by simp [h])]
theorem canB_same {x y : Nat} (h : canB x = canB y) : (fnan x = true ∧ fnan y = true) ∨ (fnan x = false ∧ x = y) := by
  have hc : fnan 9221120237041090560 = true := by decide
  cases hx : fnan x with
  | true =>
    cases hy : fnan y with
    | true => exact .inl ⟨rfl, rfl⟩
    | false =>
      rw [canB_nan x hx, canB_num y hy] at h
      rw [← h, hc] at hy; cases hy
  | false =>
    cases hy : fnan y with
    | true =>
      rw [canB_num x hx, canB_nan y hy] at h
      rw [h, hc] at hx; cases hx
    | false =>
      rw [canB_num x hx, canB_num y hy] at h
      exact .inr ⟨rfl, h⟩
/-- Alike operands give alike results. -/
theorem FR.same {op : BinOp} (hop : op = .add ∨ op = .sub ∨ op = .mul ∨ op = .quo) {x y r x' y' r' : Nat} (h : FR op x y r) (h' : FR op x' y' r') (hx : canB x = canB x') (hy : canB y = canB y') : canB r = canB r' := by
  have hn : (floatBits op .f64 x y = none ∧ floatBits op .f64 x' y' = none) ∨ (x = x' ∧ y = y') := by
    rcases canB_same hx with ⟨h1, h2⟩ | ⟨_, h1⟩
    · exact .inl ⟨nan_none op hop x y (.inl h1), nan_none op hop x' y' (.inl h2)⟩
    · rcases canB_same hy with ⟨h3, h4⟩ | ⟨_, h3⟩
      · exact .inl ⟨nan_none op hop x y (.inr h3), nan_none op hop x' y' (.inr h4)⟩
      · exact .inr ⟨h1, h3⟩
  rcases hn with ⟨h1, h2⟩ | ⟨rfl, rfl⟩
  · rcases h with h | ⟨_, h⟩
    · rw [h1] at h; cases h
    · rcases h' with h' | ⟨_, h'⟩
      · rw [h2] at h'; cases h'
      · rw [canB_nan r h, canB_nan r' h']
  · rcases h with h | ⟨h0, h⟩
    · rcases h' with h' | ⟨h0', h'⟩
      · rw [h] at h'; rw [Option.some.inj h']
      · rw [h] at h0'; cases h0'
    · rcases h' with h' | ⟨_, h'⟩
      · rw [h0] at h'; cases h'
      · rw [canB_nan r h, canB_nan r' h']
theorem nan_word (t : Nat) : fnan ((t % 2) * 9223372036854775808 + 9218868437227405312 + 1 + (t / 2) % 4503599627370495) = true ∧ (t % 2) * 9223372036854775808 + 9218868437227405312 + 1 + (t / 2) % 4503599627370495 < 18446744073709551616 := by
  have h1 : t % 2 < 2 := Nat.mod_lt _ (by omega)
  have h2 : (t / 2) % 4503599627370495 < 4503599627370495 := Nat.mod_lt _ (by omega)
  generalize t % 2 = a at h1 ⊢
  generalize (t / 2) % 4503599627370495 = b at h2 ⊢
  refine ⟨decide_eq_true ?_, by omega⟩
  unfold rung
  omega
/-- An operation on floats. -/
theorem run_fop {P : Program} (op : BinOp) (hop : op = .add ∨ op = .sub ∨ op = .mul ∨ op = .quo) (t : TypeId) (x y : Nat) (w : World) :
    ∃ r n, (binOp op t (.float .f64 x) (.float .f64 y)).run P w = .ok (.float .f64 r) (w.drewN n) ∧ FR op x y r ∧ r < 18446744073709551616 := by
  cases hb : floatBits op .f64 x y with
  | some r =>
    refine ⟨r, 0, run_float_arith (P := P) w op t .f64 x y r hb, .inl hb, ?_⟩
    have := floatBits_wf hb
    simpa [Lit.wf] using this
  | none =>
    obtain ⟨q, hq⟩ : ∃ q, q = Question.nanBits .f64 x y := ⟨_, rfl⟩
    refine ⟨q.cut (w.tape w.drawn q), 1, ?_, .inr ⟨hb, ?_⟩, ?_⟩
    · unfold floatBits at hb
      subst hq
      rcases hop with rfl | rfl | rfl | rfl <;> simp [binOp, Op.floatArith, hb, Question.forced, World.drewN]
    · subst hq
      exact (nan_word (w.tape w.drawn (.nanBits .f64 x y))).1
    · subst hq
      exact (nan_word (w.tape w.drawn (.nanBits .f64 x y))).2
end Go.Proofs.Ytdociiogddihfaa
