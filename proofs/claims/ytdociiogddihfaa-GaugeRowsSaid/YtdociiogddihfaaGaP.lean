import Derived.WalkKit
import Derived.Laws.BitsAllLaws
import Derived.Test.YtdociiogddihfaaEdgeNum
import Derived.Laws.FloatArith
/- Turning the bits but the sign: plain. -/
namespace Go.Proofs.Ytdociiogddihfaa
open Go.RowKit

theorem nat_xor_split (a b k : Nat) : a ^^^ b = 2 ^ k * (a / 2 ^ k ^^^ b / 2 ^ k) + (a % 2 ^ k ^^^ b % 2 ^ k) := by
  rw [← Nat.xor_div_two_pow, ← Nat.xor_mod_two_pow, Nat.div_add_mod]
theorem xor_ones (r k : Nat) (h : r < 2 ^ k) : r ^^^ (2 ^ k - 1) = 2 ^ k - 1 - r := by
  have h1 : (BitVec.allOnes k ^^^ BitVec.ofNat k r).toNat = 2 ^ k - 1 - r := by
    rw [BitVec.allOnes_xor, BitVec.toNat_not, BitVec.toNat_ofNat, Nat.mod_eq_of_lt h]
  rw [BitVec.toNat_xor, BitVec.toNat_allOnes, BitVec.toNat_ofNat, Nat.mod_eq_of_lt h, Nat.xor_comm] at h1
  exact h1
/-- The bits but the sign are turned where the sign is set. -/
theorem fold_u64 (X : Nat) (h : 9223372036854775808 ≤ X) (h2 : X < 18446744073709551616) : X ^^^ 9223372036854775807 = 9223372036854775808 + (18446744073709551615 - X) := by
  rw [nat_xor_split X 9223372036854775807 63]
  have e1 : X / 2 ^ 63 = 1 := by omega
  have e2 : (9223372036854775807 : Nat) / 2 ^ 63 = 0 := by decide
  have e3 : (9223372036854775807 : Nat) % 2 ^ 63 = 2 ^ 63 - 1 := by decide
  rw [e1, e2, e3, xor_ones _ _ (Nat.mod_lt _ (by decide))]
  simp only [Nat.xor_zero]
  omega
theorem fold_i64 (n : Int) (h1 : -9223372036854775808 ≤ n) (h2 : n < 0) : bits .xor .i64 n 9223372036854775807 = -9223372036854775809 - n := by
  show IntKind.i64.wrap ((BitVec.ofInt 64 n ^^^ BitVec.ofInt 64 9223372036854775807).toNat : Int) = _
  have e1 : (BitVec.ofInt 64 n).toNat = (n + 18446744073709551616).toNat := by
    rw [BitVec.toNat_ofInt]
    have : n % ((2 ^ 64 : Nat) : Int) = n + 18446744073709551616 := by
      show n % 18446744073709551616 = _
      omega
    rw [this]
  have e2 : (BitVec.ofInt 64 9223372036854775807).toNat = 9223372036854775807 := by decide
  rw [BitVec.toNat_xor, e1, e2, fold_u64 _ (by omega) (by omega), IntKind.wrap_i64]
  omega
theorem xor_zero_i64 (n : Int) (h1 : -9223372036854775808 ≤ n) (h2 : n ≤ 9223372036854775807) : bits .xor .i64 n 0 = n := by
  show IntKind.i64.wrap ((BitVec.ofInt 64 n ^^^ BitVec.ofInt 64 0).toNat : Int) = _
  have e2 : BitVec.ofInt 64 0 = 0#64 := by decide
  rw [e2, BitVec.xor_zero, BitVec.toNat_ofInt, IntKind.wrap_i64]
  show ((n % 18446744073709551616).toNat + 9223372036854775808 : Int) % 18446744073709551616 - _ = _
  omega
theorem fold_any (n : Int) (h1 : -9223372036854775808 ≤ n) (h2 : n ≤ 9223372036854775807) : bits .xor .i64 n (wrap64 (IntKind.u64.wrap (n / 9223372036854775808) / 2)) = if n < 0 then -9223372036854775809 - n else n := by
  by_cases h : n < 0
  · rw [if_pos h, show n / 9223372036854775808 = -1 by omega, show wrap64 (IntKind.u64.wrap (-1) / 2) = 9223372036854775807 by decide +kernel, fold_i64 n h1 h]
  · rw [if_neg h, show n / 9223372036854775808 = 0 by omega, show wrap64 (IntKind.u64.wrap 0 / 2) = 0 by decide +kernel, xor_zero_i64 n h1 h2]
theorem wrap64_bits (x : Nat) (hx : x < 18446744073709551616) : wrap64 (x : Int) = if sgn x then (rung x : Int) - 9223372036854775808 else (rung x : Int) := by
  unfold wrap64
  rcases sgn_cases x hx with ⟨h3, h4⟩ | ⟨h3, h4⟩
  · rw [if_pos h3]; have := rung_lt x; omega
  · rw [if_neg (by simp [h3])]; have := rung_lt x; omega
theorem rank_bits (x : Nat) (hx : x < 18446744073709551616) (h : fnan x = false) : bits .xor .i64 (wrap64 (x : Int)) (wrap64 (IntKind.u64.wrap (wrap64 (x : Int) / 9223372036854775808) / 2)) = rankP x := by
  have hw := wrap64_bits x hx
  have hr := rung_lt x
  unfold rankP
  rw [if_neg (by simp [h])]
  cases hs : sgn x with
  | true =>
    rw [hs, if_pos rfl] at hw
    rw [fold_any _ (by omega) (by omega), hw, if_pos (by omega), if_pos rfl]; omega
  | false =>
    rw [hs, if_neg (by simp)] at hw
    rw [fold_any _ (by omega) (by omega), hw, if_neg (by omega), if_neg (by simp)]

theorem atP_lt (r : Int) (_h : r ≤ 9223372036854775807) : atP r < 18446744073709551616 := by
  unfold atP
  by_cases h1 : 9218868437227405312 < r
  · rw [if_pos h1]; omega
  · rw [if_neg h1]
    by_cases h2 : r < 0
    · rw [if_pos h2]; omega
    · rw [if_neg h2]; omega
theorem atP_neg (r : Int) (h : r < 0) : atP r = 9223372036854775808 + (-1 - max r (-9218868437227405313)).toNat := by
  unfold atP
  rw [if_neg (show ¬ (9218868437227405312 : Int) < r by omega), if_pos h]
theorem atP_pos (r : Int) (h : 0 ≤ r) (h2 : r ≤ 9218868437227405312) : atP r = r.toNat := by
  unfold atP
  rw [if_neg (show ¬ (9218868437227405312 : Int) < r by omega), if_neg (show ¬ r < 0 by omega)]
theorem at_bits (r : Int) (h1 : -9218868437227405313 ≤ r) (h2 : r ≤ 9218868437227405312) : IntKind.u64.wrap (bits .xor .i64 r (wrap64 (IntKind.u64.wrap (r / 9223372036854775808) / 2))) = (atP r : Int) := by
  rw [fold_any r (by omega) (by omega), IntKind.wrap_u64]
  by_cases h : r < 0
  · rw [if_pos h, atP_neg r h]; omega
  · rw [if_neg h, atP_pos r (by omega) h2]; omega
theorem atP_low (r : Int) (h : r < -9218868437227405313) : atP r = atP (-9218868437227405313) := by
  rw [atP_neg r (by omega), atP_neg _ (by omega)]; omega
theorem atP_high (r : Int) (h : 9218868437227405312 < r) : atP r = 9221120237041090561 := by
  unfold atP; rw [if_pos h]

/-- A float's bits, those of one NaN for all. -/
def canB (x : Nat) : Nat := if fnan x then 9221120237041090560 else x
theorem canB_lt (x : Nat) (hx : x < 18446744073709551616) : canB x < 18446744073709551616 := by unfold canB; split <;> omega
end Go.Proofs.Ytdociiogddihfaa

/- Float arithmetic up to the bits of a NaN: plain laws, and how an operation runs. -/
namespace Go.Proofs.Ytdociiogddihfaa
open Ieee

/-- What an operation on floats may give: its bits, or some NaN. -/
def FR (op : BinOp) (x y r : Nat) : Prop := floatBits op .f64 x y = some r ∨ (floatBits op .f64 x y = none ∧ fnan r = true)
theorem nan_none (op : BinOp) (hop : op = .add ∨ op = .sub ∨ op = .mul ∨ op = .quo) (x y : Nat) (h : fnan x = true ∨ fnan y = true) : floatBits op .f64 x y = none := by
  have key : ∀ (a b : Datum), ((∃ s f, a = .nan s f) ∨ (∃ s f, b = .nan s f)) → a.sum b = none ∧ a.sum b.opposite = none ∧ a.product b = none ∧ ∀ n, Datum.quotient n a b = none := by
    intro a b hab
    rcases hab with ⟨s, f, rfl⟩ | ⟨s, f, rfl⟩
    · cases b <;> simp [Datum.sum, Datum.product, Datum.quotient]
    · cases a <;> simp [Datum.sum, Datum.product, Datum.quotient, Datum.opposite]
  have hk := key (double.read x) (double.read y) (h.imp (read_nan x) (read_nan y))
  rcases hop with rfl | rfl | rfl | rfl
  · show (((double.read x).sum (double.read y)).map _) = none
    rw [hk.1]; rfl
  · show (((double.read x).sum (double.read y).opposite).map _) = none
    rw [hk.2.1]; rfl
  · show (((double.read x).product (double.read y)).map _) = none
    rw [hk.2.2.1]; rfl
  · show ((Datum.quotient _ (double.read x) (double.read y)).map _) = none
    rw [hk.2.2.2]; rfl
theorem canB_nan (x : Nat) (h : fnan x = true) : canB x = 9221120237041090560 := by rw [canB, if_pos h]
theorem canB_num (x : Nat) (h : fnan x = false) : canB x = x := by rw [canB, if_neg (by simp [h])]
theorem canB_same {x y : Nat} (h : canB x = canB y) : (fnan x = true ∧ fnan y = true) ∨ (fnan x = false ∧ x = y) := by
  have hc : fnan 9221120237041090560 = true := by decide
  cases hx : fnan x with
  | true =>
    cases hy : fnan y with
    | true => exact .inl ⟨rfl, rfl⟩
    | false =>
      rw [canB_nan x hx, canB_num y hy] at h
      rw [← h, hc] at hy; cases hy
  | false =>
    cases hy : fnan y with
    | true =>
      rw [canB_num x hx, canB_nan y hy] at h
      rw [h, hc] at hx; cases hx
    | false =>
      rw [canB_num x hx, canB_num y hy] at h
      exact .inr ⟨rfl, h⟩
/-- Alike operands give alike results. -/
theorem FR.same {op : BinOp} (hop : op = .add ∨ op = .sub ∨ op = .mul ∨ op = .quo) {x y r x' y' r' : Nat} (h : FR op x y r) (h' : FR op x' y' r') (hx : canB x = canB x') (hy : canB y = canB y') : canB r = canB r' := by
  have hn : (floatBits op .f64 x y = none ∧ floatBits op .f64 x' y' = none) ∨ (x = x' ∧ y = y') := by
    rcases canB_same hx with ⟨h1, h2⟩ | ⟨_, h1⟩
    · exact .inl ⟨nan_none op hop x y (.inl h1), nan_none op hop x' y' (.inl h2)⟩
    · rcases canB_same hy with ⟨h3, h4⟩ | ⟨_, h3⟩
      · exact .inl ⟨nan_none op hop x y (.inr h3), nan_none op hop x' y' (.inr h4)⟩
      · exact .inr ⟨h1, h3⟩
  rcases hn with ⟨h1, h2⟩ | ⟨rfl, rfl⟩
  · rcases h with h | ⟨_, h⟩
    · rw [h1] at h; cases h
    · rcases h' with h' | ⟨_, h'⟩
      · rw [h2] at h'; cases h'
      · rw [canB_nan r h, canB_nan r' h']
  · rcases h with h | ⟨h0, h⟩
    · rcases h' with h' | ⟨h0', h'⟩
      · rw [h] at h'; rw [Option.some.inj h']
      · rw [h] at h0'; cases h0'
    · rcases h' with h' | ⟨_, h'⟩
      · rw [h0] at h'; cases h'
      · rw [canB_nan r h, canB_nan r' h']
theorem nan_word (t : Nat) : fnan ((t % 2) * 9223372036854775808 + 9218868437227405312 + 1 + (t / 2) % 4503599627370495) = true ∧ (t % 2) * 9223372036854775808 + 9218868437227405312 + 1 + (t / 2) % 4503599627370495 < 18446744073709551616 := by
  have h1 : t % 2 < 2 := Nat.mod_lt _ (by omega)
  have h2 : (t / 2) % 4503599627370495 < 4503599627370495 := Nat.mod_lt _ (by omega)
  generalize t % 2 = a at h1 ⊢
  generalize (t / 2) % 4503599627370495 = b at h2 ⊢
  refine ⟨decide_eq_true ?_, by omega⟩
  unfold rung
  omega
/-- An operation on floats. -/
theorem run_fop {P : Program} (op : BinOp) (hop : op = .add ∨ op = .sub ∨ op = .mul ∨ op = .quo) (t : TypeId) (x y : Nat) (w : World) :
    ∃ r n, (binOp op t (.float .f64 x) (.float .f64 y)).run P w = .ok (.float .f64 r) (w.drewN n) ∧ FR op x y r ∧ r < 18446744073709551616 := by
  cases hb : floatBits op .f64 x y with
  | some r =>
    refine ⟨r, 0, run_float_arith (P := P) w op t .f64 x y r hb, .inl hb, ?_⟩
    have := floatBits_wf hb
    simpa [Lit.wf] using this
  | none =>
    obtain ⟨q, hq⟩ : ∃ q, q = Question.nanBits .f64 x y := ⟨_, rfl⟩
    refine ⟨q.cut (w.tape w.drawn q), 1, ?_, .inr ⟨hb, ?_⟩, ?_⟩
    · unfold floatBits at hb
      subst hq
      rcases hop with rfl | rfl | rfl | rfl <;> simp [binOp, Op.floatArith, hb, Question.forced, World.drewN]
    · subst hq
      exact (nan_word (w.tape w.drawn (.nanBits .f64 x y))).1
    · subst hq
      exact (nan_word (w.tape w.drawn (.nanBits .f64 x y))).2
end Go.Proofs.Ytdociiogddihfaa
