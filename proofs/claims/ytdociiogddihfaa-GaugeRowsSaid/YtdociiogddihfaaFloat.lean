/- The order of float64s by their bits: no program is named here. -/
import Derived.WalkLawsBesides
namespace Go.Proofs.Ytdociiogddihfaa
open Ieee

/-- A float's bits without the sign. -/
def rung (x : Nat) : Nat := x % 9223372036854775808
/-- Is it below zero, by its sign? -/
def sgn (x : Nat) : Bool := decide (9223372036854775808 ≤ x)
/-- Where a float that is a number stands. -/
def side (s : Bool) (r : Nat) : Int := if s then -(r : Int) else r
def fval (x : Nat) : Int := side (sgn x) (rung x)
def fnan (x : Nat) : Bool := decide (9218868437227405312 < rung x)

def fmag (r : Nat) : Nat := if r < 4503599627370496 then r else 4503599627370496 + r % 4503599627370496
def fexp (r : Nat) : Nat := r / 4503599627370496 - 1
def fV (r : Nat) : Nat := fmag r * 2 ^ fexp r

theorem fV_succ (r : Nat) : fV r < fV (r + 1) := by
  unfold fV fmag fexp
  by_cases h : r + 1 < 4503599627370496
  · rw [if_pos h, if_pos (by omega), show r / 4503599627370496 - 1 = 0 by omega, show (r + 1) / 4503599627370496 - 1 = 0 by omega]; omega
  · rw [if_neg h]
    by_cases h2 : r < 4503599627370496
    · rw [if_pos h2]
      obtain rfl : r = 4503599627370495 := by omega
      decide
    · rw [if_neg h2]
      by_cases h3 : r % 4503599627370496 + 1 < 4503599627370496
      · rw [show (r + 1) / 4503599627370496 = r / 4503599627370496 by omega, show (r + 1) % 4503599627370496 = r % 4503599627370496 + 1 by omega]
        exact Nat.mul_lt_mul_of_pos_right (by omega) (Nat.two_pow_pos _)
      · rw [show (r + 1) / 4503599627370496 - 1 = (r / 4503599627370496 - 1) + 1 by omega, show (r + 1) % 4503599627370496 = 0 by omega, show r % 4503599627370496 = 4503599627370495 by omega, Nat.pow_succ]
        have := Nat.two_pow_pos (r / 4503599627370496 - 1)
        omega
theorem fV_lt {r s : Nat} (h : r < s) : fV r < fV s := by
  induction s with
  | zero => omega
  | succ s ih =>
    by_cases e : r = s
    · subst e; exact fV_succ r
    · exact Nat.lt_trans (ih (by omega)) (fV_succ s)
theorem fV_iff (r s : Nat) : fV r < fV s ↔ r < s := by
  refine ⟨fun h => ?_, fV_lt⟩
  by_cases e : r = s
  · subst e; omega
  · by_cases h2 : r < s
    · exact h2
    · have := fV_lt (r := s) (s := r) (by omega); omega
theorem fV_zero : fV 0 = 0 := by decide
theorem fV_eq (r s : Nat) : fV r = fV s ↔ r = s := by
  have := fV_iff r s
  have := fV_iff s r
  omega

theorem compare_iff {a b c d : Int} (h1 : a < b ↔ c < d) (h2 : a = b ↔ c = d) : compare a b = compare c d := by
  simp only [compare, compareOfLessAndEq]
  by_cases e1 : a < b
  · rw [if_pos e1, if_pos (h1.1 e1)]
  · rw [if_neg e1, if_neg (fun h => e1 (h1.2 h))]
    by_cases e2 : a = b
    · rw [if_pos e2, if_pos (h2.1 e2)]
    · rw [if_neg e2, if_neg (fun h => e2 (h2.2 h))]

theorem side_mul (s : Bool) (m k : Nat) : side s (m * k) = side s m * k := by
  cases s <;> simp [side, Int.neg_mul]
theorem signed_side (s : Bool) (m k : Nat) : signed s m k = side s (m * 2 ^ k) := by
  cases s <;> simp [signed, side, Nat.shiftLeft_eq]
theorem side_cmp (s t : Bool) (r q : Nat) : compare (side s (fV r)) (side t (fV q)) = compare (side s r) (side t q) := by
  have h1 := fV_iff r q
  have h2 := fV_iff q r
  have h3 := fV_eq r 0
  have h4 := fV_eq q 0
  have h5 := fV_eq r q
  rw [fV_zero] at h3 h4
  refine compare_iff ?_ ?_ <;> cases s <;> cases t <;> simp only [side, if_true, if_false, Bool.false_eq_true] <;> omega
theorem cmp_scale (a b : Int) (k : Nat) (hk : 0 < k) : compare a b = compare (a * k) (b * k) := by
  have hk' : (0 : Int) < k := by omega
  refine compare_iff ?_ ?_
  · exact ⟨fun h => Int.mul_lt_mul_of_pos_right h hk', fun h => Int.lt_of_mul_lt_mul_right h (Int.le_of_lt hk')⟩
  · exact ⟨fun h => by rw [h], fun h => Int.eq_of_mul_eq_mul_right (by omega) h⟩

theorem read_number (x : Nat) (hx : x < 18446744073709551616) (h : rung x < 9218868437227405312) : double.read x = .number (sgn x) (fmag (rung x)) (-1074 + (fexp (rung x) : Nat)) := by
  have hb : double.binade = 4503599627370496 := rfl
  have hi : double.infRung = 9218868437227405312 := by decide
  have hs : double.signWeight = 9223372036854775808 := by decide
  have hl : double.leastPlace = -1074 := by decide
  have hsg : (x / 9223372036854775808 % 2 == 1) = sgn x := by
    unfold sgn; rw [Bool.eq_iff_iff]; simp; omega
  unfold Format.read
  simp only [hb, hi, hs, hl, hsg]
  change (if rung x < _ then _ else _) = _
  unfold rung at h ⊢
  unfold fmag fexp
  by_cases h1 : x % 9223372036854775808 < 4503599627370496
  · rw [if_pos h1, if_pos h1, show x % 9223372036854775808 / 4503599627370496 - 1 = 0 by omega]; rfl
  · rw [if_neg h1, if_neg h1, if_pos h]
theorem read_inf (x : Nat) (hx : x < 18446744073709551616) (h : rung x = 9218868437227405312) : double.read x = .infinity (sgn x) := by
  have hb : double.binade = 4503599627370496 := rfl
  have hi : double.infRung = 9218868437227405312 := by decide
  have hs : double.signWeight = 9223372036854775808 := by decide
  have hsg : (x / 9223372036854775808 % 2 == 1) = sgn x := by
    unfold sgn; rw [Bool.eq_iff_iff]; simp; omega
  unfold Format.read
  simp only [hb, hi, hs, hsg]
  unfold rung at h
  rw [if_neg (by omega), if_neg (by omega), if_pos h]
theorem read_nan (x : Nat) (h : fnan x = true) : ∃ s f, double.read x = .nan s f := by
  have hb : double.binade = 4503599627370496 := rfl
  have hi : double.infRung = 9218868437227405312 := by decide
  have hs : double.signWeight = 9223372036854775808 := by decide
  unfold fnan rung at h
  have h' := of_decide_eq_true h
  unfold Format.read
  simp only [hb, hi, hs]
  rw [if_neg (by omega), if_neg (by omega), if_neg (by omega)]
  exact ⟨_, _, rfl⟩

theorem fcmp (x y : Nat) (hx : x < 18446744073709551616) (hy : y < 18446744073709551616) :
    FloatKind.f64.format.order x y = if fnan x || fnan y then none else some (compare (fval x) (fval y)) := by
  show (double.read x).order (double.read y) = _
  cases n1 : fnan x with
  | true => obtain ⟨s, f, h⟩ := read_nan x n1; rw [h]; rfl
  | false =>
    cases n2 : fnan y with
    | true =>
      obtain ⟨s, f, h⟩ := read_nan y n2; rw [h]
      cases double.read x <;> rfl
    | false =>
      have r1 : rung x ≤ 9218868437227405312 := by have := of_decide_eq_false n1; omega
      have r2 : rung y ≤ 9218868437227405312 := by have := of_decide_eq_false n2; omega
      simp only [Bool.or_self, Bool.false_eq_true, if_false]
      unfold fval
      by_cases i1 : rung x = 9218868437227405312
      · rw [read_inf x hx i1]
        by_cases i2 : rung y = 9218868437227405312
        · rw [read_inf y hy i2, i1, i2]
          cases sgn x <;> cases sgn y <;> decide
        · rw [read_number y hy (by omega), i1]
          refine congrArg some ?_
          cases sgn x <;> cases sgn y <;> simp only [side, if_true, if_false, Bool.false_eq_true, compare, compareOfLessAndEq] <;> first | (rw [if_pos (by omega)]) | (rw [if_neg (by omega), if_neg (by omega)])
      · by_cases i2 : rung y = 9218868437227405312
        · rw [read_inf y hy i2, read_number x hx (by omega), i2]
          refine congrArg some ?_
          cases sgn x <;> cases sgn y <;> simp only [side, if_true, if_false, Bool.false_eq_true, compare, compareOfLessAndEq] <;> first | (rw [if_pos (by omega)]) | (rw [if_neg (by omega), if_neg (by omega)])
        · rw [read_number x hx (by omega), read_number y hy (by omega)]
          refine congrArg some ?_
          obtain ⟨k, hk⟩ : ∃ k, k = min (fexp (rung x)) (fexp (rung y)) := ⟨_, rfl⟩
          have e1 : (-1074 + (fexp (rung x) : Int) - min (-1074 + (fexp (rung x) : Int)) (-1074 + (fexp (rung y) : Int))).toNat = fexp (rung x) - k := by omega
          have e2 : (-1074 + (fexp (rung y) : Int) - min (-1074 + (fexp (rung x) : Int)) (-1074 + (fexp (rung y) : Int))).toNat = fexp (rung y) - k := by omega
          show compare (signed _ _ _) (signed _ _ _) = _
          rw [e1, e2, signed_side, signed_side, cmp_scale _ _ (2 ^ k) (Nat.two_pow_pos _), ← side_mul, ← side_mul, Nat.mul_assoc, Nat.mul_assoc, ← Nat.pow_add, ← Nat.pow_add,
            Nat.sub_add_cancel (by omega), Nat.sub_add_cancel (by omega)]
          exact side_cmp _ _ _ _
end Go.Proofs.Ytdociiogddihfaa
