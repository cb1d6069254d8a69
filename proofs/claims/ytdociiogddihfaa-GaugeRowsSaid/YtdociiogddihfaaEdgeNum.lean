/- Ranks, classes and order of floats: plain; no program is named here. -/
import Derived.Test.YtdociiogddihfaaFloat
namespace Go.Proofs.Ytdociiogddihfaa

/-- The rank of a float's bits. -/
def rankP (x : Nat) : Int := if fnan x then 9218868437227405313 else if sgn x then -1 - (rung x : Int) else rung x
/-- The float of a rank. -/
def atP (r : Int) : Nat :=
  if 9218868437227405312 < r then 9221120237041090561 else if r < 0 then 9223372036854775808 + (-1 - max r (-9218868437227405313)).toNat else r.toNat
/-- Thresholds that a rank has passed. -/
def classP (x : Nat) : Nat :=
  let n := rankP x
  (if -9218868437227405312 ≤ n then 1 else 0) + (if -1 ≤ n then 1 else 0) + (if 0 ≤ n then 1 else 0) + (if 1 ≤ n then 1 else 0) + (if 9218868437227405312 ≤ n then 1 else 0) + (if 9218868437227405313 ≤ n then 1 else 0)
def ordP (x y : Nat) : Int := if rankP x < rankP y then -1 else if rankP y < rankP x then 1 else 0

/-- Is the one float less than the other? (Go's `<`.) -/
def fltB (x y : Nat) : Bool := !(fnan x || fnan y) && decide (fval x < fval y)

theorem rung_lt (x : Nat) : rung x < 9223372036854775808 := Nat.mod_lt _ (by decide)
theorem lt_order (x y : Nat) (hx : x < 18446744073709551616) (hy : y < 18446744073709551616) : (FloatKind.f64.format.order x y == some .lt) = fltB x y := by
  rw [fcmp x y hx hy]; unfold fltB
  cases h : (fnan x || fnan y) with
  | true => rfl
  | false =>
    simp only [Bool.false_eq_true, if_false, Bool.not_false, Bool.true_and, compare, compareOfLessAndEq]
    by_cases h1 : fval x < fval y
    · rw [if_pos h1, decide_eq_true h1]; rfl
    · rw [if_neg h1, decide_eq_false h1]; split <;> rfl
theorem gt_order (x y : Nat) (hx : x < 18446744073709551616) (hy : y < 18446744073709551616) : (FloatKind.f64.format.order x y == some .gt) = fltB y x := by
  rw [fcmp x y hx hy]; unfold fltB
  rw [Bool.or_comm (fnan y)]
  cases h : (fnan x || fnan y) with
  | true => rfl
  | false =>
    simp only [Bool.false_eq_true, if_false, Bool.not_false, Bool.true_and, compare, compareOfLessAndEq]
    by_cases h1 : fval x < fval y
    · rw [if_pos h1, decide_eq_false (by omega)]; rfl
    · rw [if_neg h1]
      by_cases h2 : fval x = fval y
      · rw [if_pos h2, decide_eq_false (by omega)]; rfl
      · rw [if_neg h2, decide_eq_true (by omega)]; rfl
theorem ne_order (x : Nat) (hx : x < 18446744073709551616) : (FloatKind.f64.format.order x x != some .eq) = fnan x := by
  rw [fcmp x x hx hx]
  cases h : fnan x with
  | true => rfl
  | false => simp [compare, compareOfLessAndEq]

theorem sgn_cases (x : Nat) (hx : x < 18446744073709551616) : (sgn x = true ∧ x = 9223372036854775808 + rung x) ∨ (sgn x = false ∧ x = rung x) := by
  unfold sgn rung
  by_cases h : 9223372036854775808 ≤ x
  · left; exact ⟨decide_eq_true h, by omega⟩
  · right; exact ⟨decide_eq_false h, by omega⟩

/-- The class by comparisons. -/
def classQ (x : Nat) : Nat :=
  if fnan x then 6 else if fltB 9218868437227405311 x then 5 else if fltB 0 x then 4 else if fltB x 18442240474082181119 then 0 else if fltB x 0 then 1 else if sgn x then 2 else 3
theorem fval_max : fval 9218868437227405311 = 9218868437227405311 := by decide
theorem fval_min : fval 18442240474082181119 = -9218868437227405311 := by decide
theorem fval_zero : fval 0 = 0 := by decide
theorem class_eq (x : Nat) (hx : x < 18446744073709551616) : classQ x = classP x := by
  have n1 : fnan 9218868437227405311 = false := by decide
  have n2 : fnan 18442240474082181119 = false := by decide
  have n3 : fnan 0 = false := by decide
  unfold classQ classP fltB
  simp only [n1, n2, n3, fval_max, fval_min, fval_zero]
  have hr := rung_lt x
  rcases Bool.eq_false_or_eq_true (fnan x) with h | h
  · have h2 := of_decide_eq_true h
    have : rankP x = 9218868437227405313 := by unfold rankP; rw [if_pos h]
    rw [if_pos h, this]; rfl
  · have h2 := of_decide_eq_false h
    rcases sgn_cases x hx with ⟨h3, h4⟩ | ⟨h3, h4⟩
    · have : rankP x = -1 - (rung x : Int) := by unfold rankP; rw [if_neg (by simp [h]), if_pos h3]
      have hv : fval x = -(rung x : Int) := by unfold fval side; rw [if_pos h3]
      rw [this, hv, h, h3]
      simp only [Bool.false_eq_true, if_false, Bool.or_self, Bool.not_false, Bool.true_and, decide_eq_true_eq, if_true]
      rw [if_neg (by omega), if_neg (by omega)]
      by_cases g1 : -(rung x : Int) < -9218868437227405311
      · rw [if_pos g1, if_neg (by omega), if_neg (by omega), if_neg (by omega), if_neg (by omega), if_neg (by omega), if_neg (by omega)]
      · rw [if_neg g1]
        by_cases g2 : -(rung x : Int) < 0
        · rw [if_pos g2, if_pos (by omega), if_neg (by omega), if_neg (by omega), if_neg (by omega), if_neg (by omega), if_neg (by omega)]
        · rw [if_neg g2, if_pos (by omega), if_pos (by omega), if_neg (by omega), if_neg (by omega), if_neg (by omega), if_neg (by omega)]
    · have : rankP x = (rung x : Int) := by unfold rankP; rw [if_neg (by simp [h]), if_neg (by simp [h3])]
      have hv : fval x = (rung x : Int) := by unfold fval side; rw [if_neg (by simp [h3])]
      rw [this, hv, h, h3]
      simp only [Bool.false_eq_true, if_false, Bool.or_self, Bool.not_false, Bool.true_and, decide_eq_true_eq]
      by_cases g1 : (9218868437227405311 : Int) < rung x
      · rw [if_pos g1, if_pos (by omega), if_pos (by omega), if_pos (by omega), if_pos (by omega), if_pos (by omega), if_neg (by omega)]
      · rw [if_neg g1]
        by_cases g2 : (0 : Int) < rung x
        · rw [if_pos g2, if_pos (by omega), if_pos (by omega), if_pos (by omega), if_pos (by omega), if_neg (by omega), if_neg (by omega)]
        · rw [if_neg g2, if_neg (by omega), if_neg (by omega), if_pos (by omega), if_pos (by omega), if_pos (by omega), if_neg (by omega), if_neg (by omega), if_neg (by omega)]

/-- The order by classes and comparisons. -/
def ordQ (x y : Nat) : Int := if classQ x < classQ y ∨ classQ x = classQ y ∧ fltB x y = true then -1 else if classQ y < classQ x ∨ fltB y x = true then 1 else 0

theorem rank_bounds (x : Nat) : -9218868437227405313 ≤ rankP x ∧ rankP x ≤ 9218868437227405313 := by
  unfold rankP
  rcases Bool.eq_false_or_eq_true (fnan x) with h | h
  · rw [if_pos h]; omega
  · have h2 := of_decide_eq_false h
    rw [if_neg (by simp [h])]
    split <;> omega
/-- A rank tells the class, and the value beside it. -/
theorem rank_val (x : Nat) (hx : x < 18446744073709551616) : (fnan x = true ∧ rankP x = 9218868437227405313) ∨ (fnan x = false ∧ rankP x < 0 ∧ fval x = rankP x + 1) ∨ (fnan x = false ∧ 0 ≤ rankP x ∧ rankP x ≤ 9218868437227405312 ∧ fval x = rankP x) := by
  rcases Bool.eq_false_or_eq_true (fnan x) with h | h
  · left; exact ⟨h, by unfold rankP; rw [if_pos h]⟩
  · right
    have h2 := of_decide_eq_false h
    rcases sgn_cases x hx with ⟨h3, h4⟩ | ⟨h3, h4⟩
    · left
      have : rankP x = -1 - (rung x : Int) := by unfold rankP; rw [if_neg (by simp [h]), if_pos h3]
      have hv : fval x = -(rung x : Int) := by unfold fval side; rw [if_pos h3]
      exact ⟨h, by omega, by omega⟩
    · right
      have : rankP x = (rung x : Int) := by unfold rankP; rw [if_neg (by simp [h]), if_neg (by simp [h3])]
      have hv : fval x = (rung x : Int) := by unfold fval side; rw [if_neg (by simp [h3])]
      exact ⟨h, by omega, by omega, by omega⟩
theorem flt_rank (x y : Nat) (hx : x < 18446744073709551616) (hy : y < 18446744073709551616) : fltB x y = true → rankP x < rankP y := by
  unfold fltB
  intro h
  simp only [Bool.and_eq_true, Bool.not_eq_true', Bool.or_eq_false_iff, decide_eq_true_eq] at h
  obtain ⟨⟨h1, h2⟩, h3⟩ := h
  rcases rank_val x hx with a | a | a <;> rcases rank_val y hy with b | b | b <;> simp_all <;> omega
theorem class_mono (x y : Nat) : rankP x ≤ rankP y → classP x ≤ classP y := by
  intro h
  unfold classP
  have m : ∀ t : Int, (if t ≤ rankP x then 1 else 0) ≤ (if t ≤ rankP y then 1 else 0) := by
    intro t
    by_cases h1 : t ≤ rankP x
    · rw [if_pos h1, if_pos (by omega)]; exact Nat.le_refl _
    · rw [if_neg h1]; exact Nat.zero_le _
  have := m (-9218868437227405312); have := m (-1); have := m 0; have := m 1; have := m 9218868437227405312; have := m 9218868437227405313
  simp only
  omega
theorem class_flt (x y : Nat) (hx : x < 18446744073709551616) (hy : y < 18446744073709551616) (h : rankP x < rankP y) (hc : classP x = classP y) : fltB x y = true := by
  have e0 : ∀ z, classP z = (if -9218868437227405312 ≤ rankP z then 1 else 0) + (if -1 ≤ rankP z then 1 else 0) + (if 0 ≤ rankP z then 1 else 0) + (if 1 ≤ rankP z then 1 else 0) + (if 9218868437227405312 ≤ rankP z then 1 else 0) + (if 9218868437227405313 ≤ rankP z then 1 else 0) := fun _ => rfl
  rw [e0, e0] at hc
  have m : ∀ t : Int, (if t ≤ rankP x then 1 else 0) ≤ (if t ≤ rankP y then 1 else 0) := by
    intro t
    by_cases h1 : t ≤ rankP x
    · rw [if_pos h1, if_pos (by omega)]; exact Nat.le_refl _
    · rw [if_neg h1]; exact Nat.zero_le _
  have m1 := m (-9218868437227405312); have m2 := m (-1); have m3 := m 0; have m4 := m 1; have m5 := m 9218868437227405312; have m6 := m 9218868437227405313
  have k3 : (0 ≤ rankP x ↔ 0 ≤ rankP y) := by
    constructor
    · intro _; omega
    · intro h2; by_cases h1 : 0 ≤ rankP x
      · exact h1
      · rw [if_neg h1, if_pos h2] at hc; omega
  have k6 : ¬ 9218868437227405313 ≤ rankP y := by
    intro h2
    have h1 : ¬ 9218868437227405313 ≤ rankP x := by have := rank_bounds y; omega
    rw [if_neg h1, if_pos h2] at hc; omega
  unfold fltB
  rcases rank_val x hx with a | a | a <;> rcases rank_val y hy with b | b | b
  all_goals first
    | (exfalso; omega)
    | (rw [a.1, b.1]; simp only [Bool.or_self, Bool.not_false, Bool.true_and, decide_eq_true_eq]; omega)
theorem ord_eq (x y : Nat) (hx : x < 18446744073709551616) (hy : y < 18446744073709551616) : ordQ x y = ordP x y := by
  unfold ordQ ordP
  rw [class_eq x hx, class_eq y hy]
  by_cases h1 : rankP x < rankP y
  · rw [if_pos h1, if_pos]
    have := class_mono x y (by omega)
    by_cases h2 : classP x < classP y
    · exact .inl h2
    · exact .inr ⟨by omega, class_flt x y hx hy h1 (by omega)⟩
  · rw [if_neg h1]
    have hm := class_mono y x (by omega)
    have hf : ¬ fltB x y = true := fun h => h1 (flt_rank x y hx hy h)
    rw [if_neg (by rintro (h | ⟨_, h⟩); · omega
                   · exact hf h)]
    by_cases h2 : rankP y < rankP x
    · rw [if_pos h2, if_pos]
      by_cases h3 : classP y < classP x
      · exact .inl h3
      · exact .inr (class_flt y x hy hx h2 (by omega))
    · rw [if_neg h2, if_neg]
      have hm2 := class_mono x y (by omega)
      have hf2 : ¬ fltB y x = true := fun h => h2 (flt_rank y x hy hx h)
      rintro (h | h)
      · omega
      · exact hf2 h
end Go.Proofs.Ytdociiogddihfaa
