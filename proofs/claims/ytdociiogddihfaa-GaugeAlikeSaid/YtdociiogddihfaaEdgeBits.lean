/- Turning the bits but the sign: plain. -/
import Derived.WalkKit
import Derived.Laws.BitsAllLaws
import Derived.Test.YtdociiogddihfaaEdgeNum
namespace Go.Proofs.Ytdociiogddihfaa
open Go.RowKit

theorem nat_xor_split (a b k : Nat) : a ^^^ b = 2 ^ k * (a / 2 ^ k ^^^ b / 2 ^ k) + (a % 2 ^ k ^^^ b % 2 ^ k) := by
  rw [← Nat.xor_div_two_pow, ← Nat.xor_mod_two_pow, Nat.div_add_mod]
theorem xor_ones (r k : Nat) (h : r < 2 ^ k) : r ^^^ (2 ^ k - 1) = 2 ^ k - 1 - r := by
  have h1 : (BitVec.allOnes k ^^^ BitVec.ofNat k r).toNat = 2 ^ k - 1 - r := by
    rw [BitVec.allOnes_xor, BitVec.toNat_not, BitVec.toNat_ofNat, Nat.mod_eq_of_lt h]
  rw [BitVec.toNat_xor, BitVec.toNat_allOnes, BitVec.toNat_ofNat, Nat.mod_eq_of_lt h, Nat.xor_comm] at h1
  exact h1
/-- The bits but the sign are turned where the sign is set. -/
theorem fold_u64 (X : Nat) (h : 9223372036854775808 ≤ X) (h2 : X < 18446744073709551616) : X ^^^ 9223372036854775807 = 9223372036854775808 + (18446744073709551615 - X) := by
  rw [nat_xor_split X 9223372036854775807 63]
  have e1 : X / 2 ^ 63 = 1 := by omega
  have e2 : (9223372036854775807 : Nat) / 2 ^ 63 = 0 := by decide
  have e3 : (9223372036854775807 : Nat) % 2 ^ 63 = 2 ^ 63 - 1 := by decide
  rw [e1, e2, e3, xor_ones _ _ (Nat.mod_lt _ (by decide))]
  simp only [Nat.xor_zero]
  omega
theorem fold_i64 (n : Int) (h1 : -9223372036854775808 ≤ n) (h2 : n < 0) : bits .xor .i64 n 9223372036854775807 = -9223372036854775809 - n := by
  show IntKind.i64.wrap ((BitVec.ofInt 64 n ^^^ BitVec.ofInt 64 9223372036854775807).toNat : Int) = _
  have e1 : (BitVec.ofInt 64 n).toNat = (n + 18446744073709551616).toNat := by
    rw [BitVec.toNat_ofInt]
    have : n % ((2 ^ 64 : Nat) : Int) = n + 18446744073709551616 := by
      show n % 18446744073709551616 = _
      omega
    rw [this]
  have e2 : (BitVec.ofInt 64 9223372036854775807).toNat = 9223372036854775807 := by decide
  rw [BitVec.toNat_xor, e1, e2, fold_u64 _ (by omega) (by omega), IntKind.wrap_i64]
  omega
theorem xor_zero_i64 (n : Int) (h1 : -9223372036854775808 ≤ n) (h2 : n ≤ 9223372036854775807) : bits .xor .i64 n 0 = n := by
  show IntKind.i64.wrap ((BitVec.ofInt 64 n ^^^ BitVec.ofInt 64 0).toNat : Int) = _
  have e2 : BitVec.ofInt 64 0 = 0#64 := by decide
  rw [e2, BitVec.xor_zero, BitVec.toNat_ofInt, IntKind.wrap_i64]
  show ((n % 18446744073709551616).toNat + 9223372036854775808 : Int) % 18446744073709551616 - _ = _
  omega
theorem fold_any (n : Int) (h1 : -9223372036854775808 ≤ n) (h2 : n ≤ 9223372036854775807) : bits .xor .i64 n (wrap64 (IntKind.u64.wrap (n / 9223372036854775808) / 2)) = if n < 0 then -9223372036854775809 - n else n := by
  by_cases h : n < 0
  · rw [if_pos h, show n / 9223372036854775808 = -1 by omega, show wrap64 (IntKind.u64.wrap (-1) / 2) = 9223372036854775807 by decide +kernel, fold_i64 n h1 h]
  · rw [if_neg h, show n / 9223372036854775808 = 0 by omega, show wrap64 (IntKind.u64.wrap 0 / 2) = 0 by decide +kernel, xor_zero_i64 n h1 h2]
theorem wrap64_bits (x : Nat) (hx : x < 18446744073709551616) : wrap64 (x : Int) = if sgn x then (rung x : Int) - 9223372036854775808 else (rung x : Int) := by
  unfold wrap64
  rcases sgn_cases x hx with ⟨h3, h4⟩ | ⟨h3, h4⟩
  · rw [if_pos h3]; have := rung_lt x; omega
  · rw [if_neg (by simp [h3])]; have := rung_lt x; omega
theorem rank_bits (x : Nat) (hx : x < 18446744073709551616) (h : fnan x = false) : bits .xor .i64 (wrap64 (x : Int)) (wrap64 (IntKind.u64.wrap (wrap64 (x : Int) / 9223372036854775808) / 2)) = rankP x := by
  have hw := wrap64_bits x hx
  have hr := rung_lt x
  unfold rankP
  rw [if_neg (by simp [h])]
  cases hs : sgn x with
  | true =>
    rw [hs, if_pos rfl] at hw
    rw [fold_any _ (by omega) (by omega), hw, if_pos (by omega), if_pos rfl]; omega
  | false =>
    rw [hs, if_neg (by simp)] at hw
    rw [fold_any _ (by omega) (by omega), hw, if_neg (by omega), if_neg (by simp)]

/-- Thresholds of classes. -/
def thr : Nat → Int
  | 0 => -9218868437227405312
  | 1 => -1
  | 2 => 0
  | 3 => 1
  | 4 => 9218868437227405312
  | _ => 9218868437227405313
def cntP (n : Int) : Nat → Nat
  | 0 => 0
  | k + 1 => cntP n k + (if thr k ≤ n then 1 else 0)
theorem cntP_six (x : Nat) : cntP (rankP x) 6 = classP x := by
  unfold classP
  simp only [cntP, thr]
  omega
theorem cntP_le (n : Int) (k : Nat) : cntP n k ≤ k := by
  induction k with
  | zero => exact Nat.le_refl _
  | succ k ih => unfold cntP; split <;> omega
theorem atP_lt (r : Int) (_h : r ≤ 9223372036854775807) : atP r < 18446744073709551616 := by
  unfold atP
  by_cases h1 : 9218868437227405312 < r
  · rw [if_pos h1]; omega
  · rw [if_neg h1]
    by_cases h2 : r < 0
    · rw [if_pos h2]; omega
    · rw [if_neg h2]; omega
theorem atP_neg (r : Int) (h : r < 0) : atP r = 9223372036854775808 + (-1 - max r (-9218868437227405313)).toNat := by
  unfold atP
  rw [if_neg (show ¬ (9218868437227405312 : Int) < r by omega), if_pos h]
theorem atP_pos (r : Int) (h : 0 ≤ r) (h2 : r ≤ 9218868437227405312) : atP r = r.toNat := by
  unfold atP
  rw [if_neg (show ¬ (9218868437227405312 : Int) < r by omega), if_neg (show ¬ r < 0 by omega)]
theorem at_bits (r : Int) (h1 : -9218868437227405313 ≤ r) (h2 : r ≤ 9218868437227405312) : IntKind.u64.wrap (bits .xor .i64 r (wrap64 (IntKind.u64.wrap (r / 9223372036854775808) / 2))) = (atP r : Int) := by
  rw [fold_any r (by omega) (by omega), IntKind.wrap_u64]
  by_cases h : r < 0
  · rw [if_pos h, atP_neg r h]; omega
  · rw [if_neg h, atP_pos r (by omega) h2]; omega
theorem atP_low (r : Int) (h : r < -9218868437227405313) : atP r = atP (-9218868437227405313) := by
  rw [atP_neg r (by omega), atP_neg _ (by omega)]; omega
theorem atP_high (r : Int) (h : 9218868437227405312 < r) : atP r = 9221120237041090561 := by
  unfold atP; rw [if_pos h]

theorem andNot_top (x : Nat) (hx : x < 18446744073709551616) : bits .andNot .u64 (x : Int) 9223372036854775808 = (rung x : Int) := by
  show IntKind.u64.wrap ((BitVec.ofInt 64 x &&& ~~~ BitVec.ofInt 64 9223372036854775808).toNat : Int) = _
  have e1 : (BitVec.ofInt 64 (x : Int)).toNat = x := by
    rw [BitVec.toNat_ofInt]; show ((x : Int) % 18446744073709551616).toNat = x; omega
  have e2 : (~~~ BitVec.ofInt 64 9223372036854775808).toNat = 2 ^ 63 - 1 := by decide
  rw [BitVec.toNat_and, e1, e2, Nat.and_two_pow_sub_one_eq_mod, IntKind.wrap_u64]
  unfold rung; omega
theorem or_top (r : Nat) (hr : r < 9223372036854775808) : bits .or .u64 (r : Int) 9223372036854775808 = ((9223372036854775808 + r : Nat) : Int) := by
  show IntKind.u64.wrap ((BitVec.ofInt 64 r ||| BitVec.ofInt 64 9223372036854775808).toNat : Int) = _
  have e1 : (BitVec.ofInt 64 (r : Int)).toNat = r := by
    rw [BitVec.toNat_ofInt]; show ((r : Int) % 18446744073709551616).toNat = r; omega
  have e2 : (BitVec.ofInt 64 9223372036854775808).toNat = 2 ^ 63 := by decide
  have e3 := Nat.two_pow_add_eq_or_of_lt (i := 63) (b := r) (by omega) 1
  rw [Nat.mul_one, Nat.or_comm] at e3
  rw [BitVec.toNat_or, e1, e2, ← e3, IntKind.wrap_u64]
  omega
/-- A float's bits, those of one NaN for all. -/
def canB (x : Nat) : Nat := if fnan x then 9221120237041090560 else x
theorem canB_lt (x : Nat) (hx : x < 18446744073709551616) : canB x < 18446744073709551616 := by unfold canB; split <;> omega
theorem rank_ref (x : Nat) (hx : x < 18446744073709551616) (h : fnan x = false) : rankP x = if classQ x < 3 then -1 - (rung x : Int) else (rung x : Int) := by
  rw [class_eq x hx]
  have hr := rung_lt x
  have e0 : classP x = (if -9218868437227405312 ≤ rankP x then 1 else 0) + (if -1 ≤ rankP x then 1 else 0) + (if 0 ≤ rankP x then 1 else 0) + (if 1 ≤ rankP x then 1 else 0) + (if 9218868437227405312 ≤ rankP x then 1 else 0) + (if 9218868437227405313 ≤ rankP x then 1 else 0) := rfl
  cases hs : sgn x with
  | true =>
    have h2 : rankP x = -1 - (rung x : Int) := by unfold rankP; rw [if_neg (by simp [h]), if_pos hs]
    rw [e0, h2, if_pos]
    split <;> split <;> split <;> split <;> split <;> split <;> omega
  | false =>
    have h2 : rankP x = (rung x : Int) := by unfold rankP; rw [if_neg (by simp [h]), if_neg (by simp [hs])]
    rw [e0, h2, if_neg]
    split <;> split <;> split <;> split <;> split <;> split <;> omega
end Go.Proofs.Ytdociiogddihfaa
