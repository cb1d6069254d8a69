/- Plain laws of a number's bytes: no program is named here. -/
import Derived.Test.YtdociiogddihfaaBase
import Derived.Lib.Strings
namespace Go.Proofs.Ytdociiogddihfaa
open Go.RowKit

/-- The number that bytes are, the highest first. -/
def vl : List UInt8 → Nat
  | [] => 0
  | c :: l => c.toNat * 256 ^ l.length + vl l
theorem vl_lt : ∀ l : List UInt8, vl l < 256 ^ l.length
  | [] => by simp [vl]
  | c :: l => by
    have := vl_lt l
    have hc : c.toNat < 256 := c.toNat_lt
    simp only [vl, List.length_cons, Nat.pow_succ]
    have : c.toNat * 256 ^ l.length ≤ 255 * 256 ^ l.length := Nat.mul_le_mul_right _ (by omega)
    omega
theorem vl_snoc (l : List UInt8) (c : UInt8) : vl (l ++ [c]) = vl l * 256 + c.toNat := by
  induction l with
  | nil => simp [vl]
  | cons d l ih => simp only [List.cons_append, vl, ih, List.length_append, List.length_singleton, Nat.pow_succ, Nat.add_mul, Nat.mul_assoc]; omega
theorem vl_be (k n : Nat) : vl (be k n) = n % 256 ^ k := by
  induction k generalizing n with
  | zero => simp [be, vl, Nat.mod_one]
  | succ k ih =>
    rw [be, vl_snoc, ih, u8_nat _ (by omega), Nat.pow_succ, Nat.mul_comm (256 ^ k) 256, Nat.mod_mul]
    omega
theorem be_vl (l : List UInt8) : be l.length (vl l) = l := by
  induction h : l.length generalizing l with
  | zero => simp [be, List.eq_nil_of_length_eq_zero h]
  | succ k ih =>
    have hne : l ≠ [] := by intro e; subst e; simp at h
    obtain ⟨l', c, rfl⟩ : ∃ l' c, l = l' ++ [c] := ⟨l.dropLast, l.getLast hne, (List.dropLast_concat_getLast hne).symm⟩
    have hk : l'.length = k := by simpa using h
    rw [be, vl_snoc]
    have hc : c.toNat < 256 := c.toNat_lt
    rw [show (vl l' * 256 + c.toNat) / 256 = vl l' by omega, show (vl l' * 256 + c.toNat) % 256 = c.toNat by omega, ih l' hk]
    simp
theorem lt_nk (n : Nat) (h : n < 2 ^ 64) : n < 256 ^ nk n := by
  induction n using Nat.strongRecOn with
  | _ n ih =>
    by_cases h0 : n = 0
    · subst h0; simp [nk_zero]
    · rw [nk_pos n (by omega) h, Nat.pow_succ]
      have := ih (n / 256) (by omega) (by omega)
      omega
theorem nk_ge (n : Nat) (h0 : 0 < n) (h : n < 2 ^ 64) : 256 ^ (nk n - 1) ≤ n := by
  induction n using Nat.strongRecOn with
  | _ n ih =>
    rw [nk_pos n h0 h]
    by_cases h1 : n / 256 = 0
    · rw [h1, nk_zero]; simp; omega
    · have := ih (n / 256) (by omega) (by omega) (by omega)
      have h2 := nk_pos (n / 256) (by omega) (by omega)
      rw [show nk (n / 256) + 1 - 1 = (nk (n / 256) - 1) + 1 by omega, Nat.pow_succ]
      omega
theorem vl_numB (n : Nat) (h : n < 2 ^ 64) : vl (be (nk n) n) = n := by rw [vl_be, Nat.mod_eq_of_lt (lt_nk n h)]

theorem less_val : ∀ (x y : List UInt8), x.length = y.length → Op.bytesLess x y = decide (vl x < vl y)
  | [], [], _ => by simp [Op.bytesLess, vl]
  | a :: x, b :: y, h => by
    have hl : x.length = y.length := by simpa using h
    have ih := less_val x y hl
    have hx := vl_lt x
    have hy := vl_lt y
    rw [hl] at hx
    simp only [Op.bytesLess, ih, vl, hl]
    rcases Nat.lt_trichotomy a.toNat b.toNat with h1 | h1 | h1
    · have h2 : a < b := UInt8.lt_iff_toNat_lt.2 h1
      have h3 : (a.toNat + 1) * 256 ^ y.length ≤ b.toNat * 256 ^ y.length := Nat.mul_le_mul_right _ h1
      rw [Nat.add_mul] at h3
      simp only [h2, decide_true, Bool.true_or]
      symm; simp; omega
    · have h2 : a = b := UInt8.toNat_inj.1 h1
      subst h2
      simp
    · have h2 : ¬ a < b := fun h => by have := UInt8.lt_iff_toNat_lt.1 h; omega
      have h4 : (a == b) = false := by simp; intro e; subst e; omega
      have h3 : (b.toNat + 1) * 256 ^ y.length ≤ a.toNat * 256 ^ y.length := Nat.mul_le_mul_right _ h1
      rw [Nat.add_mul] at h3
      simp only [h2, decide_false, h4, Bool.false_and, Bool.or_false]
      symm; simp; omega

theorem nk_mono (a b : Nat) (ha : a < 2 ^ 64) (hb : b < 2 ^ 64) (h : nk a < nk b) : a < b := by
  have h1 := lt_nk a ha
  have hb0 : 0 < b := by
    rcases Nat.eq_zero_or_pos b with e | e
    · subst e; rw [nk_zero] at h; omega
    · exact e
  have h2 := nk_ge b hb0 hb
  have h3 : 256 ^ nk a ≤ 256 ^ (nk b - 1) := Nat.pow_le_pow_right (by omega) (by omega)
  omega

theorem numB_less (a b : Nat) (ha : a < 2 ^ 64) (hb : b < 2 ^ 64) : Op.bytesLess (numB a) (numB b) = decide (a < b) := by
  have ka := nk_le a ha
  have kb := nk_le b hb
  have ea := u8_nat (nk a) (by omega)
  have eb := u8_nat (nk b) (by omega)
  simp only [numB, Op.bytesLess]
  rcases Nat.lt_trichotomy (nk a) (nk b) with h1 | h1 | h1
  · have h2 : UInt8.ofNat (nk a) < UInt8.ofNat (nk b) := UInt8.lt_iff_toNat_lt.2 (by omega)
    have := nk_mono a b ha hb h1
    simp [h2, this]
  · rw [less_val _ _ (by simp [be_length, h1]), vl_numB a ha, vl_numB b hb, h1]
    simp
  · have h2 : ¬ UInt8.ofNat (nk a) < UInt8.ofNat (nk b) := fun h => by have := UInt8.lt_iff_toNat_lt.1 h; omega
    have h3 : (UInt8.ofNat (nk a) == UInt8.ofNat (nk b)) = false := by
      simp only [beq_eq_false_iff_ne]; intro e; rw [e] at ea; omega
    have := nk_mono b a hb ha h1
    simp only [h2, h3]; symm; simp; omega

theorem numB_prefix (a b k : Nat) (ha : a < 2 ^ 64) (hb : b < 2 ^ 64) (h : numB a = (numB b).take k) : a = b := by
  have ka := nk_le a ha
  have kb := nk_le b hb
  cases k with
  | zero => simp [numB] at h
  | succ k =>
    simp only [numB, List.take_succ_cons, List.cons.injEq] at h
    obtain ⟨h1, h2⟩ := h
    have e : nk a = nk b := by
      have := congrArg UInt8.toNat h1
      rwa [u8_nat _ (by omega), u8_nat _ (by omega)] at this
    have hl := congrArg List.length h2
    rw [be_length, List.length_take, be_length] at hl
    rw [List.take_of_length_le (by rw [be_length]; omega)] at h2
    have := congrArg vl h2
    rwa [vl_numB a ha, vl_numB b hb] at this
theorem numB_inj (a b : Nat) (ha : a < 2 ^ 64) (hb : b < 2 ^ 64) (h : numB a = numB b) : a = b :=
  numB_prefix a b (numB b).length ha hb (by rw [List.take_length]; exact h)

/-- A part of one number's bytes is no other number. -/
theorem cut_ne (a b : Nat) (ha : a < 2 ^ 64) (hb : b < 2 ^ 64) (hab : a ≠ b) (k : Nat) : (((⟨(numB b).toArray⟩ : ByteArray).extract 0 k).toList == numB a) = false := by
  rw [beq_eq_false_iff_ne]
  intro h
  apply hab
  rw [Lib.extract_toList] at h
  simp at h
  exact numB_prefix a b k ha hb h.symm
end Go.Proofs.Ytdociiogddihfaa
