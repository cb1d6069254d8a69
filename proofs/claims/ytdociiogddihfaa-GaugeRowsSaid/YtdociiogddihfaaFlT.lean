/- A gauge of whole numbers: how far its mean and sum are off. No program is named here. -/
import Derived.Test.YtdociiogddihfaaFlS
namespace Go.Proofs.Ytdociiogddihfaa
open Ieee

theorem mean_core (T N X M D Q M1 lo hi e : Int) (hT : 1267650600228229401496703205376 ≤ T) (hN : 2 ≤ N) (hN2 : N ≤ 200) (hlo : lo ≤ X) (hhi : X ≤ hi) (hM1 : lo - e ≤ M) (hM2 : M ≤ hi + e) (he : 0 ≤ e) (he2 : e ≤ 35184372088832 * T) (hlb : -(151115727451828646838272 * T) ≤ lo) (hhb : hi ≤ 151115727451828646838272 * T)
    (hD : (D - (X - M)) * 4503599627370496 ≤ (X - M).natAbs + 4503599627370496) (hD' : -((X - M).natAbs + 4503599627370496) ≤ (D - (X - M)) * 4503599627370496)
    (hQ : (Q * N - D) * 4503599627370496 ≤ 4 * D.natAbs + 4503599627370496 * N) (hQ' : -(4 * (D.natAbs : Int) + 4503599627370496 * N) ≤ (Q * N - D) * 4503599627370496)
    (hm : (M1 - (M + Q)) * 4503599627370496 ≤ (M + Q).natAbs + 4503599627370496) (hm' : -((M + Q).natAbs + 4503599627370496) ≤ (M1 - (M + Q)) * 4503599627370496) :
    lo - (e + 137438953472 * T) ≤ M1 ∧ M1 ≤ hi + (e + 137438953472 * T) ∧ M1 * N ≤ M * N + (X - M) + 137438953472 * T ∧ M * N + (X - M) - 137438953472 * T ≤ M1 * N := by
  -- D and Q and M1, each to within a little
  have d1 : D - (X - M) ≤ 536870912 * T ∧ -(536870912 * T) ≤ D - (X - M) := by omega
  have d2 : (D.natAbs : Int) ≤ 604462909807314587353088 * T := by omega
  have q1 : Q * N - D ≤ 2147483648 * T ∧ -(2147483648 * T) ≤ Q * N - D := by omega
  have hQb : -(1208925819614629174706176 * T) ≤ Q ∧ Q ≤ 1208925819614629174706176 * T := by
    obtain ⟨K, hK⟩ : ∃ K, K = 1208925819614629174706176 * T := ⟨_, rfl⟩
    rw [← hK]
    have h2 : 2 * K ≤ N * K := Int.mul_le_mul_of_nonneg_right hN (by omega)
    constructor
    · rcases Int.lt_or_le Q (-K) with h | h
      · exfalso
        have h1 : Q * N ≤ -K * N := Int.mul_le_mul_of_nonneg_right (Int.le_of_lt h) (by omega)
        rw [Int.neg_mul, Int.mul_comm K N] at h1
        omega
      · exact h
    · rcases Int.lt_or_le K Q with h | h
      · exfalso
        have h1 : K * N ≤ Q * N := Int.mul_le_mul_of_nonneg_right (Int.le_of_lt h) (by omega)
        rw [Int.mul_comm K N] at h1
        omega
      · exact h
  have m1 : M1 - (M + Q) ≤ 536870912 * T ∧ -(536870912 * T) ≤ M1 - (M + Q) := by omega
  have hTN : T * N ≤ 200 * T := by
    rw [Int.mul_comm]; exact Int.mul_le_mul_of_nonneg_right hN2 (by omega)
  have hTN2 : T ≤ T * N := by
    have := Int.mul_le_mul_of_nonneg_left (show (1 : Int) ≤ N by omega) (show 0 ≤ T by omega)
    omega
  have n1 := Int.mul_le_mul_of_nonneg_right m1.1 (show (0 : Int) ≤ N by omega)
  have n2 := Int.mul_le_mul_of_nonneg_right m1.2 (show (0 : Int) ≤ N by omega)
  rw [Int.sub_mul, Int.add_mul, Int.mul_assoc] at n1
  rw [Int.sub_mul, Int.add_mul, Int.neg_mul, Int.mul_assoc] at n2
  have n3 : 0 ≤ (M - (lo - e)) * (N - 1) := Int.mul_nonneg (by omega) (by omega)
  have n4 : 0 ≤ (hi + e - M) * (N - 1) := Int.mul_nonneg (by omega) (by omega)
  rw [Int.mul_sub, Int.mul_one, Int.sub_mul, Int.sub_mul] at n3
  rw [Int.mul_sub, Int.mul_one, Int.sub_mul, Int.add_mul] at n4
  have a1 : M1 * N ≤ M * N + (X - M) + 137438953472 * T := by omega
  have a2 : M * N + (X - M) - 137438953472 * T ≤ M1 * N := by omega
  refine ⟨?_, ?_, a1, a2⟩
  · rcases Int.lt_or_le M1 (lo - (e + 137438953472 * T)) with h | h
    · exfalso
      have h2 : (M1 + 1) * N ≤ (lo - (e + 137438953472 * T)) * N := Int.mul_le_mul_of_nonneg_right h (by omega)
      rw [Int.sub_mul, Int.add_mul, Int.add_mul, Int.mul_assoc, Int.one_mul] at h2
      omega
    · exact h
  · rcases Int.lt_or_le (hi + (e + 137438953472 * T)) M1 with h | h
    · exfalso
      have h2 : (hi + (e + 137438953472 * T) + 1) * N ≤ M1 * N := Int.mul_le_mul_of_nonneg_right h (by omega)
      rw [Int.add_mul, Int.add_mul, Int.add_mul, Int.mul_assoc, Int.one_mul] at h2
      omega
    · exact h

/-- The product that is put to the sum: it is below zero by next to nothing. -/
theorem prod_core (T N X M D M1 F : Int) (hT : 1267650600228229401496703205376 ≤ T) (hN : 2 ≤ N) (hN2 : N ≤ 200) (hX : -(151115727451828646838272 * T) ≤ X ∧ X ≤ 151115727451828646838272 * T) (hM : -(302231454903657293676544 * T) ≤ M ∧ M ≤ 302231454903657293676544 * T) (hMb : -(302231454903657293676544 * T) ≤ M1 ∧ M1 ≤ 302231454903657293676544 * T)
    (hD : (D - (X - M)) * 4503599627370496 ≤ (X - M).natAbs + 4503599627370496) (hD' : -((X - M).natAbs + 4503599627370496) ≤ (D - (X - M)) * 4503599627370496)
    (hF : (F - (X - M1)) * 4503599627370496 ≤ (X - M1).natAbs + 4503599627370496) (hF' : -((X - M1).natAbs + 4503599627370496) ≤ (F - (X - M1)) * 4503599627370496)
    (a1 : M1 * N ≤ M * N + (X - M) + 137438953472 * T) (a2 : M * N + (X - M) - 137438953472 * T ≤ M1 * N) :
    (-(9671406556917033397649408 * (T * T)) ≤ D * F) ∧ (D * F).natAbs ≤ 1461501637330902918203684832716283019655932542976 * (T * T) ∧ (D.natAbs : Int) ≤ 1208925819614629174706176 * T ∧ (F.natAbs : Int) ≤ 1208925819614629174706176 * T := by
  have hTT : 0 ≤ T * T := Int.mul_nonneg (by omega) (by omega)
  have d1 : D - (X - M) ≤ 536870912 * T ∧ -(536870912 * T) ≤ D - (X - M) := by omega
  have f1 : F - (X - M1) ≤ 536870912 * T ∧ -(536870912 * T) ≤ F - (X - M1) := by omega
  have db : (D.natAbs : Int) ≤ 1208925819614629174706176 * T := by omega
  have fb : (F.natAbs : Int) ≤ 1208925819614629174706176 * T := by omega
  have hab : ((D * F).natAbs : Int) ≤ 1461501637330902918203684832716283019655932542976 * (T * T) := by
    rw [Int.natAbs_mul, Int.natCast_mul]
    have h1 := Int.mul_le_mul db fb (by omega) (by omega)
    have h2 : (1208925819614629174706176 * T) * (1208925819614629174706176 * T) = 1461501637330902918203684832716283019655932542976 * (T * T) := by
      rw [Int.mul_assoc, ← Int.mul_assoc T, Int.mul_comm T 1208925819614629174706176, Int.mul_assoc, ← Int.mul_assoc]
      rfl
    omega
  refine ⟨?_, hab, db, fb⟩
  have hTN : T * N ≤ 200 * T := by
    rw [Int.mul_comm]; exact Int.mul_le_mul_of_nonneg_right hN2 (by omega)
  have hXN : (X - M1) * N = X * N - M1 * N := Int.sub_mul ..
  have hXM : (X - M) * N = X * N - M * N := Int.sub_mul ..
  by_cases c1 : 1099511627776 * T ≤ X - M
  · have h1 : 0 ≤ (X - M) * (N - 2) := Int.mul_nonneg (by omega) (by omega)
    rw [Int.mul_sub, hXM] at h1
    have h2 : 2 ≤ X - M1 := by
      rcases Int.lt_or_le (X - M1) 2 with h | h
      · exfalso
        have : (X - M1) * N ≤ 1 * N := Int.mul_le_mul_of_nonneg_right (by omega) (by omega)
        omega
      · exact h
    have : 0 ≤ D * F := Int.mul_nonneg (by omega) (by omega)
    omega
  · by_cases c2 : X - M ≤ -(1099511627776 * T)
    · have h1 : 0 ≤ (M - X) * (N - 2) := Int.mul_nonneg (by omega) (by omega)
      rw [Int.mul_sub, Int.sub_mul] at h1
      have h2 : X - M1 ≤ -2 := by
        rcases Int.lt_or_le (-2) (X - M1) with h | h
        · exfalso
          have : -1 * N ≤ (X - M1) * N := Int.mul_le_mul_of_nonneg_right (by omega) (by omega)
          omega
        · exact h
      have : 0 ≤ (-D) * (-F) := Int.mul_nonneg (by omega) (by omega)
      rw [Int.neg_mul_neg] at this
      omega
    · have h3 : X - M1 ≤ 2199023255552 * T ∧ -(2199023255552 * T) ≤ X - M1 := by
        have g1 : (X - M) * (N - 1) ≤ 1099511627776 * T * (N - 1) := Int.mul_le_mul_of_nonneg_right (by omega) (by omega)
        have g2 : -(1099511627776 * T) * (N - 1) ≤ (X - M) * (N - 1) := Int.mul_le_mul_of_nonneg_right (by omega) (by omega)
        rw [Int.mul_sub, Int.mul_sub, hXM, Int.mul_one, Int.mul_one, Int.mul_assoc] at g1
        rw [Int.mul_sub, Int.mul_sub, hXM, Int.mul_one, Int.mul_one, Int.neg_mul, Int.mul_assoc] at g2
        have hTN2 : T ≤ T * N := by
          have := Int.mul_le_mul_of_nonneg_left (show (1 : Int) ≤ N by omega) (show 0 ≤ T by omega)
          omega
        constructor
        · rcases Int.lt_or_le (2199023255552 * T) (X - M1) with h | h
          · exfalso
            have : 2199023255552 * T * N ≤ (X - M1) * N := Int.mul_le_mul_of_nonneg_right (Int.le_of_lt h) (by omega)
            rw [Int.mul_assoc] at this
            omega
          · exact h
        · rcases Int.lt_or_le (X - M1) (-(2199023255552 * T)) with h | h
          · exfalso
            have : (X - M1) * N ≤ -(2199023255552 * T) * N := Int.mul_le_mul_of_nonneg_right (Int.le_of_lt h) (by omega)
            rw [Int.neg_mul, Int.mul_assoc] at this
            omega
          · exact h
      have d3 : (D.natAbs : Int) ≤ 2199023255552 * T := by omega
      have f3 : (F.natAbs : Int) ≤ 4398046511104 * T := by omega
      have h1 := Int.mul_le_mul d3 f3 (by omega) (by omega)
      rw [← Int.natCast_mul, ← Int.natAbs_mul] at h1
      have h2 : (2199023255552 * T) * (4398046511104 * T) = 9671406556917033397649408 * (T * T) := by
        rw [Int.mul_assoc, ← Int.mul_assoc T, Int.mul_comm T 4398046511104, Int.mul_assoc, ← Int.mul_assoc]
        rfl
      omega

theorem p_core (T P DF : Int) (hT : 1267650600228229401496703205376 ≤ T) (h1 : -(9671406556917033397649408 * (T * T)) ≤ DF) (h2 : DF.natAbs ≤ 1461501637330902918203684832716283019655932542976 * (T * T))
    (hP : (P * (4611686018427387904 * T) - DF) * 4503599627370496 ≤ DF.natAbs + 4503599627370496 * (4611686018427387904 * T)) (hP' : -(DF.natAbs + 4503599627370496 * (4611686018427387904 * T)) ≤ (P * (4611686018427387904 * T) - DF) * 4503599627370496) :
    -(8388608 * T) ≤ P ∧ (P.natAbs : Int) ≤ 1267650600228229401496703205376 * T := by
  have hTT : T ≤ T * T := by
    have := Int.mul_le_mul_of_nonneg_left (show (1 : Int) ≤ T by omega) (show 0 ≤ T by omega)
    omega
  have e : P * (4611686018427387904 * T) = 4611686018427387904 * (P * T) := by rw [← Int.mul_assoc, Int.mul_comm P, Int.mul_assoc]
  rw [e] at hP hP'
  have g1 : -(8388608 * T) ≤ P := by
    rcases Int.lt_or_le P (-(8388608 * T)) with h | h
    · exfalso
      have : P * T ≤ (-(8388608 * T) - 1) * T := Int.mul_le_mul_of_nonneg_right (by omega) (by omega)
      rw [Int.sub_mul, Int.neg_mul, Int.mul_assoc, Int.one_mul] at this
      omega
    · exact h
  have g2 : P ≤ 1267650600228229401496703205376 * T := by
    rcases Int.lt_or_le (1267650600228229401496703205376 * T) P with h | h
    · exfalso
      have : (1267650600228229401496703205376 * T + 1) * T ≤ P * T := Int.mul_le_mul_of_nonneg_right (by omega) (by omega)
      rw [Int.add_mul, Int.mul_assoc, Int.one_mul] at this
      omega
    · exact h
  refine ⟨g1, by omega⟩
theorem sum_core (T S P S1 k : Int) (hT : 1267650600228229401496703205376 ≤ T) (hk : 0 ≤ k) (hk2 : k ≤ 200 * T) (hP : -(8388608 * T) ≤ P) (hP2 : (P.natAbs : Int) ≤ 1267650600228229401496703205376 * T) (h1 : -(16777216 * k) ≤ S) (h2 : S ≤ 2535301200456458802993406410752 * k)
    (hS : (S1 - (S + P)) * 4503599627370496 ≤ (S + P).natAbs + 4503599627370496) (hS' : -((S + P).natAbs + 4503599627370496) ≤ (S1 - (S + P)) * 4503599627370496) :
    -(16777216 * (k + T)) ≤ S1 ∧ S1 ≤ 2535301200456458802993406410752 * (k + T) := by
  omega
end Go.Proofs.Ytdociiogddihfaa
