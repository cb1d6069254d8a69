/- How many ones a number has, reckoned by halves: a plain law; no program is named here. -/
import Derived.Test.YtdjmebfjanophaaDoorBase
namespace Go.Proofs.YtdjmebfjanophaaDoor.Ones

/-- How many ones. -/
def pop : Nat → Nat → Nat
  | 0, _ => 0
  | f + 1, n => n % 2 + pop f (n / 2)
def val : List Nat → Nat
  | [] => 0
  | b :: r => b + 256 * val r
def rep (m : Nat) : Nat → Nat
  | 0 => 0
  | k + 1 => m + 256 * rep m k
theorem and_digit (a b m n : Nat) (hb : b < 256) (hn : n < 256) : (b + 256 * a) &&& (n + 256 * m) = (b &&& n) + 256 * (a &&& m) := by
  apply Nat.eq_of_testBit_eq
  intro i
  have hbn : b &&& n < 2 ^ 8 := Nat.and_lt_two_pow _ hn
  rw [Nat.testBit_and, show b + 256 * a = 2 ^ 8 * a + b by omega, show n + 256 * m = 2 ^ 8 * m + n by omega, show (b &&& n) + 256 * (a &&& m) = 2 ^ 8 * (a &&& m) + (b &&& n) by omega,
    Nat.testBit_two_pow_mul_add _ (show b < 2 ^ 8 from hb), Nat.testBit_two_pow_mul_add _ (show n < 2 ^ 8 from hn), Nat.testBit_two_pow_mul_add _ hbn]
  by_cases h : i < 8
  · simp [h, Nat.testBit_and]
  · simp [h, Nat.testBit_and]
def f1 (b : Nat) : Nat := ((b / 2) &&& 85) + (b &&& 85)
def f2 (b : Nat) : Nat := ((b / 4) &&& 51) + (b &&& 51)
def f3 (b : Nat) : Nat := (b / 16 + b) &&& 15
def p8 (b : Nat) : Nat := b % 2 + (b / 2 % 2 + (b / 4 % 2 + (b / 8 % 2 + (b / 16 % 2 + (b / 32 % 2 + (b / 64 % 2 + b / 128 % 2))))))
theorem c1 : ∀ b : Fin 256, ∀ c : Fin 2, (b.1 / 2 + 128 * c.1) &&& 85 = (b.1 / 2) &&& 85 := by decide +kernel
theorem c2 : ∀ b : Fin 256, ∀ c : Fin 4, (b.1 / 4 + 64 * c.1) &&& 51 = (b.1 / 4) &&& 51 := by decide +kernel
theorem c3 : ∀ b : Fin 256, ∀ c : Fin 5, b.1 % 16 ≤ 4 → b.1 / 16 ≤ 4 → (b.1 / 16 + 16 * c.1 + b.1) &&& 15 = (b.1 / 16 + b.1) &&& 15 := by decide +kernel
theorem l1 : ∀ b : Fin 256, f1 b.1 < 256 ∧ f2 (f1 b.1) < 256 ∧ f2 (f1 b.1) % 16 ≤ 4 ∧ f2 (f1 b.1) / 16 ≤ 4 ∧ f3 (f2 (f1 b.1)) = p8 b.1 ∧ p8 b.1 ≤ 8 := by decide +kernel
theorem step1 : ∀ bs : List Nat, (∀ b ∈ bs, b < 256) → (val bs / 2 &&& rep 85 bs.length) + (val bs &&& rep 85 bs.length) = val (bs.map f1)
  | [], _ => rfl
  | b :: r, h => by
    have hb := h b (by simp)
    have ih := step1 r (fun q hq => h q (by simp [hq]))
    have e1 : (b + 256 * val r) / 2 = (b / 2 + 128 * (val r % 2)) + 256 * (val r / 2) := by omega
    show ((b + 256 * val r) / 2 &&& (85 + 256 * rep 85 r.length)) + ((b + 256 * val r) &&& (85 + 256 * rep 85 r.length)) = f1 b + 256 * val (r.map f1)
    rw [e1, and_digit _ _ _ _ (by omega) (by omega), and_digit _ _ _ _ hb (by omega), show (b / 2 + 128 * (val r % 2)) &&& 85 = (b / 2) &&& 85 from c1 ⟨b, hb⟩ ⟨val r % 2, by omega⟩, ← ih]
    unfold f1; omega
theorem step2 : ∀ bs : List Nat, (∀ b ∈ bs, b < 256) → (val bs / 4 &&& rep 51 bs.length) + (val bs &&& rep 51 bs.length) = val (bs.map f2)
  | [], _ => rfl
  | b :: r, h => by
    have hb := h b (by simp)
    have ih := step2 r (fun q hq => h q (by simp [hq]))
    have e1 : (b + 256 * val r) / 4 = (b / 4 + 64 * (val r % 4)) + 256 * (val r / 4) := by omega
    show ((b + 256 * val r) / 4 &&& (51 + 256 * rep 51 r.length)) + ((b + 256 * val r) &&& (51 + 256 * rep 51 r.length)) = f2 b + 256 * val (r.map f2)
    rw [e1, and_digit _ _ _ _ (by omega) (by omega), and_digit _ _ _ _ hb (by omega), show (b / 4 + 64 * (val r % 4)) &&& 51 = (b / 4) &&& 51 from c2 ⟨b, hb⟩ ⟨val r % 4, by omega⟩, ← ih]
    unfold f2; omega
theorem val_lt : ∀ bs : List Nat, (∀ b ∈ bs, b < 256) → val bs < 256 ^ bs.length
  | [], _ => by simp [val]
  | b :: r, h => by
    have hb := h b (by simp)
    have ih := val_lt r (fun q hq => h q (by simp [hq]))
    rw [List.length_cons, Nat.pow_succ]
    unfold val
    generalize 256 ^ r.length = P at *
    omega
theorem val_half : ∀ bs : List Nat, (∀ b ∈ bs, b < 128) → 2 * val bs < 256 ^ bs.length
  | [], _ => by simp [val]
  | b :: r, h => by
    have hb := h b (by simp)
    have ih := val_half r (fun q hq => h q (by simp [hq]))
    rw [List.length_cons, Nat.pow_succ]
    unfold val
    generalize 256 ^ r.length = P at *
    omega
theorem low4 (r : List Nat) (h : ∀ b ∈ r, b % 16 ≤ 4) : val r % 16 ≤ 4 := by
  cases r with
  | nil => simp [val]
  | cons b r => have := h b (by simp); unfold val; omega
theorem step3 : ∀ bs : List Nat, (∀ b ∈ bs, b < 256 ∧ b % 16 ≤ 4 ∧ b / 16 ≤ 4) → (val bs / 16 + val bs) &&& rep 15 bs.length = val (bs.map f3)
  | [], _ => rfl
  | b :: r, h => by
    obtain ⟨hb, h1, h2⟩ := h b (by simp)
    have ih := step3 r (fun q hq => h q (by simp [hq]))
    have hv := low4 r (fun q hq => (h q (by simp [hq])).2.1)
    have e1 : (b + 256 * val r) / 16 + (b + 256 * val r) = (b / 16 + 16 * (val r % 16) + b) + 256 * (val r / 16 + val r) := by omega
    show ((b + 256 * val r) / 16 + (b + 256 * val r)) &&& (15 + 256 * rep 15 r.length) = f3 b + 256 * val (r.map f3)
    rw [e1, and_digit _ _ _ _ (by omega) (by omega), show (b / 16 + 16 * (val r % 16) + b) &&& 15 = (b / 16 + b) &&& 15 from c3 ⟨b, hb⟩ ⟨val r % 16, by omega⟩ h1 h2, ih]
    rfl
theorem pop8 (f x : Nat) : pop (f + 8) x = p8 (x % 256) + pop f (x / 256) := by
  simp only [pop, p8]
  rw [show x / 2 / 2 / 2 / 2 / 2 / 2 / 2 / 2 = x / 256 by omega]
  generalize pop f (x / 256) = q
  omega

theorem fin8 (c0 c1 c2 c3 c4 c5 c6 c7 T1 T2 T3 T4 T5 T6 A B C : Nat) (h0 : c0 ≤ 8) (h1 : c1 ≤ 8) (h2 : c2 ≤ 8) (h3 : c3 ≤ 8) (h4 : c4 ≤ 8) (h5 : c5 ≤ 8) (h6 : c6 ≤ 8) (h7 : c7 ≤ 8)
    (t6 : T6 = c6 + 256 * c7) (t5 : T5 = c5 + 256 * T6) (t4 : T4 = c4 + 256 * T5) (t3 : T3 = c3 + 256 * T4) (t2 : T2 = c2 + 256 * T3) (t1 : T1 = c1 + 256 * T2) (hA : A = c0 + 256 * T1)
    (hB : B = A + A / 256) (hC : C = B + B / 65536) :
    A < 18446744073709551616 ∧ B < 18446744073709551616 ∧ C < 18446744073709551616 ∧ C + C / 4294967296 < 9223372036854775808 ∧ (C + C / 4294967296) % 128 = c0 + (c1 + (c2 + (c3 + (c4 + (c5 + (c6 + c7)))))) := by
  have b6 : T6 ≤ 2056 := by omega
  have b5 : T5 ≤ 526344 := by omega
  have b4 : T4 ≤ 134744072 := by omega
  have b3 : T3 ≤ 34494482440 := by omega
  have b2 : T2 ≤ 8830587504648 := by omega
  have b1 : T1 ≤ 2260630401189896 := by omega
  have bA : A ≤ 578721382704613384 := by omega
  have d1 : A / 256 = T1 := by clear hB hC t6 t5 t4 t3 t2 t1; omega
  rw [d1] at hB
  have d2 : B / 65536 = T2 + T3 := by clear hC t6 t5 t4 t3 b6 b5 b4 bA d1; subst hB hA t1; subst t2; omega
  rw [d2] at hC
  have e1 : C = (c0 + c1 + c2 + c3) + 256 * (c1 + c2 + c3 + c4) + 65536 * (c2 + c3 + c4 + c5) + 16777216 * (c3 + c4 + c5 + c6) + 4294967296 * (T4 + T5 + T6 + c7) := by
    clear d1 d2 b6 b5 b4 b3 b2 b1 bA h0 h1 h2 h3 h4 h5 h6 h7
    omega
  have d3 : C / 4294967296 = T4 + T5 + T6 + c7 := by
    clear d1 d2 hC hB hA t1 t2 t3 t4 t5 t6 b6 b5 b4 b3 b2 b1 bA; omega
  rw [d3]
  refine ⟨by omega, by omega, ?_, ?_, ?_⟩
  · clear d1 d2 d3 e1 t1 t2 t3 t4 t5 t6; omega
  · clear d1 d2 d3 e1 t1 t2 t3 t4 t5 t6; omega
  · clear d1 d2 d3 hC hB hA t1 t2 t3 b6 b5 b4 b3 b2 b1 bA; omega
/-- The number's ones, step by step. -/
theorem ones64 (x : Nat) (hx : x < 18446744073709551616) : ∃ X1 X2 X3 X4 X5 X6 : Nat,
    (x / 2 &&& 6148914691236517205) + (x &&& 6148914691236517205) = X1 ∧ X1 < 18446744073709551616 ∧
    (X1 / 4 &&& 3689348814741910323) + (X1 &&& 3689348814741910323) = X2 ∧ X2 < 18446744073709551616 ∧
    X2 / 16 + X2 < 18446744073709551616 ∧ ((X2 / 16 + X2) &&& 1085102592571150095) = X3 ∧ X3 + X3 / 256 = X4 ∧ X4 + X4 / 65536 = X5 ∧ X5 + X5 / 4294967296 = X6 ∧ X6 < 9223372036854775808 ∧
    X3 < 18446744073709551616 ∧ X4 < 18446744073709551616 ∧ X5 < 18446744073709551616 ∧ X6 % 128 = pop 64 x := by
  obtain ⟨b0, h0⟩ : ∃ b, b = x % 256 := ⟨_, rfl⟩
  obtain ⟨b1, h1⟩ : ∃ b, b = x / 256 % 256 := ⟨_, rfl⟩
  obtain ⟨b2, h2⟩ : ∃ b, b = x / 65536 % 256 := ⟨_, rfl⟩
  obtain ⟨b3, h3⟩ : ∃ b, b = x / 16777216 % 256 := ⟨_, rfl⟩
  obtain ⟨b4, h4⟩ : ∃ b, b = x / 4294967296 % 256 := ⟨_, rfl⟩
  obtain ⟨b5, h5⟩ : ∃ b, b = x / 1099511627776 % 256 := ⟨_, rfl⟩
  obtain ⟨b6, h6⟩ : ∃ b, b = x / 281474976710656 % 256 := ⟨_, rfl⟩
  obtain ⟨b7, h7⟩ : ∃ b, b = x / 72057594037927936 := ⟨_, rfl⟩
  have hv : x = val [b0, b1, b2, b3, b4, b5, b6, b7] := by simp only [val]; omega
  have hl : ∀ b ∈ [b0, b1, b2, b3, b4, b5, b6, b7], b < 256 := by
    intro b hb
    simp only [List.mem_cons, List.not_mem_nil, or_false] at hb
    rcases hb with rfl | rfl | rfl | rfl | rfl | rfl | rfl | rfl <;> omega
  have hp : pop 64 x = p8 b0 + (p8 b1 + (p8 b2 + (p8 b3 + (p8 b4 + (p8 b5 + (p8 b6 + p8 b7)))))) := by
    rw [show (64 : Nat) = 56 + 8 from rfl, pop8, show (56 : Nat) = 48 + 8 from rfl, pop8, show (48 : Nat) = 40 + 8 from rfl, pop8, show (40 : Nat) = 32 + 8 from rfl, pop8, show (32 : Nat) = 24 + 8 from rfl, pop8, show (24 : Nat) = 16 + 8 from rfl, pop8, show (16 : Nat) = 8 + 8 from rfl, pop8, show (8 : Nat) = 0 + 8 from rfl, pop8]
    rw [show x / 256 / 256 = x / 65536 by omega, show x / 65536 / 256 = x / 16777216 by omega, show x / 16777216 / 256 = x / 4294967296 by omega, show x / 4294967296 / 256 = x / 1099511627776 by omega, show x / 1099511627776 / 256 = x / 281474976710656 by omega, show x / 281474976710656 / 256 = x / 72057594037927936 by omega, show x / 72057594037927936 % 256 = x / 72057594037927936 by omega, ← h0, ← h1, ← h2, ← h3, ← h4, ← h5, ← h6, ← h7]
    simp [pop]
  have s1 := step1 _ hl
  have s2 := step2 ([b0, b1, b2, b3, b4, b5, b6, b7].map f1) (by
    intro b hb
    obtain ⟨q, hq, rfl⟩ := List.mem_map.1 hb
    exact (l1 ⟨q, hl q hq⟩).1)
  have s3 := step3 (([b0, b1, b2, b3, b4, b5, b6, b7].map f1).map f2) (by
    intro b hb
    obtain ⟨q, hq, rfl⟩ := List.mem_map.1 hb
    obtain ⟨q', hq', rfl⟩ := List.mem_map.1 hq
    exact ⟨(l1 ⟨q', hl q' hq'⟩).2.1, (l1 ⟨q', hl q' hq'⟩).2.2.1, (l1 ⟨q', hl q' hq'⟩).2.2.2.1⟩)
  have hc : ((([b0, b1, b2, b3, b4, b5, b6, b7].map f1).map f2).map f3) = [p8 b0, p8 b1, p8 b2, p8 b3, p8 b4, p8 b5, p8 b6, p8 b7] := by
    have e : ∀ b ∈ [b0, b1, b2, b3, b4, b5, b6, b7], f3 (f2 (f1 b)) = p8 b := fun b hb => (l1 ⟨b, hl b hb⟩).2.2.2.2.1
    simp only [List.map_cons, List.map_nil]
    rw [e b0 (by simp), e b1 (by simp), e b2 (by simp), e b3 (by simp), e b4 (by simp), e b5 (by simp), e b6 (by simp), e b7 (by simp)]
  have hle : ∀ b ∈ [b0, b1, b2, b3, b4, b5, b6, b7], p8 b ≤ 8 := fun b hb => (l1 ⟨b, hl b hb⟩).2.2.2.2.2
  have t1 : ∀ b ∈ [b0, b1, b2, b3, b4, b5, b6, b7], f1 b < 256 ∧ f2 (f1 b) < 256 ∧ f2 (f1 b) % 16 ≤ 4 ∧ f2 (f1 b) / 16 ≤ 4 := fun b hb => ⟨(l1 ⟨b, hl b hb⟩).1, (l1 ⟨b, hl b hb⟩).2.1, (l1 ⟨b, hl b hb⟩).2.2.1, (l1 ⟨b, hl b hb⟩).2.2.2.1⟩
  rw [hc] at s3
  rw [← hv] at s1
  have r1 : rep 85 8 = 6148914691236517205 := rfl
  have r2 : rep 51 8 = 3689348814741910323 := rfl
  have r3 : rep 15 8 = 1085102592571150095 := rfl
  simp only [List.length_map, List.length_cons, List.length_nil, Nat.zero_add, Nat.reduceAdd] at s1 s2 s3
  rw [r1] at s1
  rw [r2] at s2
  rw [r3] at s3
  have q0 := hle b0 (by simp)
  have q1 := hle b1 (by simp)
  have q2 := hle b2 (by simp)
  have q3 := hle b3 (by simp)
  have q4 := hle b4 (by simp)
  have q5 := hle b5 (by simp)
  have q6 := hle b6 (by simp)
  have q7 := hle b7 (by simp)
  rw [hp]
  clear hle hc hl hp hv h0 h1 h2 h3 h4 h5 h6 h7 r1 r2 r3
  have w1 := val_lt ([b0, b1, b2, b3, b4, b5, b6, b7].map f1) (fun b hb => by
    obtain ⟨q, hq, rfl⟩ := List.mem_map.1 hb
    exact (t1 q hq).1)
  have w2 := val_half (([b0, b1, b2, b3, b4, b5, b6, b7].map f1).map f2) (fun b hb => by
    obtain ⟨q, hq, rfl⟩ := List.mem_map.1 hb
    obtain ⟨q', hq', rfl⟩ := List.mem_map.1 hq
    have := t1 q' hq'
    omega)
  have w0 : (256 : Nat) ^ 8 = 18446744073709551616 := rfl
  simp only [List.length_map, List.length_cons, List.length_nil, Nat.zero_add, Nat.reduceAdd] at w1 w2
  rw [w0] at w1 w2
  have hf := fin8 (p8 b0) (p8 b1) (p8 b2) (p8 b3) (p8 b4) (p8 b5) (p8 b6) (p8 b7) _ _ _ _ _ _ _ _ _ q0 q1 q2 q3 q4 q5 q6 q7 rfl rfl rfl rfl rfl rfl rfl rfl rfl
  obtain ⟨k3, k4, k5, k6, k7⟩ := hf
  have e3 : val [p8 b0, p8 b1, p8 b2, p8 b3, p8 b4, p8 b5, p8 b6, p8 b7] = p8 b0 + 256 * (p8 b1 + 256 * (p8 b2 + 256 * (p8 b3 + 256 * (p8 b4 + 256 * (p8 b5 + 256 * (p8 b6 + 256 * p8 b7)))))) := rfl
  rw [e3] at s3
  clear q0 q1 q2 q3 q4 q5 q6 q7 e3
  refine ⟨_, _, _, _, _, _, s1, ?_, s2, ?_, ?_, s3, rfl, rfl, rfl, k6, k3, k4, k5, k7⟩
  · exact w1
  · omega
  · omega
end Go.Proofs.YtdjmebfjanophaaDoor.Ones
