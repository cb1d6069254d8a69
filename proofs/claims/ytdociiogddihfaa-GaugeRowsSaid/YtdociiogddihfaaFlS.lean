/- The four operations on float64s as numbers: how far each is off. No program is named here. -/
import Derived.Test.YtdociiogddihfaaFlR
namespace Go.Proofs.Ytdociiogddihfaa
open Ieee

/-- A float's exact number, in units of 2 ^ -1074. -/
def fI (x : Nat) : Int := side (sgn x) (fV (rung x))
/-- A finite float. -/
def Fin64 (x : Nat) : Prop := x < 18446744073709551616 ∧ rung x < 9218868437227405312
/-- The unit of the bounds: 2 ^ -62. -/
def tU : Nat := 2 ^ 1012
theorem pow_split (n a b : Nat) (h : n = a + b) : (2 : Nat) ^ n = 2 ^ a * 2 ^ b := by rw [h, Nat.pow_add]
theorem tU_one : 2 ^ 1074 = 4611686018427387904 * tU := by
  have h := pow_split 1074 62 1012 rfl
  rw [show (2 : Nat) ^ 62 = 4611686018427387904 by decide] at h
  unfold tU; exact h
theorem tU_big : fV 5174635971848699904 = 392318858461667547739736838950479151006397215279002157056 * tU := by
  have h1 := fV_small 1148 4503599627370496 (by decide) (.inr (by decide))
  have h2 : (2 : Nat) ^ 1148 = 2 ^ 136 * tU := by unfold tU; exact pow_split 1148 136 1012 rfl
  rw [show (1148 : Nat) * 4503599627370496 + 4503599627370496 = 5174635971848699904 by decide, h2] at h1
  rw [h1]
  generalize tU = u
  rw [show (2 : Nat) ^ 136 = 87112285931760246646623899502532662132736 by decide]
  omega
theorem tU_pos : 1267650600228229401496703205376 ≤ tU := by
  have h := pow_split 1012 100 912 rfl
  rw [show (2 : Nat) ^ 100 = 1267650600228229401496703205376 by decide] at h
  have h2 := Nat.le_mul_of_pos_right 1267650600228229401496703205376 (Nat.two_pow_pos 912)
  rw [← h] at h2
  unfold tU; exact h2

theorem word_rung (neg : Bool) (r : Nat) (hr : r < 9218868437227405312) : rung (double.word neg r) = r ∧ sgn (double.word neg r) = neg ∧ double.word neg r < 18446744073709551616 := by
  have hs : double.signWeight = 9223372036854775808 := by decide
  unfold Format.word
  rw [hs]
  cases neg
  · simp only [Bool.false_eq_true, if_false]
    exact ⟨Nat.mod_eq_of_lt (by omega), decide_eq_false (by omega), by omega⟩
  · simp only [if_true]
    exact ⟨by unfold rung; omega, decide_eq_true (by omega), by omega⟩
theorem word_fin (neg : Bool) (r : Nat) (hr : r < 9218868437227405312) : Fin64 (double.word neg r) ∧ fI (double.word neg r) = side neg (fV r) := by
  obtain ⟨h1, h2, h3⟩ := word_rung neg r hr
  exact ⟨⟨h3, by rw [h1]; exact hr⟩, by rw [fI, h1, h2]⟩

/-- z stands for S (in units of 1 / U of its own), but for what is rounded. -/
def Near (U : Nat) (z S : Int) : Prop := (z * U - S) * 4503599627370496 ≤ S.natAbs + 4503599627370496 * U ∧ -(S.natAbs + 4503599627370496 * U) ≤ (z * U - S) * 4503599627370496

/-- A sum, a product, written. -/
theorem write_near (neg : Bool) (mag : Nat) (place : Int) (a b : Nat) (hab : (b : Int) - a = place + 1074) (S : Int) (hS : S = side neg (mag * 2 ^ b)) (hB : S.natAbs ≤ fV 5174635971848699904 * 2 ^ a) :
    ∃ z, double.nearest neg mag place = z ∧ Fin64 z ∧ Near (2 ^ a) (fI z) S ∧ (∀ s, S.natAbs = fV s * 2 ^ a → fI z * (2 ^ a : Nat) = S) ∧ (sgn z = neg) ∧ (mag = 0 → fI z = 0) := by
  refine ⟨_, rfl, ?_⟩
  have hSa : S.natAbs = mag * 2 ^ b := by
    rw [hS]; generalize mag * 2 ^ b = q
    cases neg <;> simp only [side, if_true, if_false, Bool.false_eq_true] <;> omega
  by_cases hm : mag = 0
  · subst hm
    have h0 : double.nearest neg 0 place = double.word neg 0 := by unfold Format.nearest; rw [if_pos rfl]
    have h1 := word_fin neg 0 (by decide)
    have h2 := (word_rung neg 0 (by decide)).2.1
    have h3 : fI (double.word neg 0) = 0 := by rw [h1.2, fV_zero]; cases neg <;> rfl
    have hS0 : S = 0 := by rw [hS, Nat.zero_mul]; cases neg <;> rfl
    rw [h0]
    refine ⟨h1.1, ?_, fun _ _ => by rw [h3, hS0, Int.zero_mul], h2, fun _ => h3⟩
    rw [h3, hS0]
    unfold Near
    generalize 2 ^ a = U
    constructor <;> simp only [Int.zero_mul, Int.natAbs_zero] <;> omega
  · obtain ⟨r, hr, hlo, hhi, h1, h2⟩ := near neg mag place a b hab hm
    have hr1 : r ≤ 5174635971848699904 := hhi _ (by rw [← hSa]; exact hB)
    rw [hr, Nat.min_eq_left (by omega)]
    have h3 := word_fin neg r (by omega)
    refine ⟨h3.1, ?_, fun s hs => ?_, (word_rung neg r (by omega)).2.1, fun h => absurd h hm⟩
    · rw [h3.2]
      rw [← hSa] at h1 h2
      have hz : side neg (fV r) * ((2 ^ a : Nat) : Int) = side neg (fV r * 2 ^ a) := (side_mul _ _ _).symm
      unfold Near
      rw [hz]
      generalize fV r * 2 ^ a = F at h1 h2 ⊢
      generalize 2 ^ a = U at h1 h2 ⊢
      have hS' : S = side neg S.natAbs := by rw [hSa, hS]
      generalize S.natAbs = V at h1 h2 hS'
      rw [hS']
      cases neg <;> simp only [side, if_true, if_false, Bool.false_eq_true] <;> omega
    · have e : r = s := by
        have q1 := hlo s (by rw [← hs, hSa]; exact Nat.le_refl _)
        have q2 := hhi s (by rw [← hs, hSa]; exact Nat.le_refl _)
        omega
      subst e
      rw [h3.2, hS, ← hSa, hs, side_mul]

/-- Near, with its unit of 1. -/
theorem sum_near (x y : Nat) (s' : Bool → Bool) (hx : Fin64 x) (_hy : Fin64 y) (S : Int) (hs' : S = fI x + side (s' (sgn y)) (fV (rung y))) (hB : S.natAbs ≤ fV 5174635971848699904) :
    ∃ z, ((double.read x).sum (.number (s' (sgn y)) (fmag (rung y)) (-1074 + (fexp (rung y) : Nat)))).map double.write = some z ∧ Fin64 z ∧ Near 1 (fI z) S ∧ (∀ s, S.natAbs = fV s → fI z = S) ∧ (S = 0 → sgn z = (sgn x && s' (sgn y))) := by
  rw [read_number x hx.1 hx.2]
  generalize s' (sgn y) = t at hs' ⊢
  simp only [Datum.sum, Option.map_some]
  obtain ⟨k, hk⟩ : ∃ k, k = min (fexp (rung x)) (fexp (rung y)) := ⟨_, rfl⟩
  have e0 : min (-1074 + (fexp (rung x) : Int)) (-1074 + (fexp (rung y) : Int)) = -1074 + (k : Nat) := by omega
  rw [e0]
  have e1 : (-1074 + (fexp (rung x) : Int) - (-1074 + (k : Nat))).toNat = fexp (rung x) - k := by omega
  have e2 : (-1074 + (fexp (rung y) : Int) - (-1074 + (k : Nat))).toNat = fexp (rung y) - k := by omega
  rw [e1, e2, signed_side, signed_side]
  obtain ⟨total, ht⟩ : ∃ q, q = side (sgn x) (fmag (rung x) * 2 ^ (fexp (rung x) - k)) + side t (fmag (rung y) * 2 ^ (fexp (rung y) - k)) := ⟨_, rfl⟩
  rw [← ht]
  have hT : total * ((2 ^ k : Nat) : Int) = S := by
    rw [hs', ht, Int.add_mul, ← side_mul, ← side_mul, Nat.mul_assoc, Nat.mul_assoc, ← Nat.pow_add, ← Nat.pow_add, show fexp (rung x) - k + k = fexp (rung x) by omega, show fexp (rung y) - k + k = fexp (rung y) by omega]
    rfl
  obtain ⟨neg, hn⟩ : ∃ b : Bool, b = (if total = 0 then sgn x && t else decide (total < 0)) := ⟨_, rfl⟩
  have hpk := Nat.two_pow_pos k
  have hS : S = side neg (total.natAbs * 2 ^ k) := by
    rw [← hT, side_mul]
    congr 1
    rw [hn]
    by_cases h0 : total = 0
    · rw [h0]; cases (if (0 : Int) = 0 then sgn x && t else decide ((0 : Int) < 0)) <;> rfl
    · rw [if_neg h0]
      by_cases h1 : total < 0
      · rw [decide_eq_true h1]; simp only [side, if_true]; omega
      · rw [decide_eq_false h1]; simp only [side, Bool.false_eq_true, if_false]; omega
  have hneg : (if total = 0 then sgn x && t else decide (total < 0)) = neg := hn.symm
  obtain ⟨z, hz, h1, h2, h3, h4, h5⟩ := write_near neg total.natAbs (-1074 + (k : Nat)) 0 k (by omega) S hS (by rw [Nat.pow_zero, Nat.mul_one]; exact hB)
  refine ⟨z, ?_, h1, ?_, fun s hs => ?_, fun h => ?_⟩
  · rw [← hz, ← hneg]; rfl
  · simpa using h2
  · have := h3 s (by rw [Nat.pow_zero, Nat.mul_one]; exact hs)
    simpa using this
  · have h6 : total = 0 := by
      rcases Int.mul_eq_zero.1 (hT.trans h) with q | q
      · exact q
      · omega
    rw [h4, hn, if_pos h6]
theorem add_near (x y : Nat) (hx : Fin64 x) (hy : Fin64 y) (hB : (fI x + fI y).natAbs ≤ fV 5174635971848699904) :
    ∃ z, floatBits .add .f64 x y = some z ∧ Fin64 z ∧ Near 1 (fI z) (fI x + fI y) ∧ (∀ s, (fI x + fI y).natAbs = fV s → fI z = fI x + fI y) ∧ (fI x + fI y = 0 → sgn z = (sgn x && sgn y)) := by
  obtain ⟨z, hz, h⟩ := sum_near x y id hx hy (fI x + fI y) rfl hB
  refine ⟨z, ?_, h⟩
  rw [← hz]
  show ((double.read x).sum (double.read y)).map _ = _
  rw [read_number y hy.1 hy.2]; rfl
theorem side_not (s : Bool) (n : Nat) : side (!s) n = -side s n := by cases s <;> simp [side]
theorem sub_near (x y : Nat) (hx : Fin64 x) (hy : Fin64 y) (hB : (fI x - fI y).natAbs ≤ fV 5174635971848699904) :
    ∃ z, floatBits .sub .f64 x y = some z ∧ Fin64 z ∧ Near 1 (fI z) (fI x - fI y) ∧ (∀ s, (fI x - fI y).natAbs = fV s → fI z = fI x - fI y) ∧ (fI x - fI y = 0 → sgn z = (sgn x && !sgn y)) := by
  obtain ⟨z, hz, h⟩ := sum_near x y (fun b => !b) hx hy (fI x - fI y) (by rw [side_not]; rfl) hB
  refine ⟨z, ?_, h⟩
  rw [← hz]
  show ((double.read x).sum (double.read y).opposite).map _ = _
  rw [read_number y hy.1 hy.2]; rfl
theorem mul_near (x y : Nat) (hx : Fin64 x) (hy : Fin64 y) (hB : (fI x * fI y).natAbs ≤ fV 5174635971848699904 * 2 ^ 1074) :
    ∃ z, floatBits .mul .f64 x y = some z ∧ Fin64 z ∧ Near (2 ^ 1074) (fI z) (fI x * fI y) := by
  have hS : fI x * fI y = side (sgn x ^^ sgn y) (fmag (rung x) * fmag (rung y) * 2 ^ (fexp (rung x) + fexp (rung y))) := by
    have e : fmag (rung x) * fmag (rung y) * 2 ^ (fexp (rung x) + fexp (rung y)) = fV (rung x) * fV (rung y) := by
      unfold fV; rw [Nat.pow_add]; ac_rfl
    rw [e]; unfold fI
    generalize fV (rung x) = p
    generalize fV (rung y) = q
    cases sgn x <;> cases sgn y <;> simp [side, Int.neg_mul, Int.mul_neg]
  obtain ⟨z, hz, h1, h2, _⟩ := write_near (sgn x ^^ sgn y) (fmag (rung x) * fmag (rung y)) (-1074 + (fexp (rung x) : Nat) + (-1074 + (fexp (rung y) : Nat))) 1074 (fexp (rung x) + fexp (rung y)) (by omega) _ hS hB
  refine ⟨z, ?_, h1, h2⟩
  show ((double.read x).product (double.read y)).map _ = _
  rw [read_number y hy.1 hy.2, read_number x hx.1 hx.2, ← hz]; rfl

/-- The two ends of a number divided. -/
theorem quo_near (x y N : Nat) (hx : Fin64 x) (hy : Fin64 y) (hN : 0 < N) (hyN : fI y = (N * 2 ^ 1074 : Nat)) (hB : 2 * (fI x).natAbs ≤ fV 5174635971848699904) :
    ∃ z, floatBits .quo .f64 x y = some z ∧ Fin64 z ∧ (fI z * N - fI x) * 4503599627370496 ≤ 4 * (fI x).natAbs + 4503599627370496 * N ∧ -(4 * ((fI x).natAbs : Int) + 4503599627370496 * N) ≤ (fI z * N - fI x) * 4503599627370496 ∧ (fI x = 0 → fI z = 0 ∧ sgn z = sgn x) := by
  have hfr : double.fractionBits + 2 = 54 := rfl
  have h1074 := Nat.two_pow_pos 1074
  have hNp : 0 < N * 2 ^ 1074 := Nat.mul_pos hN h1074
  have hsy : sgn y = false := by
    cases h : sgn y with
    | false => rfl
    | true => rw [fI, h] at hyN; simp only [side, if_true] at hyN; omega
  have hyV : fV (rung y) = N * 2 ^ 1074 := by
    rw [fI, hsy] at hyN; simp only [side, Bool.false_eq_true, if_false] at hyN; omega
  obtain ⟨m, hm⟩ : ∃ m, m = fmag (rung x) := ⟨_, rfl⟩
  obtain ⟨n, hn⟩ : ∃ m, m = fmag (rung y) := ⟨_, rfl⟩
  obtain ⟨A, hA⟩ : ∃ m, m = fexp (rung x) := ⟨_, rfl⟩
  obtain ⟨B, hBx⟩ : ∃ m, m = fexp (rung y) := ⟨_, rfl⟩
  have hyV2 : n * 2 ^ B = N * 2 ^ 1074 := by rw [← hyV, hn, hBx]; rfl
  have hn0 : n ≠ 0 := by
    rintro rfl
    rw [Nat.zero_mul] at hyV2; omega
  have hxV : (fI x).natAbs = m * 2 ^ A := by
    rw [fI, hm, hA, show fmag (rung x) * 2 ^ fexp (rung x) = fV (rung x) from rfl]
    cases sgn x <;> simp [side]
  obtain ⟨more, hmore⟩ : ∃ q, q = 54 + n.log2 - m.log2 := ⟨_, rfl⟩
  obtain ⟨dv, hdv⟩ : ∃ q, q = m * 2 ^ more := ⟨_, rfl⟩
  obtain ⟨mag, hmag⟩ : ∃ q, q = 2 * (dv / n) + (dv % n != 0).toNat := ⟨_, rfl⟩
  have hval : (Datum.quotient (double.fractionBits + 2) (double.read x) (double.read y)).map double.write = some (double.nearest (sgn x) mag (-1074 + (A : Nat) - (-1074 + (B : Nat)) - more - 1)) := by
    rw [read_number x hx.1 hx.2, read_number y hy.1 hy.2, hfr]
    simp only [Datum.quotient, ← hm, ← hn, ← hA, ← hBx, if_neg hn0, Option.map_some, Nat.shiftLeft_eq, ← hmore, ← hdv, ← hmag, hsy, Bool.xor_false]
    rfl
  -- how far the quotient's digits are off
  have hq : mag * n ≤ 2 * dv + n ∧ 2 * dv ≤ mag * n + n ∧ (m ≠ 0 → n * 9007199254740992 ≤ dv) := by
    have h1 := Nat.div_add_mod dv n
    have h2 := Nat.mod_lt dv (Nat.pos_of_ne_zero hn0)
    have h3 : mag * n = 2 * (n * (dv / n)) + (dv % n != 0).toNat * n := by
      rw [hmag, Nat.add_mul, Nat.mul_assoc, Nat.mul_comm (dv / n)]
    rw [h3]
    refine ⟨?_, ?_, fun hm0 => ?_⟩
    · by_cases h0 : dv % n = 0
      · simp [h0]; omega
      · have e : (dv % n != 0) = true := by simp [h0]
        rw [e]; simp only [Bool.toNat_true, Nat.one_mul]; omega
    · by_cases h0 : dv % n = 0
      · simp [h0]; omega
      · have e : (dv % n != 0) = true := by simp [h0]
        rw [e]; simp only [Bool.toNat_true, Nat.one_mul]; omega
    · have g1 : n < 2 ^ (n.log2 + 1) := Nat.lt_log2_self
      have g2 : 2 ^ m.log2 ≤ m := Nat.log2_self_le hm0
      have g3 : 2 ^ (n.log2 + 1) * 2 ^ 53 ≤ 2 ^ m.log2 * 2 ^ more := by
        rw [← Nat.pow_add, ← Nat.pow_add]
        exact Nat.pow_le_pow_right (by decide) (by omega)
      have g4 : 2 ^ m.log2 * 2 ^ more ≤ m * 2 ^ more := Nat.mul_le_mul_right _ g2
      have g5 : (2 : Nat) ^ 53 = 9007199254740992 := by decide
      rw [g5] at g3
      have g6 : n * 9007199254740992 ≤ 2 ^ (n.log2 + 1) * 9007199254740992 := Nat.mul_le_mul_right _ (Nat.le_of_lt g1)
      rw [hdv]
      exact Nat.le_trans g6 (Nat.le_trans g3 g4)
  obtain ⟨a, ha⟩ : ∃ q, q = B + more + 1 := ⟨_, rfl⟩
  obtain ⟨W, hW⟩ : ∃ q, q = 2 ^ (A + 1074) := ⟨_, rfl⟩
  obtain ⟨H, hH⟩ : ∃ q, q = 2 ^ (1074 + (more + 1)) := ⟨_, rfl⟩
  obtain ⟨x0, hx0⟩ : ∃ q, q = (fI x).natAbs := ⟨_, rfl⟩
  have hHp : 0 < H := by rw [hH]; exact Nat.two_pow_pos _
  have hWp : 0 < W := by rw [hW]; exact Nat.two_pow_pos _
  have k1 : n * 2 ^ a = N * H := by
    rw [ha, hH, show B + more + 1 = B + (more + 1) by omega, Nat.pow_add, Nat.pow_add 2 1074, ← Nat.mul_assoc, hyV2, Nat.mul_assoc]
  have k2 : 2 * dv * W = x0 * H := by
    rw [hx0, hxV, hdv, hW, hH, Nat.pow_add, Nat.pow_add 2 1074, Nat.pow_add 2 more 1, Nat.pow_one]
    generalize 2 ^ 1074 = u1
    ac_rfl
  rw [← hx0] at hB ⊢
  have j1 : mag * W * n ≤ x0 * H + n * W := by
    have := Nat.mul_le_mul_right W hq.1
    rw [Nat.add_mul, k2, Nat.mul_right_comm] at this; exact this
  have j2 : x0 * H ≤ mag * W * n + n * W := by
    have := Nat.mul_le_mul_right W hq.2.1
    rw [Nat.add_mul, k2, Nat.mul_right_comm mag n W] at this; exact this
  have j3 : m ≠ 0 → n * W * 18014398509481984 ≤ x0 * H := fun h => by
    have := Nat.mul_le_mul_right (2 * W) (hq.2.2 h)
    rw [← k2]
    calc n * W * 18014398509481984 = n * 9007199254740992 * (2 * W) := by rw [show (18014398509481984 : Nat) = 9007199254740992 * 2 by decide]; ac_rfl
      _ ≤ dv * (2 * W) := this
      _ = 2 * dv * W := by ac_rfl
  have hSx : fI x = side (sgn x) x0 := by
    rw [hx0, fI]
    generalize fV (rung x) = q
    cases sgn x <;> simp only [side, if_true, if_false, Bool.false_eq_true] <;> omega
  by_cases hm0 : m = 0
  · have hdv0 : dv = 0 := by rw [hdv, hm0, Nat.zero_mul]
    have hmag0 : mag = 0 := by rw [hmag, hdv0, Nat.zero_div, Nat.zero_mod]; rfl
    have hx00 : x0 = 0 := by rw [hx0, hxV, hm0, Nat.zero_mul]
    have hfx : fI x = 0 := by rw [hSx, hx00]; cases sgn x <;> rfl
    obtain ⟨z, hz, h1, _, _, h4, h5⟩ := write_near (sgn x) mag (-1074 + (A : Nat) - (-1074 + (B : Nat)) - more - 1) a (A + 1074) (by omega) (side (sgn x) (mag * 2 ^ (A + 1074))) rfl (by rw [hmag0, Nat.zero_mul]; cases sgn x <;> simp [side])
    refine ⟨z, hval.trans (congrArg some hz), h1, ?_, ?_, fun _ => ⟨h5 hmag0, h4⟩⟩ <;> rw [h5 hmag0, hfx, hx00] <;> omega
  · have j3 := j3 hm0
    have hVB : mag * W ≤ fV 5174635971848699904 * 2 ^ a := by
      refine Nat.le_of_mul_le_mul_right (c := n) ?_ (Nat.pos_of_ne_zero hn0)
      rw [Nat.mul_assoc (fV _), Nat.mul_comm (2 ^ a), k1]
      have : 2 * x0 * H ≤ fV 5174635971848699904 * (N * H) := by
        rw [← Nat.mul_assoc]
        refine Nat.mul_le_mul_right _ (Nat.le_trans hB ?_)
        exact Nat.le_mul_of_pos_right _ hN
      rw [Nat.mul_assoc] at this
      omega
    obtain ⟨S, hS⟩ : ∃ S, S = side (sgn x) (mag * W) := ⟨_, rfl⟩
    have hSabs : S.natAbs = mag * W := by
      rw [hS]; generalize mag * W = q
      cases sgn x <;> simp only [side, if_true, if_false, Bool.false_eq_true] <;> omega
    obtain ⟨z, hz, h1, h2, _, h4, _⟩ := write_near (sgn x) mag (-1074 + (A : Nat) - (-1074 + (B : Nat)) - more - 1) a (A + 1074) (by omega) S (by rw [hS, hW]) (by rw [hSabs]; exact hVB)
    have hx0p : x0 ≠ 0 := by
      rintro rfl
      rw [Nat.zero_mul] at j3
      have := Nat.mul_pos (Nat.pos_of_ne_zero hn0) hWp
      omega
    refine ⟨z, hval.trans (congrArg some hz), h1, ?_, ?_, fun h => absurd h (by rw [hSx]; cases sgn x <;> simp only [side, if_true, if_false, Bool.false_eq_true] <;> omega)⟩
    all_goals
      unfold Near at h2
      rw [hSabs] at h2
      obtain ⟨h2a, h2b⟩ := h2
      have hnp : (0 : Int) ≤ (n : Int) := by omega
      have e1 := Int.mul_le_mul_of_nonneg_right h2a hnp
      have e2 := Int.mul_le_mul_of_nonneg_right h2b hnp
      have k1' : (2 ^ a : Nat) * (n : Int) = (N : Int) * (H : Int) := by
        have := congrArg (Int.ofNat) k1
        simp only [Int.ofNat_eq_natCast, Int.natCast_mul] at this
        rw [Int.mul_comm]; exact this
      have e3 : (fI z * ((2 ^ a : Nat) : Int) - S) * 4503599627370496 * (n : Int) = (fI z * ((N : Int) * H) - S * n) * 4503599627370496 := by
        rw [← k1']
        generalize fI z = Z; generalize ((2 ^ a : Nat) : Int) = U
        rw [Int.sub_mul, Int.sub_mul, Int.sub_mul]; ac_rfl
      have e4 : ((mag * W : Nat) + 4503599627370496 * ((2 ^ a : Nat) : Int)) * (n : Int) = ((mag * W * n : Nat) : Int) + 4503599627370496 * ((N : Int) * H) := by
        rw [← k1', Int.add_mul, Int.mul_assoc, Int.natCast_mul (mag * W) n]
      rw [e3, e4] at e1
      rw [Int.neg_mul, e3, e4] at e2
      have e5 : S * (n : Int) = side (sgn x) (mag * W * n) := by rw [hS, ← side_mul]
      have e6 : fI x * (H : Int) = side (sgn x) (x0 * H) := by rw [hSx, side_mul]
      have hHp' : (0 : Int) < (H : Int) := by omega
      refine Int.le_of_mul_le_mul_right ?_ hHp'
      have e7 : (fI z * (N : Int) - fI x) * 4503599627370496 * (H : Int) = (fI z * ((N : Int) * H) - fI x * H) * 4503599627370496 := by
        generalize fI z = Z; generalize fI x = X
        rw [Int.sub_mul, Int.sub_mul, Int.sub_mul]; ac_rfl
      have e8 : (4 * (x0 : Int) + 4503599627370496 * (N : Int)) * (H : Int) = 4 * ((x0 * H : Nat) : Int) + 4503599627370496 * ((N : Int) * H) := by
        rw [Int.add_mul, Int.mul_assoc, Int.mul_assoc, Int.natCast_mul]
      first | rw [e7, e8, e6] | rw [Int.neg_mul, e7, e8, e6]
      rw [e5] at e1 e2
      generalize fI z * ((N : Int) * H) = p1 at e1 e2 ⊢
      generalize (N : Int) * H = p3 at e1 e2 ⊢
      generalize mag * W * n = p2 at e1 e2 j1 j2 ⊢
      generalize x0 * H = p4 at j1 j2 j3 ⊢
      generalize n * W = p5 at j1 j2 j3 ⊢
      clear e3 e4 e5 e6 e7 e8 h2a h2b
      generalize sgn x = sg at e1 e2 ⊢
      cases sg <;> simp only [side, if_true, if_false, Bool.false_eq_true] at e1 e2 ⊢ <;> omega
end Go.Proofs.Ytdociiogddihfaa
