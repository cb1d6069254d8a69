/- Rounding to the nearest float64: how far it is off. No program is named here. -/
import Derived.Test.YtdociiogddihfaaFloat
import Derived.Laws.FloatArith
namespace Go.Proofs.Ytdociiogddihfaa
open Ieee

theorem fV_small (L k : Nat) (hk : k ≤ 9007199254740992) (h : L = 0 ∨ 4503599627370496 ≤ k) : fV (L * 4503599627370496 + k) = k * 2 ^ L := by
  unfold fV fmag fexp
  by_cases h1 : k < 4503599627370496
  · have hL : L = 0 := by omega
    subst hL
    rw [if_pos (by omega), show (0 * 4503599627370496 + k) / 4503599627370496 - 1 = 0 by omega]
    omega
  · rw [if_neg (by omega)]
    by_cases h2 : k < 9007199254740992
    · rw [show (L * 4503599627370496 + k) / 4503599627370496 - 1 = L by omega, show 4503599627370496 + (L * 4503599627370496 + k) % 4503599627370496 = k by omega]
    · have hk2 : k = 9007199254740992 := by omega
      subst hk2
      rw [show (L * 4503599627370496 + 9007199254740992) / 4503599627370496 - 1 = L + 1 by omega, show 4503599627370496 + (L * 4503599627370496 + 9007199254740992) % 4503599627370496 = 4503599627370496 by omega, Nat.pow_succ]
      omega
theorem fV_gap (r L : Nat) (h : L = 0 ∨ L * 4503599627370496 + 4503599627370496 ≤ r) : fV r + 2 ^ L ≤ fV (r + 1) := by
  by_cases hL : L = 0
  · subst hL
    have := fV_succ r
    omega
  · have hr : L * 4503599627370496 + 4503599627370496 ≤ r := by omega
    obtain ⟨M, k, rfl, hk1, hk2⟩ : ∃ M k, r = M * 4503599627370496 + k ∧ 4503599627370496 ≤ k ∧ k < 9007199254740992 := ⟨r / 4503599627370496 - 1, 4503599627370496 + r % 4503599627370496, by omega, by omega, by omega⟩
    rw [fV_small M k (by omega) (.inr hk1), Nat.add_assoc, fV_small M (k + 1) (by omega) (.inr (by omega)), Nat.add_mul, Nat.one_mul]
    have : 2 ^ L ≤ 2 ^ M := Nat.pow_le_pow_right (by decide) (by omega)
    omega

/-- What is cut off. -/
theorem cut_even (neg : Bool) (n d : Nat) : ∃ m, Toward.even.cut neg n d = n / 2 ^ d + m ∧ m ≤ 1 ∧ (m = 1 → n % 2 ^ d ≠ 0) := by
  unfold Toward.cut
  dsimp only
  by_cases hd : d ≤ n.log2 + 2
  · rw [Nat.min_eq_left hd, Nat.shiftLeft_eq, Nat.one_mul]
    refine ⟨_, rfl, Bool.toNat_le _, fun h hz => ?_⟩
    have hp := Nat.two_pow_pos d
    simp [hz] at h
  · rw [Nat.min_eq_right (by omega), Nat.shiftLeft_eq, Nat.one_mul]
    have hn : n < 2 ^ (n.log2 + 1) := Nat.lt_log2_self
    have h2 : (2 : Nat) ^ (n.log2 + 2) = 2 * 2 ^ (n.log2 + 1) := by rw [show n.log2 + 2 = (n.log2 + 1) + 1 by omega, Nat.pow_succ]; omega
    have h3 : (2 : Nat) ^ (n.log2 + 1) ≤ 2 ^ d := Nat.pow_le_pow_right (by decide) (by omega)
    rw [Nat.div_eq_of_lt (a := n) (b := 2 ^ d) (by omega), Nat.div_eq_of_lt (a := n) (b := 2 ^ (n.log2 + 2)) (by omega), Nat.mod_eq_of_lt (a := n) (b := 2 ^ (n.log2 + 2)) (by omega)]
    refine ⟨0, ?_, by decide, fun h => by cases h⟩
    have e1 : decide (2 ^ (n.log2 + 2) < 2 * n) = false := decide_eq_false (by omega)
    simp [e1]

/-- The nearest rung r of a number of V' = mag * 2 ^ b units of 2 ^ (-1074 - a): no other rung lies between. -/
theorem near (neg : Bool) (mag : Nat) (place : Int) (a b : Nat) (hab : (b : Int) - a = place + 1074) (hm : mag ≠ 0) :
    ∃ r, double.nearest neg mag place = double.word neg (min r 9218868437227405312) ∧ (∀ s, fV s * 2 ^ a ≤ mag * 2 ^ b → s ≤ r) ∧ (∀ s, mag * 2 ^ b ≤ fV s * 2 ^ a → r ≤ s) ∧
      fV r * 2 ^ a * 4503599627370496 ≤ mag * 2 ^ b * 4503599627370497 + 4503599627370496 * 2 ^ a ∧ mag * 2 ^ b * 4503599627370495 ≤ fV r * 2 ^ a * 4503599627370496 + 4503599627370496 * 2 ^ a := by
  have hb : double.binade = 4503599627370496 := rfl
  have hi : double.infRung = 9218868437227405312 := by decide
  have hl : double.leastPlace = -1074 := by decide
  have hfb : (double.fractionBits : Int) = 52 := rfl
  unfold Format.nearest
  rw [if_neg hm]
  simp only [hb, hi, hl, hfb]
  obtain ⟨g, hg⟩ : ∃ g, g = mag.log2 := ⟨_, rfl⟩
  rw [← hg]
  have hg1 : 2 ^ g ≤ mag := by rw [hg]; exact Nat.log2_self_le hm
  have hg2 : mag < 2 ^ (g + 1) := by rw [hg]; exact Nat.lt_log2_self
  obtain ⟨last, hlast⟩ : ∃ l : Int, l = max (place + g - 52) (-1074) := ⟨_, rfl⟩
  rw [← hlast]
  obtain ⟨L, hL⟩ : ∃ L : Nat, L = (last - -1074).toNat := ⟨_, rfl⟩
  rw [← hL]
  obtain ⟨up, hup⟩ : ∃ u : Nat, u = (place - last).toNat := ⟨_, rfl⟩
  obtain ⟨dn, hdn⟩ : ∃ u : Nat, u = (last - place).toNat := ⟨_, rfl⟩
  rw [← hup, ← hdn, Nat.shiftLeft_eq]
  obtain ⟨n, hn⟩ : ∃ n, n = mag * 2 ^ up := ⟨_, rfl⟩
  rw [← hn]
  obtain ⟨m, hcut, hm1, hmr⟩ := cut_even neg n dn
  rw [hcut]
  obtain ⟨low, hlow⟩ : ∃ q, q = n / 2 ^ dn := ⟨_, rfl⟩
  rw [← hlow]
  have hpd := Nat.two_pow_pos dn
  have hq1 : low * 2 ^ dn ≤ n := by rw [hlow]; exact Nat.div_mul_le_self _ _
  have hq2 : n < (low + 1) * 2 ^ dn := by
    have := Nat.lt_mul_div_succ n hpd
    rw [hlow, Nat.mul_comm]; exact this
  have hq3 : m = 1 → low * 2 ^ dn < n := fun h => by
    have h1 := hmr h
    have h2 := Nat.div_add_mod n (2 ^ dn)
    rw [Nat.mul_comm] at h2
    rw [hlow]; omega
  -- the range of what is kept
  have hr1 : low < 9007199254740992 := by
    have : n < 9007199254740992 * 2 ^ dn := by
      rw [hn]
      by_cases hp : last ≤ place
      · rw [show dn = 0 by omega, Nat.pow_zero, Nat.mul_one]
        have h1 : g + 1 + up ≤ 53 := by omega
        calc mag * 2 ^ up < 2 ^ (g + 1) * 2 ^ up := Nat.mul_lt_mul_of_pos_right hg2 (Nat.two_pow_pos _)
          _ = 2 ^ (g + 1 + up) := (Nat.pow_add ..).symm
          _ ≤ 2 ^ 53 := Nat.pow_le_pow_right (by decide) h1
      · rw [show up = 0 by omega, Nat.pow_zero, Nat.mul_one]
        have h1 : g + 1 ≤ 53 + dn := by omega
        calc mag < 2 ^ (g + 1) := hg2
          _ ≤ 2 ^ (53 + dn) := Nat.pow_le_pow_right (by decide) h1
          _ = 9007199254740992 * 2 ^ dn := by rw [Nat.pow_add]
    exact Nat.lt_of_mul_lt_mul_right (Nat.lt_of_le_of_lt hq1 this)
  have hr2 : L = 0 ∨ 4503599627370496 ≤ low := by
    by_cases hL0 : L = 0
    · exact .inl hL0
    · refine .inr ?_
      have : 4503599627370496 * 2 ^ dn ≤ n := by
        rw [hn]
        by_cases hp : last ≤ place
        · rw [show dn = 0 by omega, Nat.pow_zero, Nat.mul_one]
          have h1 : 52 ≤ g + up := by omega
          calc 4503599627370496 = 2 ^ 52 := rfl
            _ ≤ 2 ^ (g + up) := Nat.pow_le_pow_right (by decide) h1
            _ = 2 ^ g * 2 ^ up := Nat.pow_add ..
            _ ≤ mag * 2 ^ up := Nat.mul_le_mul_right _ hg1
        · rw [show up = 0 by omega, Nat.pow_zero, Nat.mul_one]
          have h1 : 52 + dn ≤ g := by omega
          calc 4503599627370496 * 2 ^ dn = 2 ^ (52 + dn) := by rw [Nat.pow_add]
            _ ≤ 2 ^ g := Nat.pow_le_pow_right (by decide) h1
            _ ≤ mag := hg1
      exact Nat.lt_succ_iff.1 (Nat.lt_of_mul_lt_mul_right (a := 2 ^ dn) (Nat.lt_of_le_of_lt this hq2))
  -- the number in units
  obtain ⟨V, hV⟩ : ∃ V, V = mag * 2 ^ b := ⟨_, rfl⟩
  rw [← hV]
  have hVn : V * 2 ^ dn = n * 2 ^ (a + L) := by
    rw [hV, hn, Nat.mul_assoc, Nat.mul_assoc, ← Nat.pow_add, ← Nat.pow_add, show b + dn = up + (a + L) by omega]
  have hpos := Nat.two_pow_pos (a + L)
  have hV1 : low * 2 ^ (a + L) ≤ V := by
    refine Nat.le_of_mul_le_mul_right (c := 2 ^ dn) ?_ hpd
    rw [hVn]
    calc low * 2 ^ (a + L) * 2 ^ dn = low * 2 ^ dn * 2 ^ (a + L) := by rw [Nat.mul_right_comm]
      _ ≤ _ := Nat.mul_le_mul_right _ hq1
  have hV2 : V < (low + 1) * 2 ^ (a + L) := by
    refine Nat.lt_of_mul_lt_mul_right (a := 2 ^ dn) ?_
    rw [hVn]
    calc n * 2 ^ (a + L) < (low + 1) * 2 ^ dn * 2 ^ (a + L) := Nat.mul_lt_mul_of_pos_right hq2 hpos
      _ = (low + 1) * 2 ^ (a + L) * 2 ^ dn := by rw [Nat.mul_right_comm]
  have hV3 : m = 1 → low * 2 ^ (a + L) < V := fun h => by
    refine Nat.lt_of_mul_lt_mul_right (a := 2 ^ dn) ?_
    rw [hVn]
    calc low * 2 ^ (a + L) * 2 ^ dn = low * 2 ^ dn * 2 ^ (a + L) := by rw [Nat.mul_right_comm]
      _ < _ := Nat.mul_lt_mul_of_pos_right (hq3 h) hpos
  have hfr : fV (L * 4503599627370496 + (low + m)) = (low + m) * 2 ^ L := fV_small L (low + m) (by omega) (by omega)
  have hfl : fV (L * 4503599627370496 + low) = low * 2 ^ L := fV_small L low (by omega) (by omega)
  have hpa : (2 : Nat) ^ (a + L) = 2 ^ L * 2 ^ a := by rw [Nat.pow_add, Nat.mul_comm]
  have hposa := Nat.two_pow_pos a
  rw [hpa] at hV1 hV2 hV3
  refine ⟨L * 4503599627370496 + (low + m), rfl, fun s hs => ?_, fun s hs => ?_, ?_, ?_⟩
  · rcases Nat.lt_or_ge (L * 4503599627370496 + (low + m)) s with h | h
    · exfalso
      have h1 := fV_gap (L * 4503599627370496 + (low + m)) L (by omega)
      have h2 : fV (L * 4503599627370496 + (low + m) + 1) ≤ fV s := by
        rcases Nat.lt_or_ge (L * 4503599627370496 + (low + m) + 1) s with h3 | h3
        · exact Nat.le_of_lt (fV_lt h3)
        · rw [show s = L * 4503599627370496 + (low + m) + 1 by omega]; exact Nat.le_refl _
      rw [hfr] at h1
      have h3 : (low + 1) * 2 ^ L ≤ fV s := by
        refine Nat.le_trans ?_ (Nat.le_trans h1 h2)
        rw [Nat.add_mul, Nat.add_mul]; omega
      have h4 := Nat.mul_le_mul_right (2 ^ a) h3
      rw [Nat.mul_assoc] at h4
      omega
    · exact h
  · rcases Nat.lt_or_ge s (L * 4503599627370496 + (low + m)) with h | h
    · exfalso
      by_cases hm0 : m = 0
      · subst hm0
        have h1 := fV_lt h
        rw [hfr] at h1
        have h2 := Nat.mul_lt_mul_of_pos_right h1 hposa
        rw [Nat.add_zero, Nat.mul_assoc] at h2
        omega
      · have h5 : m = 1 := by omega
        have h1 : fV s ≤ fV (L * 4503599627370496 + low) := by
          rcases Nat.lt_or_ge s (L * 4503599627370496 + low) with h3 | h3
          · exact Nat.le_of_lt (fV_lt h3)
          · rw [show s = L * 4503599627370496 + low by omega]; exact Nat.le_refl _
        rw [hfl] at h1
        have h2 := Nat.mul_le_mul_right (2 ^ a) h1
        rw [Nat.mul_assoc] at h2
        have := hV3 h5
        omega
    · exact h
  · rw [hfr, Nat.mul_assoc (low + m), Nat.add_mul]
    generalize hU : 2 ^ L * 2 ^ a = U at hV1 hV2 hV3 ⊢
    have hmU : m * U ≤ U := Nat.le_trans (Nat.mul_le_mul_right _ hm1) (by omega)
    rcases hr2 with h0 | h0
    · subst h0
      rw [Nat.pow_zero, Nat.one_mul] at hU
      omega
    · have := Nat.mul_le_mul_right U h0
      omega
  · rw [hfr, Nat.mul_assoc (low + m), Nat.add_mul]
    generalize hU : 2 ^ L * 2 ^ a = U at hV1 hV2 hV3 ⊢
    rw [Nat.add_mul, Nat.one_mul] at hV2
    rcases hr2 with h0 | h0
    · subst h0
      rw [Nat.pow_zero, Nat.one_mul] at hU
      omega
    · have := Nat.mul_le_mul_right U h0
      omega
end Go.Proofs.Ytdociiogddihfaa
