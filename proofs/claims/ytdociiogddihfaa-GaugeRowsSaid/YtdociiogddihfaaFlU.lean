/- A gauge of whole numbers, as float64s. No program is named here. -/
import Derived.Test.YtdociiogddihfaaFlT
namespace Go.Proofs.Ytdociiogddihfaa
open Ieee

/-- A whole number is a float64. -/
theorem int_float (n : Int) (hn : n.natAbs < 9007199254740992) : Fin64 (floatOfInt .f64 n) ∧ fI (floatOfInt .f64 n) = n * (4611686018427387904 * tU : Nat) := by
  have hS : n * (4611686018427387904 * tU : Nat) = side (decide (n < 0)) (n.natAbs * 2 ^ 1074) := by
    rw [tU_one, side_mul]
    congr 1
    by_cases h : n < 0
    · rw [decide_eq_true h]; simp only [side, if_true]; omega
    · rw [decide_eq_false h]; simp only [side, if_false, Bool.false_eq_true]; omega
  have hSa : (n * (4611686018427387904 * tU : Nat)).natAbs = n.natAbs * (4611686018427387904 * tU) := by rw [Int.natAbs_mul]; rfl
  have hex : ∃ s, n.natAbs * (4611686018427387904 * tU) = fV s := by
    by_cases h0 : n.natAbs = 0
    · exact ⟨0, by rw [h0, Nat.zero_mul, fV_zero]⟩
    · obtain ⟨g, hg⟩ : ∃ g, g = n.natAbs.log2 := ⟨_, rfl⟩
      have hg1 : 2 ^ g ≤ n.natAbs := by rw [hg]; exact Nat.log2_self_le h0
      have hg2 : n.natAbs < 2 ^ (g + 1) := by rw [hg]; exact Nat.lt_log2_self
      have hg3 : g ≤ 52 := by
        rcases Nat.lt_or_ge 52 g with h | h
        · have : (2 : Nat) ^ 53 ≤ 2 ^ g := Nat.pow_le_pow_right (by decide) h
          rw [show (2 : Nat) ^ 53 = 9007199254740992 by decide] at this
          omega
        · exact h
      have e52 : (2 : Nat) ^ g * 2 ^ (52 - g) = 4503599627370496 := by rw [← Nat.pow_add, show g + (52 - g) = 52 by omega]
      have e53 : (2 : Nat) ^ (g + 1) * 2 ^ (52 - g) = 9007199254740992 := by rw [← Nat.pow_add, show g + 1 + (52 - g) = 53 by omega]
      have k1 := Nat.mul_le_mul_right (2 ^ (52 - g)) hg1
      have k2 := Nat.mul_le_mul_right (2 ^ (52 - g)) (Nat.le_of_lt hg2)
      rw [e52] at k1
      rw [e53] at k2
      refine ⟨(1022 + g) * 4503599627370496 + n.natAbs * 2 ^ (52 - g), ?_⟩
      rw [fV_small _ _ k2 (.inr k1), ← tU_one, Nat.mul_assoc, ← Nat.pow_add, show 52 - g + (1022 + g) = 1074 by omega]
  obtain ⟨s, hs⟩ := hex
  have hB : (n * (4611686018427387904 * tU : Nat)).natAbs ≤ fV 5174635971848699904 * 2 ^ 0 := by
    rw [hSa, tU_big, Nat.pow_zero, Nat.mul_one, ← Nat.mul_assoc]
    exact Nat.mul_le_mul_right _ (by omega)
  obtain ⟨z, hz, h1, _, h3, _⟩ := write_near (decide (n < 0)) n.natAbs 0 0 1074 (by omega) _ hS hB
  have hz' : floatOfInt .f64 n = z := hz
  rw [hz']
  refine ⟨h1, ?_⟩
  have := h3 s (by rw [hSa, hs, Nat.pow_zero, Nat.mul_one])
  simpa using this
theorem fI_zero {z : Nat} (_h : Fin64 z) (h0 : fI z = 0) (hs : sgn z = false) : z = 0 := by
  rw [fI, hs] at h0
  have h1 : fV (rung z) = fV 0 := by rw [fV_zero]; simp only [side, if_false, Bool.false_eq_true] at h0; omega
  have h2 := (fV_eq _ _).1 h1
  have h3 : ¬ 9223372036854775808 ≤ z := of_decide_eq_false hs
  unfold rung at h2
  omega
theorem fI_inj {y z : Nat} (hy : Fin64 y) (hz : Fin64 z) (h : fI y = fI z) (h0 : fI y ≠ 0) : y = z := by
  have h1 : sgn y = sgn z ∧ fV (rung y) = fV (rung z) := by
    unfold fI at h h0
    generalize sgn y = a at *
    generalize sgn z = b at *
    cases a <;> cases b <;> simp only [side, if_true, if_false, Bool.false_eq_true] at h h0 <;> first | exact ⟨rfl, by omega⟩ | omega
  have h2 := (fV_eq _ _).1 h1.2
  have h3 := h1.1
  unfold rung at h2
  unfold sgn at h3
  have h4 := hy.1
  have h5 := hz.1
  by_cases c1 : 9223372036854775808 ≤ y
  · rw [decide_eq_true c1] at h3
    have := of_decide_eq_true h3.symm
    omega
  · rw [decide_eq_false c1] at h3
    have := of_decide_eq_false h3.symm
    omega

/-- The same number again: nothing changes. -/
theorem same_again (n : Int) (hn : n.natAbs < 9007199254740992) (N : Nat) (hN : N < 1000000) (x d q m f p s : Nat) (hx : x = floatOfInt .f64 n)
    (hd : ∀ z, floatBits .sub .f64 x x = some z → d = z) (hq : ∀ z, floatBits .quo .f64 d (floatOfInt .f64 ((N : Int) + 1)) = some z → q = z) (hm : ∀ z, floatBits .add .f64 x q = some z → m = z)
    (hf : ∀ z, floatBits .sub .f64 x m = some z → f = z) (hp : ∀ z, floatBits .mul .f64 d f = some z → p = z) (hs : ∀ z, floatBits .add .f64 0 p = some z → s = z) : m = x ∧ s = 0 := by
  obtain ⟨hx1, hx2⟩ := int_float n hn
  rw [← hx] at hx1 hx2
  have hd0 : floatBits .sub .f64 x x = some 0 := by
    obtain ⟨z, hz, h1, _, h3, h4⟩ := sub_near x x hx1 hx1 (by rw [Int.sub_self]; exact Nat.zero_le _)
    rw [hz, fI_zero h1 (by rw [h3 0 (by rw [Int.sub_self, fV_zero]; rfl), Int.sub_self]) (by rw [h4 (Int.sub_self _)]; cases sgn x <;> rfl)]
  have hd' := hd 0 hd0
  subst hd'
  have hN1 := int_float ((N : Int) + 1) (by omega)
  have f0 : Fin64 0 := ⟨by decide, by decide⟩
  have i0 : fI 0 = 0 := by decide
  have hq0 : floatBits .quo .f64 0 (floatOfInt .f64 ((N : Int) + 1)) = some 0 := by
    obtain ⟨z, hz, h1, _, _, h4⟩ := quo_near 0 (floatOfInt .f64 ((N : Int) + 1)) (N + 1) f0 hN1.1 (by omega) (by rw [hN1.2, tU_one, Int.natCast_mul]; rfl) (by rw [i0]; exact Nat.zero_le _)
    rw [hz, fI_zero h1 (h4 i0).1 (by rw [(h4 i0).2]; decide)]
  have hq' := hq 0 hq0
  subst hq'
  have hm0 : floatBits .add .f64 x 0 = some x := by
    obtain ⟨z, hz, h1, _, h3, h4⟩ := add_near x 0 hx1 f0 (by
      rw [i0, Int.add_zero, hx2, Int.natAbs_mul, tU_big]
      show n.natAbs * (4611686018427387904 * tU) ≤ _
      rw [← Nat.mul_assoc]
      exact Nat.mul_le_mul_right _ (by omega))
    have h5 := h3 (rung x) (by rw [i0, Int.add_zero, fI]; generalize fV (rung x) = q; cases sgn x <;> simp only [side, if_true, if_false, Bool.false_eq_true] <;> omega)
    rw [i0, Int.add_zero] at h5
    rw [hz]
    by_cases c : fI x = 0
    · have hn0 : n = 0 := by
        rw [hx2] at c
        rcases Int.mul_eq_zero.1 c with h | h
        · exact h
        · have := tU_pos; omega
      have hx0 : x = 0 := by rw [hx, hn0]; decide
      rw [fI_zero h1 (h5.trans c) (by rw [h4 (by rw [i0, Int.add_zero]; exact c)]; cases sgn x <;> rfl), hx0]
    · rw [fI_inj h1 hx1 h5 (by rw [h5]; exact c)]
  have hm' := hm x hm0
  subst hm'
  have hf' := hf 0 hd0
  subst hf'
  have hp' := hp 0 (by decide)
  subst hp'
  exact ⟨rfl, hs 0 (by decide)⟩

/-- What holds of the gauge of k whole numbers of 16 bits. -/
structure GB (k m s lo hi : Nat) : Prop where
  fm : Fin64 m
  fs : Fin64 s
  flo : Fin64 lo
  fhi : Fin64 hi
  m1 : fI lo - 137438953472 * (k * tU : Nat) ≤ fI m
  m2 : fI m ≤ fI hi + 137438953472 * (k * tU : Nat)
  l1 : -(151115727451828646838272 * tU : Nat) ≤ fI lo
  l2 : fI hi ≤ (151115727451828646838272 * tU : Nat)
  s1 : -(16777216 * (k * tU : Nat)) ≤ fI s
  s2 : fI s ≤ 2535301200456458802993406410752 * (k * tU : Nat)

theorem GB.first (n : Int) (hn : n.natAbs ≤ 32768) (x : Nat) (hx : x = floatOfInt .f64 n) : GB 1 x 0 x x := by
  obtain ⟨h1, h2⟩ := int_float n (by omega)
  rw [← hx] at h1 h2
  have hT := tU_pos
  have hb : -(32768 * (4611686018427387904 * tU : Nat)) ≤ fI x ∧ fI x ≤ 32768 * (4611686018427387904 * tU : Nat) := by
    rw [h2]
    have k1 := Int.mul_le_mul_of_nonneg_right (show n ≤ 32768 by omega) (show (0 : Int) ≤ (4611686018427387904 * tU : Nat) by omega)
    have k2 := Int.mul_le_mul_of_nonneg_right (show -32768 ≤ n by omega) (show (0 : Int) ≤ (4611686018427387904 * tU : Nat) by omega)
    omega
  have i0 : fI 0 = 0 := by decide
  exact ⟨h1, ⟨by decide, by decide⟩, h1, h1, by omega, by omega, by omega, by omega, by rw [i0]; omega, by rw [i0]; omega⟩

/-- One number more. -/
theorem GB.next {k m s lo hi : Nat} (h : GB k m s lo hi) (hk : 1 ≤ k) (hk2 : k < 200) (n : Int) (hn : n.natAbs ≤ 32768) (x lo' hi' d q m' f p s' : Nat) (hx : x = floatOfInt .f64 n)
    (hl1 : lo' = lo ∨ lo' = x) (hl2 : fI lo' ≤ fI lo ∧ fI lo' ≤ fI x) (hh1 : hi' = hi ∨ hi' = x) (hh2 : fI hi ≤ fI hi' ∧ fI x ≤ fI hi')
    (hd : ∀ z, floatBits .sub .f64 x m = some z → d = z) (hq : ∀ z, floatBits .quo .f64 d (floatOfInt .f64 ((k : Int) + 1)) = some z → q = z) (hm : ∀ z, floatBits .add .f64 m q = some z → m' = z)
    (hf : ∀ z, floatBits .sub .f64 x m' = some z → f = z) (hp : ∀ z, floatBits .mul .f64 d f = some z → p = z) (hs : ∀ z, floatBits .add .f64 s p = some z → s' = z) : GB (k + 1) m' s' lo' hi' := by
  have hX := GB.first n hn x hx
  obtain ⟨hT, hT2⟩ : ∃ T : Int, T = tU := ⟨_, rfl⟩
  have hTp : (1267650600228229401496703205376 : Int) ≤ hT := by rw [hT2]; have := tU_pos; omega
  have hbig : (fV 5174635971848699904 : Int) = 392318858461667547739736838950479151006397215279002157056 * hT := by rw [hT2, tU_big]; omega
  have hkT : ((k * tU : Nat) : Int) = (k : Int) * hT := by rw [hT2]; exact Int.natCast_mul _ _
  have hkT1 : (((k + 1) * tU : Nat) : Int) = (k : Int) * hT + hT := by rw [hT2, Nat.add_mul, Nat.one_mul, Int.natCast_add, Int.natCast_mul]
  have hKb : (k : Int) * hT ≤ 200 * hT := Int.mul_le_mul_of_nonneg_right (by omega) (by omega)
  have hK0 : 0 ≤ (k : Int) * hT := Int.mul_nonneg (by omega) (by omega)
  have hm1 := h.m1; have hm2 := h.m2; have hl := h.l1; have hh := h.l2; have hs1 := h.s1; have hs2 := h.s2
  have hx1 := hX.l1; have hx2 := hX.l2
  rw [hkT] at hm1 hm2 hs1 hs2
  have hTc : ((151115727451828646838272 * tU : Nat) : Int) = 151115727451828646838272 * hT := by rw [hT2]; omega
  rw [hTc] at hl hh hx1 hx2
  have flo' : Fin64 lo' := by rcases hl1 with e | e <;> rw [e]; exact h.flo; exact hX.fm
  have fhi' : Fin64 hi' := by rcases hh1 with e | e <;> rw [e]; exact h.fhi; exact hX.fm
  have hlo'b : -(151115727451828646838272 * hT) ≤ fI lo' := by rcases hl1 with e | e <;> rw [e]; exact hl; exact hx1
  have hhi'b : fI hi' ≤ 151115727451828646838272 * hT := by rcases hh1 with e | e <;> rw [e]; exact hh; exact hx2
  obtain ⟨K, hK⟩ : ∃ K, K = (k : Int) * hT := ⟨_, rfl⟩
  rw [← hK] at hm1 hm2 hs1 hs2 hKb hK0 hkT1
  -- d
  obtain ⟨z1, e1, g1, n1, _⟩ := sub_near x m hX.fm h.fm (by omega)
  obtain rfl := hd z1 e1
  unfold Near at n1
  rw [Int.natCast_one, Int.mul_one] at n1
  -- q
  have hN1 := int_float ((k : Int) + 1) (by omega)
  obtain ⟨z2, e2, g2, n2, n2', _⟩ := quo_near d (floatOfInt .f64 ((k : Int) + 1)) (k + 1) g1 hN1.1 (by omega) (by rw [hN1.2, tU_one, Int.natCast_mul]; rfl) (by omega)
  obtain rfl := hq z2 e2
  have hqb : (fI q).natAbs ≤ 4835703278458516698824704 * hT := by
    have hqN : (fI q).natAbs ≤ (fI q * ((k + 1 : Nat) : Int)).natAbs := by
      rw [Int.natAbs_mul]
      exact Nat.le_mul_of_pos_right _ (by omega)
    omega
  -- m'
  obtain ⟨z3, e3, g3, n3, _⟩ := add_near m q h.fm g2 (by omega)
  obtain rfl := hm z3 e3
  unfold Near at n3
  rw [Int.natCast_one, Int.mul_one] at n3
  have hmc := mean_core hT ((k + 1 : Nat) : Int) (fI x) (fI m) (fI d) (fI q) (fI m') (fI lo') (fI hi') (137438953472 * K) hTp (by omega) (by omega) hl2.2 hh2.2 (by omega) (by omega) (by omega) (by omega) hlo'b hhi'b n1.1 n1.2 n2 n2' n3.1 n3.2
  -- f, p
  obtain ⟨z4, e4, g4, n4, _⟩ := sub_near x m' hX.fm g3 (by omega)
  obtain rfl := hf z4 e4
  unfold Near at n4
  rw [Int.natCast_one, Int.mul_one] at n4
  have hpc := prod_core hT ((k + 1 : Nat) : Int) (fI x) (fI m) (fI d) (fI m') (fI f) hTp (by omega) (by omega) (by omega) (by omega) (by omega) n1.1 n1.2 n4.1 n4.2 hmc.2.2.1 hmc.2.2.2
  have hbp : (fI d * fI f).natAbs ≤ fV 5174635971848699904 * 2 ^ 1074 := by
    have h1 := hpc.2.1
    have h2 : ((fV 5174635971848699904 * 2 ^ 1074 : Nat) : Int) = 392318858461667547739736838950479151006397215279002157056 * 4611686018427387904 * (hT * hT) := by
      rw [tU_one, tU_big, hT2]
      simp only [Int.natCast_mul]
      generalize (tU : Int) = t
      rw [Int.mul_assoc, Int.mul_assoc]
      congr 1
      rw [← Int.mul_assoc, Int.mul_comm t, Int.mul_assoc]
      rfl
    have h3 : 0 ≤ hT * hT := Int.mul_nonneg (by omega) (by omega)
    omega
  obtain ⟨z5, e5, g5, n5⟩ := mul_near d f g1 g4 hbp
  obtain rfl := hp z5 e5
  unfold Near at n5
  have hone : ((2 ^ 1074 : Nat) : Int) = 4611686018427387904 * hT := by rw [tU_one, hT2]; omega
  rw [hone] at n5
  have hpp := p_core hT (fI p) (fI d * fI f) hTp hpc.1 hpc.2.1 n5.1 n5.2
  -- s'
  obtain ⟨z6, e6, g6, n6, _⟩ := add_near s p h.fs g5 (by omega)
  obtain rfl := hs z6 e6
  unfold Near at n6
  rw [Int.natCast_one, Int.mul_one] at n6
  have hsc := sum_core hT (fI s) (fI p) (fI s') K hTp hK0 hKb hpp.1 hpp.2 hs1 hs2 n6.1 n6.2
  refine ⟨g3, g6, flo', fhi', ?_, ?_, by rw [hTc]; exact hlo'b, by rw [hTc]; exact hhi'b, ?_, ?_⟩ <;> rw [hkT1]
  · have := hmc.1; omega
  · have := hmc.2.1; omega
  · exact hsc.1
  · exact hsc.2
end Go.Proofs.Ytdociiogddihfaa
