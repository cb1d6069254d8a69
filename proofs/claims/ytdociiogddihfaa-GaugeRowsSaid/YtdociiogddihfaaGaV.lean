/- GaugeAlike: what a number more does to a gauge; the plain laws joined. -/
import Derived.Test.YtdociiogddihfaaGaKa
import Derived.Test.YtdociiogddihfaaFlU
import Derived.Test.YtdociiogddihfaaTw
namespace Go.Proofs.Ytdociiogddihfaa
open Go.ChangeShapes Go.WideShapes Go.ChangeAt Go.RowKit Ieee

theorem fin_nan {x : Nat} (h : Fin64 x) : fnan x = false := decide_eq_false (by have := h.2; omega)
theorem fI_rank {y z : Nat} (hy : Fin64 y) (hz : Fin64 z) (h : rankP y ≤ rankP z) : fI y ≤ fI z := by
  unfold rankP at h
  rw [fin_nan hy, fin_nan hz] at h
  unfold fI
  generalize sgn y = a at *
  generalize sgn z = b at *
  have h1 := fV_iff (rung y) (rung z)
  have h2 := fV_iff (rung z) (rung y)
  cases a <;> cases b <;> simp only [side, if_true, if_false, Bool.false_eq_true] at h ⊢ <;> omega
theorem lo_next {lo x : Nat} (hl : Fin64 lo) (hx : Fin64 x) : (atP (mnR [lo, x]) = lo ∨ atP (mnR [lo, x]) = x) ∧ fI (atP (mnR [lo, x])) ≤ fI lo ∧ fI (atP (mnR [lo, x])) ≤ fI x := by
  rw [mn_two]
  by_cases c : rankP lo ≤ rankP x
  · rw [Int.min_eq_left c, at_num lo hl.1 (fin_nan hl)]
    exact ⟨.inl rfl, Int.le_refl _, fI_rank hl hx c⟩
  · rw [Int.min_eq_right (by omega), at_num x hx.1 (fin_nan hx)]
    exact ⟨.inr rfl, fI_rank hx hl (by omega), Int.le_refl _⟩
theorem hi_next {lo x : Nat} (hl : Fin64 lo) (hx : Fin64 x) : (atP (mxR [lo, x]) = lo ∨ atP (mxR [lo, x]) = x) ∧ fI lo ≤ fI (atP (mxR [lo, x])) ∧ fI x ≤ fI (atP (mxR [lo, x])) := by
  rw [mx_two]
  by_cases c : rankP x ≤ rankP lo
  · rw [Int.max_eq_left c, at_num lo hl.1 (fin_nan hl)]
    exact ⟨.inl rfl, Int.le_refl _, fI_rank hx hl c⟩
  · rw [Int.max_eq_right (by omega), at_num x hx.1 (fin_nan hx)]
    exact ⟨.inr rfl, fI_rank hl hx (by omega), Int.le_refl _⟩
theorem ends_first (x : Nat) (hx : Fin64 x) : atP (mnR [9218868437227405312, x]) = x ∧ atP (mxR [18442240474082181120, x]) = x := by
  have h1 := fin_nan hx
  have h2 := rank_num x h1
  have e1 : rankP 9218868437227405312 = 9218868437227405312 := by decide
  have e2 : rankP 18442240474082181120 = -9218868437227405313 := by decide
  rw [mn_two, mx_two, e1, e2, Int.min_eq_right (by omega), Int.max_eq_right (by omega), at_num x hx.1 h1]
  exact ⟨rfl, rfl⟩
/-- The first loop's gauge, of i times the number x. -/
def SameG (i x m s lo hi : Nat) : Prop := (i = 0 → m = 9221120237041090561 ∧ s = 0 ∧ lo = 9218868437227405312 ∧ hi = 18442240474082181120) ∧ (0 < i → m = x ∧ s = 0 ∧ lo = x ∧ hi = x)
theorem FR.val' {op : BinOp} {x y r : Nat} (h : FR op x y r) (z : Nat) (hz : floatBits op .f64 x y = some z) : r = z := h.val hz
theorem SameG.next {i x m s lo hi m' s' : Nat} (n : Int) (hn : n.natAbs < 9007199254740992) (hx : x = floatOfInt .f64 n) (h : SameG i x m s lo hi) (hi2 : i < 1000000) (ha : AddM i m s x m' s') : SameG (i + 1) x m' s' (atP (mnR [lo, x])) (atP (mxR [hi, x])) := by
  have hf := (int_float n hn).1
  rw [← hx] at hf
  refine ⟨fun e => by omega, fun _ => ?_⟩
  by_cases h0 : i = 0
  · obtain ⟨_, _, rfl, rfl⟩ := h.1 h0
    rw [AddM, if_pos h0] at ha
    exact ⟨ha.1, ha.2, (ends_first x hf).1, (ends_first x hf).2⟩
  · obtain ⟨e1, rfl, e3, e4⟩ := h.2 (by omega)
    rw [e1] at ha
    rw [e3, e4]
    rw [AddM, if_neg h0] at ha
    obtain ⟨d, q, f, p, h1, h2, h3, h4, h5, h6⟩ := ha
    have := same_again n hn i hi2 x d q m' f p s' hx h1.val' h2.val' h3.val' h4.val' h5.val' h6.val'
    have e : fnan x = false := fin_nan hf
    refine ⟨this.1, this.2, ?_, ?_⟩
    · rw [mn_two, Int.min_self, at_num x hf.1 e]
    · rw [mx_two, Int.max_self, at_num x hf.1 e]
/-- The second loop's. -/
def ManyG (k m s lo hi : Nat) : Prop := (k = 0 → m = 9221120237041090561 ∧ s = 0 ∧ lo = 9218868437227405312 ∧ hi = 18442240474082181120) ∧ (0 < k → GB k m s lo hi)
theorem ManyG.next {k x m s lo hi m' s' : Nat} (n : Int) (hn : n.natAbs ≤ 32768) (hx : x = floatOfInt .f64 n) (h : ManyG k m s lo hi) (hk : k < 200) (ha : AddM k m s x m' s') : GB (k + 1) m' s' (atP (mnR [lo, x])) (atP (mxR [hi, x])) := by
  have hf := (int_float n (by omega)).1
  rw [← hx] at hf
  by_cases h0 : k = 0
  · obtain ⟨_, _, rfl, rfl⟩ := h.1 h0
    rw [AddM, if_pos h0] at ha
    rw [ha.1, ha.2, (ends_first x hf).1, (ends_first x hf).2, h0]
    exact GB.first n hn x hx
  · have hg := h.2 (by omega)
    rw [AddM, if_neg h0] at ha
    obtain ⟨d, q, f, p, h1, h2, h3, h4, h5, h6⟩ := ha
    have l1 := lo_next hg.flo hf
    have l2 := hi_next hg.fhi hf
    exact hg.next (by omega) hk n hn x _ _ d q m' f p s' hx l1.1 l1.2 l2.1 l2.2 h1.val' h2.val' h3.val' h4.val' h5.val' h6.val'
end Go.Proofs.Ytdociiogddihfaa
