/- ClashGrows: the law, the walk. (printed by gen/cll.py) -/
import Derived.Test.YtfibhmgjkooemaaDoorClG
import Derived.Test.YtfibhmgjkooemaaDoorGrK
import Derived.Test.YtfibhmgjkooemaaDoorClJ
namespace Go.Proofs.YtfibhmgjkooemaaDoor
open Go.RowKit Sha Root Path Growth Clash

theorem gE_zero (m n L : Nat) (h : gE m n L = 0) : 1 ≤ m ∧ m ≤ n ∧ L = szG m n true := by
  unfold gE at h
  split at h
  · simp at h
  · split at h
    · simp at h
    · split at h
      · simp at h
      · omega
theorem ansG_tells (W : Int) (l : List (List UInt8)) (m : Nat) (old : List UInt8) (ps : List (List UInt8)) (h32 : ∀ p ∈ ps, p.length = 32) : ((ansG W l m old ps).1 == 0) = clB W (ansG W l m old ps).2.1 (ansG W l m old ps).2.2 := by
  unfold ansG
  by_cases h1 : gE m l.length ps.length ≠ 0
  · rw [if_pos h1]
    show (gE m l.length ps.length == 0) = clB W [] []
    rw [beq_eq_false_iff_ne.2 h1]; rfl
  · rw [if_neg h1]
    by_cases h2 : (gS W m l.length old ps).1 ≠ old ∨ (gS W m l.length old ps).2 ≠ rt (hw W) l
    · rw [if_pos h2]; rfl
    · rw [if_neg h2]
      by_cases h3 : old = rt (hw W) (l.take m)
      · rw [if_pos h3]; rfl
      · rw [if_neg h3]
        have h0 : gE m l.length ps.length = 0 := by simpa using h1
        obtain ⟨k1, k2, k3⟩ := gE_zero _ _ _ h0
        have hgs : gS W m l.length old ps = showG (nodeH W) m l.length old true ps := by rw [gS, if_pos h0]
        have h4 : (showG (nd (hw W)) m l.length old true ps).2 = rt (hw W) l := by
          rw [← nodeH_nd, ← hgs]
          exact Classical.not_not.1 fun h => h2 (.inr h)
        have ht := grow_tells (hw W) (hw32 W) l.length l m old ps true (Nat.le_refl _) k1 k2 h32 k3 h4
        cases hm : growF (hw W) l.length l m old ps true with
        | none => rfl
        | some p =>
          have hc := ht.1 p hm
          simp only [ansT, clB]
          rw [show (p.1 == p.2) = false from beq_eq_false_iff_ne.2 hc.1, show (hw W p.1 == hw W p.2) = true from beq_iff_eq.2 hc.2]
          rfl
theorem grow_len (W : Int) : ∀ (f : Nat) (l : List (List UInt8)) (m : Nat) (old : List UInt8) (ps : List (List UInt8)) (wh : Bool) (p : List UInt8 × List UInt8), 1 ≤ m → m ≤ l.length → old.length = 32 → (∀ q ∈ ps, q.length = 32) → ps.length = szG m l.length wh → growF (hw W) f l m old ps wh = some p → p.1.length = 65 ∧ p.2.length = 65
  | 0, l, m, old, ps, wh, p, _, _, _, _, _, h => by simp [growF] at h
  | f + 1, l, m, old, ps, wh, p, h1, h2, ho, h32, hps, h => by
    by_cases e1 : m = l.length
    · subst e1; rw [grow_end] at h; simp at h
    · have hl := top_lt l.length (by omega)
      have hp := top_pos l.length
      have htl : (l.take (top l.length)).length = top l.length := by rw [List.length_take]; omega
      have hdl : (l.drop (top l.length)).length = l.length - top l.length := List.length_drop
      by_cases hm : m ≤ top l.length
      · obtain ⟨q, x, rfl, hq⟩ := snoc_of ps _ (hps.trans (szG_left m _ wh h1 (by omega) hm))
        have hx := h32 x (by simp)
        have hq32 : ∀ y ∈ q, y.length = 32 := fun y hy => h32 y (by simp [hy])
        rw [grow_left _ f l m old q x wh (by omega) hm] at h
        split at h
        · obtain rfl := Option.some.inj h
          have hs := (showG_32 W m (top l.length) old wh q ho hq32).2
          rw [nodeH_nd] at hs
          exact ⟨tx_length _ (hw32 W) l (by omega), by simp [hs, hx]⟩
        · exact grow_len W f _ m old q wh p h1 (by omega) ho hq32 (by rw [htl]; exact hq) h
      · obtain ⟨q, x, rfl, hq⟩ := snoc_of ps _ (hps.trans (szG_right m _ wh (by omega) (by omega)))
        have hx := h32 x (by simp)
        have hq32 : ∀ y ∈ q, y.length = 32 := fun y hy => h32 y (by simp [hy])
        rw [grow_right _ f l m old q x wh (by omega) hm] at h
        split at h
        · obtain rfl := Option.some.inj h
          have hs := (showG_32 W (m - top l.length) (l.length - top l.length) old false q ho hq32).2
          rw [nodeH_nd] at hs
          exact ⟨tx_length _ (hw32 W) l (by omega), by simp [hs, hx]⟩
        · exact grow_len W f _ _ old q false p (by omega) (by omega) ho hq32 (by rw [hdl]; exact hq) h
theorem ansG_len (W : Int) (l : List (List UInt8)) (m : Nat) (old : List UInt8) (ps : List (List UInt8)) (ho : old.length = 32) (h32 : ∀ p ∈ ps, p.length = 32) : (ansG W l m old ps).2.1.length ≤ 4001 ∧ (ansG W l m old ps).2.2.length ≤ 4001 := by
  unfold ansG
  by_cases h1 : gE m l.length ps.length ≠ 0
  · rw [if_pos h1]; simp
  · rw [if_neg h1]
    split
    · simp
    · split
      · simp
      · obtain ⟨k1, k2, k3⟩ := gE_zero _ _ _ (by simpa using h1)
        cases hm : growF (hw W) l.length l m old ps true with
        | none => simp [ansT]
        | some p =>
          have := grow_len W l.length l m old ps true p k1 k2 ho h32 k3 hm
          simp only [ansT]; omega

end Go.Proofs.YtfibhmgjkooemaaDoor
