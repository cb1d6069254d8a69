/- ClashGrows: the law, the walk. (printed by gen/cll.py) -/
import Derived.Test.YtfibhmgjkooemaaDoorClK
namespace Go.Proofs.YtfibhmgjkooemaaDoor
open Go.RowKit Sha Root Path Growth Clash

theorem gE_zero (m n L : Nat) (h : gE m n L = 0) : 1 ≤ m ∧ m ≤ n ∧ L = szG m n true := by
  unfold gE at h
  split at h
  · simp at h
  · split at h
    · simp at h
    · split at h
      · simp at h
      · omega
theorem ansG_tells (W : Int) (l : List (List UInt8)) (m : Nat) (old : List UInt8) (ps : List (List UInt8)) (h32 : ∀ p ∈ ps, p.length = 32) : ((ansG W l m old ps).1 == 0) = clB W (ansG W l m old ps).2.1 (ansG W l m old ps).2.2 := by
  unfold ansG
  by_cases h1 : gE m l.length ps.length ≠ 0
  · rw [if_pos h1]
    show (gE m l.length ps.length == 0) = clB W [] []
    rw [beq_eq_false_iff_ne.2 h1]; rfl
  · rw [if_neg h1]
    by_cases h2 : (gS W m l.length old ps).1 ≠ old ∨ (gS W m l.length old ps).2 ≠ rt (hw W) l
    · rw [if_pos h2]; rfl
    · rw [if_neg h2]
      by_cases h3 : old = rt (hw W) (l.take m)
      · rw [if_pos h3]; rfl
      · rw [if_neg h3]
        have h0 : gE m l.length ps.length = 0 := by simpa using h1
        obtain ⟨k1, k2, k3⟩ := gE_zero _ _ _ h0
        have hgs : gS W m l.length old ps = showG (nodeH W) m l.length old true ps := by rw [gS, if_pos h0]
        have h4 : (showG (nd (hw W)) m l.length old true ps).2 = rt (hw W) l := by
          rw [← nodeH_nd, ← hgs]
          exact Classical.not_not.1 fun h => h2 (.inr h)
        have ht := grow_tells (hw W) (hw32 W) l.length l m old ps true (Nat.le_refl _) k1 k2 h32 k3 h4
        cases hm : growF (hw W) l.length l m old ps true with
        | none => rfl
        | some p =>
          have hc := ht.1 p hm
          simp only [ansT, clB]
          rw [show (p.1 == p.2) = false from beq_eq_false_iff_ne.2 hc.1, show (hw W p.1 == hw W p.2) = true from beq_iff_eq.2 hc.2]
          rfl
theorem grow_len (W : Int) : ∀ (f : Nat) (l : List (List UInt8)) (m : Nat) (old : List UInt8) (ps : List (List UInt8)) (wh : Bool) (p : List UInt8 × List UInt8), 1 ≤ m → m ≤ l.length → old.length = 32 → (∀ q ∈ ps, q.length = 32) → ps.length = szG m l.length wh → growF (hw W) f l m old ps wh = some p → p.1.length = 65 ∧ p.2.length = 65
  | 0, l, m, old, ps, wh, p, _, _, _, _, _, h => by simp [growF] at h
  | f + 1, l, m, old, ps, wh, p, h1, h2, ho, h32, hps, h => by
    by_cases e1 : m = l.length
    · subst e1; rw [grow_end] at h; simp at h
    · have hl := top_lt l.length (by omega)
      have hp := top_pos l.length
      have htl : (l.take (top l.length)).length = top l.length := by rw [List.length_take]; omega
      have hdl : (l.drop (top l.length)).length = l.length - top l.length := List.length_drop
      by_cases hm : m ≤ top l.length
      · obtain ⟨q, x, rfl, hq⟩ := snoc_of ps _ (hps.trans (szG_left m _ wh h1 (by omega) hm))
        have hx := h32 x (by simp)
        have hq32 : ∀ y ∈ q, y.length = 32 := fun y hy => h32 y (by simp [hy])
        rw [grow_left _ f l m old q x wh (by omega) hm] at h
        split at h
        · obtain rfl := Option.some.inj h
          have hs := (showG_32 W m (top l.length) old wh q ho hq32).2
          rw [nodeH_nd] at hs
          exact ⟨tx_length _ (hw32 W) l (by omega), by simp [hs, hx]⟩
        · exact grow_len W f _ m old q wh p h1 (by omega) ho hq32 (by rw [htl]; exact hq) h
      · obtain ⟨q, x, rfl, hq⟩ := snoc_of ps _ (hps.trans (szG_right m _ wh (by omega) (by omega)))
        have hx := h32 x (by simp)
        have hq32 : ∀ y ∈ q, y.length = 32 := fun y hy => h32 y (by simp [hy])
        rw [grow_right _ f l m old q x wh (by omega) hm] at h
        split at h
        · obtain rfl := Option.some.inj h
          have hs := (showG_32 W (m - top l.length) (l.length - top l.length) old false q ho hq32).2
          rw [nodeH_nd] at hs
          exact ⟨tx_length _ (hw32 W) l (by omega), by simp [hs, hx]⟩
        · exact grow_len W f _ _ old q false p (by omega) (by omega) ho hq32 (by rw [hdl]; exact hq) h
theorem ansG_len (W : Int) (l : List (List UInt8)) (m : Nat) (old : List UInt8) (ps : List (List UInt8)) (ho : old.length = 32) (h32 : ∀ p ∈ ps, p.length = 32) : (ansG W l m old ps).2.1.length ≤ 4001 ∧ (ansG W l m old ps).2.2.length ≤ 4001 := by
  unfold ansG
  by_cases h1 : gE m l.length ps.length ≠ 0
  · rw [if_pos h1]; simp
  · rw [if_neg h1]
    split
    · simp
    · split
      · simp
      · obtain ⟨k1, k2, k3⟩ := gE_zero _ _ _ (by simpa using h1)
        cases hm : growF (hw W) l.length l m old ps true with
        | none => simp [ansT]
        | some p =>
          have := grow_len W l.length l m old ps true p k1 k2 ho h32 k3 hm
          simp only [ansT]; omega

set_option maxHeartbeats 8000000 in
set_option maxRecDepth 100000 in
theorem clashGrows_walk (W : Int) (l : List (List UInt8)) (m : Nat) (old : List UInt8) (ps : List (List UInt8)) (v : Value) (a : Option Addr) (c : Nat) (w : World) (hW : -9223372036854775808 ≤ W ∧ W ≤ 9223372036854775807) (hl : l.length * 24 ≤ 140737488351232) (hm : m < 18446744073709551616) (ho : old.length = 32) (hpl : ps.length * 32 ≤ 140737488351232) (h32 : ∀ p ∈ ps, p.length = 32) (hv : Txw w v l) (hr : Rd w 32 (.slice a ps.length c) ps.length (ps.flatMap bv)) (hT : TabsR w) :
    Calls Tryd.prog 4 #[.int .i64 W, v, .int .u64 m, .agg (bv old).toArray, .slice a ps.length c] w fun e w' => e = .returned (.bool true) ∧ Below w.heap.size w w' := by
  obtain ⟨va, vc, rfl⟩ := hv.form
  have HAW := Lib.hid (fun wx (hb : Below w.heap.size w wx) => awake17_any wx (hT.toTabs.keepB hb))
  have HFA := Lib.hid (fun wx (hb : Below w.heap.size w wx) => few_any l (.slice va l.length vc) wx hl (hv.keep hb))
  have HARG := Lib.hid (And.intro hv (And.intro hr h32))
  have HTT := Lib.hid hT
  have HWW := Lib.hid hW
  have HMO := Lib.hid (And.intro hm ho)
  obtain ⟨n, hn⟩ : ∃ n, n = l.length := ⟨_, rfl⟩
  obtain ⟨L, hL⟩ : ∃ n, n = ps.length := ⟨_, rfl⟩
  rw [← hn] at HFA ⊢
  rw [← hL] at hpl ⊢
  have HN := Lib.hid (And.intro hn hL)
  obtain ⟨w0, hw0⟩ : ∃ x : World, x = w.alloc (.cells (bv old).toArray 35) := ⟨_, rfl⟩
  have hB0 : Below w.heap.size w w0 := by rw [hw0]; exact (Below.refl _ _).alloc (Nat.le_refl _) _
  have hr0 : w0.heap[w.heap.size]? = some (.cells (bv old).toArray 35 (0, 0)) := by rw [hw0]; exact heap_alloc_new _ _
  have HW0 := Lib.hid hw0
  have H0 := Lib.hid hB0
  have HR0 := Lib.hid hr0
  clear hv hr h32 hT hW hn hL hl hw0 hB0 hr0 hm ho
  go_enter Tryd.func4, Tryd.ntmps4
  go_upto_region 1 with fail
  rw [show w.alloc (.cells (bv old).toArray 35) = w0 from HW0.out.symm]
  go_wp2_with fail
  refine (HAW.out _ H0.out).mono ?_
  rintro e w1 ⟨rfl, hb1⟩
  have HR1 := Lib.hid ((hb1.block _ (Array.getElem?_eq_some_iff.1 HR0.out).1).trans HR0.out)
  have H1 := Lib.hid (H0.out.trans (hb1.mono H0.out.size))
  clear hb1
  go_wp2_with fail
  refine (HFA.out _ H1.out).mono ?_
  rintro e w2 ⟨rfl, hb2⟩
  have HR2 := Lib.hid ((hb2.block _ (Array.getElem?_eq_some_iff.1 HR1.out).1).trans HR1.out)
  have H3 := Lib.hid (H1.out.trans (hb2.mono H1.out.size))
  clear hb2
  cases hfa : fewB l with
  | false =>
    clear hfa
    go_wp2_with fail
    refine (HAW.out _ H3.out).mono ?_
    rintro e w9 ⟨rfl, hb9⟩
    have H9 := Lib.hid (H3.out.trans (hb9.mono H3.out.size))
    clear hb9
    go_wp2_with fail
    go_ret
    exact ⟨rfl, H9.out⟩
  | true =>
    have HFA2 := Lib.hid (few_small l hfa)
    clear hfa
    by_cases hL80 : 80 < L
    · have y1 : (80 : Int) < (L : Int) := by omega
      go_wp2_with fail
      refine (HAW.out _ H3.out).mono ?_
      rintro e w9 ⟨rfl, hb9⟩
      have H9 := Lib.hid (H3.out.trans (hb9.mono H3.out.size))
      clear hb9
      go_wp2_with fail
      go_ret
      exact ⟨rfl, H9.out⟩
    · have y1 : ¬ (80 : Int) < (L : Int) := by omega
      have hn80 : n ≤ 80 := by rw [HN.out.1]; exact HFA2.out.1
      have hcl := cGrowth_any W l m old ps (.slice va l.length vc) a c w2 HWW.out (by rw [← HN.out.1]; omega) (fun t h => Nat.le_trans (HFA2.out.2 t h) (by omega)) HMO.out.1 HMO.out.2 HARG.out.2.2 (by rw [← HN.out.2]; omega) (HARG.out.1.keep H3.out) (HARG.out.2.1.keep H3.out) (HTT.out.toTabs.keepB H3.out)
      have hrl := fun wx (hb : Below w2.heap.size w2 wx) => r17Growth_any W l m old ps (.slice va l.length vc) a c wx HWW.out (by rw [← HN.out.1]; omega) (fun t h => Nat.le_trans (HFA2.out.2 t h) (by omega)) HMO.out.1 HMO.out.2 HARG.out.2.2 (by rw [← HN.out.2]; omega) ((HARG.out.1.keep H3.out).keep hb) ((HARG.out.2.1.keep H3.out).keep hb) ((HTT.out.keepB H3.out).keepB hb)
      rw [← HN.out.1, ← HN.out.2] at hcl hrl
      have hac := ansG_tells W l m old ps HARG.out.2.2
      have hln := ansG_len W l m old ps HMO.out.2 HARG.out.2.2
      obtain ⟨AN, hAN⟩ : ∃ x, x = ansG W l m old ps := ⟨_, rfl⟩
      rw [← hAN] at hcl hrl hac hln
      obtain ⟨E, X, Y⟩ := AN
      have HCL := Lib.hid hcl
      have HRL := Lib.hid hrl
      have HAC := Lib.hid (And.intro hac hln)
      clear hcl hrl hac hln hAN
      go_wp2_with (with_reducible show wpList _ _ _ (⟨some 32, _, _, _, _, _⟩ :: _) _ _; refine wpList_load_row rfl _ _ rfl w.heap.size rfl _ _ (0, 0) _ HR2.out Tryd.underlying35 rfl (hInfo _ HMO.out.2) ?_)
      refine HCL.out.mono ?_
      rintro e w4 ⟨x1, d1, x2, d2, he, hx1, hx2, hb4⟩
      have he : e = .returned (.tuple #[.agg #[.slice x1 X.length d1, .slice x2 Y.length d2], .int .i64 E]) := he
      have hx1 : Rd w4 1 (.slice x1 X.length d1) X.length (bv X) := hx1
      have hx2 : Rd w4 1 (.slice x2 Y.length d2) Y.length (bv Y) := hx2
      subst he
      obtain ⟨w5, hw5⟩ : ∃ x : World, x = w4.alloc (.cells #[.slice x1 X.length d1, .slice x2 Y.length d2] 27) := ⟨_, rfl⟩
      have hb5 : Below w4.heap.size w4 w5 := by rw [hw5]; exact (Below.refl _ _).alloc (Nat.le_refl _) _
      have hr5 : w5.heap[w4.heap.size]? = some (.cells #[.slice x1 X.length d1, .slice x2 Y.length d2] 27 (0, 0)) := by rw [hw5]; exact heap_alloc_new _ _
      have H5 := Lib.hid (And.intro hr5 (And.intro (hx1.keep hb5) (And.intro (hx2.keep hb5) (hb4.trans (hb5.mono hb4.size)))))
      have HW5 := Lib.hid hw5
      clear hx1 hx2 hb4 hb5 hr5 hw5
      go_upto_region 4 with fail
      rw [show w4.alloc (.cells #[.slice x1 X.length d1, .slice x2 Y.length d2] 27) = w5 from HW5.out.symm]
      have HR5 := Lib.hid ((H5.out.2.2.2.block _ (Array.getElem?_eq_some_iff.1 HR2.out).1).trans HR2.out)
      go_wp2_with (with_reducible show wpList _ _ _ (⟨some 41, _, _, _, _, _⟩ :: _) _ _; refine wpList_load_row rfl _ _ rfl w.heap.size rfl _ _ (0, 0) _ HR5.out Tryd.underlying35 rfl (hInfo _ HMO.out.2) ?_)
      refine (HRL.out _ H5.out.2.2.2).mono ?_
      rintro e w6 ⟨y1, g1, y2, g2, he, hy1, hy2, hb6⟩
      have he : e = .returned (.tuple #[.agg #[.slice y1 X.length g1, .slice y2 Y.length g2], .int .i64 E]) := he
      have hy1 : Rd w6 1 (.slice y1 X.length g1) X.length (bv X) := hy1
      have hy2 : Rd w6 1 (.slice y2 Y.length g2) Y.length (bv Y) := hy2
      subst he
      obtain ⟨w7, hw7⟩ : ∃ x : World, x = w6.alloc (.cells #[.slice y1 X.length g1, .slice y2 Y.length g2] 27) := ⟨_, rfl⟩
      have hb7 : Below w6.heap.size w6 w7 := by rw [hw7]; exact (Below.refl _ _).alloc (Nat.le_refl _) _
      have hr7 : w7.heap[w6.heap.size]? = some (.cells #[.slice y1 X.length g1, .slice y2 Y.length g2] 27 (0, 0)) := by rw [hw7]; exact heap_alloc_new _ _
      have hb57 := hb6.trans (hb7.mono hb6.size)
      have hr57 := (hb57.block _ (Array.getElem?_eq_some_iff.1 H5.out.1).1).trans H5.out.1
      have q0 : w7.cell? ⟨w4.heap.size, 0, none⟩ = some (.slice x1 X.length d1) := cell_of_rowp hr57 rfl
      have q1 : w7.cell? ⟨w4.heap.size, 1, none⟩ = some (.slice x2 Y.length d2) := cell_of_rowp hr57 rfl
      have q2 : w7.cell? ⟨w6.heap.size, 0, none⟩ = some (.slice y1 X.length g1) := cell_of_rowp hr7 rfl
      have q3 : w7.cell? ⟨w6.heap.size, 1, none⟩ = some (.slice y2 Y.length g2) := cell_of_rowp hr7 rfl
      have hB7 : Below w.heap.size w w7 := (H3.out.trans (H5.out.2.2.2.mono H3.out.size)).trans (hb57.mono (H3.out.trans (H5.out.2.2.2.mono H3.out.size)).size)
      have HSM := Lib.hid (same17_any W X Y E x1 x2 y1 y2 d1 d2 g1 g2 w7 HWW.out (by have : X.length ≤ 4001 := HAC.out.2.1; omega) (by have : Y.length ≤ 4001 := HAC.out.2.2; omega) (H5.out.2.1.keep hb57) (H5.out.2.2.1.keep hb57) (hy1.keep hb7) (hy2.keep hb7) (HTT.out.keepB hB7) HAC.out.1)
      have H7 := Lib.hid hB7
      have HW7 := Lib.hid hw7
      clear hy1 hy2 hb6 hb7 hr7 hw7 hb57 hr57 hB7
      go_upto_region 5 with fail
      rw [show w6.alloc (.cells #[.slice y1 X.length g1, .slice y2 Y.length g2] 27) = w7 from HW7.out.symm]
      go_wp2_with fail
      refine HSM.out.mono ?_
      rintro e w8 ⟨rfl, hb8⟩
      have H8 := Lib.hid (H7.out.trans (hb8.mono H7.out.size))
      clear hb8
      go_wp2_with fail
      go_ret
      exact ⟨rfl, H8.out⟩
end Go.Proofs.YtfibhmgjkooemaaDoor
