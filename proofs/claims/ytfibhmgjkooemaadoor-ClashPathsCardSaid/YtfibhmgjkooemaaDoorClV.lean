/- ClashPaths: the walk. (printed by gen/clv.py) -/
import Derived.Test.YtfibhmgjkooemaaDoorClR
import Derived.Test.YtfibhmgjkooemaaDoorClQ
import Derived.Test.YtfibhmgjkooemaaDoorClG
import Derived.Test.YtfibhmgjkooemaaDoorClS
namespace Go.Proofs.YtfibhmgjkooemaaDoor
open Go.RowKit Sha Root Path Clash

set_option maxHeartbeats 8000000 in
set_option maxRecDepth 100000 in
theorem clashPaths_walk (W : Int) (l : List (List UInt8)) (i : Nat) (x : List UInt8) (ps : List (List UInt8)) (v : Value) (ta : Option Addr) (tc : Nat) (a : Option Addr) (c : Nat) (w : World) (hW : -9223372036854775808 ≤ W ∧ W ≤ 9223372036854775807) (hl : l.length * 24 ≤ 140737488351232) (hm : i < 18446744073709551616) (hxl : x.length ≤ 140737488351232) (hpl : ps.length * 32 ≤ 140737488351232) (h32 : ∀ p ∈ ps, p.length = 32) (hv : Txw w v l) (hx : Rd w 1 (.slice ta x.length tc) x.length (bv x)) (hr : Rd w 32 (.slice a ps.length c) ps.length (ps.flatMap bv)) (hT : TabsR w) :
    Calls Tryd.prog 5 #[.int .i64 W, v, .int .u64 i, .slice ta x.length tc, .slice a ps.length c] w fun e w' => e = .returned (.bool true) ∧ Below w.heap.size w w' := by
  obtain ⟨va, vc, rfl⟩ := hv.form
  have HAW := Lib.hid (fun wx (hb : Below w.heap.size w wx) => awake17_any wx (hT.toTabs.keepB hb))
  have HFA := Lib.hid (fun wx (hb : Below w.heap.size w wx) => few_any l (.slice va l.length vc) wx hl (hv.keep hb))
  have HARG := Lib.hid (And.intro hv (And.intro hr h32))
  have HTT := Lib.hid hT
  have HWW := Lib.hid hW
  have HMO := Lib.hid (And.intro hm hx)
  obtain ⟨n, hn⟩ : ∃ n, n = l.length := ⟨_, rfl⟩
  obtain ⟨L, hL⟩ : ∃ n, n = ps.length := ⟨_, rfl⟩
  obtain ⟨T, hTl⟩ : ∃ n, n = x.length := ⟨_, rfl⟩
  rw [← hn] at HFA ⊢
  rw [← hL] at hpl ⊢
  rw [← hTl] at hxl ⊢
  have HN := Lib.hid (And.intro hn hL)
  have HTN := Lib.hid hTl
  have H0 := Lib.hid (Below.refl w.heap.size w)
  clear hv hr h32 hT hW hn hL hl hm hx hTl
  go_enter Tryd.func5, Tryd.ntmps5
  go_wp2_with fail
  refine (HAW.out _ H0.out).mono ?_
  rintro e w1 ⟨rfl, hb1⟩
  have H1 := Lib.hid (H0.out.trans (hb1.mono H0.out.size))
  clear hb1
  go_wp2_with fail
  refine (HFA.out _ H1.out).mono ?_
  rintro e w2 ⟨rfl, hb2⟩
  have H3 := Lib.hid (H1.out.trans (hb2.mono H1.out.size))
  clear hb2
  cases hfa : fewB l with
  | false =>
    clear hfa
    go_wp2_with fail
    refine (HAW.out _ H3.out).mono ?_
    rintro e w9 ⟨rfl, hb9⟩
    have H9 := Lib.hid (H3.out.trans (hb9.mono H3.out.size))
    clear hb9
    go_wp2_with fail
    go_ret
    exact ⟨rfl, H9.out⟩
  | true =>
    have HFA2 := Lib.hid (few_small l hfa)
    clear hfa
    by_cases hT4 : 4000 < T
    · have y0 : (4000 : Int) < (T : Int) := by omega
      go_wp2_with fail
      refine (HAW.out _ H3.out).mono ?_
      rintro e w9 ⟨rfl, hb9⟩
      have H9 := Lib.hid (H3.out.trans (hb9.mono H3.out.size))
      clear hb9
      go_wp2_with fail
      go_ret
      exact ⟨rfl, H9.out⟩
    · have y0 : ¬ (4000 : Int) < (T : Int) := by omega
      by_cases hL80 : 80 < L
      · have y1 : (80 : Int) < (L : Int) := by omega
        go_wp2_with fail
        refine (HAW.out _ H3.out).mono ?_
        rintro e w9 ⟨rfl, hb9⟩
        have H9 := Lib.hid (H3.out.trans (hb9.mono H3.out.size))
        clear hb9
        go_wp2_with fail
        go_ret
        exact ⟨rfl, H9.out⟩
      · have y1 : ¬ (80 : Int) < (L : Int) := by omega
        have hn80 : n ≤ 80 := by rw [HN.out.1]; exact HFA2.out.1
        have hcl := cPath_any W l i x ps (.slice va l.length vc) (.slice ta x.length tc) a c w2 HWW.out (by rw [← HN.out.1]; omega) (fun t h => Nat.le_trans (HFA2.out.2 t h) (by omega)) HMO.out.1 (by rw [← HTN.out]; omega) HARG.out.2.2 (by rw [← HN.out.2]; omega) (HARG.out.1.keep H3.out) (HMO.out.2.keep H3.out) (HARG.out.2.1.keep H3.out) (HTT.out.toTabs.keepB H3.out)
        have hrl := fun wx (hb : Below w2.heap.size w2 wx) => r17Path_any W l i x ps (.slice va l.length vc) (.slice ta x.length tc) a c wx HWW.out (by rw [← HN.out.1]; omega) (fun t h => Nat.le_trans (HFA2.out.2 t h) (by omega)) HMO.out.1 (by rw [← HTN.out]; omega) HARG.out.2.2 (by rw [← HN.out.2]; omega) ((HARG.out.1.keep H3.out).keep hb) ((HMO.out.2.keep H3.out).keep hb) ((HARG.out.2.1.keep H3.out).keep hb) ((HTT.out.keepB H3.out).keepB hb)
        rw [← HN.out.1, ← HN.out.2, ← HTN.out] at hcl hrl
        have hac := ansP_tells W l i x ps (by rw [← HN.out.1]; omega) HARG.out.2.2
        have hln := ansP_len W l i x ps (by rw [← HN.out.1]; omega) (fun t h => Nat.le_trans (HFA2.out.2 t h) (by omega)) (by rw [← HTN.out]; omega) HARG.out.2.2
        obtain ⟨AN, hAN⟩ : ∃ q, q = ansP W l i x ps := ⟨_, rfl⟩
        rw [← hAN] at hcl hrl hac hln
        obtain ⟨E, X, Y⟩ := AN
        have HCL := Lib.hid hcl
        have HRL := Lib.hid hrl
        have HAC := Lib.hid (And.intro hac hln)
        clear hcl hrl hac hln hAN
        go_wp2_with fail
        refine HCL.out.mono ?_
        rintro e w4 ⟨x1, d1, x2, d2, he, hx1, hx2, hb4⟩
        have he : e = .returned (.tuple #[.agg #[.slice x1 X.length d1, .slice x2 Y.length d2], .int .i64 E]) := he
        have hx1 : Rd w4 1 (.slice x1 X.length d1) X.length (bv X) := hx1
        have hx2 : Rd w4 1 (.slice x2 Y.length d2) Y.length (bv Y) := hx2
        subst he
        obtain ⟨w5, hw5⟩ : ∃ x : World, x = w4.alloc (.cells #[.slice x1 X.length d1, .slice x2 Y.length d2] 27) := ⟨_, rfl⟩
        have hb5 : Below w4.heap.size w4 w5 := by rw [hw5]; exact (Below.refl _ _).alloc (Nat.le_refl _) _
        have hr5 : w5.heap[w4.heap.size]? = some (.cells #[.slice x1 X.length d1, .slice x2 Y.length d2] 27 (0, 0)) := by rw [hw5]; exact heap_alloc_new _ _
        have H5 := Lib.hid (And.intro hr5 (And.intro (hx1.keep hb5) (And.intro (hx2.keep hb5) (hb4.trans (hb5.mono hb4.size)))))
        have HW5 := Lib.hid hw5
        clear hx1 hx2 hb4 hb5 hr5 hw5
        go_upto_region 4 with fail
        rw [show w4.alloc (.cells #[.slice x1 X.length d1, .slice x2 Y.length d2] 27) = w5 from HW5.out.symm]
        go_wp2_with fail
        refine (HRL.out _ H5.out.2.2.2).mono ?_
        rintro e w6 ⟨y1, g1, y2, g2, he, hy1, hy2, hb6⟩
        have he : e = .returned (.tuple #[.agg #[.slice y1 X.length g1, .slice y2 Y.length g2], .int .i64 E]) := he
        have hy1 : Rd w6 1 (.slice y1 X.length g1) X.length (bv X) := hy1
        have hy2 : Rd w6 1 (.slice y2 Y.length g2) Y.length (bv Y) := hy2
        subst he
        obtain ⟨w7, hw7⟩ : ∃ x : World, x = w6.alloc (.cells #[.slice y1 X.length g1, .slice y2 Y.length g2] 27) := ⟨_, rfl⟩
        have hb7 : Below w6.heap.size w6 w7 := by rw [hw7]; exact (Below.refl _ _).alloc (Nat.le_refl _) _
        have hr7 : w7.heap[w6.heap.size]? = some (.cells #[.slice y1 X.length g1, .slice y2 Y.length g2] 27 (0, 0)) := by rw [hw7]; exact heap_alloc_new _ _
        have hb57 := hb6.trans (hb7.mono hb6.size)
        have hr57 := (hb57.block _ (Array.getElem?_eq_some_iff.1 H5.out.1).1).trans H5.out.1
        have q0 : w7.cell? ⟨w4.heap.size, 0, none⟩ = some (.slice x1 X.length d1) := cell_of_rowp hr57 rfl
        have q1 : w7.cell? ⟨w4.heap.size, 1, none⟩ = some (.slice x2 Y.length d2) := cell_of_rowp hr57 rfl
        have q2 : w7.cell? ⟨w6.heap.size, 0, none⟩ = some (.slice y1 X.length g1) := cell_of_rowp hr7 rfl
        have q3 : w7.cell? ⟨w6.heap.size, 1, none⟩ = some (.slice y2 Y.length g2) := cell_of_rowp hr7 rfl
        have hB7 : Below w.heap.size w w7 := (H3.out.trans (H5.out.2.2.2.mono H3.out.size)).trans (hb57.mono (H3.out.trans (H5.out.2.2.2.mono H3.out.size)).size)
        have HSM := Lib.hid (same17_any W X Y E x1 x2 y1 y2 d1 d2 g1 g2 w7 HWW.out (by have : X.length ≤ 4001 := HAC.out.2.1; omega) (by have : Y.length ≤ 4001 := HAC.out.2.2; omega) (H5.out.2.1.keep hb57) (H5.out.2.2.1.keep hb57) (hy1.keep hb7) (hy2.keep hb7) (HTT.out.keepB hB7) HAC.out.1)
        have H7 := Lib.hid hB7
        have HW7 := Lib.hid hw7
        clear hy1 hy2 hb6 hb7 hr7 hw7 hb57 hr57 hB7
        go_upto_region 5 with fail
        rw [show w6.alloc (.cells #[.slice y1 X.length g1, .slice y2 Y.length g2] 27) = w7 from HW7.out.symm]
        go_wp2_with fail
        refine HSM.out.mono ?_
        rintro e w8 ⟨rfl, hb8⟩
        have H8 := Lib.hid (H7.out.trans (hb8.mono H7.out.size))
        clear hb8
        go_wp2_with fail
        go_ret
        exact ⟨rfl, H8.out⟩
end Go.Proofs.YtfibhmgjkooemaaDoor
