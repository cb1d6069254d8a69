/- gauge.Get. (printed by gen/gaget.py) -/
import Derived.Test.YtdociiogddihfaaGbP
namespace Go.Proofs.Ytdociiogddihfaa
open Go.RowKit

theorem set5_cell {w : World} {g : Nat} {x0 x1 x2 x3 x4 : Value} {t : TypeId} (a b c d e : Value) (h : w.heap[g]? = some (.cells #[x0, x1, x2, x3, x4] t (0, 0))) (i : Nat) :
    (((((w.setCell ⟨g, 0, none⟩ a).setCell ⟨g, 1, none⟩ b).setCell ⟨g, 2, none⟩ c).setCell ⟨g, 3, none⟩ d).setCell ⟨g, 4, none⟩ e).cell? ⟨g, i, none⟩ = (#[a, b, c, d, e] : Array Value)[i]? := by
  have h4 := heap_setCell_same _ g 4 _ _ e (heap_setCell_same _ g 3 _ _ d (heap_setCell_same _ g 2 _ _ c (heap_setCell_same _ g 1 _ _ b (heap_setCell_same w g 0 _ _ a h))))
  have e1 : (((((#[x0, x1, x2, x3, x4] : Array Value).setIfInBounds 0 a).setIfInBounds 1 b).setIfInBounds 2 c).setIfInBounds 3 d).setIfInBounds 4 e = #[a, b, c, d, e] := rfl
  rw [e1] at h4
  simp [World.cell?, h4]
theorem Left_row (w : World) (p : Nat) (a : Option Addr) (c L : Nat) (no : Int) (h : w.heap[p]? = some (.cells #[.slice a L c, .int .i64 no] 88 (0, 0))) :
    Calls Try.prog 39 #[.pointer (some ⟨p, 0, none⟩)] w fun e w' => e = .returned (.int .i64 L) ∧ w' = w := by
  have h0 : w.cell? ⟨p, 0, none⟩ = some (.slice a L c) := cell_of_row h rfl
  clear h
  go_enter Try.func39, Try.ntmps39
  go_wp2_with fail
  go_ret
  exact ⟨rfl, rfl⟩
theorem grow2 {B p : Nat} {w0 w w' : World} (hb : Below B w0 w) (h : w.grownBy w' (some p)) (hp : B ≤ p) (hs : B ≤ w.heap.size) : Below B w0 w' :=
  hb.trans ⟨h.os, h.tape, h.output, h.size, fun k hk => h.block k (by omega) (fun e => by simp at e; omega)⟩
set_option maxHeartbeats 16000000 in
set_option maxRecDepth 100000 in
theorem GGet_any (v : Value) (b : List UInt8) (w : World) (hl : b.length ≤ 140737488355328) (hr : Rd w 1 v b.length (bv b)) :
    Calls Try.prog 21 #[v] w fun e w' => e = .returned (.tuple #[gaG b, .int .i64 (gaE b)]) ∧ Below w.heap.size w w' := by
  obtain ⟨a, c, rfl⟩ := hr.form
  obtain ⟨w0, hw0⟩ : ∃ x : World, x = w.alloc (.cells #[.int .u64 0, .float .f64 0, .float .f64 0, .float .f64 0, .float .f64 0] 27) := ⟨_, rfl⟩
  have hrow0 : w0.heap[w.heap.size]? = some (.cells #[.int .u64 0, .float .f64 0, .float .f64 0, .float .f64 0, .float .f64 0] 27 (0, 0)) := by rw [hw0]; exact heap_alloc_new _ _
  have hb0 : Below w.heap.size w w0 := by rw [hw0]; exact (Below.refl _ _).alloc (Nat.le_refl _) _
  have hnew := New_any (.slice a b.length c) b w0 (hr.keep hb0) hl
  obtain ⟨g2, hg2⟩ : ∃ g, g = w.heap.size := ⟨_, rfl⟩
  obtain ⟨n, hn⟩ : ∃ n, n = b.length := ⟨_, rfl⟩
  rw [← hn] at hr hl hnew ⊢
  rw [← hg2] at hrow0
  have HW0 := Lib.hid hw0
  have H0 := Lib.hid (And.intro hrow0 (And.intro hb0 (And.intro hr hn)))
  have HNEW := Lib.hid hnew
  have HG2 := Lib.hid hg2
  obtain ⟨R, hR⟩ : ∃ R, R = rdN b := ⟨_, rfl⟩
  have hE : gaE b = if R.1 ≠ 0 then R.1 else if R.2.2.length < 32 then 2 else if feF 4 R.2.2 0 ≠ 0 then feF 4 R.2.2 0 else if 32 < R.2.2.length then 5 else 0 := by rw [hR]; rfl
  have hGd : gaG b = if gaE b = 0 then Gv R.2.1 (fl R.2.2 0).1 (fl R.2.2 1).1 (fl R.2.2 2).1 (fl R.2.2 3).1 else Gv 0 0 0 0 0 := by rw [hR]; rfl
  have hok : R.1 = 0 → R.2.1 < 2 ^ 64 ∧ b = numB R.2.1 ++ R.2.2 := fun h => rdN_ok _ _ _ (by rw [← hR, ← h])
  have HR := Lib.hid hR
  have HE := Lib.hid hE
  have HGD := Lib.hid hGd
  have HOK := Lib.hid hok
  clear hr hnew hw0 hrow0 hb0 hn hg2 hR hE hGd hok
  go_enter Try.func21, Try.ntmps21
  go_upto_region 1 with fail
  rw [← HW0.out, ← HG2.out]
  go_wp2_with fail
  refine HNEW.out.mono ?_
  rintro e w1 ⟨p, a1, c1, rfl, hp, hrd, hb1⟩
  have hnum := RNum_any w1 p a1 c1 0 b hrd
  have hr1 := (hb1.block _ (Array.getElem?_eq_some_iff.1 H0.out.1).1).trans H0.out.1
  have hp2 : g2 < p := Nat.lt_of_lt_of_le (Array.getElem?_eq_some_iff.1 H0.out.1).1 hp
  have hb01 := H0.out.2.1.trans (hb1.mono H0.out.2.1.size)
  have H1 := Lib.hid (And.intro hr1 (And.intro hp2 hb01))
  have HNUM := Lib.hid hnum
  clear hr1 hp2 hb01 hp hrd hb1 hnum HNEW
  go_wp2_with fail
  refine HNUM.out.mono ?_
  rintro e w2 ⟨hg, hres⟩
  rw [if_pos rfl, ← HR.out] at hres
  have hr2 := (hg.block g2 (Array.getElem?_eq_some_iff.1 H1.out.1).1 (by intro e; simp only [Option.some.injEq] at e; have := H1.out.2.1; omega)).trans H1.out.1
  have hb2 : Below w.heap.size w w2 := grow2 H1.out.2.2 hg (by have := H1.out.2.1; have := HG2.out; omega) H1.out.2.2.size
  have H2 := Lib.hid (And.intro hr2 hb2)
  have y0 := cell_rowG (v := .int .u64 0) (i := 0) hr2 rfl
  have y1 := cell_rowG (v := .float .f64 0) (i := 1) hr2 rfl
  have y2 := cell_rowG (v := .float .f64 0) (i := 2) hr2 rfl
  have y3 := cell_rowG (v := .float .f64 0) (i := 3) hr2 rfl
  have y4 := cell_rowG (v := .float .f64 0) (i := 4) hr2 rfl
  have hz : ∀ k : Nat, w2.frozen? ⟨g2, k, none⟩ = false := fun k => by simp [World.frozen?, hr2]
  clear hr2 hb2 hg HNUM
  by_cases hR0 : R.1 = 0
  · rw [if_pos hR0] at hres
    obtain ⟨rfl, a2, c2, hrd2⟩ := hres
    have hE1 : gaE b = if R.2.2.length < 32 then 2 else if feF 4 R.2.2 0 ≠ 0 then feF 4 R.2.2 0 else if 32 < R.2.2.length then 5 else 0 := by rw [HE.out, if_neg (fun h => h hR0)]
    have hbb := HOK.out hR0
    obtain ⟨N, hN⟩ : ∃ N, N = R.2.1 := ⟨_, rfl⟩
    obtain ⟨t, ht⟩ : ∃ t, t = R.2.2 := ⟨_, rfl⟩
    have hGD := HGD.out
    rw [← hN, ← ht] at hbb hGD
    rw [← ht] at hrd2 hE1
    rw [← hN]
    obtain ⟨L, hL⟩ : ∃ L, L = t.length := ⟨_, rfl⟩
    have hnl : (numB N).length + L = n := by rw [H0.out.2.2.2, hbb.2, List.length_append, hL]
    have HE1 := Lib.hid hE1
    have HGD2 := Lib.hid hGD
    have HRD2 := Lib.hid hrd2
    have HLT := Lib.hid (And.intro hL hbb)
    clear hE1 hGD hrd2 hL hbb hN ht HE HGD HOK HR
    go_upto_region 5 with fail
    obtain ⟨w3, hw3⟩ : ∃ x : World, x = w2.setCell ⟨g2, 0, none⟩ (.int .u64 N) := ⟨_, rfl⟩
    rw [← hw3]
    have hr3 : w3.heap[g2]? = some (.cells #[.int .u64 N, .float .f64 0, .float .f64 0, .float .f64 0, .float .f64 0] 27 (0, 0)) := by rw [hw3, heap_setCell_same w2 g2 0 _ _ _ H2.out.1]; rfl
    have hb3 : Below w.heap.size w w3 := by rw [hw3]; exact H2.out.2.setCell (show w.heap.size ≤ g2 by have := HG2.out; omega) _
    have hp3 : w3.heap[p]? = some (.cells #[.slice a2 L c2, .int .i64 0] 88 (0, 0)) := by rw [hw3, heap_setCell_other _ _ _ _ (show p ≠ g2 by have := H1.out.2.1; omega), HLT.out.1]; exact HRD2.out.row
    have hleft := Left_row w3 p a2 c2 L 0 hp3
    have H3 := Lib.hid (And.intro hr3 (And.intro hb3 (H0.out.2.2.1.keep hb3)))
    have HLE := Lib.hid hleft
    clear y0 y1 y2 y3 y4 hz
    have y0 := cell_rowG (v := .int .u64 N) (i := 0) hr3 rfl
    have y1 := cell_rowG (v := .float .f64 0) (i := 1) hr3 rfl
    have y2 := cell_rowG (v := .float .f64 0) (i := 2) hr3 rfl
    have y3 := cell_rowG (v := .float .f64 0) (i := 3) hr3 rfl
    have y4 := cell_rowG (v := .float .f64 0) (i := 4) hr3 rfl
    have hz : ∀ k : Nat, w3.frozen? ⟨g2, k, none⟩ = false := fun k => by simp [World.frozen?, hr3]
    clear hr3 hb3 hp3 hw3 hleft H2 HRD2
    have hwn : IntKind.i64.wrap ((n : Int) - (L : Int)) = ((n - L : Nat) : Int) := (IntWalk.i64_in _ (by omega)).trans (by omega)
    by_cases h32 : L < 32
    · have z32 : (L : Int) < 32 := by omega
      go_wp2_with fail
      refine HLE.out.mono ?_
      rintro e w4 ⟨rfl, rfl⟩
      go_wp2_with fail
      all_goals
        have he : gaE b = 2 := by rw [HE1.out, if_pos (by rw [← HLT.out.1]; exact h32)]
        rw [he, show gaG b = Gv 0 0 0 0 0 by rw [HGD2.out, if_neg (by rw [he]; decide)]]
        exact bodyPost_ret (v := .tuple #[Gv 0 0 0 0 0, .int .i64 2]) (by simp [results, Try.results21, go_sem, y0, y1, y2, y3, y4]) rfl ⟨rfl, (by
          have hb := H3.out.2.1
          have hge : w.heap.size ≤ g2 := by have := HG2.out; omega
          repeat (first | with_reducible exact hb | with_reducible refine Below.setCell ?_ hge _))⟩
    · have z32 : ¬ (L : Int) < 32 := by omega
      obtain ⟨q, o, c', hv, hcn, _⟩ := H3.out.2.2.at (by omega)
      simp only [Value.slice.injEq, true_and] at hv
      obtain ⟨rfl, rfl⟩ := hv
      have hcne : ¬ c = n - L := by omega
      go_upto_region 6 with fail
      refine HLE.out.mono ?_
      rintro e w4 ⟨rfl, rfl⟩
      go_upto_region 6 with fail
      have hdr : b.drop (n - L) = t := by
        rw [HLT.out.2.2, show n - L = (numB N).length by omega, List.drop_left]
      have hrest0 := rd_rest H0.out.2.2.1 (show n - L ≤ n by omega)
      rw [hdr, show n - (n - L) = L by omega] at hrest0
      rw [show n - (n - L) = L by omega]
      obtain ⟨o2, ho2⟩ : ∃ x, x = o + (n - L) := ⟨_, rfl⟩
      obtain ⟨c2', hc2'⟩ : ∃ x, x = c - (n - L) := ⟨_, rfl⟩
      rw [← ho2, ← hc2'] at hrest0 ⊢
      have h32c : 32 ≤ c2' := by omega
      have hLL : L ≤ c2' := by omega
      have htl : t.length = L := HLT.out.1.symm
      obtain ⟨f0, hf0⟩ : ∃ x, x = (fl t 0).1 := ⟨_, rfl⟩
      obtain ⟨e0, he0⟩ : ∃ x, x = (fl t 0).2 := ⟨_, rfl⟩
      have hg0 : ∀ wx, Below w.heap.size w wx → Calls Try.prog 40 #[.slice (some ⟨q, o2, none⟩) 8 c2'] wx fun e w' => e = .returned (.tuple #[.float .f64 f0, .int .i64 e0]) ∧ wx = w' := fun wx hb => by
        have h := Get_any _ _ wx (by simp; omega) ((rd_piece (i := 0) hrest0 (by omega)).keepB hb (Nat.le_refl _))
        rw [show getP ((t.drop (8 * 0)).take 8) = (f0, e0) by rw [hf0, he0]; rfl] at h
        exact h
      have HP0 := Lib.hid hg0
      obtain ⟨f1, hf1⟩ : ∃ x, x = (fl t 1).1 := ⟨_, rfl⟩
      obtain ⟨e1, he1⟩ : ∃ x, x = (fl t 1).2 := ⟨_, rfl⟩
      have hg1 : ∀ wx, Below w.heap.size w wx → Calls Try.prog 40 #[.slice (some ⟨q, o2 + 8, none⟩) 8 (c2' - 8)] wx fun e w' => e = .returned (.tuple #[.float .f64 f1, .int .i64 e1]) ∧ wx = w' := fun wx hb => by
        have h := Get_any _ _ wx (by simp; omega) ((rd_piece (i := 1) hrest0 (by omega)).keepB hb (Nat.le_refl _))
        rw [show getP ((t.drop (8 * 1)).take 8) = (f1, e1) by rw [hf1, he1]; rfl] at h
        exact h
      have HP1 := Lib.hid hg1
      obtain ⟨f2, hf2⟩ : ∃ x, x = (fl t 2).1 := ⟨_, rfl⟩
      obtain ⟨e2, he2⟩ : ∃ x, x = (fl t 2).2 := ⟨_, rfl⟩
      have hg2' : ∀ wx, Below w.heap.size w wx → Calls Try.prog 40 #[.slice (some ⟨q, o2 + 16, none⟩) 8 (c2' - 16)] wx fun e w' => e = .returned (.tuple #[.float .f64 f2, .int .i64 e2]) ∧ wx = w' := fun wx hb => by
        have h := Get_any _ _ wx (by simp; omega) ((rd_piece (i := 2) hrest0 (by omega)).keepB hb (Nat.le_refl _))
        rw [show getP ((t.drop (8 * 2)).take 8) = (f2, e2) by rw [hf2, he2]; rfl] at h
        exact h
      have HP2 := Lib.hid hg2'
      obtain ⟨f3, hf3⟩ : ∃ x, x = (fl t 3).1 := ⟨_, rfl⟩
      obtain ⟨e3, he3⟩ : ∃ x, x = (fl t 3).2 := ⟨_, rfl⟩
      have hg3 : ∀ wx, Below w.heap.size w wx → Calls Try.prog 40 #[.slice (some ⟨q, o2 + 24, none⟩) 8 (c2' - 24)] wx fun e w' => e = .returned (.tuple #[.float .f64 f3, .int .i64 e3]) ∧ wx = w' := fun wx hb => by
        have h := Get_any _ _ wx (by simp; omega) ((rd_piece (i := 3) hrest0 (by omega)).keepB hb (Nat.le_refl _))
        rw [show getP ((t.drop (8 * 3)).take 8) = (f3, e3) by rw [hf3, he3]; rfl] at h
        exact h
      have HP3 := Lib.hid hg3
      have HF := Lib.hid (show feF 4 t 0 = if e0 = 0 then if e1 = 0 then if e2 = 0 then if e3 = 0 then 0 else e3 else e2 else e1 else e0 by rw [he0, he1, he2, he3]; rfl)
      have hgv := HGD2.out
      rw [← hf0, ← hf1, ← hf2, ← hf3] at hgv
      have HGV := Lib.hid hgv
      have HFL := Lib.hid (And.intro (show f0 < 18446744073709551616 by rw [hf0]; exact fl_lt _ _) (show L = t.length from htl.symm))
      have hne8 : ¬ c2' = 8 := by omega
      have hne16 : ¬ c2' = 16 := by omega
      have hne24 : ¬ c2' = 24 := by omega
      have hnl0 : g2 < w4.heap.size := (Array.getElem?_eq_some_iff.1 H3.out.1).1
      clear hdr hrest0 ho2 hc2' hf0 hf1 hf2 hf3 he0 he1 he2 he3 hgv htl hcne hwn HLE hcn h32 hnl hg0 hg1 hg2' hg3
      go_wp2_with fail
      obtain ⟨w5, hw5⟩ : ∃ x : World, x = w4.alloc (.cells #[.pointer (some ⟨g2, 1, none⟩), .pointer (some ⟨g2, 2, none⟩), .pointer (some ⟨g2, 3, none⟩), .pointer (some ⟨g2, 4, none⟩)] 71) := ⟨_, rfl⟩
      rw [← hw5]
      have hr5 : w5.heap[g2]? = some (.cells #[.int .u64 N, .float .f64 0, .float .f64 0, .float .f64 0, .float .f64 0] 27 (0, 0)) := by rw [hw5]; exact (heap_alloc_old _ _ hnl0).trans H3.out.1
      have hb5 : Below w.heap.size w w5 := by rw [hw5]; exact H3.out.2.1.alloc H3.out.2.1.size _
      obtain ⟨g5, hg5⟩ : ∃ x, x = w4.heap.size := ⟨_, rfl⟩
      have hrp : w5.heap[g5]? = some (.cells #[.pointer (some ⟨g2, 1, none⟩), .pointer (some ⟨g2, 2, none⟩), .pointer (some ⟨g2, 3, none⟩), .pointer (some ⟨g2, 4, none⟩)] 71 (0, 0)) := by rw [hw5, hg5]; exact heap_alloc_new _ _
      rw [← hg5]
      have hne5 : ¬ g5 = g2 := by omega
      have hp0 := cell_rowG (v := .pointer (some ⟨g2, 1, none⟩)) (i := 0) hrp rfl
      have hp1 := cell_rowG (v := .pointer (some ⟨g2, 2, none⟩)) (i := 1) hrp rfl
      have hp2 := cell_rowG (v := .pointer (some ⟨g2, 3, none⟩)) (i := 2) hrp rfl
      have hp3 := cell_rowG (v := .pointer (some ⟨g2, 4, none⟩)) (i := 3) hrp rfl
      clear y0 y1 y2 y3 y4 hz
      have y0 := cell_rowG (v := .int .u64 N) (i := 0) hr5 rfl
      have y1 := cell_rowG (v := .float .f64 0) (i := 1) hr5 rfl
      have y2 := cell_rowG (v := .float .f64 0) (i := 2) hr5 rfl
      have y3 := cell_rowG (v := .float .f64 0) (i := 3) hr5 rfl
      have y4 := cell_rowG (v := .float .f64 0) (i := 4) hr5 rfl
      have hz : ∀ k : Nat, w5.frozen? ⟨g2, k, none⟩ = false := fun k => by simp [World.frozen?, hr5]
      have HBL := Lib.hid (And.intro (show w.heap.size ≤ g2 by have := HG2.out; omega) (And.intro hb5.size hb5))
      clear hb5 hrp hg5 hw5 hnl0 H3
      refine wp_loop_rounds 5 ?_
      rw [rounds_succ]
      go_wp2_with fail
      refine (HP0.out _ (by have hb := HBL.out; repeat (first | with_reducible exact hb.2.2 | with_reducible refine Below.setCell ?_ hb.1 _ | with_reducible refine Below.alloc ?_ hb.2.1 _))).mono ?_
      rintro e wx ⟨rfl, rfl⟩
      by_cases hE0 : ¬ e0 = 0
      · have zE : (e0 == 0) = false := by simp [hE0]
        have hfk : feF 4 t 0 = e0 := by rw [HF.out]; simp [hE0]
        have he : gaE b = e0 := by rw [HE1.out, if_neg (by rw [← HFL.out.2]; omega), if_pos (by rw [hfk]; exact hE0), hfk]
        have hg : gaG b = Gv 0 0 0 0 0 := by rw [HGD2.out, if_neg (by rw [he]; exact hE0)]
        have HEG := Lib.hid (And.intro he hg)
        clear he hg hfk hE0
        go_wp2_with fail
        rw [HEG.out.1, HEG.out.2]
        exact bodyPost_ret (v := .tuple #[Gv 0 0 0 0 0, .int .i64 e0]) (by have hq0 : (w5.setCell ⟨g2, 1, none⟩ (.float .f64 f0)).heap[g2]? = some (.cells #[.int .u64 N, .float .f64 f0, .float .f64 0, .float .f64 0, .float .f64 0] 27 (0, 0)) := (by rw [heap_setCell_same _ g2 1 _ _ _ hr5]; try rfl); have z0 := set5_cell (.int .u64 0) (.float .f64 0) (.float .f64 0) (.float .f64 0) (.float .f64 0) hq0 0; have z1 := set5_cell (.int .u64 0) (.float .f64 0) (.float .f64 0) (.float .f64 0) (.float .f64 0) hq0 1; have z2 := set5_cell (.int .u64 0) (.float .f64 0) (.float .f64 0) (.float .f64 0) (.float .f64 0) hq0 2; have z3 := set5_cell (.int .u64 0) (.float .f64 0) (.float .f64 0) (.float .f64 0) (.float .f64 0) hq0 3; have z4 := set5_cell (.int .u64 0) (.float .f64 0) (.float .f64 0) (.float .f64 0) (.float .f64 0) hq0 4; simp only [results, Try.results21]; simp [go_sem, z0, z1, z2, z3, z4]) rfl ⟨rfl, (by have hb := HBL.out; repeat (first | with_reducible exact hb.2.2 | with_reducible refine Below.setCell ?_ hb.1 _ | with_reducible refine Below.alloc ?_ hb.2.1 _))⟩
      have hE0 := Decidable.not_not.1 hE0
      subst hE0
      go_wp2_with fail
      rw [rounds_succ]
      go_wp2_with fail
      refine (HP1.out _ (by have hb := HBL.out; repeat (first | with_reducible exact hb.2.2 | with_reducible refine Below.setCell ?_ hb.1 _ | with_reducible refine Below.alloc ?_ hb.2.1 _))).mono ?_
      rintro e wx ⟨rfl, rfl⟩
      by_cases hE1 : ¬ e1 = 0
      · have zE : (e1 == 0) = false := by simp [hE1]
        have hfk : feF 4 t 0 = e1 := by rw [HF.out]; simp [hE1]
        have he : gaE b = e1 := by rw [HE1.out, if_neg (by rw [← HFL.out.2]; omega), if_pos (by rw [hfk]; exact hE1), hfk]
        have hg : gaG b = Gv 0 0 0 0 0 := by rw [HGD2.out, if_neg (by rw [he]; exact hE1)]
        have HEG := Lib.hid (And.intro he hg)
        clear he hg hfk hE1
        go_wp2_with fail
        rw [HEG.out.1, HEG.out.2]
        exact bodyPost_ret (v := .tuple #[Gv 0 0 0 0 0, .int .i64 e1]) (by have hq0 : (w5.setCell ⟨g2, 1, none⟩ (.float .f64 f0)).heap[g2]? = some (.cells #[.int .u64 N, .float .f64 f0, .float .f64 0, .float .f64 0, .float .f64 0] 27 (0, 0)) := (by rw [heap_setCell_same _ g2 1 _ _ _ hr5]; try rfl); have hq1 : ((w5.setCell ⟨g2, 1, none⟩ (.float .f64 f0)).setCell ⟨g2, 2, none⟩ (.float .f64 f1)).heap[g2]? = some (.cells #[.int .u64 N, .float .f64 f0, .float .f64 f1, .float .f64 0, .float .f64 0] 27 (0, 0)) := (by rw [heap_setCell_same _ g2 2 _ _ _ hq0]; try rfl); have z0 := set5_cell (.int .u64 0) (.float .f64 0) (.float .f64 0) (.float .f64 0) (.float .f64 0) hq1 0; have z1 := set5_cell (.int .u64 0) (.float .f64 0) (.float .f64 0) (.float .f64 0) (.float .f64 0) hq1 1; have z2 := set5_cell (.int .u64 0) (.float .f64 0) (.float .f64 0) (.float .f64 0) (.float .f64 0) hq1 2; have z3 := set5_cell (.int .u64 0) (.float .f64 0) (.float .f64 0) (.float .f64 0) (.float .f64 0) hq1 3; have z4 := set5_cell (.int .u64 0) (.float .f64 0) (.float .f64 0) (.float .f64 0) (.float .f64 0) hq1 4; simp only [results, Try.results21]; simp [go_sem, z0, z1, z2, z3, z4]) rfl ⟨rfl, (by have hb := HBL.out; repeat (first | with_reducible exact hb.2.2 | with_reducible refine Below.setCell ?_ hb.1 _ | with_reducible refine Below.alloc ?_ hb.2.1 _))⟩
      have hE1 := Decidable.not_not.1 hE1
      subst hE1
      go_wp2_with fail
      rw [rounds_succ]
      go_wp2_with fail
      refine (HP2.out _ (by have hb := HBL.out; repeat (first | with_reducible exact hb.2.2 | with_reducible refine Below.setCell ?_ hb.1 _ | with_reducible refine Below.alloc ?_ hb.2.1 _))).mono ?_
      rintro e wx ⟨rfl, rfl⟩
      by_cases hE2 : ¬ e2 = 0
      · have zE : (e2 == 0) = false := by simp [hE2]
        have hfk : feF 4 t 0 = e2 := by rw [HF.out]; simp [hE2]
        have he : gaE b = e2 := by rw [HE1.out, if_neg (by rw [← HFL.out.2]; omega), if_pos (by rw [hfk]; exact hE2), hfk]
        have hg : gaG b = Gv 0 0 0 0 0 := by rw [HGD2.out, if_neg (by rw [he]; exact hE2)]
        have HEG := Lib.hid (And.intro he hg)
        clear he hg hfk hE2
        go_wp2_with fail
        rw [HEG.out.1, HEG.out.2]
        exact bodyPost_ret (v := .tuple #[Gv 0 0 0 0 0, .int .i64 e2]) (by have hq0 : (w5.setCell ⟨g2, 1, none⟩ (.float .f64 f0)).heap[g2]? = some (.cells #[.int .u64 N, .float .f64 f0, .float .f64 0, .float .f64 0, .float .f64 0] 27 (0, 0)) := (by rw [heap_setCell_same _ g2 1 _ _ _ hr5]; try rfl); have hq1 : ((w5.setCell ⟨g2, 1, none⟩ (.float .f64 f0)).setCell ⟨g2, 2, none⟩ (.float .f64 f1)).heap[g2]? = some (.cells #[.int .u64 N, .float .f64 f0, .float .f64 f1, .float .f64 0, .float .f64 0] 27 (0, 0)) := (by rw [heap_setCell_same _ g2 2 _ _ _ hq0]; try rfl); have hq2 : (((w5.setCell ⟨g2, 1, none⟩ (.float .f64 f0)).setCell ⟨g2, 2, none⟩ (.float .f64 f1)).setCell ⟨g2, 3, none⟩ (.float .f64 f2)).heap[g2]? = some (.cells #[.int .u64 N, .float .f64 f0, .float .f64 f1, .float .f64 f2, .float .f64 0] 27 (0, 0)) := (by rw [heap_setCell_same _ g2 3 _ _ _ hq1]; try rfl); have z0 := set5_cell (.int .u64 0) (.float .f64 0) (.float .f64 0) (.float .f64 0) (.float .f64 0) hq2 0; have z1 := set5_cell (.int .u64 0) (.float .f64 0) (.float .f64 0) (.float .f64 0) (.float .f64 0) hq2 1; have z2 := set5_cell (.int .u64 0) (.float .f64 0) (.float .f64 0) (.float .f64 0) (.float .f64 0) hq2 2; have z3 := set5_cell (.int .u64 0) (.float .f64 0) (.float .f64 0) (.float .f64 0) (.float .f64 0) hq2 3; have z4 := set5_cell (.int .u64 0) (.float .f64 0) (.float .f64 0) (.float .f64 0) (.float .f64 0) hq2 4; simp only [results, Try.results21]; simp [go_sem, z0, z1, z2, z3, z4]) rfl ⟨rfl, (by have hb := HBL.out; repeat (first | with_reducible exact hb.2.2 | with_reducible refine Below.setCell ?_ hb.1 _ | with_reducible refine Below.alloc ?_ hb.2.1 _))⟩
      have hE2 := Decidable.not_not.1 hE2
      subst hE2
      go_wp2_with fail
      rw [rounds_succ]
      go_wp2_with fail
      refine (HP3.out _ (by have hb := HBL.out; repeat (first | with_reducible exact hb.2.2 | with_reducible refine Below.setCell ?_ hb.1 _ | with_reducible refine Below.alloc ?_ hb.2.1 _))).mono ?_
      rintro e wx ⟨rfl, rfl⟩
      by_cases hE3 : ¬ e3 = 0
      · have zE : (e3 == 0) = false := by simp [hE3]
        have hfk : feF 4 t 0 = e3 := by rw [HF.out]; simp [hE3]
        have he : gaE b = e3 := by rw [HE1.out, if_neg (by rw [← HFL.out.2]; omega), if_pos (by rw [hfk]; exact hE3), hfk]
        have hg : gaG b = Gv 0 0 0 0 0 := by rw [HGD2.out, if_neg (by rw [he]; exact hE3)]
        have HEG := Lib.hid (And.intro he hg)
        clear he hg hfk hE3
        go_wp2_with fail
        rw [HEG.out.1, HEG.out.2]
        exact bodyPost_ret (v := .tuple #[Gv 0 0 0 0 0, .int .i64 e3]) (by have hq0 : (w5.setCell ⟨g2, 1, none⟩ (.float .f64 f0)).heap[g2]? = some (.cells #[.int .u64 N, .float .f64 f0, .float .f64 0, .float .f64 0, .float .f64 0] 27 (0, 0)) := (by rw [heap_setCell_same _ g2 1 _ _ _ hr5]; try rfl); have hq1 : ((w5.setCell ⟨g2, 1, none⟩ (.float .f64 f0)).setCell ⟨g2, 2, none⟩ (.float .f64 f1)).heap[g2]? = some (.cells #[.int .u64 N, .float .f64 f0, .float .f64 f1, .float .f64 0, .float .f64 0] 27 (0, 0)) := (by rw [heap_setCell_same _ g2 2 _ _ _ hq0]; try rfl); have hq2 : (((w5.setCell ⟨g2, 1, none⟩ (.float .f64 f0)).setCell ⟨g2, 2, none⟩ (.float .f64 f1)).setCell ⟨g2, 3, none⟩ (.float .f64 f2)).heap[g2]? = some (.cells #[.int .u64 N, .float .f64 f0, .float .f64 f1, .float .f64 f2, .float .f64 0] 27 (0, 0)) := (by rw [heap_setCell_same _ g2 3 _ _ _ hq1]; try rfl); have hq3 : ((((w5.setCell ⟨g2, 1, none⟩ (.float .f64 f0)).setCell ⟨g2, 2, none⟩ (.float .f64 f1)).setCell ⟨g2, 3, none⟩ (.float .f64 f2)).setCell ⟨g2, 4, none⟩ (.float .f64 f3)).heap[g2]? = some (.cells #[.int .u64 N, .float .f64 f0, .float .f64 f1, .float .f64 f2, .float .f64 f3] 27 (0, 0)) := (by rw [heap_setCell_same _ g2 4 _ _ _ hq2]; try rfl); have z0 := set5_cell (.int .u64 0) (.float .f64 0) (.float .f64 0) (.float .f64 0) (.float .f64 0) hq3 0; have z1 := set5_cell (.int .u64 0) (.float .f64 0) (.float .f64 0) (.float .f64 0) (.float .f64 0) hq3 1; have z2 := set5_cell (.int .u64 0) (.float .f64 0) (.float .f64 0) (.float .f64 0) (.float .f64 0) hq3 2; have z3 := set5_cell (.int .u64 0) (.float .f64 0) (.float .f64 0) (.float .f64 0) (.float .f64 0) hq3 3; have z4 := set5_cell (.int .u64 0) (.float .f64 0) (.float .f64 0) (.float .f64 0) (.float .f64 0) hq3 4; simp only [results, Try.results21]; simp [go_sem, z0, z1, z2, z3, z4]) rfl ⟨rfl, (by have hb := HBL.out; repeat (first | with_reducible exact hb.2.2 | with_reducible refine Below.setCell ?_ hb.1 _ | with_reducible refine Below.alloc ?_ hb.2.1 _))⟩
      have hE3 := Decidable.not_not.1 hE3
      subst hE3
      go_wp2_with fail
      rw [rounds_succ]
      by_cases hgt : 32 < L
      · have zg : (32 : Int) < (L : Int) := by omega
        have hf0 : feF 4 t 0 = 0 := by rw [HF.out]; rfl
        have he : gaE b = 5 := by rw [HE1.out, if_neg (by rw [← HFL.out.2]; omega), if_neg (by rw [hf0]; exact fun h => h rfl), if_pos (by rw [← HFL.out.2]; exact hgt)]
        have hg : gaG b = Gv 0 0 0 0 0 := by rw [HGD2.out, if_neg (by rw [he]; decide)]
        have HEG := Lib.hid (And.intro he hg)
        clear he hg hf0 hgt
        go_wp2_with fail
        rw [HEG.out.1, HEG.out.2]
        exact bodyPost_ret (v := .tuple #[Gv 0 0 0 0 0, .int .i64 5]) (by have hq0 : (w5.setCell ⟨g2, 1, none⟩ (.float .f64 f0)).heap[g2]? = some (.cells #[.int .u64 N, .float .f64 f0, .float .f64 0, .float .f64 0, .float .f64 0] 27 (0, 0)) := (by rw [heap_setCell_same _ g2 1 _ _ _ hr5]; try rfl); have hq1 : ((w5.setCell ⟨g2, 1, none⟩ (.float .f64 f0)).setCell ⟨g2, 2, none⟩ (.float .f64 f1)).heap[g2]? = some (.cells #[.int .u64 N, .float .f64 f0, .float .f64 f1, .float .f64 0, .float .f64 0] 27 (0, 0)) := (by rw [heap_setCell_same _ g2 2 _ _ _ hq0]; try rfl); have hq2 : (((w5.setCell ⟨g2, 1, none⟩ (.float .f64 f0)).setCell ⟨g2, 2, none⟩ (.float .f64 f1)).setCell ⟨g2, 3, none⟩ (.float .f64 f2)).heap[g2]? = some (.cells #[.int .u64 N, .float .f64 f0, .float .f64 f1, .float .f64 f2, .float .f64 0] 27 (0, 0)) := (by rw [heap_setCell_same _ g2 3 _ _ _ hq1]; try rfl); have hq3 : ((((w5.setCell ⟨g2, 1, none⟩ (.float .f64 f0)).setCell ⟨g2, 2, none⟩ (.float .f64 f1)).setCell ⟨g2, 3, none⟩ (.float .f64 f2)).setCell ⟨g2, 4, none⟩ (.float .f64 f3)).heap[g2]? = some (.cells #[.int .u64 N, .float .f64 f0, .float .f64 f1, .float .f64 f2, .float .f64 f3] 27 (0, 0)) := (by rw [heap_setCell_same _ g2 4 _ _ _ hq2]; try rfl); have z0 := set5_cell (.int .u64 0) (.float .f64 0) (.float .f64 0) (.float .f64 0) (.float .f64 0) hq3 0; have z1 := set5_cell (.int .u64 0) (.float .f64 0) (.float .f64 0) (.float .f64 0) (.float .f64 0) hq3 1; have z2 := set5_cell (.int .u64 0) (.float .f64 0) (.float .f64 0) (.float .f64 0) (.float .f64 0) hq3 2; have z3 := set5_cell (.int .u64 0) (.float .f64 0) (.float .f64 0) (.float .f64 0) (.float .f64 0) hq3 3; have z4 := set5_cell (.int .u64 0) (.float .f64 0) (.float .f64 0) (.float .f64 0) (.float .f64 0) hq3 4; simp only [results, Try.results21]; simp [go_sem, z0, z1, z2, z3, z4]) rfl ⟨rfl, (by have hb := HBL.out; repeat (first | with_reducible exact hb.2.2 | with_reducible refine Below.setCell ?_ hb.1 _ | with_reducible refine Below.alloc ?_ hb.2.1 _))⟩
      · have zg : ¬ (32 : Int) < (L : Int) := by omega
        have hf0 : feF 4 t 0 = 0 := by rw [HF.out]; rfl
        have he : gaE b = 0 := by rw [HE1.out, if_neg (by rw [← HFL.out.2]; omega), if_neg (by rw [hf0]; exact fun h => h rfl), if_neg (by rw [← HFL.out.2]; exact hgt)]
        have hg : gaG b = Gv N f0 f1 f2 f3 := by rw [HGV.out, if_pos he]
        have HEG := Lib.hid (And.intro he hg)
        clear he hg hf0 hgt
        go_wp2_with fail
        rw [HEG.out.1, HEG.out.2]
        exact bodyPost_ret (v := .tuple #[Gv N f0 f1 f2 f3, .int .i64 0]) (by have hq0 : (w5.setCell ⟨g2, 1, none⟩ (.float .f64 f0)).heap[g2]? = some (.cells #[.int .u64 N, .float .f64 f0, .float .f64 0, .float .f64 0, .float .f64 0] 27 (0, 0)) := (by rw [heap_setCell_same _ g2 1 _ _ _ hr5]; try rfl); have hq1 : ((w5.setCell ⟨g2, 1, none⟩ (.float .f64 f0)).setCell ⟨g2, 2, none⟩ (.float .f64 f1)).heap[g2]? = some (.cells #[.int .u64 N, .float .f64 f0, .float .f64 f1, .float .f64 0, .float .f64 0] 27 (0, 0)) := (by rw [heap_setCell_same _ g2 2 _ _ _ hq0]; try rfl); have hq2 : (((w5.setCell ⟨g2, 1, none⟩ (.float .f64 f0)).setCell ⟨g2, 2, none⟩ (.float .f64 f1)).setCell ⟨g2, 3, none⟩ (.float .f64 f2)).heap[g2]? = some (.cells #[.int .u64 N, .float .f64 f0, .float .f64 f1, .float .f64 f2, .float .f64 0] 27 (0, 0)) := (by rw [heap_setCell_same _ g2 3 _ _ _ hq1]; try rfl); have hq3 : ((((w5.setCell ⟨g2, 1, none⟩ (.float .f64 f0)).setCell ⟨g2, 2, none⟩ (.float .f64 f1)).setCell ⟨g2, 3, none⟩ (.float .f64 f2)).setCell ⟨g2, 4, none⟩ (.float .f64 f3)).heap[g2]? = some (.cells #[.int .u64 N, .float .f64 f0, .float .f64 f1, .float .f64 f2, .float .f64 f3] 27 (0, 0)) := (by rw [heap_setCell_same _ g2 4 _ _ _ hq2]; try rfl); have z0 := set5_cell (.int .u64 N) (.float .f64 f0) (.float .f64 f1) (.float .f64 f2) (.float .f64 f3) hq3 0; have z1 := set5_cell (.int .u64 N) (.float .f64 f0) (.float .f64 f1) (.float .f64 f2) (.float .f64 f3) hq3 1; have z2 := set5_cell (.int .u64 N) (.float .f64 f0) (.float .f64 f1) (.float .f64 f2) (.float .f64 f3) hq3 2; have z3 := set5_cell (.int .u64 N) (.float .f64 f0) (.float .f64 f1) (.float .f64 f2) (.float .f64 f3) hq3 3; have z4 := set5_cell (.int .u64 N) (.float .f64 f0) (.float .f64 f1) (.float .f64 f2) (.float .f64 f3) hq3 4; simp only [results, Try.results21]; simp [go_sem, z0, z1, z2, z3, z4]) rfl ⟨rfl, (by have hb := HBL.out; repeat (first | with_reducible exact hb.2.2 | with_reducible refine Below.setCell ?_ hb.1 _ | with_reducible refine Below.alloc ?_ hb.2.1 _))⟩
  · rw [if_neg hR0] at hres
    obtain ⟨rfl, hrd2⟩ := hres
    have hE1 : gaE b = R.1 := by rw [HE.out, if_pos hR0]
    have hG1 : gaG b = Gv 0 0 0 0 0 := by rw [HGD.out, if_neg (by rw [hE1]; exact hR0)]
    obtain ⟨e0, he0⟩ : ∃ x, x = R.1 := ⟨_, rfl⟩
    rw [← he0] at hR0 hE1 ⊢
    have hE2 : (e0 == 0) = false := by simp [hR0]
    have HE1 := Lib.hid (And.intro hE1 hG1)
    clear hE1 hG1 he0 hrd2 HE HGD HOK HR hR0
    go_wp2_with fail
    rw [HE1.out.1, HE1.out.2]
    exact bodyPost_ret (v := .tuple #[Gv 0 0 0 0 0, .int .i64 e0]) (by simp [results, Try.results21, go_sem, y0, y1, y2, y3, y4]) rfl ⟨rfl, (by
      have hb := H2.out.2
      have hge : w.heap.size ≤ g2 := by have := HG2.out; omega
      repeat (first | with_reducible exact hb | with_reducible refine Below.setCell ?_ hge _))⟩
end Go.Proofs.Ytdociiogddihfaa
