/- The reference's Get of gauges. (printed by gen/garget.py) -/
import Derived.Test.YtdociiogddihfaaGaH
namespace Go.Proofs.Ytdociiogddihfaa
open Go.RowKit

theorem rd_piece_at {w : World} {q o n c p i : Nat} {b t : List UInt8} (h : Rd w 1 (.slice (some ⟨q, o, none⟩) n c) n (bv b)) (ht : b.drop p = t) (hi : p + (8 * i + 8) ≤ n) :
    Rd w 1 (.slice (some ⟨q, o + (p + 8 * i), none⟩) 8 (c - (p + 8 * i))) ((t.drop (8 * i)).take 8).length (bv ((t.drop (8 * i)).take 8)) := by
  have h1 := rd_rest h (show p ≤ n by omega)
  rw [ht] at h1
  have h2 := rd_piece (i := i) h1 (by omega)
  rwa [Nat.add_assoc, Nat.sub_sub] at h2
set_option maxHeartbeats 16000000 in
set_option maxRecDepth 100000 in
theorem RGGet_any (v : Value) (b : List UInt8) (w : World) (hl : b.length ≤ 140737488355000) (hr : Rd w 1 v b.length (bv b)) :
    Calls Try.prog 22 #[v] w fun e w' => e = .returned (.tuple #[gaG b, .int .i64 (gaE b)]) ∧ Below w.heap.size w w' := by
  obtain ⟨a, c, rfl⟩ := hr.form
  obtain ⟨n, hn⟩ : ∃ n, n = b.length := ⟨_, rfl⟩
  rw [← hn] at hr hl ⊢
  obtain ⟨w0, hw0⟩ : ∃ x : World, x = w.alloc (.cells #[.int .u64 0, .float .f64 0, .float .f64 0, .float .f64 0, .float .f64 0] 27) := ⟨_, rfl⟩
  obtain ⟨w1, hw1⟩ : ∃ x : World, x = w0.alloc (.cells #[.slice a n c, .int .i64 0, .int .i64 0] 77) := ⟨_, rfl⟩
  have hrow0 : w0.heap[w.heap.size]? = some (.cells #[.int .u64 0, .float .f64 0, .float .f64 0, .float .f64 0, .float .f64 0] 27 (0, 0)) := by rw [hw0]; exact heap_alloc_new _ _
  have hb0 : Below w.heap.size w w0 := by rw [hw0]; exact (Below.refl _ _).alloc (Nat.le_refl _) _
  have hr1 : w1.heap[w.heap.size]? = some (.cells #[.int .u64 0, .float .f64 0, .float .f64 0, .float .f64 0, .float .f64 0] 27 (0, 0)) := by rw [hw1]; exact (heap_alloc_old _ _ (Array.getElem?_eq_some_iff.1 hrow0).1).trans hrow0
  have hs0 : w0.heap.size = w.heap.size + 1 := by rw [hw0]; simp
  have hr2 : w1.heap[w.heap.size + 1]? = some (.cells #[.slice a n c, .int .i64 0, .int .i64 0] 77 (0, 0)) := by rw [hw1, ← hs0]; exact heap_alloc_new _ _
  have hb1 : Below w.heap.size w w1 := by rw [hw1]; exact hb0.alloc hb0.size _
  have hA0 : b ≠ [] → ∀ x, a = some x → x.block < w.heap.size := fun hne x hx => by
    obtain ⟨b', o, k, hv, _, cell⟩ := hr.at (by rw [hn]; exact List.length_pos_iff.2 hne)
    simp only [Value.slice.injEq] at hv
    rw [hx] at hv
    obtain rfl := Option.some.inj hv.1
    obtain ⟨u, hu⟩ : ∃ u, (bv b)[0]? = some u := ⟨(bv b)[0]'(by rw [bv_length]; exact List.length_pos_iff.2 hne), List.getElem?_eq_getElem _⟩
    exact World.block_lt_of_cell? _ _ (cell 0 u hu)
  obtain ⟨g2, hg2⟩ : ∃ g, g = w.heap.size := ⟨_, rfl⟩
  obtain ⟨gr, hgr⟩ : ∃ g, g = w.heap.size + 1 := ⟨_, rfl⟩
  rw [← hg2] at hr1
  rw [← hgr] at hr2
  have hrf : Rfr w1 gr a c b 0 0 := ⟨by rw [← hn]; exact hr2, by rw [← hn]; exact hr.keep hb1, fun hne x hx e => by have := hA0 hne x hx; omega, Nat.zero_le _⟩
  have hnum := rNum_any w1 gr a c b 0 0 hrf (by omega)
  rw [List.drop_zero] at hnum
  have HW1 := Lib.hid (And.intro hw0 hw1)
  have H1 := Lib.hid (And.intro hr1 (And.intro hb1 (And.intro hr hn)))
  have HNUM := Lib.hid hnum
  have HG2 := Lib.hid (And.intro hg2 hgr)
  have HA0 := Lib.hid hA0
  obtain ⟨R, hR⟩ : ∃ R, R = rdN b := ⟨_, rfl⟩
  have hE : gaE b = if R.1 ≠ 0 then R.1 else if R.2.2.length < 32 then 2 else if feF 4 R.2.2 0 ≠ 0 then feF 4 R.2.2 0 else if 32 < R.2.2.length then 5 else 0 := by rw [hR]; rfl
  have hGd : gaG b = if gaE b = 0 then Gv R.2.1 (fl R.2.2 0).1 (fl R.2.2 1).1 (fl R.2.2 2).1 (fl R.2.2 3).1 else Gv 0 0 0 0 0 := by rw [hR]; rfl
  have HR := Lib.hid hR
  have HE := Lib.hid hE
  have HGD := Lib.hid hGd
  clear hr hnum hw0 hw1 hrow0 hb0 hr1 hr2 hb1 hs0 hrf hA0 hn hg2 hgr hR hE hGd
  go_enter Try.func22, Try.ntmps22
  go_upto_region 2 with fail
  rw [← HW1.out.1]
  have hs1 : w0.heap.size = gr := by rw [HW1.out.1, HG2.out.2]; simp
  rw [← HG2.out.1, show g2 + 1 = gr by rw [HG2.out.1, HG2.out.2]]
  rw [show w0.alloc (.cells #[.slice a n c, .int .i64 0, .int .i64 0] 77) = w1 from HW1.out.2.symm]
  clear hs1
  go_wp2_with fail
  refine HNUM.out.mono ?_
  rintro e w2 ⟨hg, hres⟩
  rw [if_pos rfl, ← HR.out] at hres
  have hr2 := (hg.block g2 (Array.getElem?_eq_some_iff.1 H1.out.1).1 (by intro e; simp only [Option.some.injEq] at e; have := HG2.out; omega)).trans H1.out.1
  have hb2 : Below w.heap.size w w2 := grow2 H1.out.2.1 hg (by have := HG2.out; omega) H1.out.2.1.size
  have H2 := Lib.hid (And.intro hr2 hb2)
  have y0 := cell_rowG (v := .int .u64 0) (i := 0) hr2 rfl
  have y1 := cell_rowG (v := .float .f64 0) (i := 1) hr2 rfl
  have y2 := cell_rowG (v := .float .f64 0) (i := 2) hr2 rfl
  have y3 := cell_rowG (v := .float .f64 0) (i := 3) hr2 rfl
  have y4 := cell_rowG (v := .float .f64 0) (i := 4) hr2 rfl
  have hz : ∀ k : Nat, w2.frozen? ⟨g2, k, none⟩ = false := fun k => by simp [World.frozen?, hr2]
  clear hr2 hb2 hg HNUM
  by_cases hR0 : R.1 = 0
  · rw [if_pos hR0] at hres
    obtain ⟨rfl, pos, hrd2, hdr⟩ := hres
    have hE1 : gaE b = if R.2.2.length < 32 then 2 else if feF 4 R.2.2 0 ≠ 0 then feF 4 R.2.2 0 else if 32 < R.2.2.length then 5 else 0 := by rw [HE.out, if_neg (fun h => h hR0)]
    obtain ⟨N, hN⟩ : ∃ N, N = R.2.1 := ⟨_, rfl⟩
    obtain ⟨t, ht⟩ : ∃ t, t = R.2.2 := ⟨_, rfl⟩
    have hGD := HGD.out
    rw [← hN, ← ht] at hGD
    rw [← ht] at hdr hE1
    rw [← hN]
    obtain ⟨L, hL⟩ : ∃ L, L = t.length := ⟨_, rfl⟩
    have hnl : pos + L = n := by have := hrd2.le; rw [hL, ← hdr, List.length_drop, ← H1.out.2.2.2]; rw [← H1.out.2.2.2] at this; omega
    have hleft := rLeft_any w2 gr a c b pos 0 hrd2 (by rw [← H1.out.2.2.2]; omega)
    rw [← H1.out.2.2.2, show n - pos = L by omega] at hleft
    have HLE := Lib.hid hleft
    have HE1 := Lib.hid hE1
    have HGD2 := Lib.hid hGD
    have HLT := Lib.hid (And.intro hL hdr)
    have HRD2 := Lib.hid hrd2
    clear hE1 hGD hL hN ht HE HGD HR hdr hrd2 hleft
    by_cases h32 : L < 32
    · have z32 : (L : Int) < 32 := by omega
      go_wp2_with fail
      refine HLE.out.mono ?_
      rintro e w4 ⟨rfl, hb4⟩
      have hr4 := (hb4.block _ (Array.getElem?_eq_some_iff.1 H2.out.1).1).trans H2.out.1
      have H4 := Lib.hid (H2.out.2.trans (hb4.mono H2.out.2.size))
      clear y0 y1 y2 y3 y4 hz hb4
      have y0 := cell_rowG (v := .int .u64 0) (i := 0) hr4 rfl
      have y1 := cell_rowG (v := .float .f64 0) (i := 1) hr4 rfl
      have y2 := cell_rowG (v := .float .f64 0) (i := 2) hr4 rfl
      have y3 := cell_rowG (v := .float .f64 0) (i := 3) hr4 rfl
      have y4 := cell_rowG (v := .float .f64 0) (i := 4) hr4 rfl
      have hz : ∀ k : Nat, w4.frozen? ⟨g2, k, none⟩ = false := fun k => by simp [World.frozen?, hr4]
      clear hr4
      go_wp2_with fail
      have he : gaE b = 2 := by rw [HE1.out, if_pos (by rw [← HLT.out.1]; exact h32)]
      rw [he, show gaG b = Gv 0 0 0 0 0 by rw [HGD2.out, if_neg (by rw [he]; decide)]]
      exact bodyPost_ret (v := .tuple #[Gv 0 0 0 0 0, .int .i64 2]) (by simp [results, Try.results22, go_sem, y0, y1, y2, y3, y4]) rfl ⟨rfl, (by
        have hb := H4.out
        have hge : w.heap.size ≤ g2 := by have := HG2.out; omega
        repeat (first | with_reducible exact hb | with_reducible refine Below.setCell ?_ hge _))⟩
    · have z32 : ¬ (L : Int) < 32 := by omega
      obtain ⟨q, o, c', hv, hcn, _⟩ := H1.out.2.2.1.at (by omega)
      simp only [Value.slice.injEq, true_and] at hv
      obtain ⟨rfl, rfl⟩ := hv
      go_upto_region 7 with fail
      refine HLE.out.mono ?_
      rintro e w4 ⟨rfl, hb4⟩
      have hr4 := (hb4.block _ (Array.getElem?_eq_some_iff.1 H2.out.1).1).trans H2.out.1
      have hrf4 := HRD2.out.below hb4
      have H4 := Lib.hid (And.intro hr4 (And.intro (H2.out.2.trans (hb4.mono H2.out.2.size)) hrf4))
      clear y0 y1 y2 y3 y4 hz hb4 hr4 hrf4 H2 HRD2 HLE
      go_upto_region 7 with fail
      obtain ⟨w5, hw5⟩ : ∃ x : World, x = w4.alloc (.cells #[.float .f64 0, .float .f64 0, .float .f64 0, .float .f64 0] 78) := ⟨_, rfl⟩
      have hr5 : w5.heap[g2]? = some (.cells #[.int .u64 0, .float .f64 0, .float .f64 0, .float .f64 0, .float .f64 0] 27 (0, 0)) := by rw [hw5]; exact (heap_alloc_old _ _ (Array.getElem?_eq_some_iff.1 H4.out.1).1).trans H4.out.1
      have hb45 : Below w4.heap.size w4 w5 := by rw [hw5]; exact (Below.refl _ _).alloc (Nat.le_refl _) _
      have hb5 : Below w.heap.size w w5 := H4.out.2.1.trans (hb45.mono H4.out.2.1.size)
      have hrf5 := H4.out.2.2.below hb45
      obtain ⟨g7, hg7⟩ : ∃ x, x = w4.heap.size := ⟨_, rfl⟩
      have hr7 : w5.heap[g7]? = some (.cells #[.float .f64 0, .float .f64 0, .float .f64 0, .float .f64 0] 78 (0, 0)) := by rw [hw5, hg7]; exact heap_alloc_new _ _
      have hlt2 : g2 < g7 := by rw [hg7]; exact (Array.getElem?_eq_some_iff.1 H4.out.1).1
      have hltr : gr < g7 := by rw [hg7]; exact H4.out.2.2.cells.1
      have hn72 : ¬ g7 = g2 := by omega
      have hn7r : ¬ gr = g7 := by omega
      have hnr2 : ¬ gr = g2 := by have := HG2.out; omega
      have hcp : w5.cell? ⟨gr, 1, none⟩ = some (.int .i64 pos) := hrf5.cells.2.2.1
      have htl : t.length = L := HLT.out.1.symm
      obtain ⟨f0, hf0⟩ : ∃ x, x = (fl t 0).1 := ⟨_, rfl⟩
      obtain ⟨e0, he0⟩ : ∃ x, x = (fl t 0).2 := ⟨_, rfl⟩
      have hg0 : ∀ wx, Below w.heap.size w wx → Calls Try.prog 43 #[.slice (some ⟨q, o + pos, none⟩) 8 (c - pos)] wx fun e w' => e = .returned (.tuple #[.float .f64 f0, .int .i64 e0]) ∧ wx = w' := fun wx hb => by
        have h := RGet_any _ _ wx (by simp; omega) ((rd_piece_at (i := 0) H1.out.2.2.1 HLT.out.2 (by omega)).keepB hb (Nat.le_refl _))
        rw [show getP ((t.drop (8 * 0)).take 8) = (f0, e0) by rw [hf0, he0]; rfl] at h
        exact h
      have HP0 := Lib.hid hg0
      obtain ⟨f1, hf1⟩ : ∃ x, x = (fl t 1).1 := ⟨_, rfl⟩
      obtain ⟨e1, he1⟩ : ∃ x, x = (fl t 1).2 := ⟨_, rfl⟩
      have hg1 : ∀ wx, Below w.heap.size w wx → Calls Try.prog 43 #[.slice (some ⟨q, o + (pos + 8), none⟩) 8 (c - (pos + 8))] wx fun e w' => e = .returned (.tuple #[.float .f64 f1, .int .i64 e1]) ∧ wx = w' := fun wx hb => by
        have h := RGet_any _ _ wx (by simp; omega) ((rd_piece_at (i := 1) H1.out.2.2.1 HLT.out.2 (by omega)).keepB hb (Nat.le_refl _))
        rw [show getP ((t.drop (8 * 1)).take 8) = (f1, e1) by rw [hf1, he1]; rfl] at h
        exact h
      have HP1 := Lib.hid hg1
      obtain ⟨f2, hf2⟩ : ∃ x, x = (fl t 2).1 := ⟨_, rfl⟩
      obtain ⟨e2, he2⟩ : ∃ x, x = (fl t 2).2 := ⟨_, rfl⟩
      have hg2' : ∀ wx, Below w.heap.size w wx → Calls Try.prog 43 #[.slice (some ⟨q, o + (pos + 16), none⟩) 8 (c - (pos + 16))] wx fun e w' => e = .returned (.tuple #[.float .f64 f2, .int .i64 e2]) ∧ wx = w' := fun wx hb => by
        have h := RGet_any _ _ wx (by simp; omega) ((rd_piece_at (i := 2) H1.out.2.2.1 HLT.out.2 (by omega)).keepB hb (Nat.le_refl _))
        rw [show getP ((t.drop (8 * 2)).take 8) = (f2, e2) by rw [hf2, he2]; rfl] at h
        exact h
      have HP2 := Lib.hid hg2'
      obtain ⟨f3, hf3⟩ : ∃ x, x = (fl t 3).1 := ⟨_, rfl⟩
      obtain ⟨e3, he3⟩ : ∃ x, x = (fl t 3).2 := ⟨_, rfl⟩
      have hg3 : ∀ wx, Below w.heap.size w wx → Calls Try.prog 43 #[.slice (some ⟨q, o + (pos + 24), none⟩) 8 (c - (pos + 24))] wx fun e w' => e = .returned (.tuple #[.float .f64 f3, .int .i64 e3]) ∧ wx = w' := fun wx hb => by
        have h := RGet_any _ _ wx (by simp; omega) ((rd_piece_at (i := 3) H1.out.2.2.1 HLT.out.2 (by omega)).keepB hb (Nat.le_refl _))
        rw [show getP ((t.drop (8 * 3)).take 8) = (f3, e3) by rw [hf3, he3]; rfl] at h
        exact h
      have HP3 := Lib.hid hg3
      have HF := Lib.hid (show feF 4 t 0 = if e0 = 0 then if e1 = 0 then if e2 = 0 then if e3 = 0 then 0 else e3 else e2 else e1 else e0 by rw [he0, he1, he2, he3]; rfl)
      have hgv := HGD2.out
      rw [← hf0, ← hf1, ← hf2, ← hf3] at hgv
      have HGV := Lib.hid hgv
      have HFL := Lib.hid (And.intro (show f0 < 18446744073709551616 by rw [hf0]; exact fl_lt _ _) (show L = t.length from htl.symm))
      have y0 := cell_rowG (v := .int .u64 0) (i := 0) hr5 rfl
      have y1 := cell_rowG (v := .float .f64 0) (i := 1) hr5 rfl
      have y2 := cell_rowG (v := .float .f64 0) (i := 2) hr5 rfl
      have y3 := cell_rowG (v := .float .f64 0) (i := 3) hr5 rfl
      have y4 := cell_rowG (v := .float .f64 0) (i := 4) hr5 rfl
      have hz : ∀ k : Nat, w5.frozen? ⟨g2, k, none⟩ = false := fun k => by simp [World.frozen?, hr5]
      have x0 := cell_rowG (v := .float .f64 0) (i := 0) hr7 rfl
      have x1 := cell_rowG (v := .float .f64 0) (i := 1) hr7 rfl
      have x2 := cell_rowG (v := .float .f64 0) (i := 2) hr7 rfl
      have x3 := cell_rowG (v := .float .f64 0) (i := 3) hr7 rfl
      have hz7 : ∀ k : Nat, w5.frozen? ⟨g7, k, none⟩ = false := fun k => by simp [World.frozen?, hr7]
      have HBL := Lib.hid (And.intro (show w.heap.size ≤ g2 by have := HG2.out; omega) (And.intro (show w.heap.size ≤ g7 by have := HG2.out; omega) hb5))
      have HRF := Lib.hid hrf5
      have HR5 := Lib.hid hr5
      have HR7 := Lib.hid hr7
      have HW5 := Lib.hid (And.intro hw5 hg7)
      clear hf0 hf1 hf2 hf3 he0 he1 he2 he3 hgv htl hg0 hg1 hg2' hg3 hb45 hb5 hrf5 hr7 hw5 hg7 hr5 H4 hlt2 hltr
      go_wp2_with fail
      rw [← HW5.out.2, show w4.alloc (.cells #[.float .f64 0, .float .f64 0, .float .f64 0, .float .f64 0] 78) = w5 from HW5.out.1.symm]
      refine wp_loop_rounds 5 ?_
      rw [rounds_succ]
      go_wp2_with fail
      refine (HP0.out _ (by have hb := HBL.out; repeat (first | with_reducible exact hb.2.2 | with_reducible refine Below.setCell ?_ hb.1 _ | with_reducible refine Below.setCell ?_ hb.2.1 _))).mono ?_
      rintro e wx ⟨rfl, rfl⟩
      by_cases hE0 : ¬ e0 = 0
      · have zE : (e0 == 0) = false := by simp [hE0]
        have hfk : feF 4 t 0 = e0 := by rw [HF.out]; simp [hE0]
        have he : gaE b = e0 := by rw [HE1.out, if_neg (by rw [← HFL.out.2]; omega), if_pos (by rw [hfk]; exact hE0), hfk]
        have hg : gaG b = Gv 0 0 0 0 0 := by rw [HGD2.out, if_neg (by rw [he]; exact hE0)]
        have HEG := Lib.hid (And.intro he hg)
        clear he hg hfk hE0
        go_wp2_with fail
        rw [HEG.out.1, HEG.out.2]
        exact bodyPost_ret (v := .tuple #[Gv 0 0 0 0 0, .int .i64 e0]) (by simp [results, Try.results22, go_sem, y0, y1, y2, y3, y4]) rfl ⟨rfl, (by have hb := HBL.out; repeat (first | with_reducible exact hb.2.2 | with_reducible refine Below.setCell ?_ hb.1 _ | with_reducible refine Below.setCell ?_ hb.2.1 _))⟩
      have hE0 := Decidable.not_not.1 hE0
      subst hE0
      go_wp2_with fail
      rw [rounds_succ]
      go_wp2_with fail
      refine (HP1.out _ (by have hb := HBL.out; repeat (first | with_reducible exact hb.2.2 | with_reducible refine Below.setCell ?_ hb.1 _ | with_reducible refine Below.setCell ?_ hb.2.1 _))).mono ?_
      rintro e wx ⟨rfl, rfl⟩
      by_cases hE1 : ¬ e1 = 0
      · have zE : (e1 == 0) = false := by simp [hE1]
        have hfk : feF 4 t 0 = e1 := by rw [HF.out]; simp [hE1]
        have he : gaE b = e1 := by rw [HE1.out, if_neg (by rw [← HFL.out.2]; omega), if_pos (by rw [hfk]; exact hE1), hfk]
        have hg : gaG b = Gv 0 0 0 0 0 := by rw [HGD2.out, if_neg (by rw [he]; exact hE1)]
        have HEG := Lib.hid (And.intro he hg)
        clear he hg hfk hE1
        go_wp2_with fail
        rw [HEG.out.1, HEG.out.2]
        exact bodyPost_ret (v := .tuple #[Gv 0 0 0 0 0, .int .i64 e1]) (by simp [results, Try.results22, go_sem, y0, y1, y2, y3, y4]) rfl ⟨rfl, (by have hb := HBL.out; repeat (first | with_reducible exact hb.2.2 | with_reducible refine Below.setCell ?_ hb.1 _ | with_reducible refine Below.setCell ?_ hb.2.1 _))⟩
      have hE1 := Decidable.not_not.1 hE1
      subst hE1
      go_wp2_with fail
      rw [rounds_succ]
      go_wp2_with fail
      refine (HP2.out _ (by have hb := HBL.out; repeat (first | with_reducible exact hb.2.2 | with_reducible refine Below.setCell ?_ hb.1 _ | with_reducible refine Below.setCell ?_ hb.2.1 _))).mono ?_
      rintro e wx ⟨rfl, rfl⟩
      by_cases hE2 : ¬ e2 = 0
      · have zE : (e2 == 0) = false := by simp [hE2]
        have hfk : feF 4 t 0 = e2 := by rw [HF.out]; simp [hE2]
        have he : gaE b = e2 := by rw [HE1.out, if_neg (by rw [← HFL.out.2]; omega), if_pos (by rw [hfk]; exact hE2), hfk]
        have hg : gaG b = Gv 0 0 0 0 0 := by rw [HGD2.out, if_neg (by rw [he]; exact hE2)]
        have HEG := Lib.hid (And.intro he hg)
        clear he hg hfk hE2
        go_wp2_with fail
        rw [HEG.out.1, HEG.out.2]
        exact bodyPost_ret (v := .tuple #[Gv 0 0 0 0 0, .int .i64 e2]) (by simp [results, Try.results22, go_sem, y0, y1, y2, y3, y4]) rfl ⟨rfl, (by have hb := HBL.out; repeat (first | with_reducible exact hb.2.2 | with_reducible refine Below.setCell ?_ hb.1 _ | with_reducible refine Below.setCell ?_ hb.2.1 _))⟩
      have hE2 := Decidable.not_not.1 hE2
      subst hE2
      go_wp2_with fail
      rw [rounds_succ]
      go_wp2_with fail
      refine (HP3.out _ (by have hb := HBL.out; repeat (first | with_reducible exact hb.2.2 | with_reducible refine Below.setCell ?_ hb.1 _ | with_reducible refine Below.setCell ?_ hb.2.1 _))).mono ?_
      rintro e wx ⟨rfl, rfl⟩
      by_cases hE3 : ¬ e3 = 0
      · have zE : (e3 == 0) = false := by simp [hE3]
        have hfk : feF 4 t 0 = e3 := by rw [HF.out]; simp [hE3]
        have he : gaE b = e3 := by rw [HE1.out, if_neg (by rw [← HFL.out.2]; omega), if_pos (by rw [hfk]; exact hE3), hfk]
        have hg : gaG b = Gv 0 0 0 0 0 := by rw [HGD2.out, if_neg (by rw [he]; exact hE3)]
        have HEG := Lib.hid (And.intro he hg)
        clear he hg hfk hE3
        go_wp2_with fail
        rw [HEG.out.1, HEG.out.2]
        exact bodyPost_ret (v := .tuple #[Gv 0 0 0 0 0, .int .i64 e3]) (by simp [results, Try.results22, go_sem, y0, y1, y2, y3, y4]) rfl ⟨rfl, (by have hb := HBL.out; repeat (first | with_reducible exact hb.2.2 | with_reducible refine Below.setCell ?_ hb.1 _ | with_reducible refine Below.setCell ?_ hb.2.1 _))⟩
      have hE3 := Decidable.not_not.1 hE3
      subst hE3
      go_wp2_with fail
      rw [rounds_succ]
      go_upto_region 16 with fail
      obtain ⟨w6, hw6⟩ : ∃ x : World, x = ((((w5.setCell ⟨g7, 0, none⟩ (.float .f64 f0)).setCell ⟨g7, 1, none⟩ (.float .f64 f1)).setCell ⟨g7, 2, none⟩ (.float .f64 f2)).setCell ⟨g7, 3, none⟩ (.float .f64 f3)) := ⟨_, rfl⟩
      rw [← hw6]
      have hg56 : w5.grownBy w6 (some g7) := by rw [hw6]; exact grown_trans (kG_gr g7 _ 0 _) (grown_trans (kG_gr g7 _ 1 _) (grown_trans (kG_gr g7 _ 2 _) (kG_gr g7 _ 3 _) (fun j h => .inl h)) (fun j h => .inl h)) (fun j h => .inl h)
      have hr6 : w6.heap[g2]? = some (.cells #[.int .u64 0, .float .f64 0, .float .f64 0, .float .f64 0, .float .f64 0] 27 (0, 0)) := (hg56.block g2 (Array.getElem?_eq_some_iff.1 HR5.out).1 (by intro e; simp only [Option.some.injEq] at e; omega)).trans HR5.out
      have hb6 : Below w.heap.size w w6 := grow2 HBL.out.2.2 hg56 HBL.out.2.1 HBL.out.2.2.size
      have hrf6 : Rfr w6 gr (some ⟨q, o, none⟩) c b pos 0 := HRF.out.keep hg56 (by intro e; simp only [Option.some.injEq] at e; omega) (fun hne x hx e => by have h1 := HA0.out hne x hx; have h2 := HBL.out.2.1; simp only [Option.some.injEq] at e; omega)
      have h70 : w6.heap[g7]? = some (.cells #[.float .f64 f0, .float .f64 f1, .float .f64 f2, .float .f64 f3] 78 (0, 0)) := by rw [hw6]; exact heap_setCell_same _ g7 3 _ _ _ (heap_setCell_same _ g7 2 _ _ _ (heap_setCell_same _ g7 1 _ _ _ (heap_setCell_same _ g7 0 _ _ _ HR7.out)))
      have hleft6 := rLeft_any w6 gr (some ⟨q, o, none⟩) c b pos 0 hrf6 (by rw [← H1.out.2.2.2]; omega)
      rw [← H1.out.2.2.2, show n - pos = L by omega] at hleft6
      have HL6 := Lib.hid hleft6
      have H6 := Lib.hid (And.intro hr6 (And.intro hb6 h70))
      clear y0 y1 y2 y3 y4 hz x0 x1 x2 x3 hz7 hcp hw6 hg56 hr6 hb6 hrf6 h70 hleft6
      by_cases hgt : 32 < L
      · have zg : (32 : Int) < (L : Int) := by omega
        have hf0 : feF 4 t 0 = 0 := by rw [HF.out]; rfl
        have he : gaE b = 5 := by rw [HE1.out, if_neg (by rw [← HFL.out.2]; omega), if_neg (by rw [hf0]; exact fun h => h rfl), if_pos (by rw [← HFL.out.2]; exact hgt)]
        have hg : gaG b = Gv 0 0 0 0 0 := by rw [HGD2.out, if_neg (by rw [he]; decide)]
        have HEG := Lib.hid (And.intro he hg)
        clear he hg hf0 hgt
        go_wp2_with fail
        refine HL6.out.mono ?_
        rintro e w7 ⟨rfl, hb7⟩
        have hr7 := (hb7.block _ (Array.getElem?_eq_some_iff.1 H6.out.1).1).trans H6.out.1
        have h77 := (hb7.block _ (Array.getElem?_eq_some_iff.1 H6.out.2.2).1).trans H6.out.2.2
        have H7 := Lib.hid (H6.out.2.1.trans (hb7.mono H6.out.2.1.size))
        have y0 := cell_rowG (v := .int .u64 0) (i := 0) hr7 rfl
        have y1 := cell_rowG (v := .float .f64 0) (i := 1) hr7 rfl
        have y2 := cell_rowG (v := .float .f64 0) (i := 2) hr7 rfl
        have y3 := cell_rowG (v := .float .f64 0) (i := 3) hr7 rfl
        have y4 := cell_rowG (v := .float .f64 0) (i := 4) hr7 rfl
        have hz : ∀ k : Nat, w7.frozen? ⟨g2, k, none⟩ = false := fun k => by simp [World.frozen?, hr7]
        have x0 := cell_rowG (v := .float .f64 f0) (i := 0) h77 rfl
        have x1 := cell_rowG (v := .float .f64 f1) (i := 1) h77 rfl
        have x2 := cell_rowG (v := .float .f64 f2) (i := 2) h77 rfl
        have x3 := cell_rowG (v := .float .f64 f3) (i := 3) h77 rfl
        clear hb7 h77
        go_wp2_with fail
        rw [HEG.out.1, HEG.out.2]
        exact bodyPost_ret (v := .tuple #[Gv 0 0 0 0 0, .int .i64 5]) (by simp [results, Try.results22, go_sem, y0, y1, y2, y3, y4]) rfl ⟨rfl, (by have hb := H7.out; have hge := HBL.out.1; repeat (first | with_reducible exact hb | with_reducible refine Below.setCell ?_ hge _))⟩
      · have zg : ¬ (32 : Int) < (L : Int) := by omega
        have hf0 : feF 4 t 0 = 0 := by rw [HF.out]; rfl
        have he : gaE b = 0 := by rw [HE1.out, if_neg (by rw [← HFL.out.2]; omega), if_neg (by rw [hf0]; exact fun h => h rfl), if_neg (by rw [← HFL.out.2]; exact hgt)]
        have hg : gaG b = Gv N f0 f1 f2 f3 := by rw [HGV.out, if_pos he]
        have HEG := Lib.hid (And.intro he hg)
        clear he hg hf0 hgt
        go_wp2_with fail
        refine HL6.out.mono ?_
        rintro e w7 ⟨rfl, hb7⟩
        have hr7 := (hb7.block _ (Array.getElem?_eq_some_iff.1 H6.out.1).1).trans H6.out.1
        have h77 := (hb7.block _ (Array.getElem?_eq_some_iff.1 H6.out.2.2).1).trans H6.out.2.2
        have H7 := Lib.hid (H6.out.2.1.trans (hb7.mono H6.out.2.1.size))
        have y0 := cell_rowG (v := .int .u64 0) (i := 0) hr7 rfl
        have y1 := cell_rowG (v := .float .f64 0) (i := 1) hr7 rfl
        have y2 := cell_rowG (v := .float .f64 0) (i := 2) hr7 rfl
        have y3 := cell_rowG (v := .float .f64 0) (i := 3) hr7 rfl
        have y4 := cell_rowG (v := .float .f64 0) (i := 4) hr7 rfl
        have hz : ∀ k : Nat, w7.frozen? ⟨g2, k, none⟩ = false := fun k => by simp [World.frozen?, hr7]
        have x0 := cell_rowG (v := .float .f64 f0) (i := 0) h77 rfl
        have x1 := cell_rowG (v := .float .f64 f1) (i := 1) h77 rfl
        have x2 := cell_rowG (v := .float .f64 f2) (i := 2) h77 rfl
        have x3 := cell_rowG (v := .float .f64 f3) (i := 3) h77 rfl
        clear hb7 h77
        go_wp2_with fail
        rw [HEG.out.1, HEG.out.2]
        exact bodyPost_ret (v := .tuple #[Gv N f0 f1 f2 f3, .int .i64 0]) (by simp [results, Try.results22, go_sem, y0, y1, y2, y3, y4]) rfl ⟨rfl, (by have hb := H7.out; have hge := HBL.out.1; repeat (first | with_reducible exact hb | with_reducible refine Below.setCell ?_ hge _))⟩
  · rw [if_neg hR0] at hres
    obtain ⟨rfl, hrd2⟩ := hres
    have hE1 : gaE b = R.1 := by rw [HE.out, if_pos hR0]
    have hG1 : gaG b = Gv 0 0 0 0 0 := by rw [HGD.out, if_neg (by rw [hE1]; exact hR0)]
    obtain ⟨e0, he0⟩ : ∃ x, x = R.1 := ⟨_, rfl⟩
    rw [← he0] at hR0 hE1 ⊢
    have hE2 : (e0 == 0) = false := by simp [hR0]
    have HE1 := Lib.hid (And.intro hE1 hG1)
    clear hE1 hG1 he0 hrd2 HE HGD HR hR0
    go_wp2_with fail
    rw [HE1.out.1, HE1.out.2]
    exact bodyPost_ret (v := .tuple #[Gv 0 0 0 0 0, .int .i64 e0]) (by simp [results, Try.results22, go_sem, y0, y1, y2, y3, y4]) rfl ⟨rfl, (by
      have hb := H2.out.2
      have hge : w.heap.size ≤ g2 := by have := HG2.out; omega
      repeat (first | with_reducible exact hb | with_reducible refine Below.setCell ?_ hge _))⟩
end Go.Proofs.Ytdociiogddihfaa
