/- The reference's Put of gauges. -/
import Derived.Test.YtdociiogddihfaaGaI
namespace Go.Proofs.Ytdociiogddihfaa
open Go.RowKit

/-- Floats as bytes, one behind the other. -/
def flB (l : List Nat) : List UInt8 := l.flatMap fun x => be 8 (canB x)
theorem flB_length (l : List Nat) : (flB l).length = 8 * l.length := by
  induction l with
  | nil => rfl
  | cons x l ih => simp only [flB, List.flatMap_cons, List.length_append, be_length, List.length_cons] at *; omega
theorem flB_take (l : List Nat) (k x : Nat) (h : l[k]? = some x) : flB (l.take (k + 1)) = flB (l.take k) ++ be 8 (canB x) := by
  rw [List.take_add_one, h]; simp [flB]
theorem gaB_eq (N m s l h : Nat) : gaB N m s l h = numB N ++ flB [m, s, l, h] := by simp [gaB, flB]
set_option maxHeartbeats 4000000 in
set_option maxRecDepth 100000 in
theorem RGPut_any (N m s l h : Nat) (w : World) (hN : N < 18446744073709551616) (hm : m < 18446744073709551616) (hs : s < 18446744073709551616) (hl : l < 18446744073709551616) (hh : h < 18446744073709551616) :
    Calls Try.prog 23 #[Gv N m s l h] w fun e w' => ∃ v, e = .returned v ∧ Rd w' 1 v (gaB N m s l h).length (bv (gaB N m s l h)) ∧ Below w.heap.size w w' := by
  have HN := Lib.hid (fun wx => refNum_any N wx hN)
  have hx0 : (numB N).length ≤ 9 := by have := nk_le N hN; rw [numB_length]; omega
  have hgb := gaB_eq N m s l h
  obtain ⟨x0, he0⟩ : ∃ x, x = numB N := ⟨_, rfl⟩
  rw [← he0] at HN hx0 hgb
  obtain ⟨fs, hfs⟩ : ∃ x, x = [m, s, l, h] := ⟨_, rfl⟩
  rw [← hfs] at hgb
  have hf4 : fs.length = 4 := by rw [hfs]; rfl
  have hfl : ∀ x ∈ fs, x < 18446744073709551616 := by intro x hx; rw [hfs] at hx; simp at hx; rcases hx with rfl | rfl | rfl | rfl <;> assumption
  have HGB := Lib.hid (And.intro hgb (And.intro hf4 (And.intro hfl hfs)))
  clear hgb hf4 hfl hfs he0 hN hm hs hl hh
  go_enter Try.func23, Try.ntmps23
  go_upto_region 1 with fail
  obtain ⟨w1, hw1⟩ : ∃ x : World, x = w.alloc (.cells #[.int .u64 N, .float .f64 m, .float .f64 s, .float .f64 l, .float .f64 h] 27) := ⟨_, rfl⟩
  have hr1 : w1.heap[w.heap.size]? = some (.cells #[.int .u64 N, .float .f64 m, .float .f64 s, .float .f64 l, .float .f64 h] 27 (0, 0)) := by rw [hw1]; exact heap_alloc_new _ _
  have hb1 : Below w.heap.size w w1 := by rw [hw1]; exact (Below.refl _ _).alloc (Nat.le_refl _) _
  rw [← hw1]
  have y0 := cell_rowG (v := .int .u64 N) (i := 0) hr1 rfl
  have H1 := Lib.hid (And.intro hr1 hb1)
  clear hw1 hr1 hb1
  go_wp2_with fail
  refine (HN.out w1).mono ?_
  rintro e w2 ⟨v2, rfl, ho2, hb2⟩
  have hr2 := (hb2.block _ (Array.getElem?_eq_some_iff.1 H1.out.1).1).trans H1.out.1
  have hbw2 := H1.out.2.trans (hb2.mono H1.out.2.size)
  clear y0
  have y1 := cell_rowG (v := .float .f64 m) (i := 1) hr2 rfl
  have y2 := cell_rowG (v := .float .f64 s) (i := 2) hr2 rfl
  have y3 := cell_rowG (v := .float .f64 l) (i := 3) hr2 rfl
  have y4 := cell_rowG (v := .float .f64 h) (i := 4) hr2 rfl
  have hlt2 := ho2.lt
  have hB1 := H1.out.2.size
  have H2 := Lib.hid (And.intro (own_base ho2 hB1) (And.intro hbw2 hlt2))
  clear ho2 hr2 hbw2 hb2 hlt2 H1 HN hB1
  go_wp2_with fail
  obtain ⟨w3, hw3⟩ : ∃ x : World, x = w2.alloc (.cells #[.float .f64 m, .float .f64 s, .float .f64 l, .float .f64 h] 25) := ⟨_, rfl⟩
  obtain ⟨g4, hg4⟩ : ∃ x, x = w2.heap.size := ⟨_, rfl⟩
  rw [← hw3, ← hg4]
  have hb23 : Below w2.heap.size w2 w3 := by rw [hw3]; exact (Below.refl _ _).alloc (Nat.le_refl _) _
  have hr3 : w3.heap[g4]? = some (.cells (fv fs).toArray 25 (0, 0)) := by
    rw [hw3, hg4, HGB.out.2.2.2]; exact heap_alloc_new _ _
  have ho3 := own_keep H2.out.1 hb23
  have hbw3 := H2.out.2.1.trans (hb23.mono H2.out.2.1.size)
  have hne3 : ∀ j, v2.ownBlock = some j → j ≠ g4 := fun j hj e => by have := (H2.out.2.2 j hj).2; omega
  have H3 := Lib.hid (And.intro ho3 (And.intro hr3 (And.intro hbw3 hne3)))
  clear hw3 hg4 hb23 hr3 ho3 hbw3 hne3 y1 y2 y3 y4 H2
  go_loopw [3, 5] (fun s3 s5 wr => ∃ k : Nat, k ≤ 4 ∧ s5 = .int .i64 k ∧ Hid (wr.ownsRow w.heap.size 5 1 s3 (x0.length + 8 * k) (bv (x0 ++ flB (fs.take k))) ∧ wr.heap[g4]? = some (.cells (fv fs).toArray 25 (0, 0)) ∧ Below w.heap.size w wr ∧ ∀ j, s3.ownBlock = some j → j ≠ g4)) (fun _ i _ => 4 - (intOf i).toNat)
  case atStart => exact ⟨0, by omega, rfl, Lib.hid ⟨by simpa [flB] using H3.out.1, H3.out.2.1, H3.out.2.2.1, H3.out.2.2.2⟩⟩
  case round =>
    clear H3
    obtain ⟨k, hk, rfl, HI⟩ := hrel
    by_cases hlt : k < 4
    · have hkz : (k : Int) < 4 := by omega
      have hk0 : (0 : Int) ≤ (k : Int) := by omega
      obtain ⟨x, hx⟩ : ∃ x, fs[k]? = some x := ⟨fs[k]'(by rw [HGB.out.2.1]; exact hlt), List.getElem?_eq_getElem _⟩
      have hc : wr.cell? ⟨g4, k, none⟩ = some (.float .f64 x) := cell_rowG HI.out.2.1 (by simp [fv, hx])
      have hxl := HGB.out.2.2.1 x (List.mem_of_getElem? hx)
      have htk := flB_take fs k x hx
      have HT := Lib.hid (And.intro htk hxl)
      clear hx htk hxl
      go_wp2_with fail
      refine (RPut_any x _ HT.out.2).mono ?_
      rintro e wb ⟨vb, rfl, hrb, hbb⟩
      rw [be_length] at hrb
      have hob := own_keep HI.out.1 hbb
      have hrg := (hbb.block _ (Array.getElem?_eq_some_iff.1 HI.out.2.1).1).trans HI.out.2.1
      have hbwb := HI.out.2.2.1.trans (hbb.mono HI.out.2.2.1.size)
      have HB := Lib.hid (And.intro hob (And.intro hrb (And.intro hrg (And.intro hbwb HI.out.2.2.2))))
      clear hob hrb hrg hbwb hbb HI hc
      go_wp2_with (at_builtin; go_loud (refine wpList_app Try.underlying44 infoC8 rfl (by decide) rfl _ _ rfl rfl rfl HB.out.1 HB.out.2.1 (by omega) (by omega) HB.out.2.2.2.1.size ?_))
      intro v5 w5 ho5 hgr5 _
      have hb5 := hgr5.below HB.out.2.2.2.1.size (own_block HB.out.1)
      have hbw5 := HB.out.2.2.2.1.trans hb5
      have hg45 : w5.heap[g4]? = some (.cells (fv fs).toArray 25 (0, 0)) := (hgr5.grown.block g4 (Array.getElem?_eq_some_iff.1 HB.out.2.2.1).1 (fun e => HB.out.2.2.2.2 g4 e.symm rfl)).trans HB.out.2.2.1
      have hne5 : ∀ j, v5.ownBlock = some j → j ≠ g4 := fun j hj => by
        rcases hgr5.blk j hj with h1 | h1
        · exact HB.out.2.2.2.2 j h1
        · have := (Array.getElem?_eq_some_iff.1 HB.out.2.2.1).1; omega
      have H5 := Lib.hid (And.intro ho5 (And.intro hg45 (And.intro hbw5 hne5)))
      clear ho5 hgr5 hb5 hbw5 hg45 hne5 HB
      go_wp2_with fail
      go_roundw
      case rel => exact ⟨k + 1, by omega, by go_num, Lib.hid ⟨by rw [HT.out.1, ← List.append_assoc, bv_append, show x0.length + 8 * (k + 1) = x0.length + 8 * k + 8 by omega]; exact H5.out.1, H5.out.2.1, H5.out.2.2.1, H5.out.2.2.2⟩⟩
      case measure => simp [intOf]; omega
    · have hk4 : k = 4 := by omega
      have hkz : ¬ (k : Int) < 4 := by omega
      have hrd := own_rd HI.out.1 (bv_one _)
      have hfin : Rd wr 1 u3 (gaB N m s l h).length (bv (gaB N m s l h)) := by
        rw [HGB.out.1, List.length_append, flB_length, HGB.out.2.1]
        have h2 := hrd
        rw [hk4, List.take_of_length_le (by rw [HGB.out.2.1]; omega)] at h2
        exact h2
      have HF := Lib.hid (And.intro hfin HI.out.2.2.1)
      clear hrd hfin HI hk4 hk hlt
      go_wp2_with fail
      go_ret
      exact ⟨_, rfl, HF.out.1, HF.out.2⟩
/-- What a gauge's bytes read as. -/
theorem get_put (N m s l h : Nat) (hN : N < 18446744073709551616) (hm : m < 18446744073709551616) (hs : s < 18446744073709551616) (hl : l < 18446744073709551616) (hh : h < 18446744073709551616) :
    gaE (gaB N m s l h) = 0 ∧ gaG (gaB N m s l h) = Gv N (canB m) (canB s) (canB l) (canB h) := by
  have hr : rdN (gaB N m s l h) = (0, N, flB [m, s, l, h]) := by rw [gaB_eq]; exact rdN_numB N _ hN
  have hp : ∀ x, x < 18446744073709551616 → getP (be 8 (canB x)) = (canB x, 0) := fun x hx => getP_be _ (canB_lt x hx) (canB_ok x)
  have hlen : ∀ x, (be 8 x).length = 8 := fun x => be_length 8 x
  have f0 : fl (flB [m, s, l, h]) 0 = (canB m, 0) := by
    rw [← hp m hm, fl]
    congr 1
  have f1 : fl (flB [m, s, l, h]) 1 = (canB s, 0) := by
    rw [← hp s hs, fl]
    congr 1
  have f2 : fl (flB [m, s, l, h]) 2 = (canB l, 0) := by
    rw [← hp l hl, fl]
    congr 1
  have f3 : fl (flB [m, s, l, h]) 3 = (canB h, 0) := by
    rw [← hp h hh, fl]
    congr 1
  have h4 : (flB [m, s, l, h]).length = 32 := by rw [flB_length]; rfl
  have hE : gaE (gaB N m s l h) = 0 := by
    unfold gaE
    rw [hr]
    simp only [feF, f0, f1, f2, f3, h4]
    decide
  refine ⟨hE, ?_⟩
  unfold gaG
  rw [if_pos hE, hr]
  simp only [f0, f1, f2, f3]
/-- Bytes that are a gauge are its bytes. -/
theorem put_get (b : List UInt8) (h : gaE b = 0) : ∃ N m s l hh, gaG b = Gv N m s l hh ∧ gaB N m s l hh = b ∧ N < 18446744073709551616 ∧ m < 18446744073709551616 ∧ s < 18446744073709551616 ∧ l < 18446744073709551616 ∧ hh < 18446744073709551616 := by
  have h1 := h
  unfold gaE at h1
  by_cases hR : (rdN b).1 = 0
  · rw [if_neg (fun k => k hR)] at h1
    obtain ⟨hv, hb⟩ := rdN_ok b (rdN b).2.1 (rdN b).2.2 (by rw [← hR])
    obtain ⟨t, ht⟩ : ∃ t, t = (rdN b).2.2 := ⟨_, rfl⟩
    rw [← ht] at h1 hb
    by_cases hl : t.length < 32
    · rw [if_pos hl] at h1; cases h1
    · rw [if_neg hl] at h1
      by_cases hf : feF 4 t 0 = 0
      · rw [if_neg (fun k => k hf)] at h1
        by_cases hg : 32 < t.length
        · rw [if_pos hg] at h1; cases h1
        · have h32 : t.length = 32 := by omega
          have key : ∀ i, (fl t i).2 = 0 → canB (fl t i).1 = (fl t i).1 ∧ be 8 (fl t i).1 = (t.drop (8 * i)).take 8 := fun i hi => by
            rcases getP_cases ((t.drop (8 * i)).take 8) with ⟨h2, _⟩ | ⟨_, h3, h4⟩
            · exact absurd hi h2
            · exact ⟨h3, h4⟩
          have e0 : (fl t 0).2 = 0 := by
            by_cases c : (fl t 0).2 = 0
            · exact c
            · rw [feF, if_neg c] at hf; exact absurd hf c
          rw [feF, if_pos e0] at hf
          have e1 : (fl t 1).2 = 0 := by
            by_cases c : (fl t (0 + 1)).2 = 0
            · exact c
            · rw [feF, if_neg c] at hf; exact absurd hf c
          rw [feF, if_pos e1] at hf
          have e2 : (fl t 2).2 = 0 := by
            by_cases c : (fl t (0 + 1 + 1)).2 = 0
            · exact c
            · rw [feF, if_neg c] at hf; exact absurd hf c
          rw [feF, if_pos e2] at hf
          have e3 : (fl t 3).2 = 0 := by
            by_cases c : (fl t (0 + 1 + 1 + 1)).2 = 0
            · exact c
            · rw [feF, if_neg c] at hf; exact absurd hf c
          have k0 := key 0 e0
          have k1 := key 1 e1
          have k2 := key 2 e2
          have k3 := key 3 e3
          refine ⟨(rdN b).2.1, (fl t 0).1, (fl t 1).1, (fl t 2).1, (fl t 3).1, by rw [gaG, if_pos h, ← ht], ?_, hv, fl_lt _ _, fl_lt _ _, fl_lt _ _, fl_lt _ _⟩
          rw [gaB, k0.1, k1.1, k2.1, k3.1, k0.2, k1.2, k2.2, k3.2]
          have cat : (t.drop (8 * 0)).take 8 ++ ((t.drop (8 * 1)).take 8 ++ ((t.drop (8 * 2)).take 8 ++ (t.drop (8 * 3)).take 8)) = t := by
            have a3 : (t.drop (8 * 3)).take 8 = t.drop 24 := List.take_of_length_le (by simp; omega)
            have a2 : t.drop 24 = (t.drop (8 * 2)).drop 8 := by rw [List.drop_drop]
            have a1 : t.drop (8 * 2) = (t.drop (8 * 1)).drop 8 := by rw [List.drop_drop]
            have a0 : t.drop (8 * 1) = (t.drop (8 * 0)).drop 8 := by rw [List.drop_drop]
            rw [a3, a2, List.take_append_drop, a1, List.take_append_drop, a0, List.take_append_drop]; rfl
          rw [List.append_assoc, List.append_assoc, List.append_assoc, cat, ← hb]
      · rw [if_pos hf] at h1; exact absurd h1 hf
  · rw [if_pos hR] at h1; exact absurd h1 hR
end Go.Proofs.Ytdociiogddihfaa
