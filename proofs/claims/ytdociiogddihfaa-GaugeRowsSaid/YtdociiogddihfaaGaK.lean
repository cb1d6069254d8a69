/- Raw gauges. (printed by gen/gabytes.py) -/
import Derived.Test.YtdociiogddihfaaGaJ
import Derived.Test.YtdociiogddihfaaGaKa
namespace Go.Proofs.Ytdociiogddihfaa
open Go.RowKit

/-- What each operation hands on. -/
def rawF (B g2 N b0 b1 b2 b3 : Nat) : Nat → Value → World → Prop
  | 0, v, _ => v = .pointer (some ⟨B, 0, none⟩)
  | 1, v, _ => v = .int .u64 N
  | 2, v, _ => v = .pointer (some ⟨B, 1, none⟩)
  | 3, v, _ => v = .pointer (some ⟨B, 1, none⟩)
  | 4, v, _ => v = .int .u64 b0
  | 5, v, _ => v = .float .f64 b0
  | 6, v, _ => v = .pointer (some ⟨B, 1, none⟩)
  | 7, v, _ => v = .pointer (some ⟨B, 2, none⟩)
  | 8, v, _ => v = .int .u64 b1
  | 9, v, _ => v = .float .f64 b1
  | 10, v, _ => v = .pointer (some ⟨B, 1, none⟩)
  | 11, v, _ => v = .pointer (some ⟨B, 3, none⟩)
  | 12, v, _ => v = .int .u64 b2
  | 13, v, _ => v = .float .f64 b2
  | 14, v, _ => v = .pointer (some ⟨B, 1, none⟩)
  | 15, v, _ => v = .pointer (some ⟨B, 4, none⟩)
  | 16, v, _ => v = .int .u64 b3
  | 17, v, _ => v = .float .f64 b3
  | 18, v, _ => v = Gv N b0 b1 b2 b3
  | 19, _, w => w.heap[g2]? = some (.cells #[.int .u64 N, .float .f64 b0, .float .f64 b1, .float .f64 b2, .float .f64 b3] 27 (0, 0))
  | _, _, _ => True
set_option maxHeartbeats 4000000 in
set_option maxRecDepth 100000 in
theorem Raw_gauge (N b0 b1 b2 b3 : Nat) (w : World) : Calls Try.prog 19 #[.agg #[.int .u64 N, .int .u64 b0, .int .u64 b1, .int .u64 b2, .int .u64 b3]] w fun e w' => e = .returned (Gv N b0 b1 b2 b3) ∧ Below w.heap.size w w' := by
  go_enter Try.func19, Try.ntmps19
  go_upto_region 1 with fail
  obtain ⟨w1, hw1⟩ : ∃ x : World, x = (w.alloc (.cells #[.int .u64 N, .int .u64 b0, .int .u64 b1, .int .u64 b2, .int .u64 b3] 43)).alloc (.cells #[.int .u64 0, .float .f64 0, .float .f64 0, .float .f64 0, .float .f64 0] 27) := ⟨_, rfl⟩
  have hr1 : w1.heap[w.heap.size]? = some (.cells #[.int .u64 N, .int .u64 b0, .int .u64 b1, .int .u64 b2, .int .u64 b3] 43 (0, 0)) := by rw [hw1]; exact (heap_alloc_old _ _ (by simp)).trans (heap_alloc_new _ _)
  have hr2 : w1.heap[w.heap.size + 1]? = some (.cells #[.int .u64 0, .float .f64 0, .float .f64 0, .float .f64 0, .float .f64 0] 27 (0, 0)) := by
    rw [hw1]
    have h := heap_alloc_new (w.alloc (.cells #[.int .u64 N, .int .u64 b0, .int .u64 b1, .int .u64 b2, .int .u64 b3] 43)) (.cells #[.int .u64 0, .float .f64 0, .float .f64 0, .float .f64 0, .float .f64 0] 27)
    simpa using h
  have hb1 : Below w.heap.size w w1 := by rw [hw1]; exact ((Below.refl _ _).alloc (Nat.le_refl _) _).alloc (by simp) _
  rw [← hw1]
  obtain ⟨g2, hg2⟩ : ∃ x, x = w.heap.size + 1 := ⟨_, rfl⟩
  obtain ⟨B, hB⟩ : ∃ x, x = w.heap.size := ⟨_, rfl⟩
  rw [← hg2] at hr2 ⊢
  have HB1 := Lib.hid (And.intro hb1 (show w.heap.size ≤ g2 by omega))
  rw [← hB] at hr1 ⊢
  have HC := Lib.hid (And.intro (Array.getElem?_eq_some_iff.1 hr1).1 (And.intro (cell_rowG (v := .int .u64 N) (i := 0) hr1 rfl) (And.intro (cell_rowG (v := .int .u64 b0) (i := 1) hr1 rfl) (And.intro (cell_rowG (v := .int .u64 b1) (i := 2) hr1 rfl) (And.intro (cell_rowG (v := .int .u64 b2) (i := 3) hr1 rfl) (cell_rowG (v := .int .u64 b3) (i := 4) hr1 rfl))))))
  have HR := Lib.hid (And.intro (Array.getElem?_eq_some_iff.1 hr2).1 hr2)
  clear hr1 hr2 hb1 hw1 hg2 hB
  refine wp_region_until [some 3, some 4, some 5, some 6, some 7, some 8, some 9, some 10, some 11, some 12, some 13, some 14, some 15, some 16, some 17, some 18, some 19, some 20, some 21, none] [] 19 (fun wx => Below w1.heap.size w1 wx) [0, 1, 2, 3, 4, 5, 6, 7, 8, 9, 10, 11, 12, 13, 14, 15, 16, 17, 18, 19] (rawF B g2 N b0 b1 b2 b3) (kPg 19 g2) (fun wx => w1.grownBy wx (some g2)) (by kernel_rfl) (by kernel_rfl) rfl (by kernel_rfl) (by kernel_rfl) (kG_drew _ _) (Below.refl _ _).drew (fun j hj _ _ k h => h.trans ((kPg_below hj k).mono h.size)) (kPg_refl 19 g2) (fun _ _ _ h k => kPg_G h k) ?hF ?hstep ?hend
  case hF =>
    exact ⟨fun _ _ _ _ _ _ h => h, ⟨fun _ _ _ _ _ _ h => h, ⟨fun _ _ _ _ _ _ h => h, ⟨fun _ _ _ _ _ _ h => h, ⟨fun _ _ _ _ _ _ h => h, ⟨fun _ _ _ _ _ _ h => h, ⟨fun _ _ _ _ _ _ h => h, ⟨fun _ _ _ _ _ _ h => h, ⟨fun _ _ _ _ _ _ h => h, ⟨fun _ _ _ _ _ _ h => h, ⟨fun _ _ _ _ _ _ h => h, ⟨fun _ _ _ _ _ _ h => h, ⟨fun _ _ _ _ _ _ h => h, ⟨fun _ _ _ _ _ _ h => h, ⟨fun _ _ _ _ _ _ h => h, ⟨fun _ _ _ _ _ _ h => h, ⟨fun _ _ _ _ _ _ h => h, ⟨fun _ _ _ _ _ _ h => h, ⟨fun _ _ _ _ _ _ h => h, ⟨fun j hg _ _ _ k h => ((kPg_below (fun e => by subst e; exact absurd hg (by rw [show goneB _ 19 19 = true by kernel_rfl]; simp)) k).block _ (Array.getElem?_eq_some_iff.1 h).1).trans h, trivial⟩⟩⟩⟩⟩⟩⟩⟩⟩⟩⟩⟩⟩⟩⟩⟩⟩⟩⟩⟩
  case hstep =>
    refine ⟨fun r wx hG hs hq hf => ?_, ?_⟩
    · have hQ := hq rfl
      have e1 : r 1 = .pointer (some ⟨B, 0, none⟩) := hs 1 rfl
      refine (if_pos rfl).symm ▸ ?_
      clear hs hq hf
      unfold gives
      go_simp
      exact ⟨kPg_refl _ _ _ _, rfl⟩
    refine ⟨fun r wx hG hs hq hf => ?_, ?_⟩
    · have hQ := hq rfl
      have h0 : r 3 = .pointer (some ⟨B, 0, none⟩) := hf.1
      refine (if_pos rfl).symm ▸ ?_
      clear hs hq hf
      unfold gives
      have hc := (hQ.cell (p := ⟨B, 0, none⟩) HC.out.1).trans HC.out.2.1
      go_simp
      exact ⟨kPg_refl _ _ _ _, rfl⟩
    refine ⟨fun r wx hG hs hq hf => ?_, ?_⟩
    · have hQ := hq rfl
      have e1 : r 1 = .pointer (some ⟨B, 0, none⟩) := hs 1 rfl
      refine (if_pos rfl).symm ▸ ?_
      clear hs hq hf
      unfold gives
      go_simp
      exact ⟨kPg_refl _ _ _ _, rfl⟩
    refine ⟨fun r wx hG hs hq hf => ?_, ?_⟩
    · have hQ := hq rfl
      have h2 : r 5 = .pointer (some ⟨B, 1, none⟩) := hf.1
      refine (if_pos rfl).symm ▸ ?_
      clear hs hq hf
      unfold gives
      go_simp
      exact ⟨kPg_refl _ _ _ _, rfl⟩
    refine ⟨fun r wx hG hs hq hf => ?_, ?_⟩
    · have hQ := hq rfl
      have h3 : r 6 = .pointer (some ⟨B, 1, none⟩) := hf.1
      refine (if_pos rfl).symm ▸ ?_
      clear hs hq hf
      unfold gives
      have hc := (hQ.cell (p := ⟨B, 1, none⟩) HC.out.1).trans HC.out.2.2.1
      go_simp
      exact ⟨kPg_refl _ _ _ _, rfl⟩
    refine ⟨fun r wx hG hs hq hf => ?_, ?_⟩
    · have hQ := hq rfl
      have h4 : r 7 = .int .u64 b0 := hf.1
      refine (if_pos rfl).symm ▸ ?_
      clear hs hq hf
      unfold gives
      have hfrom := run_frombits
      go_simp
      exact ⟨kPg_refl _ _ _ _, rfl⟩
    refine ⟨fun r wx hG hs hq hf => ?_, ?_⟩
    · have hQ := hq rfl
      have e1 : r 1 = .pointer (some ⟨B, 0, none⟩) := hs 1 rfl
      refine (if_pos rfl).symm ▸ ?_
      clear hs hq hf
      unfold gives
      go_simp
      exact ⟨kPg_refl _ _ _ _, rfl⟩
    refine ⟨fun r wx hG hs hq hf => ?_, ?_⟩
    · have hQ := hq rfl
      have h6 : r 9 = .pointer (some ⟨B, 1, none⟩) := hf.1
      refine (if_pos rfl).symm ▸ ?_
      clear hs hq hf
      unfold gives
      go_simp
      exact ⟨kPg_refl _ _ _ _, rfl⟩
    refine ⟨fun r wx hG hs hq hf => ?_, ?_⟩
    · have hQ := hq rfl
      have h7 : r 10 = .pointer (some ⟨B, 2, none⟩) := hf.1
      refine (if_pos rfl).symm ▸ ?_
      clear hs hq hf
      unfold gives
      have hc := (hQ.cell (p := ⟨B, 2, none⟩) HC.out.1).trans HC.out.2.2.2.1
      go_simp
      exact ⟨kPg_refl _ _ _ _, rfl⟩
    refine ⟨fun r wx hG hs hq hf => ?_, ?_⟩
    · have hQ := hq rfl
      have h8 : r 11 = .int .u64 b1 := hf.1
      refine (if_pos rfl).symm ▸ ?_
      clear hs hq hf
      unfold gives
      have hfrom := run_frombits
      go_simp
      exact ⟨kPg_refl _ _ _ _, rfl⟩
    refine ⟨fun r wx hG hs hq hf => ?_, ?_⟩
    · have hQ := hq rfl
      have e1 : r 1 = .pointer (some ⟨B, 0, none⟩) := hs 1 rfl
      refine (if_pos rfl).symm ▸ ?_
      clear hs hq hf
      unfold gives
      go_simp
      exact ⟨kPg_refl _ _ _ _, rfl⟩
    refine ⟨fun r wx hG hs hq hf => ?_, ?_⟩
    · have hQ := hq rfl
      have h10 : r 13 = .pointer (some ⟨B, 1, none⟩) := hf.1
      refine (if_pos rfl).symm ▸ ?_
      clear hs hq hf
      unfold gives
      go_simp
      exact ⟨kPg_refl _ _ _ _, rfl⟩
    refine ⟨fun r wx hG hs hq hf => ?_, ?_⟩
    · have hQ := hq rfl
      have h11 : r 14 = .pointer (some ⟨B, 3, none⟩) := hf.1
      refine (if_pos rfl).symm ▸ ?_
      clear hs hq hf
      unfold gives
      have hc := (hQ.cell (p := ⟨B, 3, none⟩) HC.out.1).trans HC.out.2.2.2.2.1
      go_simp
      exact ⟨kPg_refl _ _ _ _, rfl⟩
    refine ⟨fun r wx hG hs hq hf => ?_, ?_⟩
    · have hQ := hq rfl
      have h12 : r 15 = .int .u64 b2 := hf.1
      refine (if_pos rfl).symm ▸ ?_
      clear hs hq hf
      unfold gives
      have hfrom := run_frombits
      go_simp
      exact ⟨kPg_refl _ _ _ _, rfl⟩
    refine ⟨fun r wx hG hs hq hf => ?_, ?_⟩
    · have hQ := hq rfl
      have e1 : r 1 = .pointer (some ⟨B, 0, none⟩) := hs 1 rfl
      refine (if_pos rfl).symm ▸ ?_
      clear hs hq hf
      unfold gives
      go_simp
      exact ⟨kPg_refl _ _ _ _, rfl⟩
    refine ⟨fun r wx hG hs hq hf => ?_, ?_⟩
    · have hQ := hq rfl
      have h14 : r 17 = .pointer (some ⟨B, 1, none⟩) := hf.1
      refine (if_pos rfl).symm ▸ ?_
      clear hs hq hf
      unfold gives
      go_simp
      exact ⟨kPg_refl _ _ _ _, rfl⟩
    refine ⟨fun r wx hG hs hq hf => ?_, ?_⟩
    · have hQ := hq rfl
      have h15 : r 18 = .pointer (some ⟨B, 4, none⟩) := hf.1
      refine (if_pos rfl).symm ▸ ?_
      clear hs hq hf
      unfold gives
      have hc := (hQ.cell (p := ⟨B, 4, none⟩) HC.out.1).trans HC.out.2.2.2.2.2
      go_simp
      exact ⟨kPg_refl _ _ _ _, rfl⟩
    refine ⟨fun r wx hG hs hq hf => ?_, ?_⟩
    · have hQ := hq rfl
      have h16 : r 19 = .int .u64 b3 := hf.1
      refine (if_pos rfl).symm ▸ ?_
      clear hs hq hf
      unfold gives
      have hfrom := run_frombits
      go_simp
      exact ⟨kPg_refl _ _ _ _, rfl⟩
    refine ⟨fun r wx hG hs hq hf => ?_, ?_⟩
    · have hQ := hq rfl
      have h1 : r 4 = .int .u64 N := hf.1
      have h5 : r 8 = .float .f64 b0 := hf.2.1
      have h9 : r 12 = .float .f64 b1 := hf.2.2.1
      have h13 : r 16 = .float .f64 b2 := hf.2.2.2.1
      have h17 : r 20 = .float .f64 b3 := hf.2.2.2.2.1
      refine (if_pos rfl).symm ▸ ?_
      clear hs hq hf
      unfold gives
      go_simp
      exact ⟨kPg_refl _ _ _ _, rfl⟩
    refine ⟨fun r wx hG hs hq hf => ?_, ?_⟩
    · have hQ := hq rfl
      have e2 : r 2 = .pointer (some ⟨g2, 0, none⟩) := hs 2 rfl
      have h18 : r 21 = Gv N b0 b1 b2 b3 := hf.1
      refine (if_pos rfl).symm ▸ ?_
      clear hs hq hf
      unfold gives
      refine gives_store_gauge 27 _ _ rfl g2 N b0 b1 b2 b3 e2 h18 27 _ ((hQ.block _ HR.out.1).trans HR.out.2) gI' rfl ?_
      intro wy h1 h2
      exact ⟨kPg_st h2, h1⟩
    exact trivial
  case hend =>
    intro u wz hG hfin
    have z19 : wz.heap[g2]? = some (.cells #[.int .u64 N, .float .f64 b0, .float .f64 b1, .float .f64 b2, .float .f64 b3] 27 (0, 0)) := hfin 19 (by decide) (by kernel_rfl)
    clear hfin
    simp only [fill]
    go_simp
    have c0 := cell_rowG (v := .int .u64 N) (i := 0) z19 rfl
    have c1 := cell_rowG (v := .float .f64 b0) (i := 1) z19 rfl
    have c2 := cell_rowG (v := .float .f64 b1) (i := 2) z19 rfl
    have c3 := cell_rowG (v := .float .f64 b2) (i := 3) z19 rfl
    have c4 := cell_rowG (v := .float .f64 b3) (i := 4) z19 rfl
    have HG := Lib.hid hG
    clear hG z19
    go_wp2_with fail
    exact bodyPost_ret (v := Gv N b0 b1 b2 b3) (by simp [results, Try.results19, go_sem, c0, c1, c2, c3, c4]) rfl ⟨rfl, grow2 HB1.out.1 HG.out HB1.out.2 HB1.out.1.size⟩
end Go.Proofs.Ytdociiogddihfaa
