/- The reference's Push, where it goes through. (printed by gen/leafw.py) -/
import Derived.Test.YtdjmebfjanophaaDoorLeafV
namespace Go.Proofs.YtdjmebfjanophaaDoor
open Go.RowKit Sha Root Ones

theorem Rd.blk {w w' : World} {size n c g o : Nat} {xs : List Value} (h : Rd w size (.slice (some ⟨g, o, none⟩) n c) n xs) (hb : w'.heap[g]? = w.heap[g]?) : Rd w' size (.slice (some ⟨g, o, none⟩) n c) n xs := by
  obtain ⟨hl, h1, ⟨h2, _⟩ | ⟨ad, c', hv, hc, hcell⟩⟩ := h
  · cases h2
  · cases hv
    refine ⟨hl, h1, .inr ⟨_, _, rfl, hc, fun j u hu => ?_⟩⟩
    have := hcell j u hu
    rw [Addr.add_lit] at this ⊢
    exact (World.cell?_of_block (a := ⟨g, o + j, none⟩) hb).trans this
/-- How an operation of the region that lays the list may change the world. -/
def pk3 (B : Nat) (j : Nat) (w w' : World) : Prop :=
  if j = 6 then Below B w w' else if j = 3 then ∃ r, w.grownBy w' r ∧ ∀ i, r = some i → B ≤ i ∧ w.heap[i]? = some (.cells #[] 33 (0, 0)) else Below w.heap.size w w'
theorem pk3_refl (B j : Nat) (w : World) : pk3 B j w w := by
  unfold pk3
  split
  · exact Below.refl _ _
  · split
    · exact ⟨none, World.grownBy.refl _ _, fun i e => by cases e⟩
    · exact Below.refl _ _
theorem pk3_of {B j : Nat} {w w' : World} (h3 : j ≠ 3) (h6 : j ≠ 6) (h : Below w.heap.size w w') : pk3 B j w w' := by
  unfold pk3; rwa [if_neg h6, if_neg h3]
theorem pk3_other {B j : Nat} {w w' : World} (h3 : j ≠ 3) (h6 : j ≠ 6) (h : pk3 B j w w') : Below w.heap.size w w' := by
  unfold pk3 at h; rwa [if_neg h6, if_neg h3] at h
theorem pk3_three {B : Nat} {w w' : World} {r : Option Nat} (h : w.grownBy w' r) (h2 : ∀ i, r = some i → B ≤ i ∧ w.heap[i]? = some (.cells #[] 33 (0, 0))) : pk3 B 3 w w' := by
  unfold pk3; rw [if_neg (by decide), if_pos rfl]; exact ⟨r, h, h2⟩
theorem pk3_six {B : Nat} {w w' : World} (h : Below B w w') : pk3 B 6 w w' := by
  unfold pk3; rwa [if_pos rfl]
theorem blk_pk3 {B j q : Nat} {o : Obj} {w w' : World} (h3 : j ≠ 3) (h6 : j ≠ 6) (k : pk3 B j w w') (h : w.heap[q]? = some o) : w'.heap[q]? = some o :=
  ((pk3_other h3 h6 k).block _ (Array.getElem?_eq_some_iff.1 h).1).trans h
theorem rd_pk3 {B j : Nat} {v : Value} {xs : List Value} {w w' : World} (h6 : j ≠ 6) (k : pk3 B j w w') (h : Rd w 32 v 1 xs) : Rd w' 32 v 1 xs := by
  unfold pk3 at k
  rw [if_neg h6] at k
  split at k
  · obtain ⟨r, hg, hr⟩ := k
    obtain ⟨b, off, c, rfl, hc, hcell⟩ := h.atN (by omega) (by omega)
    refine h.blk (hg.block b ?_ fun e => ?_)
    · have hl := h.1
      exact World.block_lt_of_cell? w _ (hcell 0 xs[0] (by simp))
    · have hl := h.1
      have h0 := hcell 0 xs[0] (by simp)
      have h1 := (hr b e.symm).2
      rw [cell_of_row _ _ _ _ _ _ h1] at h0
      simp at h0
  · exact h.keep k
theorem pk3_G {B j : Nat} {w0 w w' : World} (hB : B ≤ w0.heap.size) (h : Below B w0 w) (k : pk3 B j w w') : Below B w0 w' := by
  unfold pk3 at k
  split at k
  · exact h.trans k
  · split at k
    · obtain ⟨r, hg, hr⟩ := k
      exact h.trans ⟨hg.os, hg.tape, hg.output, hg.size, fun i hi => hg.block i (Nat.lt_of_lt_of_le hi (Nat.le_trans hB h.size)) (fun e => by have := (hr i e.symm).1; omega)⟩
    · exact h.trans (k.mono (Nat.le_trans hB h.size))

/-- What each operation hands on. -/
def rp3F (g m c B : Nat) (a : Option Addr) (fl : List Value) (hx : List UInt8) : Nat → Value → World → Prop
  | 0, v, w => ∃ q, v = .slice (some ⟨q, 0, none⟩) 0 0 ∧ B ≤ q ∧ w.heap[q]? = some (.cells #[] 33 (0, 0))
  | 1, v, _ => v = .pointer (some ⟨g, 1, none⟩)
  | 2, v, _ => v = .slice a m c
  | 3, v, w => w.ownsRow B 33 32 v m fl
  | 4, v, _ => v = .agg (bv hx).toArray
  | 5, v, w => Rd w 32 v 1 (bv hx)
  | 6, v, w => w.ownsRow B 33 32 v (m + 1) (fl ++ bv hx)
  | 7, v, w => w.ownsRow B 33 32 v (m + 1) (fl ++ bv hx)
  | _, _, _ => True

/-- What each operation hands on. -/
def rp8F (n : Int) (gb i cap B : Nat) (xs ys nx : List UInt8) (qsl : List Value) : Nat → Value → World → Prop
  | 0, v, _ => v = .slice (some ⟨gb, 0, none⟩) (i + 2) cap
  | 1, v, _ => v = .int .i64 ((i : Int) + 2)
  | 2, v, _ => v = .int .i64 (i : Nat)
  | 3, v, _ => v = .slice (some ⟨gb, 0, none⟩) i cap
  | 4, v, _ => v = .int .i64 n
  | 5, v, _ => v = .slice (some ⟨gb, 0, none⟩) (i + 2) cap
  | 6, v, _ => v = .int .i64 ((i : Int) + 2)
  | 7, v, _ => v = .int .i64 (i : Nat)
  | 8, v, _ => v = .pointer (some ⟨gb, i * 32, none⟩)
  | 9, v, _ => v = .agg (bv xs).toArray
  | 10, v, _ => v = .slice (some ⟨gb, 0, none⟩) (i + 2) cap
  | 11, v, _ => v = .int .i64 ((i : Int) + 2)
  | 12, v, _ => v = .int .i64 ((i : Int) + 1)
  | 13, v, _ => v = .pointer (some ⟨gb, (i + 1) * 32, none⟩)
  | 14, v, _ => v = .agg (bv ys).toArray
  | 15, v, _ => v = .agg (bv nx).toArray
  | 16, v, w => Rd w 32 v 1 (bv nx)
  | 17, v, w => w.ownsRow B 33 32 v (i + 1) (qsl.take (i * 32) ++ bv nx)
  | 18, v, w => w.ownsRow B 33 32 v (i + 1) (qsl.take (i * 32) ++ bv nx)
  | _, _, _ => True

set_option maxHeartbeats 16000000 in
set_option maxRecDepth 100000 in
theorem refPush_ok (n : Int) (sz : Nat) (a : Option Addr) (c : Nat) (ps : List (List UInt8)) (hx : List UInt8) (w : World) (hn : -9223372036854775808 ≤ n ∧ n ≤ 9223372036854775807) (hs : sz < 9223372036854775808) (h32 : ∀ p ∈ ps, p.length = 32) (hl : (ps.length + 1) * 32 ≤ 140737488355328) (hx32 : hx.length = 32)
    (hr : Rd w 32 (.slice a ps.length c) ps.length (ps.flatMap bv)) (hT : TabsR w) (hright : ps.length = pop 64 sz) :
    Calls Tryd.prog 21 #[.int .i64 n, .agg #[.int .u64 sz, .slice a ps.length c], .agg (bv hx).toArray] w fun e w' =>
      ∃ v', e = .returned (.tuple #[.agg #[.int .u64 ((sz + 1 : Nat) : Int), v'], .int .i64 0]) ∧ w'.ownsRow w.heap.size 33 32 v' (foldT (nodeH n) (tz1 sz) (ps ++ [hx])).length ((foldT (nodeH n) (tz1 sz) (ps ++ [hx])).flatMap bv) ∧ Below w.heap.size w w' := by
  have hz := (zero_of_info info32).1
  have hri := fun wx => refRight_any sz a ps.length c wx (by omega) (by omega)
  rw [decide_eq_true hright] at hri
  obtain ⟨fl, hfl⟩ : ∃ l, l = ps.flatMap bv := ⟨_, rfl⟩
  rw [← hfl] at hr
  have HRD0 := Lib.hid (fun wx (h : Below w.heap.size w wx) => hr.keep h)
  obtain ⟨g, hg⟩ : ∃ g, g = w.heap.size := ⟨_, rfl⟩
  obtain ⟨w0, hw0⟩ : ∃ x : World, x = ((w.alloc (.cells #[.int .u64 sz, .slice a ps.length c] 31)).alloc (.cells (bv hx).toArray 33)).alloc (.cells #[.int .u64 0, .slice none 0 0] 31) := ⟨_, rfl⟩
  have hc0 : w0.cell? ⟨g, 0, none⟩ = some (.int .u64 sz) := by rw [hw0, hg]; simp [go_sem]
  have hc1 : w0.cell? ⟨g, 1, none⟩ = some (.slice a ps.length c) := by rw [hw0, hg]; simp [go_sem]
  have hrow : w0.heap[g + 1]? = some (.cells (bv hx).toArray 33 (0, 0)) := by
    rw [hw0, hg, heap_alloc_old _ _ (by simp)]
    have := heap_alloc_new (w.alloc (.cells #[.int .u64 sz, .slice a ps.length c] 31)) (.cells (bv hx).toArray 33)
    simpa using this
  have hz0 : w0.cell? ⟨g + 1 + 1, 0, none⟩ = some (.int .u64 0) := by rw [hw0, hg]; simp [go_sem]
  have hz1 : w0.cell? ⟨g + 1 + 1, 1, none⟩ = some (.slice none 0 0) := by rw [hw0, hg]; simp [go_sem]
  have hf0 : w0.frozen? ⟨g + 1 + 1, 0, none⟩ = false := by rw [hw0, hg]; simp [go_sem]
  have hf1 : w0.frozen? ⟨g + 1 + 1, 1, none⟩ = false := by rw [hw0, hg]; simp [go_sem]
  have hb0 : Below w.heap.size w w0 := by rw [hw0]; exact (((Below.refl _ _).alloc (Nat.le_refl _) _).alloc (by simp) _).alloc (by simp; omega) _
  have hgl : g + 1 + 1 < w0.heap.size := by rw [hw0, hg]; simp
  have HC0 := Lib.hid (And.intro hc0 (And.intro hc1 hrow))
  have HZ := Lib.hid (And.intro hz0 (And.intro hz1 (And.intro hf0 hf1)))
  have HX := Lib.hid hx32
  have HW := Lib.hid hw0
  have HB0 := Lib.hid hb0
  have HFL := Lib.hid hfl
  have HG := Lib.hid hg
  have hzrow : w0.heap[g + 1 + 1]? = some (.cells #[.int .u64 0, .slice none 0 0] 31 (0, 0)) := by
    rw [hw0, hg]
    have := heap_alloc_new ((w.alloc (.cells #[.int .u64 sz, .slice a ps.length c] 31)).alloc (.cells (bv hx).toArray 33)) (.cells #[.int .u64 0, .slice none 0 0] 31)
    simpa using this
  have HZR := Lib.hid hzrow
  have HRT := Lib.hid (And.intro hright h32)
  have HTT := Lib.hid hT
  obtain ⟨m, hm⟩ : ∃ m, m = ps.length := ⟨_, rfl⟩
  have HM := Lib.hid hm
  have hsh : decide ((9223372036854775808 : Int) ≤ (sz : Int)) = false := decide_eq_false (by omega)
  clear hzrow hT hc1 hrow hz0 hz1 hf0 hf1 hx32 hw0 hb0 hfl hr h32 hright
  go_enter Tryd.func21, Tryd.ntmps21
  go_upto_region 1 with fail
  rw [← hg, show ((w.alloc (.cells #[.int .u64 sz, .slice a ps.length c] 31)).alloc (.cells (bv hx).toArray 33)).alloc (.cells #[.int .u64 0, .slice none 0 0] 31) = w0 from HW.out.symm]
  clear hg
  have hc1 := HC0.out.2.1
  go_wp2_with fail
  refine (hri _).mono ?_
  rintro e w1 ⟨rfl, hb1⟩
  have hc0' := (hb1.cell (p := ⟨g, 0, none⟩) (show g < w0.heap.size by omega)).trans hc0
  obtain ⟨B, hB⟩ : ∃ B, B = w1.heap.size := ⟨_, rfl⟩
  have hBs : B ≤ w1.heap.size := by omega
  have hgB : g + 1 + 1 < B := by have := hb1.size; omega
  have hc1' := (hb1.cell (p := ⟨g, 1, none⟩) (show g < w0.heap.size by omega)).trans hc1
  have hrow' := (hb1.block _ (Array.getElem?_eq_some_iff.1 HC0.out.2.2).1).trans HC0.out.2.2
  rw [← HM.out] at hc1'
  have hbw1 := HB0.out.trans (hb1.mono HB0.out.size)
  have hgl1 : g < w1.heap.size := by omega
  have HC := Lib.hid (And.intro hc0' (And.intro hc1' hrow'))
  have HRD := Lib.hid (fun wx (h : Below B w1 wx) => show Rd wx 32 (.slice a m c) m fl by
    have := HRD0.out wx (hbw1.trans (h.mono (by rw [hB]; exact hbw1.size)))
    rwa [← HM.out] at this)
  have HBW := Lib.hid hbw1
  have HBE := Lib.hid hB
  have hzr1 := (hb1.block _ (Array.getElem?_eq_some_iff.1 HZR.out).1).trans HZR.out
  have HZR1 := Lib.hid hzr1
  clear hzr1
  have hm32 : (m + 1) * 32 ≤ 140737488355328 := by rw [HM.out]; exact hl
  clear hc0 hc1 hc0' hc1' hrow' hbw1 hb1 hri HC0 hB hgl hm
  have hgl := hgl1
  clear hgl1 hl
  have hc0v := HC.out.1
  go_upto_region 3 with fail
  clear hc0v
  refine wp_region_steps [some 20, some 21, some 22, some 23, some 24, some 25, some 26, some 8] [] (rp3F g m c B a fl hx) (pk3 B) (fun wx => Below B w1 wx) (by kernel_rfl) (by kernel_rfl) rfl (by kernel_rfl) (Below.refl _ _).drew (fun _ _ => pk3_refl _ _ _) (fun _ _ _ h k => pk3_G hBs h k) ?hF ?hstep ?hend
  case hF =>
    exact ⟨fun j hg _ _ _ k h => by obtain ⟨q, h1, h2, h3⟩ := h; exact ⟨q, h1, h2, blk_pk3 (by rintro rfl; exact absurd hg (by rw [show goneB _ 0 3 = true by kernel_rfl]; simp)) (by rintro rfl; exact absurd hg (by rw [show goneB _ 0 6 = true by kernel_rfl]; simp)) k h3⟩, ⟨fun _ _ _ _ _ _ h => h, ⟨fun _ _ _ _ _ _ h => h, ⟨fun j hg _ _ _ k h => own_keep h (pk3_other (by rintro rfl; exact absurd hg (by rw [show goneB _ 3 3 = true by kernel_rfl]; simp)) (by rintro rfl; exact absurd hg (by rw [show goneB _ 3 6 = true by kernel_rfl]; simp)) k), ⟨fun _ _ _ _ _ _ h => h, ⟨fun j hg _ _ _ k h => rd_pk3 (by rintro rfl; exact absurd hg (by rw [show goneB _ 5 6 = true by kernel_rfl]; simp)) k h, ⟨fun j hg _ _ _ k h => own_keep h (pk3_other (by rintro rfl; exact absurd hg (by rw [show goneB _ 6 3 = true by kernel_rfl]; simp)) (by rintro rfl; exact absurd hg (by rw [show goneB _ 6 6 = true by kernel_rfl]; simp)) k), ⟨fun j hg _ _ _ k h => own_keep h (pk3_other (by rintro rfl; exact absurd hg (by rw [show goneB _ 7 3 = true by kernel_rfl]; simp)) (by rintro rfl; exact absurd hg (by rw [show goneB _ 7 6 = true by kernel_rfl]; simp)) k), trivial⟩⟩⟩⟩⟩⟩⟩⟩
  case hstep =>
    -- operation 0: Op.buildSlice 30 0 #[]
    refine ⟨fun r wx hG hs hq hf => ?_, ?_⟩
    · refine (if_pos rfl).symm ▸ ?_
      clear hs hq hf
      unfold gives
      go_simp
      exact ⟨pk3_of (by decide) (by decide) ((Below.refl _ _).alloc (Nat.le_refl _) _), _, rfl, Nat.le_trans hBs hG.size, heap_alloc_new _ _⟩
    -- operation 1: Op.fieldAddr 39 (tmp 4) 1
    refine ⟨fun r wx hG hs hq hf => ?_, ?_⟩
    · have e4 : r 4 = .pointer (some ⟨g, 0, none⟩) := hs 4 rfl
      refine (if_pos rfl).symm ▸ ?_
      clear hs hq hf
      unfold gives
      go_simp
      exact ⟨pk3_refl _ _ _, rfl⟩
    -- operation 2: Op.load 30 (tmp 21)
    refine ⟨fun r wx hG hs hq hf => ?_, ?_⟩
    · have h1 : r 21 = .pointer (some ⟨g, 1, none⟩) := hf.1
      refine (if_pos rfl).symm ▸ ?_
      clear hs hq hf
      unfold gives
      have hc1 := (hG.cell (p := ⟨g, 1, none⟩) (show g < B by omega)).trans HC.out.2.1
      go_simp
      exact ⟨pk3_refl _ _ _, rfl⟩
    -- operation 3: Op.call ( callee := Callee.builtin Builtin.append, args := #[tmp 20, tmp 22], argTypes := #[30, 30] )
    refine ⟨fun r wx hG hs hq hf => ?_, ?_⟩
    · have h0 : ∃ q, (r 20) = .slice (some ⟨q, 0, none⟩) 0 0 ∧ B ≤ q ∧ wx.heap[q]? = some (.cells #[] 33 (0, 0)) := hf.1
      have h2 : r 22 = .slice a m c := hf.2.1
      refine (if_pos rfl).symm ▸ ?_
      clear hs hq hf
      unfold gives
      obtain ⟨q, hq, hBq, hrow⟩ := h0
      have hown : wx.ownsRow B 33 32 (r 20) 0 [] := by
        rw [hq]; exact ⟨by simp, .inr ⟨q, 0, #[], rfl, hBq, hrow, Nat.le_refl _, by decide, by simp, by simp⟩⟩
      have hrd : Rd wx 32 (r 22) m fl := by
        rw [h2]; exact HRD.out wx hG
      refine gives_app Tryd.underlying22 infoHb rfl (by decide) _ _ rfl rfl rfl hown hrd (by omega) (by omega) (Nat.le_trans hBs hG.size) ?_
      intro v' wy ho hg _
      refine ⟨pk3_three hg.grown (fun i e => ?_), by show wy.ownsRow B 33 32 v' m fl; simpa using ho⟩
      change (r 20).ownBlock = some i at e
      rw [hq] at e
      simp only [Value.ownBlock, Option.some.injEq] at e
      subst e
      exact ⟨hBq, hrow⟩
    -- operation 4: Op.load 24 (tmp 5)
    refine ⟨fun r wx hG hs hq hf => ?_, ?_⟩
    · have e5 : r 5 = .pointer (some ⟨g + 1, 0, none⟩) := hs 5 rfl
      refine (if_pos rfl).symm ▸ ?_
      clear hs hq hf
      unfold gives
      refine gives_load_row 33 _ rfl (g + 1) e5 33 _ (0, 0) _ ((hG.block _ (show g + 1 < B by omega)).trans HC.out.2.2) Tryd.underlying33 rfl (hInfo _ HX.out) ⟨pk3_refl _ _ _, rfl⟩
    -- operation 5: Op.buildSlice 30 1 #[(0, tmp 24)]
    refine ⟨fun r wx hG hs hq hf => ?_, ?_⟩
    · have h4 : r 24 = .agg (bv hx).toArray := hf.1
      refine (if_pos rfl).symm ▸ ?_
      clear hs hq hf
      unfold gives
      refine gives_build1 22 33 _ rfl (bv hx) h4 Tryd.underlying22 infoHb (by rw [bv_length]; exact HX.out) (by decide) (by decide) ?_
      exact ⟨pk3_of (by decide) (by decide) ((Below.refl _ _).alloc (Nat.le_refl _) _), Rd.row wx 33 32 (bv hx) (by rw [bv_length]; exact HX.out) (bv_one hx)⟩
    -- operation 6: Op.call ( callee := Callee.builtin Builtin.append, args := #[tmp 23, tmp 25], argTypes := #[30, 30] )
    refine ⟨fun r wx hG hs hq hf => ?_, ?_⟩
    · have h3 : wx.ownsRow B 33 32 (r 23) m fl := hf.1
      have h5 : Rd wx 32 (r 25) 1 (bv hx) := hf.2.1
      refine (if_pos rfl).symm ▸ ?_
      clear hs hq hf
      unfold gives
      refine gives_app Tryd.underlying22 infoHb rfl (by decide) _ _ rfl rfl rfl h3 h5 (by omega) (by omega) (Nat.le_trans hBs hG.size) ?_
      intro v' wy ho hg _
      exact ⟨pk3_six (hg.below (Nat.le_trans hBs hG.size) (own_block h3)), ho⟩
    -- operation 7: Op.assign (tmp 26)
    refine ⟨fun r wx hG hs hq hf => ?_, ?_⟩
    · have h6 : wx.ownsRow B 33 32 (r 26) (m + 1) (fl ++ bv hx) := hf.1
      refine (if_pos rfl).symm ▸ ?_
      clear hs hq hf
      unfold gives
      go_simp
      exact ⟨pk3_refl _ _ _, h6⟩
    exact trivial
  case hend =>
    intro u wz hG hfin
    have z7 : wz.ownsRow B 33 32 (u 7) (m + 1) (fl ++ bv hx) := hfin 7 (by decide) (by kernel_rfl)
    clear hfin
    simp only [fill]
    go_simp
    obtain ⟨v8, hv8⟩ : ∃ q, q = u 7 := ⟨_, rfl⟩
    rw [← hv8] at z7 ⊢
    obtain ⟨w2, hw2⟩ : ∃ x : World, x = wz := ⟨_, rfl⟩
    rw [← hw2] at z7 hG ⊢
    clear hw2 hv8
    have hgB4 : g + 1 + 1 < B := hgB
    have hBs4 : B ≤ w2.heap.size := Nat.le_trans hBs hG.size
    have hbw2 : Below g w w2 := (HG.out ▸ HBW.out).trans (hG.mono (by omega))
    have hc4 := (hG.cell (p := ⟨g, 0, none⟩) (show g < B by omega)).trans HC.out.1
    have hz4 := (hG.block _ hgB).trans HZR1.out
    have hbx : ∀ wx, Below B w2 wx → Below w.heap.size w wx := fun wx h => by
      have := hbw2.trans (h.mono (by omega))
      rwa [HG.out] at this
    obtain ⟨L, hL⟩ : ∃ L, L = foldT (nodeH n) (tz1 sz) (ps ++ [hx]) := ⟨_, rfl⟩
    obtain ⟨qs0, hqs⟩ : ∃ qs, qs = ps ++ [hx] := ⟨_, rfl⟩
    have hq1 : qs0.length = m + 1 := by rw [hqs, HM.out]; simp
    have hq2 : qs0.flatMap bv = fl ++ bv hx := by rw [hqs, HFL.out]; simp
    have hq3 : ∀ p ∈ qs0, p.length = 32 := by
      intro p hp
      rw [hqs] at hp
      rcases List.mem_append.1 hp with hp | hp
      · exact HRT.out.2 p hp
      · rw [List.mem_singleton.1 hp]; exact HX.out
    have hq4 : tz1 sz < qs0.length := by
      have h1 := tz1_le_pop 64 sz (by omega)
      have h2 := HRT.out.1
      have h3 := HM.out
      omega
    have hq5 : foldT (nodeH n) (tz1 sz) qs0 = L := by rw [hL, hqs]
    have hq6 : w2.ownsRow B 33 32 v8 qs0.length (qs0.flatMap bv) := by rw [hq1, hq2]; exact z7
    have hnd0 : ∀ wx, Below B w2 wx → ∀ xs ys : List UInt8, xs.length = 32 → ys.length = 32 → Calls Tryd.prog 50 #[.int .i64 n, .agg (bv xs).toArray, .agg (bv ys).toArray] wx fun e w' => e = .returned (.agg (bv (nodeH n xs ys)).toArray) ∧ Below wx.heap.size wx w' := fun wx h xs ys hx hy => refNode_any n xs ys wx hx hy hn (HTT.out.keepB (hbx wx h))
    have HND0 := Lib.hid hnd0
    have HQ := Lib.hid (And.intro hL (And.intro hbw2 hz4))
    have hq1' : qs0.length ≤ 4398046511104 := by omega
    have HQ0 := Lib.hid (And.intro hq3 (And.intro hq4 (And.intro hq5 (And.intro hq6 hq1'))))
    have HC4 := Lib.hid hc4
    clear z7 hG hbw2 hbx hL hqs hq1 hq2 hq3 hq4 hq5 hq6 hq1' hnd0 hz4
    obtain ⟨va8, vc8, hv8⟩ := own_form HQ0.out.2.2.2.1
    have HV8 := Lib.hid hv8
    clear hv8
    go_wp2_with fail
    clear hc4
    go_loopw [8, 9] (fun s8 s9 wr => ∃ (q : Nat) (qs : List (List UInt8)), s9 = .int .u64 (q : Int) ∧ q < 9223372036854775808 ∧ wr.ownsRow B 33 32 s8 qs.length (qs.flatMap bv) ∧ ((∀ p ∈ qs, p.length = 32) ∧ qs.length ≤ 4398046511104) ∧ foldT (nodeH n) (tz1 q) qs = L ∧ tz1 q < qs.length ∧ Below B w2 wr) (fun _ s9 _ => (intOf s9).toNat)
    case atStart => exact ⟨sz, qs0, rfl, hs, HQ0.out.2.2.2.1, ⟨HQ0.out.1, HQ0.out.2.2.2.2⟩, HQ0.out.2.2.1, HQ0.out.2.1, Below.refl _ _⟩
    case round =>
      obtain ⟨q, qs, rfl, hq63, how, ⟨h32q, hqlen⟩, hfold, htz, hbr⟩ := hrel
      obtain ⟨gb, cap, rfl, hBg, hcap, hcm, hgw⟩ := own_at how (by omega)
      by_cases hodd : q % 2 = 1
      · have z1 : (q : Int) % 2 = 1 := by omega
        rw [tz1_odd q hodd] at hfold htz
        obtain ⟨i, hi⟩ : ∃ i, qs.length = i + 2 := ⟨qs.length - 2, by omega⟩
        obtain ⟨xs, hx⟩ : ∃ x, qs[i]? = some x := ⟨qs[i], List.getElem?_eq_getElem (by omega)⟩
        obtain ⟨ys, hy⟩ : ∃ x, qs[i + 1]? = some x := ⟨qs[i + 1], List.getElem?_eq_getElem (by omega)⟩
        have hx32 := h32q xs (List.mem_of_getElem? hx)
        have hy32 := h32q ys (List.mem_of_getElem? hy)
        have hrx := own_range32 how h32q hx
        have hry := own_range32 how h32q hy
        obtain ⟨nx, hnx⟩ : ∃ nx, nx = nodeH n xs ys := ⟨_, rfl⟩
        have hnx32 : nx.length = 32 := by rw [hnx]; exact nodeH_length _ _ _
        have hBw4 : B ≤ wr.heap.size := Nat.le_trans hBs4 hbr.size
        have hnd : ∀ wx, Below B wr wx → Calls Tryd.prog 50 #[.int .i64 n, .agg (bv xs).toArray, .agg (bv ys).toArray] wx fun e w' => e = .returned (.agg (bv nx).toArray) ∧ Below wx.heap.size wx w' := fun wx hx => by
          rw [hnx]; exact HND0.out wx (hbr.trans hx) xs ys hx32 hy32
        have hme : merge1 (nodeH n) qs = qs.take i ++ [nx] := by
          rw [merge1_set (nodeH n) qs xs ys (by rw [hi]; exact hx) (by rw [hi]; exact hy) (by omega), hi, ← hnx, show i + 2 - 2 = i by omega, show i + 2 - 1 = i + 1 by omega, List.take_add_one, List.getElem?_set_self (by omega), Option.toList_some]
          congr 1
          exact List.take_set_of_le (Nat.le_refl _)
        have h32n : (∀ p ∈ qs.take i ++ [nx], p.length = 32) ∧ (qs.take i ++ [nx]).length ≤ 4398046511104 := by
          refine ⟨fun p hp => ?_, by simp; omega⟩
          rcases List.mem_append.1 hp with hp | hp
          · exact h32q p (List.mem_of_mem_take hp)
          · rw [List.mem_singleton.1 hp]; exact hnx32
        have hfn : foldT (nodeH n) (tz1 (q / 2)) (qs.take i ++ [nx]) = L := by
          rw [← hme, ← hfold, Nat.add_comm 1, foldT]
        have hln : (qs.take i ++ [nx]).length = i + 1 := by simp; omega
        have hfl : (qs.take i ++ [nx]).flatMap bv = (qs.flatMap bv).take (i * 32) ++ bv nx := by
          rw [List.flatMap_append, flat_take32 qs i h32q]; simp
        have hlt : tz1 (q / 2) < (qs.take i ++ [nx]).length := by rw [hln]; omega
        rw [hi] at how
        have HOW := Lib.hid how
        have HRG := Lib.hid (And.intro hrx hry)
        have HXY := Lib.hid (And.intro hx32 hy32)
        have HNX := Lib.hid hnx32
        have HND := Lib.hid hnd
        have HSF := Lib.hid (And.intro h32n (And.intro hfn (And.intro hlt (And.intro hln hfl))))
        have HB4 := Lib.hid hbr
        obtain ⟨qsl, hqsl⟩ : ∃ l, l = qs.flatMap bv := ⟨_, rfl⟩
        rw [← hqsl] at HOW HSF
        rw [hi]
        have hicap : i + 2 ≤ cap := by omega
        have hilen : i + 2 ≤ 4398046511104 := by omega
        clear how hrx hry hx32 hy32 hnx32 hnd hbr hqsl hx hy hnx hi hfold htz hme h32n hfn hln hfl hlt h32q hqlen hcap hodd
        go_upto_region 8 with fail
        refine wp_region_until [some 36, some 37, some 38, some 39, some 40, some 41, some 42, some 43, some 44, some 45, some 46, some 47, some 48, some 49, some 50, some 51, some 52, some 53, some 8] [(0, 8), (5, 8), (10, 8)] 17 (fun wx => Below wr.heap.size wr wx) [0, 1, 2, 3, 4, 5, 6, 7, 8, 9, 10, 11, 12, 13, 14, 15, 16, 17] (rp8F n gb i cap B xs ys nx qsl) (kOne 17 B) (fun wx => Below B wr wx) (by kernel_rfl) (by kernel_rfl) rfl (by kernel_rfl) (by kernel_rfl) (Below.refl _ _).drew (Below.refl _ _).drew ((fun _ hj _ _ k h => h.trans ((kOne_below hj k).mono h.size))) (fun _ _ => kOne_refl _ _ _ _) (fun _ _ _ h k => h.trans (kOne_base (Nat.le_trans hBw4 h.size) k)) ?hF ?hstep ?hend
        case hF =>
          exact ⟨fun _ _ _ _ _ _ h => h, ⟨fun _ _ _ _ _ _ h => h, ⟨fun _ _ _ _ _ _ h => h, ⟨fun _ _ _ _ _ _ h => h, ⟨fun _ _ _ _ _ _ h => h, ⟨fun _ _ _ _ _ _ h => h, ⟨fun _ _ _ _ _ _ h => h, ⟨fun _ _ _ _ _ _ h => h, ⟨fun _ _ _ _ _ _ h => h, ⟨fun _ _ _ _ _ _ h => h, ⟨fun _ _ _ _ _ _ h => h, ⟨fun _ _ _ _ _ _ h => h, ⟨fun _ _ _ _ _ _ h => h, ⟨fun _ _ _ _ _ _ h => h, ⟨fun _ _ _ _ _ _ h => h, ⟨fun _ _ _ _ _ _ h => h, ⟨fun j hg _ _ _ k h => Rd.keep h (kOne_below (fun e => by subst e; exact absurd hg (by rw [show goneB _ 16 17 = true by kernel_rfl]; simp)) k), ⟨fun j hg _ _ _ k h => own_keep h (kOne_below (fun e => by subst e; exact absurd hg (by rw [show goneB _ 17 17 = true by kernel_rfl]; simp)) k), ⟨fun j hg _ _ _ k h => own_keep h (kOne_below (fun e => by subst e; exact absurd hg (by rw [show goneB _ 18 17 = true by kernel_rfl]; simp)) k), trivial⟩⟩⟩⟩⟩⟩⟩⟩⟩⟩⟩⟩⟩⟩⟩⟩⟩⟩⟩
        case hstep =>
          -- operation 0: Op.move (tmp 8)
          refine ⟨fun r wx hG hs hq hf => ?_, ?_⟩
          · have hQ := hq rfl
            have e8 : r 8 = .slice (some ⟨gb, 0, none⟩) (i + 2) cap := hs 8 rfl
            refine (if_pos rfl).symm ▸ ?_
            clear hs hq hf
            unfold gives
            go_simp
            exact ⟨kOne_refl _ _ _ _, rfl⟩
          -- operation 1: Op.move (tmp 10)
          refine ⟨fun r wx hG hs hq hf => ?_, ?_⟩
          · have hQ := hq rfl
            have e10 : r 10 = .int .i64 ((i : Int) + 2) := hs 10 rfl
            refine (if_pos rfl).symm ▸ ?_
            clear hs hq hf
            unfold gives
            go_simp
            exact ⟨kOne_refl _ _ _ _, rfl⟩
          -- operation 2: Op.binOp BinOp.sub 3 (tmp 37) (const (Value.int IntKind.i64 2)) 3
          refine ⟨fun r wx hG hs hq hf => ?_, ?_⟩
          · have hQ := hq rfl
            have h1 : r 37 = .int .i64 ((i : Int) + 2) := hf.1
            refine (if_pos rfl).symm ▸ ?_
            clear hs hq hf
            unfold gives
            have zw : IntKind.i64.wrap (i : Int) = (i : Int) := IntWalk.i64_in _ (by omega)
            go_simp
            exact ⟨kOne_refl _ _ _ _, rfl⟩
          -- operation 3: Op.slice 30 (tmp 36) none (some (tmp 38)) none
          refine ⟨fun r wx hG hs hq hf => ?_, ?_⟩
          · have hQ := hq rfl
            have h0 : r 36 = .slice (some ⟨gb, 0, none⟩) (i + 2) cap := hf.1
            have h2 : r 38 = .int .i64 (i : Nat) := hf.2.1
            refine (if_pos rfl).symm ▸ ?_
            clear hs hq hf
            unfold gives
            have z0 : (0 : Int) ≤ (i : Int) := by omega
            have z1 : (i : Int) ≤ (cap : Int) := by omega
            go_simp
            exact ⟨kOne_refl _ _ _ _, rfl⟩
          -- operation 4: Op.move (tmp 0)
          refine ⟨fun r wx hG hs hq hf => ?_, ?_⟩
          · have hQ := hq rfl
            have e0 : r 0 = .int .i64 n := hs 0 rfl
            refine (if_pos rfl).symm ▸ ?_
            clear hs hq hf
            unfold gives
            go_simp
            exact ⟨kOne_refl _ _ _ _, rfl⟩
          -- operation 5: Op.move (tmp 8)
          refine ⟨fun r wx hG hs hq hf => ?_, ?_⟩
          · have hQ := hq rfl
            have e8 : r 8 = .slice (some ⟨gb, 0, none⟩) (i + 2) cap := hs 8 rfl
            refine (if_pos rfl).symm ▸ ?_
            clear hs hq hf
            unfold gives
            go_simp
            exact ⟨kOne_refl _ _ _ _, rfl⟩
          -- operation 6: Op.move (tmp 10)
          refine ⟨fun r wx hG hs hq hf => ?_, ?_⟩
          · have hQ := hq rfl
            have e10 : r 10 = .int .i64 ((i : Int) + 2) := hs 10 rfl
            refine (if_pos rfl).symm ▸ ?_
            clear hs hq hf
            unfold gives
            go_simp
            exact ⟨kOne_refl _ _ _ _, rfl⟩
          -- operation 7: Op.binOp BinOp.sub 3 (tmp 42) (const (Value.int IntKind.i64 2)) 3
          refine ⟨fun r wx hG hs hq hf => ?_, ?_⟩
          · have hQ := hq rfl
            have h6 : r 42 = .int .i64 ((i : Int) + 2) := hf.1
            refine (if_pos rfl).symm ▸ ?_
            clear hs hq hf
            unfold gives
            have zw : IntKind.i64.wrap (i : Int) = (i : Int) := IntWalk.i64_in _ (by omega)
            go_simp
            exact ⟨kOne_refl _ _ _ _, rfl⟩
          -- operation 8: Op.indexAddr 30 (tmp 41) (tmp 43)
          refine ⟨fun r wx hG hs hq hf => ?_, ?_⟩
          · have hQ := hq rfl
            have h5 : r 41 = .slice (some ⟨gb, 0, none⟩) (i + 2) cap := hf.1
            have h7 : r 43 = .int .i64 (i : Nat) := hf.2.1
            refine (if_pos rfl).symm ▸ ?_
            clear hs hq hf
            unfold gives
            have z0 : (0 : Int) ≤ (i : Int) := by omega
            have z1 : (i : Int) < (i : Int) + 2 := by omega
            go_simp
            exact ⟨kOne_refl _ _ _ _, rfl⟩
          -- operation 9: Op.load 24 (tmp 44)
          refine ⟨fun r wx hG hs hq hf => ?_, ?_⟩
          · have hQ := hq rfl
            have h8 : r 44 = .pointer (some ⟨gb, i * 32, none⟩) := hf.1
            refine (if_pos rfl).symm ▸ ?_
            clear hs hq hf
            unfold gives
            refine gives_load_mid 33 _ rfl gb (i * 32) h8 (bv xs) _ (fun q u hu => (hQ.cell (p := ⟨gb, i * 32 + q, none⟩) hgw).trans (HRG.out.1 q u hu)) Tryd.underlying33 rfl (hInfo' _ HXY.out.1) ⟨kOne_refl _ _ _ _, rfl⟩
          -- operation 10: Op.move (tmp 8)
          refine ⟨fun r wx hG hs hq hf => ?_, ?_⟩
          · have hQ := hq rfl
            have e8 : r 8 = .slice (some ⟨gb, 0, none⟩) (i + 2) cap := hs 8 rfl
            refine (if_pos rfl).symm ▸ ?_
            clear hs hq hf
            unfold gives
            go_simp
            exact ⟨kOne_refl _ _ _ _, rfl⟩
          -- operation 11: Op.move (tmp 10)
          refine ⟨fun r wx hG hs hq hf => ?_, ?_⟩
          · have hQ := hq rfl
            have e10 : r 10 = .int .i64 ((i : Int) + 2) := hs 10 rfl
            refine (if_pos rfl).symm ▸ ?_
            clear hs hq hf
            unfold gives
            go_simp
            exact ⟨kOne_refl _ _ _ _, rfl⟩
          -- operation 12: Op.binOp BinOp.sub 3 (tmp 47) (const (Value.int IntKind.i64 1)) 3
          refine ⟨fun r wx hG hs hq hf => ?_, ?_⟩
          · have hQ := hq rfl
            have h11 : r 47 = .int .i64 ((i : Int) + 2) := hf.1
            refine (if_pos rfl).symm ▸ ?_
            clear hs hq hf
            unfold gives
            have zw : IntKind.i64.wrap ((i : Int) + 2 - 1) = (i : Int) + 1 := by rw [IntWalk.i64_in _ (by omega)]; omega
            go_simp
            exact ⟨kOne_refl _ _ _ _, rfl⟩
          -- operation 13: Op.indexAddr 30 (tmp 46) (tmp 48)
          refine ⟨fun r wx hG hs hq hf => ?_, ?_⟩
          · have hQ := hq rfl
            have h10 : r 46 = .slice (some ⟨gb, 0, none⟩) (i + 2) cap := hf.1
            have h12 : r 48 = .int .i64 ((i : Int) + 1) := hf.2.1
            refine (if_pos rfl).symm ▸ ?_
            clear hs hq hf
            unfold gives
            have z0 : (0 : Int) ≤ (i : Int) + 1 := by omega
            have z1 : (i : Int) + 1 < (i : Int) + 2 := by omega
            have z2 : ((i : Int) + 1).toNat = i + 1 := by omega
            go_simp
            exact ⟨kOne_refl _ _ _ _, rfl⟩
          -- operation 14: Op.load 24 (tmp 49)
          refine ⟨fun r wx hG hs hq hf => ?_, ?_⟩
          · have hQ := hq rfl
            have h13 : r 49 = .pointer (some ⟨gb, (i + 1) * 32, none⟩) := hf.1
            refine (if_pos rfl).symm ▸ ?_
            clear hs hq hf
            unfold gives
            refine gives_load_mid 33 _ rfl gb ((i + 1) * 32) h13 (bv ys) _ (fun q u hu => (hQ.cell (p := ⟨gb, (i + 1) * 32 + q, none⟩) hgw).trans (HRG.out.2 q u hu)) Tryd.underlying33 rfl (hInfo' _ HXY.out.2) ⟨kOne_refl _ _ _ _, rfl⟩
          -- operation 15: Op.call ( callee := Callee.value (func 15), args := #[tmp 40, tmp 45, tmp 50], argTypes := #[3, 24, 24] )
          refine ⟨fun r wx hG hs hq hf => ?_, ?_⟩
          · have hQ := hq rfl
            have h4 : r 40 = .int .i64 n := hf.1
            have h9 : r 45 = .agg (bv xs).toArray := hf.2.1
            have h14 : r 50 = .agg (bv ys).toArray := hf.2.2.1
            refine (if_pos rfl).symm ▸ ?_
            clear hs hq hf
            unfold gives
            go_simp
            refine (HND.out wx hG).mono ?_
            rintro e wy ⟨rfl, hb1⟩
            exact ⟨_, rfl, kOne_of rfl hb1, rfl⟩
          -- operation 16: Op.buildSlice 30 1 #[(0, tmp 51)]
          refine ⟨fun r wx hG hs hq hf => ?_, ?_⟩
          · have hQ := hq rfl
            have h15 : r 51 = .agg (bv nx).toArray := hf.1
            refine (if_pos rfl).symm ▸ ?_
            clear hs hq hf
            unfold gives
            refine gives_build1 22 33 _ rfl (bv nx) h15 Tryd.underlying22 infoHb (by rw [bv_length]; exact HNX.out) (by decide) (by decide) ?_
            exact ⟨kOne_of rfl ((Below.refl _ _).alloc (Nat.le_refl _) _), Rd.row wx 33 32 (bv nx) (by rw [bv_length]; exact HNX.out) (bv_one nx)⟩
          -- operation 17: Op.call ( callee := Callee.builtin Builtin.append, args := #[tmp 39, tmp 52], argTypes := #[30, 30] )
          refine ⟨fun r wx hG hs hq hf => ?_, ?_⟩
          · have hQ := hq rfl
            have h3 : r 39 = .slice (some ⟨gb, 0, none⟩) i cap := hf.1
            have h16 : Rd wx 32 (r 52) 1 (bv nx) := hf.2.1
            refine (if_pos rfl).symm ▸ ?_
            clear hs hq hf
            unfold gives
            have how := own_short (own_keep HOW.out hQ) i (by omega)
            rw [← h3] at how
            refine gives_app Tryd.underlying22 infoHb rfl (by decide) _ _ rfl rfl rfl how h16 (by omega) (by omega) (Nat.le_trans hBw4 hQ.size) ?_
            intro v' wy ho hg _
            exact ⟨kOne_at (hg.below (Nat.le_trans hBw4 hQ.size) (own_block how)), ho⟩
          -- operation 18: Op.assign (tmp 53)
          refine ⟨fun r wx hG hs hq hf => ?_, ?_⟩
          · have h17 : wx.ownsRow B 33 32 (r 53) (i + 1) (qsl.take (i * 32) ++ bv nx) := hf.1
            refine (if_pos rfl).symm ▸ ?_
            clear hs hq hf
            unfold gives
            go_simp
            exact ⟨kOne_refl _ _ _ _, h17⟩
          exact trivial
        case hend =>
          intro u wz hG hfin
          have z18 : wz.ownsRow B 33 32 (u 18) (i + 1) (qsl.take (i * 32) ++ bv nx) := hfin 18 (by decide) (by kernel_rfl)
          clear hfin
          simp only [fill]
          have HZ := Lib.hid (And.intro z18 hG)
          clear z18 hG
          go_simp
          go_wp2_with fail
          go_roundw
          case rel =>
            refine ⟨q / 2, qs.take i ++ [nx], by go_num, by omega, ?_, HSF.out.1, HSF.out.2.1, HSF.out.2.2.1, HB4.out.trans HZ.out.2⟩
            rw [HSF.out.2.2.2.1, HSF.out.2.2.2.2]
            exact HZ.out.1
          case measure => simp [intOf]; omega
      · have z1 : ¬ (q : Int) % 2 = 1 := by omega
        rw [tz1_even q (by omega), foldT] at hfold
        subst hfold
        have hc4 := (hbr.cell (p := ⟨g, 0, none⟩) (show g < B by omega)).trans HC4.out
        have hzr := (hbr.block _ hgB4).trans HQ.out.2.2
        have hs1 : IntKind.u64.wrap ((sz : Int) + 1) = ((sz + 1 : Nat) : Int) := (IntWalk.u64_in _ (by omega)).trans (by omega)
        obtain ⟨Nq, hNq⟩ : ∃ k, k = qs.length := ⟨_, rfl⟩
        rw [← hNq] at how ⊢
        have hin2 : (Tryd.prog.info? 31).map (·.size) = some [Value.int .u64 ((sz + 1 : Nat) : Int), Value.slice (some ⟨gb, 0, none⟩) Nq cap].length := by kernel_rfl
        have hone : ∀ v ∈ [Value.int .u64 ((sz + 1 : Nat) : Int), Value.slice (some ⟨gb, 0, none⟩) Nq cap], v.oneCell' = true := by intro u hu; simp only [List.mem_cons, List.not_mem_nil, or_false] at hu; rcases hu with rfl | rfl <;> rfl
        have HI2 := Lib.hid (And.intro hin2 (And.intro hone hzr))
        have HOQ := Lib.hid (And.intro how (And.intro hbr hNq))
        clear hin2 hone hzr how hbr htz h32q hqlen hNq hodd
        go_wp2_with (with_reducible show wpList _ _ _ (⟨none, Op.store _ _ _, _, _, _, _⟩ :: _) _ _; refine wpList_store_whole rfl _ _ _ rfl (g + 1 + 1) [.int .u64 ((sz + 1 : Nat) : Int), .slice (some ⟨gb, 0, none⟩) Nq cap] rfl rfl [.int .u64 0, .slice none 0 0] _ HI2.out.2.2 HI2.out.1 rfl HI2.out.2.1 ?_; intro w9 HG9 hg9)
        refine bodyPost_ret (v := .tuple #[.agg #[.int .u64 ((sz + 1 : Nat) : Int), .slice (some ⟨gb, 0, none⟩) Nq cap], .int .i64 0]) ?_ rfl ?_
        · rw [results_cell_tmp rfl]
          simp [asAddr, run_loadVar_row w9 (g + 1 + 1) 31 31 _ (0, 0) _ HG9.out Tryd.underlying31 rfl infoR3]
        · obtain ⟨how, hbr, hNq⟩ := HOQ.out
          obtain ⟨hL, hbw2, _⟩ := HQ.out
          refine ⟨_, rfl, ?_, ?_⟩
          · rw [← hL, ← hNq]
            exact own_base (how.kept hg9 (.inr fun e => by have := own_block how _ e; omega)) (by have := HG.out; omega)
          · have h1 := below_grow (B := g) (hbw2.trans (hbr.mono (by omega))) hg9 (by omega) (Nat.lt_of_lt_of_le hgB4 (Nat.le_trans hBs4 hbr.size))
            rwa [HG.out] at h1
end Go.Proofs.YtdjmebfjanophaaDoor
