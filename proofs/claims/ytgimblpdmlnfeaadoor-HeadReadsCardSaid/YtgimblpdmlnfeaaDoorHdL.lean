/- The reference's Put of heads. (printed by gen/hdl.py) -/
import Derived.Test.YtgimblpdmlnfeaaDoorHdI
namespace Go.Proofs.YtgimblpdmlnfeaaDoor
open Go.RowKit Sha

/-- What each operation hands on. -/
def rPut1F (B B1 n z : Nat) (x0 x1 : List UInt8) : Nat → Value → World → Prop
  | 0, v, _ => v = .pointer (some ⟨B, 0, none⟩)
  | 1, v, _ => v = .int .u64 n
  | 2, v, w => w.ownsRow B1 5 1 v x0.length (bv x0)
  | 3, v, _ => v = .pointer (some ⟨B, 1, none⟩)
  | 4, v, _ => v = .int .u64 z
  | 5, v, w => Rd w 1 v x1.length (bv x1)
  | 6, v, w => w.ownsRow B1 5 1 v (x0.length + x1.length) (bv (x0 ++ x1))
  | 7, v, w => w.ownsRow B1 5 1 v (x0.length + x1.length) (bv (x0 ++ x1))
  | _, _, _ => True
/-- What each operation hands on. -/
def rPut2F (B B1 : Nat) (v3 : Value) (x01 rt mk : List UInt8) : Nat → Value → World → Prop
  | 0, v, _ => v = v3
  | 1, v, _ => v = .pointer (some ⟨B, 2, none⟩)
  | 2, v, _ => v = .slice (some ⟨B, 2, none⟩) 32 32
  | 3, v, w => w.ownsRow B1 5 1 v (x01.length + 32) (bv (x01 ++ rt))
  | 4, v, _ => v = .pointer (some ⟨B, 34, none⟩)
  | 5, v, _ => v = .slice (some ⟨B, 34, none⟩) 32 32
  | 6, v, w => Rd w 1 v (x01.length + 32 + 32) (bv (x01 ++ rt ++ mk))
  | 7, v, w => Rd w 1 v (x01.length + 32 + 32) (bv (x01 ++ rt ++ mk))
  | _, _, _ => True
set_option maxHeartbeats 8000000 in
set_option maxRecDepth 100000 in
theorem refHPut_any (n z : Nat) (rt mk : List UInt8) (w : World) (hn : n < 18446744073709551616) (hz : z < 18446744073709551616) (hrt : rt.length = 32) (hmk : mk.length = 32) :
    Calls Tryd.prog 25 #[.agg (hdL n z rt mk).toArray] w fun e w' => ∃ v, e = .returned v ∧ Rd w' 1 v (hdB n z rt mk).length (bv (hdB n z rt mk)) ∧ Below w.heap.size w w' := by
  have hN := fun wx => refNum_any n wx hn
  have hZ := fun wx => refNum_any z wx hz
  obtain ⟨x0, he0⟩ : ∃ x, x = numB n := ⟨_, rfl⟩
  obtain ⟨x1, he1⟩ : ∃ x, x = numB z := ⟨_, rfl⟩
  have hl0 : x0.length ≤ 9 := by have := nk_le n hn; rw [he0, numB_length]; omega
  have hl1 : x1.length ≤ 9 := by have := nk_le z hz; rw [he1, numB_length]; omega
  rw [← he0] at hN
  rw [← he1] at hZ
  have hX : ∀ {w' : World} {v : Value}, Rd w' 1 v ((x0 ++ x1).length + 32 + 32) (bv (x0 ++ x1 ++ rt ++ mk)) → Rd w' 1 v (hdB n z rt mk).length (bv (hdB n z rt mk)) := fun {_ _} h => by rw [hdB, bodyB, ← he0, ← he1, List.length_append, List.length_append, hrt, hmk]; exact h
  have HX : Hid (∀ {w' : World} {v : Value}, Rd w' 1 v ((x0 ++ x1).length + 32 + 32) (bv (x0 ++ x1 ++ rt ++ mk)) → Rd w' 1 v (hdB n z rt mk).length (bv (hdB n z rt mk))) := Lib.hid hX
  have HN := Lib.hid hN
  have HZ := Lib.hid hZ
  have HL : Hid (x0.length ≤ 9 ∧ x1.length ≤ 9) := Lib.hid ⟨hl0, hl1⟩
  have HLN := Lib.hid (And.intro hrt hmk)
  obtain ⟨w1, hw1⟩ : ∃ x : World, x = w.alloc (.cells (hdL n z rt mk).toArray 37) := ⟨_, rfl⟩
  obtain ⟨B, hB⟩ : ∃ B, B = w.heap.size := ⟨_, rfl⟩
  have hrow : w1.heap[B]? = some (.cells (hdL n z rt mk).toArray 37 (0, 0)) := by rw [hw1, hB]; exact heap_alloc_new _ _
  have hb1 : Below w.heap.size w w1 := by rw [hw1]; exact (Below.refl _ _).alloc (Nat.le_refl _) _
  obtain ⟨B1, hB1⟩ : ∃ x, x = w1.heap.size := ⟨_, rfl⟩
  obtain ⟨A, hA⟩ : ∃ A, A = (hdL n z rt mk).toArray := ⟨_, rfl⟩
  rw [← hA]
  have HB2 := Lib.hid hB1
  have HA := Lib.hid (And.intro hA (And.intro (show B < B1 by rw [hB1]; exact (Array.getElem?_eq_some_iff.1 hrow).1) hrow))
  have HB1 := Lib.hid hb1
  have HW1 := Lib.hid (And.intro hw1 hB)
  clear hN hZ he0 he1 hl0 hl1 hX hrt hmk hw1 hB hrow hb1 hB1 hA hn hz
  go_enter Tryd.func25, Tryd.ntmps25
  go_upto_region 1 with fail
  rw [show w.alloc (.cells A 37) = w1 from by rw [HA.out.1, HW1.out.1], ← HW1.out.2]
  refine wp_region_steps [some 4, some 5, some 6, some 7, some 8, some 9, some 10, some 3] [] (rPut1F B B1 n z x0 x1) (kOf [6] B1) (fun wx => Below B1 w1 wx) (by kernel_rfl) (by kernel_rfl) rfl (by kernel_rfl) (by rw [HB2.out]; exact (Below.refl _ _).drew) (fun _ _ => kOf_refl _ _ _ _) (fun _ _ _ h k => h.trans (kOf_base (by rw [HB2.out]; exact (show w1.heap.size ≤ _ from h.size)) k)) ?hF ?hstep ?hend
  case hF =>
    exact ⟨fun _ _ _ _ _ _ h => h, ⟨fun _ _ _ _ _ _ h => h, ⟨fun j hg _ _ _ k h => own_keep h (kOf_below (by intro hm; simp at hm; subst hm; exact absurd hg (by rw [show goneB _ 2 6 = true by kernel_rfl]; simp)) k), ⟨fun _ _ _ _ _ _ h => h, ⟨fun _ _ _ _ _ _ h => h, ⟨fun j hg _ _ _ k h => h.keep (kOf_below (by intro hm; simp at hm; subst hm; exact absurd hg (by rw [show goneB _ 5 6 = true by kernel_rfl]; simp)) k), ⟨fun j hg _ _ _ k h => own_keep h (kOf_below (by intro hm; simp at hm; subst hm; exact absurd hg (by rw [show goneB _ 6 6 = true by kernel_rfl]; simp)) k), ⟨fun j hg _ _ _ k h => own_keep h (kOf_below (by intro hm; simp at hm; subst hm; exact absurd hg (by rw [show goneB _ 7 6 = true by kernel_rfl]; simp)) k), trivial⟩⟩⟩⟩⟩⟩⟩⟩
  case hstep =>
    -- operation 0: Op.fieldAddr 37 (tmp 1) 0
    refine ⟨fun r wx hG hs hq hf => ?_, ?_⟩
    · have e1 : r 1 = .pointer (some ⟨B, 0, none⟩) := hs 1 rfl
      refine (if_pos rfl).symm ▸ ?_
      clear hs hq hf
      unfold gives
      go_simp
      exact ⟨kOf_refl _ _ _ _, rfl⟩
    -- operation 1: Op.load 33 (tmp 4)
    refine ⟨fun r wx hG hs hq hf => ?_, ?_⟩
    · have h0 : r 4 = .pointer (some ⟨B, 0, none⟩) := hf.1
      refine (if_pos rfl).symm ▸ ?_
      clear hs hq hf
      unfold gives
      have hc := hd_cell0 ((hG.block _ HA.out.2.1).trans HA.out.2.2)
      go_simp
      exact ⟨kOf_refl _ _ _ _, rfl⟩
    -- operation 2: Op.call ( callee := Callee.value (func 57), args := #[tmp 5], argTypes := #[33] )
    refine ⟨fun r wx hG hs hq hf => ?_, ?_⟩
    · have h1 : r 5 = .int .u64 n := hf.1
      refine (if_pos rfl).symm ▸ ?_
      clear hs hq hf
      unfold gives
      have hk := HN.out wx
      go_simp
      refine hk.mono ?_
      rintro e wy ⟨v, rfl, ho, hb1⟩
      exact ⟨v, rfl, kOf_of (by decide) hb1, own_base ho (by rw [HB2.out]; exact (show w1.heap.size ≤ wx.heap.size from hG.size))⟩
    -- operation 3: Op.fieldAddr 37 (tmp 1) 1
    refine ⟨fun r wx hG hs hq hf => ?_, ?_⟩
    · have e1 : r 1 = .pointer (some ⟨B, 0, none⟩) := hs 1 rfl
      refine (if_pos rfl).symm ▸ ?_
      clear hs hq hf
      unfold gives
      go_simp
      exact ⟨kOf_refl _ _ _ _, rfl⟩
    -- operation 4: Op.load 33 (tmp 7)
    refine ⟨fun r wx hG hs hq hf => ?_, ?_⟩
    · have h3 : r 7 = .pointer (some ⟨B, 1, none⟩) := hf.1
      refine (if_pos rfl).symm ▸ ?_
      clear hs hq hf
      unfold gives
      have hc := hd_cell1 ((hG.block _ HA.out.2.1).trans HA.out.2.2)
      go_simp
      exact ⟨kOf_refl _ _ _ _, rfl⟩
    -- operation 5: Op.call ( callee := Callee.value (func 57), args := #[tmp 8], argTypes := #[33] )
    refine ⟨fun r wx hG hs hq hf => ?_, ?_⟩
    · have h4 : r 8 = .int .u64 z := hf.1
      have h2 : wx.ownsRow B1 5 1 (r 6) x0.length (bv x0) := hf.2.1
      refine (if_pos rfl).symm ▸ ?_
      clear hs hq hf
      unfold gives
      have hk := HZ.out wx
      go_simp
      refine hk.mono ?_
      rintro e wy ⟨v, rfl, ho, hb1⟩
      exact ⟨v, rfl, kOf_of (by decide) hb1, own_rd ho (bv_one _)⟩
    -- operation 6: Op.call ( callee := Callee.builtin Builtin.append, args := #[tmp 6, tmp 9], argTypes := #[25, 25] )
    refine ⟨fun r wx hG hs hq hf => ?_, ?_⟩
    · have h2 : wx.ownsRow B1 5 1 (r 6) x0.length (bv x0) := hf.1
      have h5 : Rd wx 1 (r 9) x1.length (bv x1) := hf.2.1
      refine (if_pos rfl).symm ▸ ?_
      clear hs hq hf
      unfold gives
      refine gives_app Tryd.underlying25 infoC8 rfl (by decide) _ _ rfl rfl rfl h2 h5 (by have := HL.out; omega) (by have := HL.out; omega) (by rw [HB2.out]; exact (show w1.heap.size ≤ wx.heap.size from hG.size)) ?_
      intro v' wy ho hgr _
      have hb := hgr.below (B := B1) (by rw [HB2.out]; exact (show w1.heap.size ≤ wx.heap.size from hG.size)) (own_block h2)
      rw [← bv_append] at ho
      exact ⟨kOf_at (by decide) hb, ho⟩
    -- operation 7: Op.assign (tmp 10)
    refine ⟨fun r wx hG hs hq hf => ?_, ?_⟩
    · have h6 : wx.ownsRow B1 5 1 (r 10) (x0.length + x1.length) (bv (x0 ++ x1)) := hf.1
      refine (if_pos rfl).symm ▸ ?_
      clear hs hq hf
      unfold gives
      go_simp
      exact ⟨kOf_refl _ _ _ _, h6⟩
    exact trivial
  case hend =>
    intro u wz hG hfin
    have z7 : wz.ownsRow B1 5 1 (u 7) (x0.length + x1.length) (bv (x0 ++ x1)) := hfin 7 (by decide) (by kernel_rfl)
    clear hfin
    simp only [fill]
    obtain ⟨v3, hv3⟩ : ∃ x, x = u 7 := ⟨_, rfl⟩
    rw [← hv3] at z7 ⊢
    have H2 := Lib.hid (And.intro hG z7)
    clear hG z7 hv3 HN HZ
    go_simp
    go_upto_region 2 with fail
    obtain ⟨x01, hx01⟩ : ∃ x, x = x0 ++ x1 := ⟨_, rfl⟩
    have HL2 : Hid (x01.length ≤ 18) := Lib.hid (by rw [hx01, List.length_append]; have := HL.out; omega)
    rw [← List.length_append, ← hx01] at H2
    rw [← hx01] at HX
    clear hx01 HL
    refine wp_region_untilW [some 11, some 12, some 13, some 14, some 15, some 16, some 17, some 2] [] 3 (fun wx => wx.ownsRow B1 5 1 v3 x01.length (bv x01)) [0, 1, 2, 3] (rPut2F B B1 v3 x01 rt mk) (kOf [3, 6] B1) (fun wx => Below B1 w1 wx) (by kernel_rfl) (by kernel_rfl) rfl (by kernel_rfl) (by kernel_rfl) H2.out.1.drew H2.out.2 (fun j hj hj2 _ _ k h => own_keep h (kOf_below (by intro hm; simp at hm; rcases hm with rfl | rfl; exact hj rfl; exact absurd hj2 (by rw [show waits _ _ 6 3 = true by kernel_rfl]; simp)) k)) (fun _ _ => kOf_refl _ _ _ _) (fun _ _ _ h k => h.trans (kOf_base (by rw [HB2.out]; exact (show w1.heap.size ≤ _ from h.size)) k)) ?hF ?hstep ?hend
    case hF =>
      exact ⟨fun _ _ _ _ _ _ h => h, ⟨fun _ _ _ _ _ _ h => h, ⟨fun _ _ _ _ _ _ h => h, ⟨fun j hg _ _ _ k h => own_keep h (kOf_below (by intro hm; simp at hm; rcases hm with rfl | rfl <;> exact absurd hg (by first | (rw [show goneB _ 3 3 = true by kernel_rfl]; simp) | (rw [show goneB _ 3 6 = true by kernel_rfl]; simp))) k), ⟨fun _ _ _ _ _ _ h => h, ⟨fun _ _ _ _ _ _ h => h, ⟨fun j hg _ _ _ k h => h.keep (kOf_below (by intro hm; simp at hm; rcases hm with rfl | rfl <;> exact absurd hg (by first | (rw [show goneB _ 6 3 = true by kernel_rfl]; simp) | (rw [show goneB _ 6 6 = true by kernel_rfl]; simp))) k), ⟨fun j hg _ _ _ k h => h.keep (kOf_below (by intro hm; simp at hm; rcases hm with rfl | rfl <;> exact absurd hg (by first | (rw [show goneB _ 7 3 = true by kernel_rfl]; simp) | (rw [show goneB _ 7 6 = true by kernel_rfl]; simp))) k), trivial⟩⟩⟩⟩⟩⟩⟩⟩
    case hstep =>
      -- operation 0: Op.move (tmp 3)
      refine ⟨fun r wx hG hs hq hf => ?_, ?_⟩
      · have hQ := hq rfl
        have e3 : r 3 = v3 := hs 3 rfl
        refine (if_pos rfl).symm ▸ ?_
        clear hs hq hf
        unfold gives
        go_simp
        exact ⟨kOf_refl _ _ _ _, rfl⟩
      -- operation 1: Op.fieldAddr 37 (tmp 1) 2
      refine ⟨fun r wx hG hs hq hf => ?_, ?_⟩
      · have hQ := hq rfl
        have e1 : r 1 = .pointer (some ⟨B, 0, none⟩) := hs 1 rfl
        refine (if_pos rfl).symm ▸ ?_
        clear hs hq hf
        unfold gives
        go_simp
        exact ⟨kOf_refl _ _ _ _, rfl⟩
      -- operation 2: Op.slice 35 (tmp 12) none none none
      refine ⟨fun r wx hG hs hq hf => ?_, ?_⟩
      · have hQ := hq rfl
        have h1 : r 12 = .pointer (some ⟨B, 2, none⟩) := hf.1
        refine (if_pos rfl).symm ▸ ?_
        clear hs hq hf
        unfold gives
        go_simp
        exact ⟨kOf_refl _ _ _ _, rfl⟩
      -- operation 3: Op.call ( callee := Callee.builtin Builtin.append, args := #[tmp 11, tmp 13], argTypes := #[25, 25] )
      refine ⟨fun r wx hG hs hq hf => ?_, ?_⟩
      · have hQ := hq rfl
        have h0 : r 11 = v3 := hf.1
        have h2 : r 13 = .slice (some ⟨B, 2, none⟩) 32 32 := hf.2.1
        refine (if_pos rfl).symm ▸ ?_
        clear hs hq hf
        unfold gives
        have hrt := (hd_root HLN.out.1 HA.out.2.2).keepB hG (by rw [HB2.out]; exact Nat.le_refl _)
        have ow : wx.ownsRow B1 5 1 v3 x01.length (bv x01) := hQ
        refine gives_app Tryd.underlying25 infoC8 rfl (by decide) _ _ rfl h0 h2 ow hrt (by have := HL2.out; omega) (by have := HL2.out; omega) (by rw [HB2.out]; exact (show w1.heap.size ≤ wx.heap.size from hG.size)) ?_
        intro v' wy ho hgr _
        have hb := hgr.below (B := B1) (by rw [HB2.out]; exact (show w1.heap.size ≤ wx.heap.size from hG.size)) (own_block ow)
        rw [← bv_append] at ho
        exact ⟨kOf_at (by decide) hb, ho⟩
      -- operation 4: Op.fieldAddr 37 (tmp 1) 3
      refine ⟨fun r wx hG hs hq hf => ?_, ?_⟩
      · have e1 : r 1 = .pointer (some ⟨B, 0, none⟩) := hs 1 rfl
        refine (if_pos rfl).symm ▸ ?_
        clear hs hq hf
        unfold gives
        go_simp
        exact ⟨kOf_refl _ _ _ _, rfl⟩
      -- operation 5: Op.slice 35 (tmp 15) none none none
      refine ⟨fun r wx hG hs hq hf => ?_, ?_⟩
      · have h4 : r 15 = .pointer (some ⟨B, 34, none⟩) := hf.1
        refine (if_pos rfl).symm ▸ ?_
        clear hs hq hf
        unfold gives
        go_simp
        exact ⟨kOf_refl _ _ _ _, rfl⟩
      -- operation 6: Op.call ( callee := Callee.builtin Builtin.append, args := #[tmp 14, tmp 16], argTypes := #[25, 25] )
      refine ⟨fun r wx hG hs hq hf => ?_, ?_⟩
      · have h3 : wx.ownsRow B1 5 1 (r 14) (x01.length + 32) (bv (x01 ++ rt)) := hf.1
        have h5 : r 16 = .slice (some ⟨B, 34, none⟩) 32 32 := hf.2.1
        refine (if_pos rfl).symm ▸ ?_
        clear hs hq hf
        unfold gives
        have hmk := (hd_mark HLN.out.1 HLN.out.2 HA.out.2.2).keepB hG (by rw [HB2.out]; exact Nat.le_refl _)
        have ow := h3
        refine gives_app Tryd.underlying25 infoC8 rfl (by decide) _ _ rfl rfl h5 ow hmk (by have := HL2.out; omega) (by have := HL2.out; omega) (by rw [HB2.out]; exact (show w1.heap.size ≤ wx.heap.size from hG.size)) ?_
        intro v' wy ho hgr _
        have hb := hgr.below (B := B1) (by rw [HB2.out]; exact (show w1.heap.size ≤ wx.heap.size from hG.size)) (own_block ow)
        rw [← bv_append] at ho
        exact ⟨kOf_at (by decide) hb, own_rd ho (bv_one _)⟩
      -- operation 7: Op.assign (tmp 17)
      refine ⟨fun r wx hG hs hq hf => ?_, ?_⟩
      · have h6 : Rd wx 1 (r 17) (x01.length + 32 + 32) (bv (x01 ++ rt ++ mk)) := hf.1
        refine (if_pos rfl).symm ▸ ?_
        clear hs hq hf
        unfold gives
        go_simp
        exact ⟨kOf_refl _ _ _ _, h6⟩
      exact trivial
    case hend =>
      intro u wz hG hfin
      have z7 : Rd wz 1 (u 7) (x01.length + 32 + 32) (bv (x01 ++ rt ++ mk)) := hfin 7 (by decide) (by kernel_rfl)
      clear hfin
      simp only [fill]
      go_simp
      go_wp2_with fail
      go_ret
      exact ⟨_, rfl, HX.out z7, HB1.out.trans (hG.mono (by rw [HB2.out]; exact HB1.out.size))⟩
end Go.Proofs.YtgimblpdmlnfeaaDoor
