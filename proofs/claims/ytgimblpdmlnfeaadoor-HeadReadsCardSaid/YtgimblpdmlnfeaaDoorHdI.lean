/- Heads as bytes: body, Put, the reference's Put. (printed by gen/hdi.py) -/
import Derived.Test.YtgimblpdmlnfeaaDoorHdW
namespace Go.Proofs.YtgimblpdmlnfeaaDoor
open Go.RowKit Sha

/-- A head's bytes. -/
def hdB (n z : Nat) (rt mk : List UInt8) : List UInt8 := bodyB n z rt ++ mk
theorem hd_mark {w : World} {g n z : Nat} {r m : List UInt8} {T : TypeId} (hr : r.length = 32) (hm : m.length = 32) (h : w.heap[g]? = some (.cells (hdL n z r m).toArray T (0, 0))) : Rd w 1 (.slice (some ⟨g, 34, none⟩) 32 32) 32 (bv m) := by
  refine ⟨by rw [bv_length, hm], bv_one _, .inr ⟨⟨g, 34, none⟩, 32, rfl, Nat.le_refl _, fun j u hu => ?_⟩⟩
  rw [Addr.add_lit]
  exact hd_rng3 hr h j u hu
/-- Some operations may write what is new; the others leave alone what there was. -/
def kOf (S : List Nat) (B : Nat) (j : Nat) (w w' : World) : Prop := if j ∈ S then Below B w w' else Below w.heap.size w w'
theorem kOf_refl (S : List Nat) (B j : Nat) (w : World) : kOf S B j w w := by unfold kOf; split <;> exact Below.refl _ _
theorem kOf_at {S : List Nat} {B j : Nat} {w w' : World} (hj : j ∈ S) (h : Below B w w') : kOf S B j w w' := by unfold kOf; rwa [if_pos hj]
theorem kOf_of {S : List Nat} {B j : Nat} {w w' : World} (hj : j ∉ S) (h : Below w.heap.size w w') : kOf S B j w w' := by unfold kOf; rwa [if_neg hj]
theorem kOf_below {S : List Nat} {B j : Nat} {w w' : World} (hj : j ∉ S) (h : kOf S B j w w') : Below w.heap.size w w' := by unfold kOf at h; rwa [if_neg hj] at h
theorem kOf_base {S : List Nat} {B j : Nat} {w w' : World} (hB : B ≤ w.heap.size) (h : kOf S B j w w') : Below B w w' := by
  unfold kOf at h; split at h
  · exact h
  · exact h.mono hB
/-- What each operation hands on. -/
def hdBodyO (B n z B1 : Nat) (x0 x1 rt : List UInt8) : Nat → Value → World → Prop
  | 0, v, _ => v = .pointer (some ⟨B, 0, none⟩)
  | 1, v, _ => v = .int .u64 n
  | 2, v, w => Rd w 1 v x0.length (bv x0)
  | 3, v, _ => v = .pointer (some ⟨B, 1, none⟩)
  | 4, v, _ => v = .int .u64 z
  | 5, v, w => Rd w 1 v x1.length (bv x1)
  | 6, v, _ => v = .pointer (some ⟨B, 2, none⟩)
  | 7, v, _ => v = .slice (some ⟨B, 2, none⟩) 32 32
  | 8, v, w => Thr w v x0 x1 rt
  | 9, v, w => w.ownsRow B1 5 1 v (x0.length + x1.length + 32) (bv (x0 ++ x1 ++ rt))
  | 10, v, w => w.ownsRow B1 5 1 v (x0.length + x1.length + 32) (bv (x0 ++ x1 ++ rt))
  | _, _, _ => True
set_option maxHeartbeats 4000000 in
set_option maxRecDepth 100000 in
theorem body_own (n z : Nat) (rt mk : List UInt8) (w : World) (hn : n < 18446744073709551616) (hz : z < 18446744073709551616) (hrt : rt.length = 32) (_hmk : mk.length = 32) :
    Calls Tryd.prog 54 #[.agg (hdL n z rt mk).toArray] w fun e w' => ∃ v, e = .returned v ∧ w'.ownsRow w.heap.size 5 1 v (bodyB n z rt).length (bv (bodyB n z rt)) ∧ Below w.heap.size w w' := by
  have HN := Lib.hid (fun wx => Num_any n wx hn)
  have HZ := Lib.hid (fun wx => Num_any z wx hz)
  have hll : (bodyB n z rt).length = (numB n).length + (numB z).length + 32 := by simp [bodyB, hrt, Nat.add_assoc]
  have HX : Hid (∀ {w' : World} {v : Value}, w'.ownsRow w.heap.size 5 1 v ((numB n).length + (numB z).length + 32) (bv (numB n ++ numB z ++ rt)) → w'.ownsRow w.heap.size 5 1 v (bodyB n z rt).length (bv (bodyB n z rt))) := Lib.hid (fun hr => by rw [hll]; exact hr)
  have HL : Hid ((numB n).length ≤ 9 ∧ (numB z).length ≤ 9) := Lib.hid (by have := nk_le n hn; have := nk_le z hz; simp only [numB_length]; omega)
  clear hll
  generalize numB n = x0 at *
  generalize numB z = x1 at *
  obtain ⟨A, hA⟩ : ∃ A, A = (hdL n z rt mk).toArray := ⟨_, rfl⟩
  rw [← hA]
  have HA := Lib.hid hA
  clear hn hz hA
  go_enter Tryd.func54, Tryd.ntmps54
  go_upto_region 1 with fail
  obtain ⟨B, hB⟩ : ∃ B, B = w.heap.size := ⟨_, rfl⟩
  generalize hw1 : w.alloc (.cells A 37) = w1
  have hrow : w1.heap[B]? = some (.cells (hdL n z rt mk).toArray 37 (0, 0)) := by rw [← hw1, hB, ← HA.out]; exact heap_alloc_new _ _
  have HB1 : Hid (Below w.heap.size w w1) := Lib.hid (by rw [← hw1]; exact (Below.refl _ _).alloc (Nat.le_refl _) _)
  rw [← hB]
  have HC := Lib.hid (And.intro (Array.getElem?_eq_some_iff.1 hrow).1 (And.intro (hd_cell0 hrow) (And.intro (hd_cell1 hrow) (hd_root hrt hrow))))
  obtain ⟨B1, hB1⟩ : ∃ x, x = w1.heap.size := ⟨_, rfl⟩
  have HB2 := Lib.hid hB1
  clear hrow hB hw1 hB1
  refine wp_region_steps [some 3, some 4, some 5, some 6, some 7, some 8, some 9, some 10, some 11, some 12, some 2] [] (hdBodyO B n z B1 x0 x1 rt) (fun _ wx wy => Below wx.heap.size wx wy) (fun wx => Below w1.heap.size w1 wx) (by kernel_rfl) (by kernel_rfl) rfl (by kernel_rfl) (Below.refl _ _).drew (fun _ wx => Below.refl _ _) (fun _ wx wy h k => h.trans (k.mono h.size)) ?hF ?hstep ?hend
  case hF =>
    exact ⟨fun _ _ _ _ _ _ h => h, ⟨fun _ _ _ _ _ _ h => h, ⟨fun _ _ _ _ _ k h => Rd.keep h k, ⟨fun _ _ _ _ _ _ h => h, ⟨fun _ _ _ _ _ _ h => h, ⟨fun _ _ _ _ _ k h => Rd.keep h k, ⟨fun _ _ _ _ _ _ h => h, ⟨fun _ _ _ _ _ _ h => h, ⟨fun _ _ _ _ _ k h => Thr.keep h k, ⟨fun _ _ _ _ _ k h => own_keep h k, ⟨fun _ _ _ _ _ k h => own_keep h k, trivial⟩⟩⟩⟩⟩⟩⟩⟩⟩⟩⟩
  case hstep =>
    -- operation 0: Op.fieldAddr 37 (tmp 1) 0
    refine ⟨fun r wx hG hs hq hf => ?_, ?_⟩
    · have e1 : r 1 = .pointer (some ⟨B, 0, none⟩) := hs 1 rfl
      refine (if_pos rfl).symm ▸ ?_
      clear hs hq hf
      unfold gives
      go_simp
      exact ⟨Below.refl _ _, rfl⟩
    -- operation 1: Op.load 33 (tmp 3)
    refine ⟨fun r wx hG hs hq hf => ?_, ?_⟩
    · have h0 : r 3 = .pointer (some ⟨B, 0, none⟩) := hf.1
      refine (if_pos rfl).symm ▸ ?_
      clear hs hq hf
      unfold gives
      have hc := (hG.cell (p := ⟨B, 0, none⟩) HC.out.1).trans HC.out.2.1
      go_simp
      exact ⟨Below.refl _ _, rfl⟩
    -- operation 2: Op.call ( callee := Callee.value (func 99), args := #[tmp 4], argTypes := #[33] )
    refine ⟨fun r wx hG hs hq hf => ?_, ?_⟩
    · have h1 : r 4 = .int .u64 n := hf.1
      refine (if_pos rfl).symm ▸ ?_
      clear hs hq hf
      unfold gives
      have hk := HN.out wx
      go_simp
      refine hk.mono ?_
      rintro e wy ⟨v, rfl, hr1, hb1⟩
      exact ⟨v, rfl, hb1, hr1⟩
    -- operation 3: Op.fieldAddr 37 (tmp 1) 1
    refine ⟨fun r wx hG hs hq hf => ?_, ?_⟩
    · have e1 : r 1 = .pointer (some ⟨B, 0, none⟩) := hs 1 rfl
      refine (if_pos rfl).symm ▸ ?_
      clear hs hq hf
      unfold gives
      go_simp
      exact ⟨Below.refl _ _, rfl⟩
    -- operation 4: Op.load 33 (tmp 6)
    refine ⟨fun r wx hG hs hq hf => ?_, ?_⟩
    · have h3 : r 6 = .pointer (some ⟨B, 1, none⟩) := hf.1
      refine (if_pos rfl).symm ▸ ?_
      clear hs hq hf
      unfold gives
      have hc := (hG.cell (p := ⟨B, 1, none⟩) HC.out.1).trans HC.out.2.2.1
      go_simp
      exact ⟨Below.refl _ _, rfl⟩
    -- operation 5: Op.call ( callee := Callee.value (func 99), args := #[tmp 7], argTypes := #[33] )
    refine ⟨fun r wx hG hs hq hf => ?_, ?_⟩
    · have h4 : r 7 = .int .u64 z := hf.1
      have h2 : Rd wx 1 (r 5) x0.length (bv x0) := hf.2.1
      refine (if_pos rfl).symm ▸ ?_
      clear hs hq hf
      unfold gives
      have hk := HZ.out wx
      go_simp
      refine hk.mono ?_
      rintro e wy ⟨v, rfl, hr1, hb1⟩
      exact ⟨v, rfl, hb1, hr1⟩
    -- operation 6: Op.fieldAddr 37 (tmp 1) 2
    refine ⟨fun r wx hG hs hq hf => ?_, ?_⟩
    · have e1 : r 1 = .pointer (some ⟨B, 0, none⟩) := hs 1 rfl
      refine (if_pos rfl).symm ▸ ?_
      clear hs hq hf
      unfold gives
      go_simp
      exact ⟨Below.refl _ _, rfl⟩
    -- operation 7: Op.slice 35 (tmp 9) none none none
    refine ⟨fun r wx hG hs hq hf => ?_, ?_⟩
    · have h6 : r 9 = .pointer (some ⟨B, 2, none⟩) := hf.1
      refine (if_pos rfl).symm ▸ ?_
      clear hs hq hf
      unfold gives
      go_simp
      exact ⟨Below.refl _ _, rfl⟩
    -- operation 8: Op.buildSlice 22 3 #[(0, tmp 5), (1, tmp 8), (2, tmp 10)]
    refine ⟨fun r wx hG hs hq hf => ?_, ?_⟩
    · have h2 : Rd wx 1 (r 5) x0.length (bv x0) := hf.1
      have h5 : Rd wx 1 (r 8) x1.length (bv x1) := hf.2.1
      have h7 : r 10 = .slice (some ⟨B, 2, none⟩) 32 32 := hf.2.2.1
      refine (if_pos rfl).symm ▸ ?_
      clear hs hq hf
      unfold gives
      obtain ⟨a0, c0, e0⟩ := h2.form
      obtain ⟨a1, c1, e1⟩ := h5.form
      rw [e0] at h2
      rw [e1] at h5
      have hrt := HC.out.2.2.2.keep hG
      have H := Lib.hid (And.intro h2 (And.intro h5 hrt))
      clear h2 h5 hrt
      have hrd := own_rd (own_new wx 25 1 3 0 [.slice a0 x0.length c0, .slice a1 x1.length c1, .slice (some ⟨B, 2, none⟩) 32 32] rfl (by omega) (Nat.zero_le _)) (by intro u hu; simp at hu; rcases hu with rfl | rfl | rfl <;> rfl)
      have hb : Below wx.heap.size wx (wx.alloc (.cells [Value.slice a0 x0.length c0, .slice a1 x1.length c1, .slice (some ⟨B, 2, none⟩) 32 32].toArray 25)) := (Below.refl _ _).alloc (Nat.le_refl _) _
      have HR := Lib.hid (And.intro hrd hb)
      clear hrd hb
      go_simp
      exact ⟨HR.out.2, _, _, _, HR.out.1, H.out.1.keep HR.out.2, H.out.2.1.keep HR.out.2, H.out.2.2.keep HR.out.2⟩
    -- operation 9: Op.call ( callee := Callee.value (func 101), args := #[tmp 11], argTypes := #[22] )
    refine ⟨fun r wx hG hs hq hf => ?_, ?_⟩
    · have h8 : Thr wx (r 11) x0 x1 rt := hf.1
      have h5 : Rd wx 1 (r 8) x1.length (bv x1) := hf.2.1
      refine (if_pos rfl).symm ▸ ?_
      clear hs hq hf
      unfold gives
      obtain ⟨v0, v1, v2, k0, k1, k2, k3⟩ := h8
      have hk := ConcatC8_any (r 11) [(v0, x0.length, bv x0), (v1, x1.length, bv x1), (v2, 32, bv rt)] wx k0 (by intro p hp; simp at hp; rcases hp with rfl | rfl | rfl <;> assumption) (by have := HL.out; simp [sumNC8]; omega) (by simp)
      clear k0 k1 k2 k3
      go_simp
      refine hk.mono ?_
      rintro e wy ⟨v, rfl, ho, hb1⟩
      have h2 : wy.ownsRow B1 5 1 v (x0.length + x1.length + 32) (bv (x0 ++ x1 ++ rt)) := by simpa [sumNC8, bv_append, Nat.add_assoc] using own_base ho (by have := hG.size; have := HB2.out; omega)
      exact ⟨v, rfl, hb1, h2⟩
    -- operation 10: Op.assign (tmp 12)
    refine ⟨fun r wx hG hs hq hf => ?_, ?_⟩
    · have h9 : wx.ownsRow B1 5 1 (r 12) (x0.length + x1.length + 32) (bv (x0 ++ x1 ++ rt)) := hf.1
      refine (if_pos rfl).symm ▸ ?_
      clear hs hq hf
      unfold gives
      go_simp
      exact ⟨Below.refl _ _, h9⟩
    exact trivial
  case hend =>
    intro u wz hG hfin
    have z10 : wz.ownsRow B1 5 1 (u 10) (x0.length + x1.length + 32) (bv (x0 ++ x1 ++ rt)) := hfin 10 (by decide) (by kernel_rfl)
    clear hfin
    simp only [fill]
    go_simp
    go_wp2_with fail
    go_ret
    exact ⟨_, rfl, HX.out (own_base z10 (by have := HB1.out.size; have := HB2.out; omega)), HB1.out.trans (hG.mono HB1.out.size)⟩
/-- What each operation hands on. -/
def hdPutF (B B1 : Nat) (A : Array Value) (bd mk : List UInt8) : Nat → Value → World → Prop
  | 0, v, _ => v = .agg A
  | 1, v, w => w.ownsRow B1 5 1 v bd.length (bv bd)
  | 2, v, _ => v = .pointer (some ⟨B, 34, none⟩)
  | 3, v, _ => v = .slice (some ⟨B, 34, none⟩) 32 32
  | 4, v, w => Rd w 1 v (bd.length + 32) (bv (bd ++ mk))
  | 5, v, w => Rd w 1 v (bd.length + 32) (bv (bd ++ mk))
  | _, _, _ => True
set_option maxHeartbeats 4000000 in
set_option maxRecDepth 100000 in
theorem HPut_any (n z : Nat) (rt mk : List UInt8) (w : World) (hn : n < 18446744073709551616) (hz : z < 18446744073709551616) (hrt : rt.length = 32) (hmk : mk.length = 32) :
    Calls Tryd.prog 23 #[.agg (hdL n z rt mk).toArray] w fun e w' => ∃ v, e = .returned v ∧ Rd w' 1 v (hdB n z rt mk).length (bv (hdB n z rt mk)) ∧ Below w.heap.size w w' := by
  have hbo := fun wx => body_own n z rt mk wx hn hz hrt hmk
  have hbl : (bodyB n z rt).length ≤ 50 := by have := nk_le n hn; have := nk_le z hz; simp [bodyB, numB_length, hrt]; omega
  obtain ⟨bd, hbd⟩ : ∃ b, b = bodyB n z rt := ⟨_, rfl⟩
  rw [← hbd] at hbo hbl
  have hX : ∀ {w' : World} {v : Value}, Rd w' 1 v (bd.length + 32) (bv (bd ++ mk)) → Rd w' 1 v (hdB n z rt mk).length (bv (hdB n z rt mk)) := fun {_ _} h => by rw [hdB, ← hbd, List.length_append, hmk]; exact h
  have HX : Hid (∀ {w' : World} {v : Value}, Rd w' 1 v (bd.length + 32) (bv (bd ++ mk)) → Rd w' 1 v (hdB n z rt mk).length (bv (hdB n z rt mk))) := Lib.hid hX
  have HLB := Lib.hid hbl
  have HLN := Lib.hid (And.intro hrt hmk)
  obtain ⟨w1, hw1⟩ : ∃ x : World, x = w.alloc (.cells (hdL n z rt mk).toArray 37) := ⟨_, rfl⟩
  obtain ⟨B, hB⟩ : ∃ B, B = w.heap.size := ⟨_, rfl⟩
  have hrow : w1.heap[B]? = some (.cells (hdL n z rt mk).toArray 37 (0, 0)) := by rw [hw1, hB]; exact heap_alloc_new _ _
  have hb1 : Below w.heap.size w w1 := by rw [hw1]; exact (Below.refl _ _).alloc (Nat.le_refl _) _
  obtain ⟨B1, hB1⟩ : ∃ x, x = w1.heap.size := ⟨_, rfl⟩
  obtain ⟨A, hA⟩ : ∃ A, A = (hdL n z rt mk).toArray := ⟨_, rfl⟩
  rw [← hA] at hbo ⊢
  have HBO := Lib.hid hbo
  have HB2 := Lib.hid hB1
  have HA := Lib.hid (And.intro hA (And.intro (show B < B1 by rw [hB1]; exact (Array.getElem?_eq_some_iff.1 hrow).1) hrow))
  have HB1 := Lib.hid hb1
  have HW1 := Lib.hid (And.intro hw1 hB)
  clear hbo hbl hbd hX hrt hmk hw1 hB hrow hb1 hB1 hA hn hz
  go_enter Tryd.func23, Tryd.ntmps23
  go_upto_region 1 with fail
  rw [show w.alloc (.cells A 37) = w1 from by rw [HA.out.1, HW1.out.1], ← HW1.out.2]
  refine wp_region_steps [some 3, some 4, some 5, some 6, some 7, some 2] [] (hdPutF B B1 A bd mk) (kOne 4 B1) (fun wx => Below B1 w1 wx) (by kernel_rfl) (by kernel_rfl) rfl (by kernel_rfl) (by rw [HB2.out]; exact (Below.refl _ _).drew) (fun _ _ => kOne_refl _ _ _ _) (fun _ _ _ h k => h.trans (kOne_base (by rw [HB2.out]; exact (show w1.heap.size ≤ _ from h.size)) k)) ?hF ?hstep ?hend
  case hF =>
    exact ⟨fun _ _ _ _ _ _ h => h, ⟨fun j hg _ _ _ k h => own_keep h (kOne_below (fun e => by subst e; exact absurd hg (by rw [show goneB _ 1 4 = true by kernel_rfl]; simp)) k), ⟨fun _ _ _ _ _ _ h => h, ⟨fun _ _ _ _ _ _ h => h, ⟨fun j hg _ _ _ k h => h.keep (kOne_below (fun e => by subst e; exact absurd hg (by rw [show goneB _ 4 4 = true by kernel_rfl]; simp)) k), ⟨fun j hg _ _ _ k h => h.keep (kOne_below (fun e => by subst e; exact absurd hg (by rw [show goneB _ 5 4 = true by kernel_rfl]; simp)) k), trivial⟩⟩⟩⟩⟩⟩
  case hstep =>
    -- operation 0: Op.load 37 (tmp 1)
    refine ⟨fun r wx hG hs hq hf => ?_, ?_⟩
    · have e1 : r 1 = .pointer (some ⟨B, 0, none⟩) := hs 1 rfl
      refine (if_pos rfl).symm ▸ ?_
      clear hs hq hf
      unfold gives
      refine gives_load_row 37 _ rfl B e1 37 A (0, 0) _ (by rw [HA.out.1]; exact (hG.block _ HA.out.2.1).trans HA.out.2.2) Tryd.underlying37 rfl (by rw [HA.out.1]; exact hdInfo _ _ _ _ HLN.out.1 HLN.out.2) ?_
      exact ⟨kOne_refl _ _ _ _, rfl⟩
    -- operation 1: Op.call ( callee := Callee.value (func 54), args := #[tmp 3], argTypes := #[37] )
    refine ⟨fun r wx hG hs hq hf => ?_, ?_⟩
    · have h0 : r 3 = .agg A := hf.1
      refine (if_pos rfl).symm ▸ ?_
      clear hs hq hf
      unfold gives
      have hk := HBO.out wx
      go_simp
      refine hk.mono ?_
      rintro e wy ⟨v, rfl, ho, hb1⟩
      exact ⟨v, rfl, kOne_of rfl hb1, own_base ho (by rw [HB2.out]; exact (show w1.heap.size ≤ wx.heap.size from hG.size))⟩
    -- operation 2: Op.fieldAddr 37 (tmp 1) 3
    refine ⟨fun r wx hG hs hq hf => ?_, ?_⟩
    · have e1 : r 1 = .pointer (some ⟨B, 0, none⟩) := hs 1 rfl
      refine (if_pos rfl).symm ▸ ?_
      clear hs hq hf
      unfold gives
      go_simp
      exact ⟨kOne_refl _ _ _ _, rfl⟩
    -- operation 3: Op.slice 35 (tmp 5) none none none
    refine ⟨fun r wx hG hs hq hf => ?_, ?_⟩
    · have h2 : r 5 = .pointer (some ⟨B, 34, none⟩) := hf.1
      refine (if_pos rfl).symm ▸ ?_
      clear hs hq hf
      unfold gives
      go_simp
      exact ⟨kOne_refl _ _ _ _, rfl⟩
    -- operation 4: Op.call ( callee := Callee.builtin Builtin.append, args := #[tmp 4, tmp 6], argTypes := #[25, 25] )
    refine ⟨fun r wx hG hs hq hf => ?_, ?_⟩
    · have h1 : wx.ownsRow B1 5 1 (r 4) bd.length (bv bd) := hf.1
      have h3 : r 6 = .slice (some ⟨B, 34, none⟩) 32 32 := hf.2.1
      refine (if_pos rfl).symm ▸ ?_
      clear hs hq hf
      unfold gives
      have hmk := (hd_mark HLN.out.1 HLN.out.2 HA.out.2.2).keepB hG (by rw [HB2.out]; exact Nat.le_refl _)
      refine gives_app Tryd.underlying25 infoC8 rfl (by decide) _ _ rfl rfl h3 h1 hmk (by have := HLB.out; omega) (by have := HLB.out; omega) (by rw [HB2.out]; exact (show w1.heap.size ≤ wx.heap.size from hG.size)) ?_
      intro v' wy ho hgr _
      have hb := hgr.below (B := B1) (by rw [HB2.out]; exact (show w1.heap.size ≤ wx.heap.size from hG.size)) (own_block h1)
      rw [← bv_append] at ho
      exact ⟨kOne_at hb, own_rd ho (bv_one _)⟩
    -- operation 5: Op.assign (tmp 7)
    refine ⟨fun r wx hG hs hq hf => ?_, ?_⟩
    · have h4 : Rd wx 1 (r 7) (bd.length + 32) (bv (bd ++ mk)) := hf.1
      refine (if_pos rfl).symm ▸ ?_
      clear hs hq hf
      unfold gives
      go_simp
      exact ⟨kOne_refl _ _ _ _, h4⟩
    exact trivial
  case hend =>
    intro u wz hG hfin
    have z5 : Rd wz 1 (u 5) (bd.length + 32) (bv (bd ++ mk)) := hfin 5 (by decide) (by kernel_rfl)
    clear hfin
    simp only [fill]
    go_simp
    go_wp2_with fail
    go_ret
    exact ⟨_, rfl, HX.out z5, HB1.out.trans (hG.mono (by rw [HB2.out]; exact HB1.out.size))⟩
end Go.Proofs.YtgimblpdmlnfeaaDoor
