/- Heads as values. · head.body, head.Sign. (printed by gen/hdb.py) · head.Sign. (printed by gen/hdc.py) · Heads are compared; a head's mark is taken out. -/
import Derived.Test.YtgimblpdmlnfeaaDoorMkB
import Derived.Test.YtgimblpdmlnfeaaDoorSlC
import Derived.Test.YtgimblpdmlnfeaaDoorBinRef
import Derived.Test.YtgimblpdmlnfeaaDoorRegV
import Derived.Test.YtgimblpdmlnfeaaDoorReg
import Derived.Laws.Tables
import Derived.Laws.StructEq
namespace Go.Proofs.YtgimblpdmlnfeaaDoor
open Go.RowKit Sha

/-- A head's cells. -/
def hdL (n z : Nat) (r m : List UInt8) : List Value := [.int .u64 n, .int .u64 z] ++ (bv r ++ bv m)
theorem hdL_length (n z : Nat) (r m : List UInt8) (hr : r.length = 32) (hm : m.length = 32) : (hdL n z r m).length = 66 := by simp [hdL, bv_length, hr, hm]
theorem hdL_one (n z : Nat) (r m : List UInt8) : ∀ u ∈ hdL n z r m, u.oneCell' = true := by
  intro u hu
  unfold hdL at hu
  rcases List.mem_append.1 hu with h | h
  · simp at h; rcases h with rfl | rfl <;> rfl
  · rcases List.mem_append.1 h with h | h <;> exact bv_one _ _ h
theorem infoHead : (Tryd.prog.info? 37).map (fun i => (i.zero, i.size)) = some (some (.agg (hdL 0 0 (zs 32) (zs 32)).toArray), 66) := by kernel_rfl
theorem hdInfo (n z : Nat) (r m : List UInt8) (hr : r.length = 32) (hm : m.length = 32) : (Tryd.prog.info? 37).map (·.size) = some (hdL n z r m).toArray.size := by
  rw [List.size_toArray, hdL_length n z r m hr hm]; kernel_rfl
theorem hdInfo' (n z : Nat) (r m : List UInt8) (hr : r.length = 32) (hm : m.length = 32) : (Tryd.prog.info? 37).map (·.size) = some (hdL n z r m).length := by
  rw [hdL_length n z r m hr hm]; kernel_rfl
set_option maxRecDepth 100000 in
theorem head3_x (n z : Nat) (b0 b1 b2 b3 b4 b5 b6 b7 b8 b9 b10 b11 b12 b13 b14 b15 b16 b17 b18 b19 b20 b21 b22 b23 b24 b25 b26 b27 b28 b29 b30 b31 : UInt8) : Tryd.prog.built 37 [(0, .int .u64 n), (1, .int .u64 z), (2, .agg (bv [b0, b1, b2, b3, b4, b5, b6, b7, b8, b9, b10, b11, b12, b13, b14, b15, b16, b17, b18, b19, b20, b21, b22, b23, b24, b25, b26, b27, b28, b29, b30, b31]).toArray)] = some (hdL n z [b0, b1, b2, b3, b4, b5, b6, b7, b8, b9, b10, b11, b12, b13, b14, b15, b16, b17, b18, b19, b20, b21, b22, b23, b24, b25, b26, b27, b28, b29, b30, b31] (zs 32)).toArray := by kernel_rfl
set_option maxRecDepth 100000 in
theorem head4_x (n z : Nat) (b0 b1 b2 b3 b4 b5 b6 b7 b8 b9 b10 b11 b12 b13 b14 b15 b16 b17 b18 b19 b20 b21 b22 b23 b24 b25 b26 b27 b28 b29 b30 b31 c0 c1 c2 c3 c4 c5 c6 c7 c8 c9 c10 c11 c12 c13 c14 c15 c16 c17 c18 c19 c20 c21 c22 c23 c24 c25 c26 c27 c28 c29 c30 c31 : UInt8) : Tryd.prog.built 37 [(0, .int .u64 n), (1, .int .u64 z), (2, .agg (bv [b0, b1, b2, b3, b4, b5, b6, b7, b8, b9, b10, b11, b12, b13, b14, b15, b16, b17, b18, b19, b20, b21, b22, b23, b24, b25, b26, b27, b28, b29, b30, b31]).toArray), (3, .agg (bv [c0, c1, c2, c3, c4, c5, c6, c7, c8, c9, c10, c11, c12, c13, c14, c15, c16, c17, c18, c19, c20, c21, c22, c23, c24, c25, c26, c27, c28, c29, c30, c31]).toArray)] = some (hdL n z [b0, b1, b2, b3, b4, b5, b6, b7, b8, b9, b10, b11, b12, b13, b14, b15, b16, b17, b18, b19, b20, b21, b22, b23, b24, b25, b26, b27, b28, b29, b30, b31] [c0, c1, c2, c3, c4, c5, c6, c7, c8, c9, c10, c11, c12, c13, c14, c15, c16, c17, c18, c19, c20, c21, c22, c23, c24, c25, c26, c27, c28, c29, c30, c31]).toArray := by kernel_rfl
set_option maxRecDepth 100000 in
theorem built_head3 (n z : Nat) (r : List UInt8) (h : r.length = 32) : Tryd.prog.built 37 [(0, .int .u64 n), (1, .int .u64 z), (2, .agg (bv r).toArray)] = some (hdL n z r (zs 32)).toArray := by
  match r, h with
  | [b0, b1, b2, b3, b4, b5, b6, b7, b8, b9, b10, b11, b12, b13, b14, b15, b16, b17, b18, b19, b20, b21, b22, b23, b24, b25, b26, b27, b28, b29, b30, b31], _ => exact head3_x n z b0 b1 b2 b3 b4 b5 b6 b7 b8 b9 b10 b11 b12 b13 b14 b15 b16 b17 b18 b19 b20 b21 b22 b23 b24 b25 b26 b27 b28 b29 b30 b31
set_option maxRecDepth 100000 in
theorem built_head4 (n z : Nat) (r m : List UInt8) (h : r.length = 32) (h2 : m.length = 32) : Tryd.prog.built 37 [(0, .int .u64 n), (1, .int .u64 z), (2, .agg (bv r).toArray), (3, .agg (bv m).toArray)] = some (hdL n z r m).toArray := by
  match r, h with
  | [b0, b1, b2, b3, b4, b5, b6, b7, b8, b9, b10, b11, b12, b13, b14, b15, b16, b17, b18, b19, b20, b21, b22, b23, b24, b25, b26, b27, b28, b29, b30, b31], _ =>
    match m, h2 with
    | [c0, c1, c2, c3, c4, c5, c6, c7, c8, c9, c10, c11, c12, c13, c14, c15, c16, c17, c18, c19, c20, c21, c22, c23, c24, c25, c26, c27, c28, c29, c30, c31], _ => exact head4_x n z b0 b1 b2 b3 b4 b5 b6 b7 b8 b9 b10 b11 b12 b13 b14 b15 b16 b17 b18 b19 b20 b21 b22 b23 b24 b25 b26 b27 b28 b29 b30 b31 c0 c1 c2 c3 c4 c5 c6 c7 c8 c9 c10 c11 c12 c13 c14 c15 c16 c17 c18 c19 c20 c21 c22 c23 c24 c25 c26 c27 c28 c29 c30 c31
end Go.Proofs.YtgimblpdmlnfeaaDoor
namespace Go.Proofs.YtgimblpdmlnfeaaDoor
open Go.RowKit Sha

/-- What a head's body is. -/
def bodyB (n z : Nat) (rt : List UInt8) : List UInt8 := numB n ++ numB z ++ rt
/-- Three texts in a list. -/
def Thr (w : World) (v : Value) (x0 x1 x2 : List UInt8) : Prop :=
  ∃ v0 v1 v2, Rd w 1 v 3 [v0, v1, v2] ∧ Rd w 1 v0 x0.length (bv x0) ∧ Rd w 1 v1 x1.length (bv x1) ∧ Rd w 1 v2 32 (bv x2)
theorem Thr.keep {w w' : World} {v : Value} {x0 x1 x2 : List UInt8} (h : Thr w v x0 x1 x2) (k : Below w.heap.size w w') : Thr w' v x0 x1 x2 := by
  obtain ⟨v0, v1, v2, k0, k1, k2, k3⟩ := h
  exact ⟨v0, v1, v2, k0.keep k, k1.keep k, k2.keep k, k3.keep k⟩
theorem hd_root {w : World} {g n z : Nat} {r m : List UInt8} {T : TypeId} (hr : r.length = 32) (h : w.heap[g]? = some (.cells (hdL n z r m).toArray T (0, 0))) : Rd w 1 (.slice (some ⟨g, 2, none⟩) 32 32) 32 (bv r) := by
  refine ⟨by rw [bv_length, hr], bv_one _, .inr ⟨⟨g, 2, none⟩, 32, rfl, Nat.le_refl _, fun j u hu => ?_⟩⟩
  rw [Addr.add_lit]
  exact range_of_row [.int .u64 n, .int .u64 z] (bv r) (bv m) 2 rfl h j u hu
theorem hd_cell0 {w : World} {g n z : Nat} {r m : List UInt8} {T : TypeId} (h : w.heap[g]? = some (.cells (hdL n z r m).toArray T (0, 0))) : w.cell? ⟨g, 0, none⟩ = some (.int .u64 n) := by
  rw [cell_of_row _ _ _ _ _ _ h]; simp [hdL]
theorem hd_cell1 {w : World} {g n z : Nat} {r m : List UInt8} {T : TypeId} (h : w.heap[g]? = some (.cells (hdL n z r m).toArray T (0, 0))) : w.cell? ⟨g, 1, none⟩ = some (.int .u64 z) := by
  rw [cell_of_row _ _ _ _ _ _ h]; simp [hdL]
/-- What each operation hands on. -/
def hdBodyF (B n z : Nat) (x0 x1 rt : List UInt8) : Nat → Value → World → Prop
  | 0, v, _ => v = .pointer (some ⟨B, 0, none⟩)
  | 1, v, _ => v = .int .u64 n
  | 2, v, w => Rd w 1 v x0.length (bv x0)
  | 3, v, _ => v = .pointer (some ⟨B, 1, none⟩)
  | 4, v, _ => v = .int .u64 z
  | 5, v, w => Rd w 1 v x1.length (bv x1)
  | 6, v, _ => v = .pointer (some ⟨B, 2, none⟩)
  | 7, v, _ => v = .slice (some ⟨B, 2, none⟩) 32 32
  | 8, v, w => Thr w v x0 x1 rt
  | 9, v, w => Rd w 1 v (x0.length + x1.length + 32) (bv (x0 ++ x1 ++ rt))
  | 10, v, w => Rd w 1 v (x0.length + x1.length + 32) (bv (x0 ++ x1 ++ rt))
  | _, _, _ => True
set_option maxHeartbeats 4000000 in
set_option maxRecDepth 100000 in
theorem body_any (n z : Nat) (rt mk : List UInt8) (w : World) (hn : n < 18446744073709551616) (hz : z < 18446744073709551616) (hrt : rt.length = 32) (_hmk : mk.length = 32) :
    Calls Tryd.prog 54 #[.agg (hdL n z rt mk).toArray] w fun e w' => ∃ v, e = .returned v ∧ Rd w' 1 v (bodyB n z rt).length (bv (bodyB n z rt)) ∧ Below w.heap.size w w' := by
  have HN := Lib.hid (fun wx => Num_any n wx hn)
  have HZ := Lib.hid (fun wx => Num_any z wx hz)
  have hll : (bodyB n z rt).length = (numB n).length + (numB z).length + 32 := by simp [bodyB, hrt, Nat.add_assoc]
  have HX : Hid (∀ {w' : World} {v : Value}, Rd w' 1 v ((numB n).length + (numB z).length + 32) (bv (numB n ++ numB z ++ rt)) → Rd w' 1 v (bodyB n z rt).length (bv (bodyB n z rt))) := Lib.hid (fun hr => by rw [hll]; exact hr)
  have HL : Hid ((numB n).length ≤ 9 ∧ (numB z).length ≤ 9) := Lib.hid (by have := nk_le n hn; have := nk_le z hz; simp only [numB_length]; omega)
  clear hll
  generalize numB n = x0 at *
  generalize numB z = x1 at *
  obtain ⟨A, hA⟩ : ∃ A, A = (hdL n z rt mk).toArray := ⟨_, rfl⟩
  rw [← hA]
  have HA := Lib.hid hA
  clear hn hz hA
  go_enter Tryd.func54, Tryd.ntmps54
  go_upto_region 1 with fail
  obtain ⟨B, hB⟩ : ∃ B, B = w.heap.size := ⟨_, rfl⟩
  generalize hw1 : w.alloc (.cells A 37) = w1
  have hrow : w1.heap[B]? = some (.cells (hdL n z rt mk).toArray 37 (0, 0)) := by rw [← hw1, hB, ← HA.out]; exact heap_alloc_new _ _
  have HB1 : Hid (Below w.heap.size w w1) := Lib.hid (by rw [← hw1]; exact (Below.refl _ _).alloc (Nat.le_refl _) _)
  rw [← hB]
  have HC := Lib.hid (And.intro (Array.getElem?_eq_some_iff.1 hrow).1 (And.intro (hd_cell0 hrow) (And.intro (hd_cell1 hrow) (hd_root hrt hrow))))
  clear hrow hB hw1
  refine wp_region_steps [some 3, some 4, some 5, some 6, some 7, some 8, some 9, some 10, some 11, some 12, some 2] [] (hdBodyF B n z x0 x1 rt) (fun _ wx wy => Below wx.heap.size wx wy) (fun wx => Below w1.heap.size w1 wx) (by kernel_rfl) (by kernel_rfl) rfl (by kernel_rfl) (Below.refl _ _).drew (fun _ wx => Below.refl _ _) (fun _ wx wy h k => h.trans (k.mono h.size)) ?hF ?hstep ?hend
  case hF =>
    exact ⟨fun _ _ _ _ _ _ h => h, ⟨fun _ _ _ _ _ _ h => h, ⟨fun _ _ _ _ _ k h => Rd.keep h k, ⟨fun _ _ _ _ _ _ h => h, ⟨fun _ _ _ _ _ _ h => h, ⟨fun _ _ _ _ _ k h => Rd.keep h k, ⟨fun _ _ _ _ _ _ h => h, ⟨fun _ _ _ _ _ _ h => h, ⟨fun _ _ _ _ _ k h => Thr.keep h k, ⟨fun _ _ _ _ _ k h => h.keep k, ⟨fun _ _ _ _ _ k h => h.keep k, trivial⟩⟩⟩⟩⟩⟩⟩⟩⟩⟩⟩
  case hstep =>
    -- operation 0: Op.fieldAddr 37 (tmp 1) 0
    refine ⟨fun r wx hG hs hq hf => ?_, ?_⟩
    · have e1 : r 1 = .pointer (some ⟨B, 0, none⟩) := hs 1 rfl
      refine (if_pos rfl).symm ▸ ?_
      clear hs hq hf
      unfold gives
      go_simp
      exact ⟨Below.refl _ _, rfl⟩
    -- operation 1: Op.load 33 (tmp 3)
    refine ⟨fun r wx hG hs hq hf => ?_, ?_⟩
    · have h0 : r 3 = .pointer (some ⟨B, 0, none⟩) := hf.1
      refine (if_pos rfl).symm ▸ ?_
      clear hs hq hf
      unfold gives
      have hc := (hG.cell (p := ⟨B, 0, none⟩) HC.out.1).trans HC.out.2.1
      go_simp
      exact ⟨Below.refl _ _, rfl⟩
    -- operation 2: Op.call ( callee := Callee.value (func 99), args := #[tmp 4], argTypes := #[33] )
    refine ⟨fun r wx hG hs hq hf => ?_, ?_⟩
    · have h1 : r 4 = .int .u64 n := hf.1
      refine (if_pos rfl).symm ▸ ?_
      clear hs hq hf
      unfold gives
      have hk := HN.out wx
      go_simp
      refine hk.mono ?_
      rintro e wy ⟨v, rfl, hr1, hb1⟩
      exact ⟨v, rfl, hb1, hr1⟩
    -- operation 3: Op.fieldAddr 37 (tmp 1) 1
    refine ⟨fun r wx hG hs hq hf => ?_, ?_⟩
    · have e1 : r 1 = .pointer (some ⟨B, 0, none⟩) := hs 1 rfl
      refine (if_pos rfl).symm ▸ ?_
      clear hs hq hf
      unfold gives
      go_simp
      exact ⟨Below.refl _ _, rfl⟩
    -- operation 4: Op.load 33 (tmp 6)
    refine ⟨fun r wx hG hs hq hf => ?_, ?_⟩
    · have h3 : r 6 = .pointer (some ⟨B, 1, none⟩) := hf.1
      refine (if_pos rfl).symm ▸ ?_
      clear hs hq hf
      unfold gives
      have hc := (hG.cell (p := ⟨B, 1, none⟩) HC.out.1).trans HC.out.2.2.1
      go_simp
      exact ⟨Below.refl _ _, rfl⟩
    -- operation 5: Op.call ( callee := Callee.value (func 99), args := #[tmp 7], argTypes := #[33] )
    refine ⟨fun r wx hG hs hq hf => ?_, ?_⟩
    · have h4 : r 7 = .int .u64 z := hf.1
      have h2 : Rd wx 1 (r 5) x0.length (bv x0) := hf.2.1
      refine (if_pos rfl).symm ▸ ?_
      clear hs hq hf
      unfold gives
      have hk := HZ.out wx
      go_simp
      refine hk.mono ?_
      rintro e wy ⟨v, rfl, hr1, hb1⟩
      exact ⟨v, rfl, hb1, hr1⟩
    -- operation 6: Op.fieldAddr 37 (tmp 1) 2
    refine ⟨fun r wx hG hs hq hf => ?_, ?_⟩
    · have e1 : r 1 = .pointer (some ⟨B, 0, none⟩) := hs 1 rfl
      refine (if_pos rfl).symm ▸ ?_
      clear hs hq hf
      unfold gives
      go_simp
      exact ⟨Below.refl _ _, rfl⟩
    -- operation 7: Op.slice 35 (tmp 9) none none none
    refine ⟨fun r wx hG hs hq hf => ?_, ?_⟩
    · have h6 : r 9 = .pointer (some ⟨B, 2, none⟩) := hf.1
      refine (if_pos rfl).symm ▸ ?_
      clear hs hq hf
      unfold gives
      go_simp
      exact ⟨Below.refl _ _, rfl⟩
    -- operation 8: Op.buildSlice 22 3 #[(0, tmp 5), (1, tmp 8), (2, tmp 10)]
    refine ⟨fun r wx hG hs hq hf => ?_, ?_⟩
    · have h2 : Rd wx 1 (r 5) x0.length (bv x0) := hf.1
      have h5 : Rd wx 1 (r 8) x1.length (bv x1) := hf.2.1
      have h7 : r 10 = .slice (some ⟨B, 2, none⟩) 32 32 := hf.2.2.1
      refine (if_pos rfl).symm ▸ ?_
      clear hs hq hf
      unfold gives
      obtain ⟨a0, c0, e0⟩ := h2.form
      obtain ⟨a1, c1, e1⟩ := h5.form
      rw [e0] at h2
      rw [e1] at h5
      have hrt := HC.out.2.2.2.keep hG
      have H := Lib.hid (And.intro h2 (And.intro h5 hrt))
      clear h2 h5 hrt
      have hrd := own_rd (own_new wx 25 1 3 0 [.slice a0 x0.length c0, .slice a1 x1.length c1, .slice (some ⟨B, 2, none⟩) 32 32] rfl (by omega) (Nat.zero_le _)) (by intro u hu; simp at hu; rcases hu with rfl | rfl | rfl <;> rfl)
      have hb : Below wx.heap.size wx (wx.alloc (.cells [Value.slice a0 x0.length c0, .slice a1 x1.length c1, .slice (some ⟨B, 2, none⟩) 32 32].toArray 25)) := (Below.refl _ _).alloc (Nat.le_refl _) _
      have HR := Lib.hid (And.intro hrd hb)
      clear hrd hb
      go_simp
      exact ⟨HR.out.2, _, _, _, HR.out.1, H.out.1.keep HR.out.2, H.out.2.1.keep HR.out.2, H.out.2.2.keep HR.out.2⟩
    -- operation 9: Op.call ( callee := Callee.value (func 101), args := #[tmp 11], argTypes := #[22] )
    refine ⟨fun r wx hG hs hq hf => ?_, ?_⟩
    · have h8 : Thr wx (r 11) x0 x1 rt := hf.1
      have h5 : Rd wx 1 (r 8) x1.length (bv x1) := hf.2.1
      refine (if_pos rfl).symm ▸ ?_
      clear hs hq hf
      unfold gives
      obtain ⟨v0, v1, v2, k0, k1, k2, k3⟩ := h8
      have hk := ConcatC8_any (r 11) [(v0, x0.length, bv x0), (v1, x1.length, bv x1), (v2, 32, bv rt)] wx k0 (by intro p hp; simp at hp; rcases hp with rfl | rfl | rfl <;> assumption) (by have := HL.out; simp [sumNC8]; omega) (by simp)
      clear k0 k1 k2 k3
      go_simp
      refine hk.mono ?_
      rintro e wy ⟨v, rfl, ho, hb1⟩
      have hr1 := own_rd ho (by intro u hu; simp at hu; rcases hu with hu | hu | hu <;> exact bv_one _ _ hu)
      have h2 : Rd wy 1 v (x0.length + x1.length + 32) (bv (x0 ++ x1 ++ rt)) := by simpa [sumNC8, bv_append, Nat.add_assoc] using hr1
      exact ⟨v, rfl, hb1, h2⟩
    -- operation 10: Op.assign (tmp 12)
    refine ⟨fun r wx hG hs hq hf => ?_, ?_⟩
    · have h9 : Rd wx 1 (r 12) (x0.length + x1.length + 32) (bv (x0 ++ x1 ++ rt)) := hf.1
      refine (if_pos rfl).symm ▸ ?_
      clear hs hq hf
      unfold gives
      go_simp
      exact ⟨Below.refl _ _, h9⟩
    exact trivial
  case hend =>
    intro u wz hG hfin
    have z10 : Rd wz 1 (u 10) (x0.length + x1.length + 32) (bv (x0 ++ x1 ++ rt)) := hfin 10 (by decide) (by kernel_rfl)
    clear hfin
    simp only [fill]
    go_simp
    go_wp2_with fail
    go_ret
    exact ⟨_, rfl, HX.out z10, HB1.out.trans (hG.mono HB1.out.size)⟩
end Go.Proofs.YtgimblpdmlnfeaaDoor
namespace Go.Proofs.YtgimblpdmlnfeaaDoor
open Go.RowKit Sha

/-- The word ahead of a head's body. -/
def headW : List UInt8 := [104, 101, 97, 100]
/-- A head's mark. -/
def signB (key : List UInt8) (n z : Nat) (rt : List UInt8) : List UInt8 := macB (macB key (nodeT n)) (headW ++ bodyB n z rt)
theorem signB_length (key : List UInt8) (n z : Nat) (rt : List UInt8) : (signB key n z rt).length = 32 := macB_length _ _
theorem freeze_row {w : World} {g k n : Nat} {C : Array Value} {T : TypeId} (hg : w.heap[g]? = some (.cells C T (0, 0))) (hn : n ≠ 0) : (w.freeze ⟨g, k, none⟩ n).heap[g]? = some (.cells C T (k, k + n)) := by
  unfold World.freeze
  rw [if_neg hn]
  simp [Array.getElem?_modify, hg]
theorem freeze_other (w : World) (g k n j : Nat) (hj : j ≠ g) : (w.freeze ⟨g, k, none⟩ n).heap[j]? = w.heap[j]? := by
  unfold World.freeze
  split
  · rfl
  · simp [Array.getElem?_modify, Ne.symm hj]
theorem freeze_size (w : World) (g k n : Nat) : (w.freeze ⟨g, k, none⟩ n).heap.size = w.heap.size := by
  unfold World.freeze
  split <;> simp
theorem freeze_still (w : World) (g k n : Nat) : (w.freeze ⟨g, k, none⟩ n).os = w.os ∧ (w.freeze ⟨g, k, none⟩ n).tape = w.tape ∧ (w.freeze ⟨g, k, none⟩ n).output = w.output := by
  unfold World.freeze
  split <;> exact ⟨rfl, rfl, rfl⟩
theorem run_convert_const_in {P : Program} (w : World) (t e : TypeId) (g n c : Nat) (C : Array Value) (fr : Nat × Nat) (hg : w.heap[g]? = some (.cells C e fr)) (ht : P.underlying t = some (.slice e)) (he : P.underlying e = some (.int .u8)) :
    (convert t t (.slice (some ⟨g, 0, none⟩) n c)).run P w = .ok (.slice (some ⟨g, 0, none⟩) n c) (w.freeze ⟨g, C.size, none⟩ 1) := by
  have hsh : w.shape? g = some (e, C.size) := by unfold World.shape?; rw [hg]
  simp [convert, run_underlying ht, run_underlying he, markStringish, hsh]
theorem rd_head4 {w : World} {g : Nat} {T : TypeId} {fr : Nat × Nat} (h : w.heap[g]? = some (.cells #[.int .u8 104, .int .u8 101, .int .u8 97, .int .u8 100] T fr)) : Rd w 1 (.slice (some ⟨g, 0, none⟩) 4 4) 4 (bv headW) := by
  refine ⟨rfl, bv_one _, .inr ⟨⟨g, 0, none⟩, 4, rfl, Nat.le_refl _, fun j u hu => ?_⟩⟩
  rw [Addr.add_lit, Nat.zero_add]
  simp only [World.cell?, h]
  have e : bv headW = [.int .u8 104, .int .u8 101, .int .u8 97, .int .u8 100] := rfl
  rw [e] at hu
  simpa using hu
/-- A literal of four bytes, just laid. -/
def Lit (w : World) (v : Value) (B : Nat) : Prop := ∃ g, v = .slice (some ⟨g, 0, none⟩) 4 4 ∧ B ≤ g ∧ w.heap[g]? = some (.cells #[.int .u8 104, .int .u8 101, .int .u8 97, .int .u8 100] 5 (0, 0))
theorem Lit.keep {w w' : World} {v : Value} {B : Nat} (h : Lit w v B) (k : Below w.heap.size w w') : Lit w' v B := by
  obtain ⟨g, h1, h2, h3⟩ := h
  exact ⟨g, h1, h2, (k.block _ (Array.getElem?_eq_some_iff.1 h3).1).trans h3⟩
/-- What Sign's operations may change. -/
def kHS (g B : Nat) (j : Nat) (w w' : World) : Prop := if j = 10 then w.grownBy w' (some g) else if j = 3 then Below B w w' else Below w.heap.size w w'
theorem kHS_refl (g B j : Nat) (w : World) : kHS g B j w w := by
  unfold kHS; split
  · exact World.grownBy.refl _ _
  · split <;> exact Below.refl _ _
theorem kHS_of {g B j : Nat} {w w' : World} (h1 : j ≠ 10) (h2 : j ≠ 3) (h : Below w.heap.size w w') : kHS g B j w w' := by unfold kHS; rw [if_neg h1, if_neg h2]; exact h
theorem kHS_conv {g B : Nat} {w w' : World} (h : Below B w w') : kHS g B 3 w w' := by unfold kHS; rw [if_neg (by decide), if_pos rfl]; exact h
theorem kHS_st {g B : Nat} {w w' : World} (h : w.grownBy w' (some g)) : kHS g B 10 w w' := by unfold kHS; rw [if_pos rfl]; exact h
theorem kHS_below {g B j : Nat} {w w' : World} (h1 : j ≠ 10) (h2 : j ≠ 3) (h : kHS g B j w w') : Below w.heap.size w w' := by unfold kHS at h; rwa [if_neg h1, if_neg h2] at h
theorem kHS_drew (g : Nat) (w : World) : w.grownBy w.drew (some g) := ⟨rfl, rfl, rfl, Nat.le_refl _, fun _ _ _ => rfl⟩
theorem kHS_G {g B j : Nat} {w0 w w' : World} (hB : B = w0.heap.size) (h : w0.grownBy w (some g)) (k : kHS g B j w w') : w0.grownBy w' (some g) := by
  unfold kHS at k
  split at k
  · exact grown_trans h k (fun j hj => .inl hj)
  · split at k
    · exact ⟨k.os.trans h.os, k.tape.trans h.tape, k.output.trans h.output, Nat.le_trans h.size k.size, fun i hi hne => (k.block i (by omega)).trans (h.block i hi hne)⟩
    · exact ⟨k.os.trans h.os, k.tape.trans h.tape, k.output.trans h.output, Nat.le_trans h.size k.size, fun i hi hne => (k.block i (Nat.lt_of_lt_of_le hi h.size)).trans (h.block i hi hne)⟩
theorem kHS_Q {g B j : Nat} {w0 w w' : World} (hj : j ≠ 10) (h : Below B w0 w) (k : kHS g B j w w') (hB : B ≤ w.heap.size) : Below B w0 w' := by
  unfold kHS at k
  rw [if_neg hj] at k
  split at k
  · exact h.trans k
  · exact h.trans (k.mono hB)
theorem splice_mark (n z : Nat) (rt mk : List UInt8) (hr : rt.length = 32) (hm : mk.length = 32) : splice (hdL n z rt (zs 32)) 34 (bv mk) = hdL n z rt mk := by
  unfold splice hdL
  have e1 : ([Value.int .u64 (n : Int), .int .u64 (z : Int)] ++ (bv rt ++ bv (zs 32))).take 34 = [Value.int .u64 (n : Int), .int .u64 (z : Int)] ++ bv rt := by
    rw [← List.append_assoc, List.take_append_of_le_length (by simp [bv_length, hr]), List.take_of_length_le (by simp [bv_length, hr])]
  rw [e1, List.drop_of_length_le (by simp [bv_length, hr, hm, zs]), List.append_nil, List.append_assoc]
theorem wpList_build_at {P : Program} {ops : Array Oper} {rest : List Oper} {o : Oper} {a : Act} {w : World} {Q : Exit → Act → World → Prop} (hg : o.guard = none) (t : TypeId) (parts : Array (Nat × Operand)) (ho : o.op = .build t parts)
    (cells : Array Value) (hb : P.built t (parts.map fun (i, x) => (i, a.eval x)).toList = some cells) (h : wpList P ops Q rest (a.put o.dst (.agg cells)) w) : wpList P ops Q (o :: rest) a w :=
  wpList_build hg t parts ho (by rw [hb]; rfl) (by rw [hb]; exact h)
theorem gives_store_splice {P : Program} {r : Nat → Value} {o : Oper} {w : World} {R : Value → World → Prop} (ty : TypeId) (x y : Operand) (ho : o.op = .store ty x y)
    (g p : Nat) (cs : List Value) (hx : rd r x = .pointer (some ⟨g, p, none⟩)) (hy : rd r y = .agg cs.toArray)
    (cur : List Value) (t : TypeId) (hg : w.heap[g]? = some (.cells cur.toArray t (0, 0))) (hi : (P.info? ty).map (·.size) = some cs.length) (hfit : p + cs.length ≤ cur.length) (h1 : ∀ v ∈ cs, v.oneCell' = true)
    (h : ∀ w', w'.heap[g]? = some (.cells (splice cur p cs).toArray t (0, 0)) → w.grownBy w' (some g) → R undef w') : gives P r o w R := by
  have hst := run_storeCells_at P g p t cs 0 cur.toArray w hg (by simpa using hfit) h1
  have hrun : (storeVar ty ⟨g, p, none⟩ (.agg cs.toArray)).run P w = .ok () (w.setRow g (splice cur p cs).toArray) := by
    cases hq : P.info? ty with
    | none => simp [hq] at hi
    | some i =>
      have hs : cs.length = i.size := by simp [hq] at hi; omega
      simp only [Nat.add_zero] at hst
      simp [storeVar, sizeOf, typeInfo, hq, Value.cells, hs, hst, splice]
  unfold gives execOp
  simp only [ho, hx, hy, Instr.storeAt, Instr.sureAddr, Sem.run_bind, Sem.run_pure, Result.andThen_ok, hrun]
  exact h _ (setRow_heap w g _ _ t _ hg) (grown_setRow w g _)
/-- What each operation hands on. -/
def hdSignF (gk gh B3 : Nat) (A0 A1 A2 H0 H1 : Array Value) (bd mk : List UInt8) : Nat → Value → World → Prop
  | 0, v, _ => v = .slice (some ⟨gk, 0, none⟩) 32 32
  | 1, v, _ => v = .agg A0
  | 2, v, w => Lit w v B3
  | 3, v, w => Rd w 1 v 4 (bv headW)
  | 4, v, _ => v = .agg A1
  | 5, v, _ => v = .agg H0
  | 6, v, w => Rd w 1 v bd.length (bv bd)
  | 7, v, _ => v = .agg A2
  | 8, v, _ => v = .agg (bv mk).toArray
  | 9, v, _ => v = .pointer (some ⟨gh, 34, none⟩)
  | 10, _, w => w.heap[gh]? = some (.cells H1 37 (0, 0))
  | _, _, _ => True
set_option maxHeartbeats 8000000 in
set_option maxRecDepth 100000 in
theorem Sign_any (key : List UInt8) (n z : Nat) (rt : List UInt8) (v : Value) (w : World) (hl : key.length ≤ 1152921504606846976) (hn : n < 18446744073709551616) (hz : z < 18446744073709551616) (hrt : rt.length = 32) (hr : Rd w 1 v key.length (bv key)) (hG : Tabs w) :
    Calls Tryd.prog 18 #[v, .int .u64 n, .int .u64 z, .agg (bv rt).toArray] w fun e w' => e = .returned (.agg (hdL n z rt (signB key n z rt)).toArray) ∧ Below w.heap.size w w' := by
  have hzh := (zero_of_info info32).1
  have hzd := (zero_of_info infoHead).1
  have hder := fun wx hb => Derive_any key n v wx hl hn (hr.keep hb) (hG.keepB hb)
  obtain ⟨k0, hk0⟩ : ∃ k, k = macB key (nodeT n) := ⟨_, rfl⟩
  have hk0l : k0.length = 32 := by rw [hk0]; exact macB_length _ _
  have hmk0 : signB key n z rt = macB k0 (headW ++ bodyB n z rt) := by rw [hk0]; rfl
  rw [← hk0] at hder
  have hkl : (pad64 (hkey k0)).length = 64 := pad64_length _ (hkey_le k0)
  have hNw := fun vx wx hrx hGx => MNew_any k0 vx wx (by omega) hrx hGx
  obtain ⟨k, hk⟩ : ∃ k, k = pad64 (hkey k0) := ⟨_, rfl⟩
  rw [← hk] at hkl
  simp only [← hk] at hNw
  have hbdl : (bodyB n z rt).length ≤ 50 := by have := nk_le n hn; have := nk_le z hz; simp [bodyB, numB_length, hrt]; omega
  have hbod := fun wx => body_any n z rt (zs 32) wx hn hz hrt (by simp [zs])
  obtain ⟨bd, hbd⟩ : ∃ b, b = bodyB n z rt := ⟨_, rfl⟩
  rw [← hbd] at hbdl hbod hmk0
  have hW1 := fun v' w' hr' hG' => MWrite_any k [] headW false v' w' hkl (by decide) hr' hG'
  rw [show bt k [] false = kx k 54 from rfl] at hW1
  have hW2 := fun v' w' hr' hG' => MWrite_any k (kx k 54 ++ headW) bd true v' w' hkl (by rw [List.length_append, kx_length, hkl]; simp [headW]; omega) hr' hG'
  rw [show bt k (kx k 54 ++ headW) true = kx k 54 ++ headW from rfl, List.append_assoc] at hW2
  have hM := fun w' hG' => MMark_any k (kx k 54 ++ (headW ++ bd)) true w' hkl (by rw [List.length_append, kx_length, hkl, List.length_append]; simp [headW]; omega) hG'
  rw [show bt k (kx k 54 ++ (headW ++ bd)) true = kx k 54 ++ (headW ++ bd) from rfl] at hM
  obtain ⟨mk, hmk⟩ : ∃ o, o = markB k (kx k 54 ++ (headW ++ bd)) := ⟨_, rfl⟩
  have hml : mk.length = 32 := by rw [hmk]; exact sum_length _
  have hmac : signB key n z rt = mk := by rw [hmk0, hmk, hk]; rfl
  rw [← hmk] at hM
  have hi1 := hdInfo n z rt (zs 32) hrt (by simp [zs])
  have hi1' := hdInfo' n z rt (zs 32) hrt (by simp [zs])
  have hbu := built_head3 n z rt hrt
  obtain ⟨A0, hA0⟩ : ∃ A, A = (mkL k [] false).toArray := ⟨_, rfl⟩
  obtain ⟨A1, hA1⟩ : ∃ A, A = (mkL k (kx k 54 ++ headW) true).toArray := ⟨_, rfl⟩
  obtain ⟨A2, hA2⟩ : ∃ A, A = (mkL k (kx k 54 ++ (headW ++ bd)) true).toArray := ⟨_, rfl⟩
  obtain ⟨Z0, hZ0⟩ : ∃ A, A = (hdL 0 0 (zs 32) (zs 32)).toArray := ⟨_, rfl⟩
  rw [← hA0] at hNw hW1
  rw [← hA1] at hW1 hW2
  rw [← hA2] at hW2 hM
  rw [← hZ0] at hzd
  have HDE := Lib.hid hder
  have HNW0 := Lib.hid hNw
  have HW10 := Lib.hid hW1
  have HW20 := Lib.hid hW2
  have HM0 := Lib.hid hM
  have HBO0 := Lib.hid hbod
  have HMK := Lib.hid hmac
  have HZ0 := Lib.hid hZ0
  have HI0 := Lib.hid (And.intro hk0l (And.intro hml (And.intro hrt (And.intro hi1 (And.intro hi1' hbu)))))
  have HGT := Lib.hid hG
  clear hder hNw hW1 hW2 hM hbod hmac hmk hmk0 hk hk0 hbd hA0 hA1 hA2 hZ0 hk0l hml hrt hi1 hi1' hbu hG hr hl hn hz hkl hbdl
  go_enter Tryd.func18, Tryd.ntmps18
  go_upto_region 1 with fail
  obtain ⟨w1, hw1⟩ : ∃ x : World, x = (w.alloc (.cells (bv rt).toArray 35)).alloc (.cells Z0 37) := ⟨_, rfl⟩
  rw [← hw1]
  have r7 : w1.heap[w.heap.size]? = some (.cells (bv rt).toArray 35 (0, 0)) := by rw [hw1]; exact (heap_alloc_old _ _ (by simp)).trans (heap_alloc_new _ _)
  have r8 : w1.heap[w.heap.size + 1]? = some (.cells Z0 37 (0, 0)) := by
    rw [hw1]
    have h := heap_alloc_new (w.alloc (.cells (bv rt).toArray 35)) (.cells Z0 37)
    simpa using h
  have b1 : Below w.heap.size w w1 := by rw [hw1]; exact ((Below.refl _ _).alloc (Nat.le_refl _) _).alloc (by simp) _
  have H1 := Lib.hid (And.intro r7 (And.intro r8 b1))
  clear r7 r8 b1 hw1
  obtain ⟨gh, hgh⟩ : ∃ g, g = w1.heap.size := ⟨_, rfl⟩
  have HGH := Lib.hid hgh
  clear hgh
  go_upto_region 2 with (first
    | (with_reducible show wpList _ _ _ (⟨some 13, _, _, _, _, _⟩ :: _) _ _; refine wpList_load_row rfl _ _ rfl w.heap.size rfl _ _ (0, 0) _ H1.out.1 Tryd.underlying35 rfl (hInfo _ HI0.out.2.2.1) ?_; go_loud (refine wpList_build_at rfl _ _ rfl (hdL n z rt (zs 32)).toArray (by with_unfolding_all (exact HI0.out.2.2.2.2.2)) ?_))
    | (with_reducible show wpList _ _ _ (⟨none, Op.store _ _ _, _, _, _, _⟩ :: _) _ _; go_loud (refine wpList_store_whole rfl _ _ _ rfl w1.heap.size (hdL n z rt (zs 32)) rfl rfl (hdL 0 0 (zs 32) (zs 32)) _ (by rw [← HZ0.out]; exact heap_alloc_new _ _) HI0.out.2.2.2.2.1 (by rw [hdL_length _ _ _ _ HI0.out.2.2.1 (by simp [zs]), hdL_length _ _ _ _ (by simp [zs]) (by simp [zs])]) (hdL_one _ _ _ _) ?_); intro w2 HG2 hg2))
  have HG2 := HG2.out
  rw [← HGH.out] at HG2 hg2
  have r82 := (hg2.block (w.heap.size + 1) (by have := (Array.getElem?_eq_some_iff.1 H1.out.2.1).1; simp; omega) (by intro e; simp only [Option.some.injEq] at e; have := (Array.getElem?_eq_some_iff.1 H1.out.2.1).1; have := HGH.out; omega)).trans ((heap_alloc_old _ _ (Array.getElem?_eq_some_iff.1 H1.out.2.1).1).trans H1.out.2.1)
  have b2 : Below w.heap.size w w2 := below_grow (H1.out.2.2.alloc H1.out.2.2.size _) hg2 (by have := H1.out.2.2.size; have := HGH.out; omega) (by have := HGH.out; simp; omega)
  have hlt8 : w.heap.size + 1 < gh := by have := (Array.getElem?_eq_some_iff.1 H1.out.2.1).1; have := HGH.out; omega
  have H2 := Lib.hid (And.intro HG2 (And.intro r82 (And.intro b2 hlt8)))
  rw [← HGH.out]
  clear r82 b2 hlt8 H1 HGH HG2 hg2
  have hde := HDE.out w2 H2.out.2.2.1
  have HDE2 := Lib.hid hde
  clear hde HDE
  go_wp2_with fail
  refine HDE2.out.mono ?_
  rintro e w3 ⟨rfl, hb3⟩
  have rH := (hb3.block _ (Array.getElem?_eq_some_iff.1 H2.out.1).1).trans H2.out.1
  have r8 := (hb3.block _ (Array.getElem?_eq_some_iff.1 H2.out.2.1).1).trans H2.out.2.1
  have b3 := H2.out.2.2.1.trans (hb3.mono H2.out.2.2.1.size)
  have H3 := Lib.hid (And.intro rH (And.intro r8 (And.intro b3 H2.out.2.2.2)))
  clear rH r8 b3 hb3 H2 HDE2
  go_upto_region 3 with (with_reducible show wpList _ _ _ (⟨none, Op.store _ _ _, _, _, _, _⟩ :: _) _ _; go_loud (refine wpList_store_whole rfl _ _ _ rfl w3.heap.size (bv k0) rfl rfl (bv (zs 32)) _ (heap_alloc_new _ _) (hInfo' _ HI0.out.1) (by rw [bv_length, bv_length, HI0.out.1]; simp [zs]) (bv_one _) ?_); intro w4 HG4 hg4)
  obtain ⟨gk, hgk⟩ : ∃ g, g = w3.heap.size := ⟨_, rfl⟩
  have hG4 := HG4.out
  rw [← hgk] at hG4 hg4 ⊢
  have hb4 : Below gk w3 w4 := below_grow ((Below.refl _ _).alloc (by omega) _) hg4 (Nat.le_refl _) (by simp; omega)
  have rH := (hb4.block _ (by rw [hgk]; exact (Array.getElem?_eq_some_iff.1 H3.out.1).1)).trans H3.out.1
  have r8 := (hb4.block _ (by rw [hgk]; exact (Array.getElem?_eq_some_iff.1 H3.out.2.1).1)).trans H3.out.2.1
  have hBW := H3.out.2.2.1.trans (hb4.mono (by rw [hgk]; exact H3.out.2.2.1.size))
  have hle8 := H3.out.2.2.2
  have hkr := rd_row (n := 32) hG4 HI0.out.1
  obtain ⟨g8, hg8⟩ : ∃ g, g = w.heap.size + 1 := ⟨_, rfl⟩
  rw [← hg8] at r8 hle8 ⊢
  obtain ⟨B3, hB3⟩ : ∃ B, B = w4.heap.size := ⟨_, rfl⟩
  obtain ⟨H0, hH0⟩ : ∃ H, H = (hdL n z rt (zs 32)).toArray := ⟨_, rfl⟩
  obtain ⟨H1, hH1⟩ : ∃ H, H = (hdL n z rt mk).toArray := ⟨_, rfl⟩
  rw [← hH0] at rH
  have hHI := HI0.out.2.2.2.1
  have hbo := HBO0.out
  rw [← hH0] at hHI hbo
  have HR := Lib.hid (And.intro (show gh < B3 by rw [hB3]; exact (Array.getElem?_eq_some_iff.1 rH).1) (And.intro rH (And.intro (Array.getElem?_eq_some_iff.1 r8).1 (And.intro (by rw [HZ0.out] at r8; exact r8) (And.intro (show g8 < gh from hle8) (And.intro (show w.heap.size ≤ g8 by omega) (show w.heap.size ≤ gh by omega)))))))
  have HI := Lib.hid (And.intro hHI (And.intro HI0.out.2.1 (And.intro hH0 (And.intro hH1 HI0.out.2.2.1))))
  have HB3 := Lib.hid hB3
  have HBW := Lib.hid hBW
  have HBO := Lib.hid hbo
  have hGx : ∀ wx, Below B3 w4 wx → Tabs wx := fun wx hb => HGT.out.keepB (hBW.trans (hb.mono (by rw [hB3]; exact hBW.size)))
  have HNW := Lib.hid (fun wx (hb : Below B3 w4 wx) => HNW0.out (.slice (some ⟨gk, 0, none⟩) 32 32) wx (hkr.keepB hb (by omega)) (hGx wx hb))
  have HW1 := Lib.hid (fun vx wx (h : Rd wx 1 vx 4 (bv headW)) (hb : Below B3 w4 wx) => HW10.out vx wx h (hGx wx hb))
  have HW2 := Lib.hid (fun vx wx (h : Rd wx 1 vx bd.length (bv bd)) (hb : Below B3 w4 wx) => HW20.out vx wx h (hGx wx hb))
  have HM := Lib.hid (fun wx (hb : Below B3 w4 wx) => HM0.out wx (hGx wx hb))
  clear hgk hG4 hg4 hb4 rH r8 hBW hle8 hkr hg8 hB3 hH0 hH1 hHI hbo hGx H3 HG4 HNW0 HW10 HW20 HM0 HBO0 HGT HI0 HZ0
  refine wp_region_until [some 18, some 19, some 20, some 21, some 22, some 23, some 24, some 25, some 26, some 27, none] [] 10 (fun wx => Below B3 w4 wx) [0, 1, 2, 3, 4, 5, 6, 7, 8, 9, 10] (hdSignF gk gh B3 A0 A1 A2 H0 H1 bd mk) (kHS gh B3) (fun wx => w4.grownBy wx (some gh)) (by kernel_rfl) (by kernel_rfl) rfl (by kernel_rfl) (by kernel_rfl) (kHS_drew _ _) (by rw [HB3.out]; exact (Below.refl _ _).drew) (fun j hj _ _ k h => kHS_Q hj h k (by rw [HB3.out]; exact (show w4.heap.size ≤ _ from by have := h.size; omega))) (kHS_refl gh B3) (fun _ _ _ h k => kHS_G HB3.out h k) ?hF ?hstep ?hend
  case hF =>
    exact ⟨fun _ _ _ _ _ _ h => h, ⟨fun _ _ _ _ _ _ h => h, ⟨fun j hg _ _ _ k h => Lit.keep h (kHS_below (fun e => by subst e; exact absurd hg (by rw [show goneB _ 2 10 = true by kernel_rfl]; simp)) (fun e => by subst e; exact absurd hg (by rw [show goneB _ 2 3 = true by kernel_rfl]; simp)) k), ⟨fun j hg _ _ _ k h => h.keep (kHS_below (fun e => by subst e; exact absurd hg (by rw [show goneB _ 3 10 = true by kernel_rfl]; simp)) (fun e => by subst e; exact absurd hg (by rw [show goneB _ 3 3 = true by kernel_rfl]; simp)) k), ⟨fun _ _ _ _ _ _ h => h, ⟨fun _ _ _ _ _ _ h => h, ⟨fun j hg _ _ _ k h => h.keep (kHS_below (fun e => by subst e; exact absurd hg (by rw [show goneB _ 6 10 = true by kernel_rfl]; simp)) (fun e => by subst e; exact absurd hg (by rw [show goneB _ 6 3 = true by kernel_rfl]; simp)) k), ⟨fun _ _ _ _ _ _ h => h, ⟨fun _ _ _ _ _ _ h => h, ⟨fun _ _ _ _ _ _ h => h, ⟨fun j hg _ _ _ k h => ((kHS_below (fun e => by subst e; exact absurd hg (by rw [show goneB _ 10 10 = true by kernel_rfl]; simp)) (fun e => by subst e; exact absurd hg (by rw [show goneB _ 10 3 = true by kernel_rfl]; simp)) k).block _ (Array.getElem?_eq_some_iff.1 h).1).trans h, trivial⟩⟩⟩⟩⟩⟩⟩⟩⟩⟩⟩
  case hstep =>
    -- operation 0: Op.slice 35 (tmp 10) none none none
    refine ⟨fun r wx hG hs hq hf => ?_, ?_⟩
    · have hQ := hq rfl
      have e10 : r 10 = .pointer (some ⟨gk, 0, none⟩) := hs 10 rfl
      refine (if_pos rfl).symm ▸ ?_
      clear hs hq hf
      unfold gives
      go_simp
      exact ⟨kHS_refl _ _ _ _, rfl⟩
    -- operation 1: Op.call ( callee := Callee.value (func 52), args := #[tmp 18], argTypes := #[25] )
    refine ⟨fun r wx hG hs hq hf => ?_, ?_⟩
    · have hQ := hq rfl
      have h0 : r 18 = .slice (some ⟨gk, 0, none⟩) 32 32 := hf.1
      refine (if_pos rfl).symm ▸ ?_
      clear hs hq hf
      unfold gives
      have hk := HNW.out wx (hQ) 
      go_simp
      refine hk.mono ?_
      rintro e wy ⟨rfl, hb1⟩
      exact ⟨_, rfl, kHS_of (by decide) (by decide) hb1, rfl⟩
    -- operation 2: Op.buildSlice 25 4 #[(0, const (Value.int IntKind.u8 104)), (1, const (Value.int IntKind.u8 101)), (2, const (Value.int 
    refine ⟨fun r wx hG hs hq hf => ?_, ?_⟩
    · have hQ := hq rfl
      refine (if_pos rfl).symm ▸ ?_
      clear hs hq hf
      unfold gives
      go_simp
      exact ⟨kHS_of (by decide) (by decide) ((Below.refl _ _).alloc (Nat.le_refl _) _), wx.heap.size, rfl, by rw [HB3.out]; exact (show w4.heap.size ≤ wx.heap.size from hQ.size), heap_alloc_new _ _⟩
    -- operation 3: Op.convert 25 25 (tmp 20)
    refine ⟨fun r wx hG hs hq hf => ?_, ?_⟩
    · have hQ := hq rfl
      have h2 : Lit wx (r 20) B3 := hf.1
      refine (if_pos rfl).symm ▸ ?_
      clear hs hq hf
      unfold gives
      obtain ⟨g, hv, hg1, hg2⟩ := h2
      have hrun := run_convert_const_in (P := Tryd.prog) wx 25 5 g 4 4 _ _ hg2 Tryd.underlying25 Tryd.underlying5
      have hfz := freeze_row (k := 4) (n := 1) hg2 (by decide)
      have hfo := fun j hj => freeze_other wx g 4 1 j hj
      have hfs := freeze_size wx g 4 1
      have hst := freeze_still wx g 4 1
      rw [show (#[Value.int .u8 104, .int .u8 101, .int .u8 97, .int .u8 100] : Array Value).size = 4 from rfl] at hrun
      obtain ⟨wy, hwy⟩ : ∃ y, y = wx.freeze ⟨g, 4, none⟩ 1 := ⟨_, rfl⟩
      rw [← hwy] at hrun hfz hfo hfs hst
      have HK := Lib.hid (And.intro hfz (And.intro hfo (And.intro hfs (And.intro hst hg1))))
      clear hwy hfz hfo hfs hst hg1 hg2
      go_simp
      refine ⟨kHS_conv ⟨HK.out.2.2.2.1.1, HK.out.2.2.2.1.2.1, HK.out.2.2.2.1.2.2, by rw [HK.out.2.2.1]; exact Nat.le_refl _, fun k hk => HK.out.2.1 k (by have := HK.out.2.2.2.2; omega)⟩, ?_⟩
      show Rd wy 1 _ 4 (bv headW)
      exact rd_head4 HK.out.1
    -- operation 4: Op.call ( callee := Callee.value (func 53), args := #[tmp 19, tmp 21], argTypes := #[81, 25] )
    refine ⟨fun r wx hG hs hq hf => ?_, ?_⟩
    · have hQ := hq rfl
      have h1 : r 19 = .agg A0 := hf.1
      have h3 : Rd wx 1 (r 21) 4 (bv headW) := hf.2.1
      refine (if_pos rfl).symm ▸ ?_
      clear hs hq hf
      unfold gives
      have hk := HW1.out (r 21) wx h3 hQ
      go_simp
      refine hk.mono ?_
      rintro e wy ⟨rfl, hb1⟩
      exact ⟨_, rfl, kHS_of (by decide) (by decide) hb1, rfl⟩
    -- operation 5: Op.load 37 (tmp 9)
    refine ⟨fun r wx hG hs hq hf => ?_, ?_⟩
    · have hQ := hq rfl
      have e9 : r 9 = .pointer (some ⟨gh, 0, none⟩) := hs 9 rfl
      refine (if_pos rfl).symm ▸ ?_
      clear hs hq hf
      unfold gives
      refine gives_load_row 37 _ rfl gh e9 37 _ (0, 0) _ ((hQ.block _ HR.out.1).trans HR.out.2.1) Tryd.underlying37 rfl HI.out.1 ?_
      exact ⟨kHS_refl _ _ _ _, rfl⟩
    -- operation 6: Op.call ( callee := Callee.value (func 54), args := #[tmp 23], argTypes := #[37] )
    refine ⟨fun r wx hG hs hq hf => ?_, ?_⟩
    · have hQ := hq rfl
      have h5 : r 23 = .agg H0 := hf.1
      refine (if_pos rfl).symm ▸ ?_
      clear hs hq hf
      unfold gives
      have hk := HBO.out wx
      go_simp
      refine hk.mono ?_
      rintro e wy ⟨v, rfl, hr1, hb1⟩
      exact ⟨v, rfl, kHS_of (by decide) (by decide) hb1, hr1⟩
    -- operation 7: Op.call ( callee := Callee.value (func 53), args := #[tmp 22, tmp 24], argTypes := #[81, 25] )
    refine ⟨fun r wx hG hs hq hf => ?_, ?_⟩
    · have hQ := hq rfl
      have h4 : r 22 = .agg A1 := hf.1
      have h6 : Rd wx 1 (r 24) bd.length (bv bd) := hf.2.1
      refine (if_pos rfl).symm ▸ ?_
      clear hs hq hf
      unfold gives
      have hk := HW2.out (r 24) wx h6 hQ
      go_simp
      refine hk.mono ?_
      rintro e wy ⟨rfl, hb1⟩
      exact ⟨_, rfl, kHS_of (by decide) (by decide) hb1, rfl⟩
    -- operation 8: Op.call ( callee := Callee.value (func 55), args := #[tmp 25], argTypes := #[81] )
    refine ⟨fun r wx hG hs hq hf => ?_, ?_⟩
    · have hQ := hq rfl
      have h7 : r 25 = .agg A2 := hf.1
      refine (if_pos rfl).symm ▸ ?_
      clear hs hq hf
      unfold gives
      have hk := HM.out wx hQ
      go_simp
      refine hk.mono ?_
      rintro e wy ⟨rfl, hb1⟩
      exact ⟨_, rfl, kHS_of (by decide) (by decide) hb1, rfl⟩
    -- operation 9: Op.fieldAddr 37 (tmp 9) 3
    refine ⟨fun r wx hG hs hq hf => ?_, ?_⟩
    · have hQ := hq rfl
      have e9 : r 9 = .pointer (some ⟨gh, 0, none⟩) := hs 9 rfl
      refine (if_pos rfl).symm ▸ ?_
      clear hs hq hf
      unfold gives
      go_simp
      exact ⟨kHS_refl _ _ _ _, rfl⟩
    -- operation 10: Op.store 35 (tmp 27) (tmp 26)
    refine ⟨fun r wx hG hs hq hf => ?_, ?_⟩
    · have hQ := hq rfl
      have h9 : r 27 = .pointer (some ⟨gh, 34, none⟩) := hf.1
      have h8 : r 26 = .agg (bv mk).toArray := hf.2.1
      refine (if_pos rfl).symm ▸ ?_
      clear hs hq hf
      unfold gives
      refine gives_store_splice 35 _ _ rfl gh 34 (bv mk) h9 h8 (hdL n z rt (zs 32)) 37 (by rw [← HI.out.2.2.1]; exact (hQ.block _ HR.out.1).trans HR.out.2.1) (hInfo' _ HI.out.2.1) (by rw [hdL_length n z rt _ HI.out.2.2.2.2 (by simp [zs]), bv_length, HI.out.2.1]; decide) (bv_one _) ?_
      intro wy h1 h2
      rw [splice_mark n z rt mk HI.out.2.2.2.2 HI.out.2.1, ← HI.out.2.2.2.1] at h1
      exact ⟨kHS_st h2, h1⟩
    exact trivial
  case hend =>
    intro u wz hG hfin
    have z10 : wz.heap[gh]? = some (.cells H1 37 (0, 0)) := hfin 10 (by decide) (by kernel_rfl)
    clear hfin
    simp only [fill]
    go_simp
    rw [HI.out.2.2.2.1] at z10
    have hres := (hG.block g8 HR.out.2.2.1 (by intro e; simp only [Option.some.injEq] at e; have := HR.out.2.2.2.2.1; omega)).trans HR.out.2.2.2.1
    have HF := Lib.hid (And.intro z10 (And.intro hres hG))
    have hml := HI.out.2.1
    have hrl := HI.out.2.2.2.2
    clear z10 hres hG
    go_wp2_with (first
      | (with_reducible show wpList _ _ _ (⟨some 28, _, _, _, _, _⟩ :: _) _ _; refine wpList_load_row rfl _ _ rfl gh rfl _ _ (0, 0) _ HF.out.1 Tryd.underlying37 rfl (hdInfo _ _ _ _ hrl hml) ?_)
      | (with_reducible show wpList _ _ _ (⟨none, Op.store _ _ _, _, _, _, _⟩ :: _) _ _; refine wpList_store_whole rfl _ _ _ rfl g8 (hdL n z rt mk) rfl rfl (hdL 0 0 (zs 32) (zs 32)) _ HF.out.2.1 (hdInfo' _ _ _ _ hrl hml) (by rw [hdL_length _ _ _ _ hrl hml, hdL_length _ _ _ _ (by simp [zs]) (by simp [zs])]) (hdL_one _ _ _ _) ?_; intro w9 HG9 hg9))
    refine bodyPost_ret (v := .agg (hdL n z rt mk).toArray) ?_ ?_ ?_
    · exact results_cell_row Tryd.results18 _ _ g8 37 _ (0, 0) _ rfl HG9.out Tryd.underlying37 rfl (hdInfo _ _ _ _ hrl hml)
    · rfl
    · have k1 : Below w.heap.size w w9 := by
        have b1 := HBW.out
        have b2 := HF.out.2.2
        have b3 := hg9
        exact ⟨b3.os.trans (b2.os.trans b1.os), b3.tape.trans (b2.tape.trans b1.tape), b3.output.trans (b2.output.trans b1.output), Nat.le_trans b1.size (Nat.le_trans b2.size b3.size), fun k hk => (b3.block k (Nat.lt_of_lt_of_le hk (Nat.le_trans b1.size b2.size)) (by intro e; simp only [Option.some.injEq] at e; have := HR.out.2.2.2.2.2.1; omega)).trans ((b2.block k (Nat.lt_of_lt_of_le hk b1.size) (by intro e; simp only [Option.some.injEq] at e; have := HR.out.2.2.2.2.2.2; omega)).trans (b1.block k hk))⟩
      exact ⟨by rw [HMK.out], k1⟩
end Go.Proofs.YtgimblpdmlnfeaaDoor
namespace Go.Proofs.YtgimblpdmlnfeaaDoor
open Go.RowKit Sha

theorem hd_ext_root (n z : Nat) (r m : List UInt8) (hr : r.length = 32) : (hdL n z r m).toArray.extract 2 34 = (bv r).toArray := by
  unfold hdL
  rw [List.extract_toArray]
  congr 1
  rw [List.extract_eq_take_drop, List.drop_append, List.drop_of_length_le (by simp)]
  simp [bv_length, hr]
theorem hd_ext_mark (n z : Nat) (r m : List UInt8) (hr : r.length = 32) (hm : m.length = 32) : (hdL n z r m).toArray.extract 34 66 = (bv m).toArray := by
  unfold hdL
  rw [List.extract_toArray]
  congr 1
  rw [List.extract_eq_take_drop, ← List.append_assoc, List.drop_append, List.drop_of_length_le (by simp [bv_length, hr])]
  simp [bv_length, hr]
  exact List.take_of_length_le (by simp [bv_length, hm])
theorem part_root (n z : Nat) (r m : List UInt8) (hr : r.length = 32) (hm : m.length = 32) (w : World) : (part 35 (hdL n z r m).toArray 2).run Tryd.prog w = .ok (.agg (bv r).toArray) w := by
  have hs : (hdL n z r m).toArray.size = 66 := by rw [List.size_toArray, hdL_length n z r m hr hm]
  have he := hd_ext_root n z r m hr
  simp [part, Sem.run_bind, Tryd.sizeOf35, Tryd.isAgg35] at *
  rw [he]
theorem part_mark (n z : Nat) (r m : List UInt8) (hr : r.length = 32) (hm : m.length = 32) (w : World) : (part 35 (hdL n z r m).toArray 34).run Tryd.prog w = .ok (.agg (bv m).toArray) w := by
  have hs : (hdL n z r m).toArray.size = 66 := by rw [List.size_toArray, hdL_length n z r m hr hm]
  have he := hd_ext_mark n z r m hr hm
  simp [part, Sem.run_bind, Tryd.sizeOf35, Tryd.isAgg35] at *
  rw [he]
theorem part_int (n z : Nat) (r m : List UInt8) (w : World) : (part 33 (hdL n z r m).toArray 0).run Tryd.prog w = .ok (.int .u64 n) w ∧ (part 33 (hdL n z r m).toArray 1).run Tryd.prog w = .ok (.int .u64 z) w := by
  constructor <;> simp [part, Sem.run_bind, Tryd.sizeOf33, Tryd.isAgg33, hdL]
theorem run_field_mark (n z : Nat) (r m : List UInt8) (hr : r.length = 32) (hm : m.length = 32) (w : World) : (Instr.field 37 (.agg (hdL n z r m).toArray) 3).run Tryd.prog w = .ok (.agg (bv m).toArray) w := by
  have h := part_mark n z r m hr hm w
  simp [Instr.field, asAgg, Sem.run_bind, Tryd.runUnderlying37]
  exact h
theorem head_fields : (Tryd.prog.fieldsOf 37).toList.map (fun f => (f.name, f.type, f.offset)) = [("Node", 33, 0), ("Size", 33, 1), ("Root", 35, 2), ("Mark", 35, 34)] := by kernel_rfl
theorem eqFields_map (P : Program) (d : Nat) (xs ys : Array Value) : ∀ (fs : List Field) (gs : List (String × TypeId × Nat)), fs.map (fun f => (f.name, f.type, f.offset)) = gs →
    Op.eqFields d xs ys fs = gs.foldr (fun g k => if g.1 ≠ "_" then do
      let a ← part g.2.1 xs g.2.2
      let b ← part g.2.1 ys g.2.2
      let r ← Op.equalIn d g.2.1 a b
      if (!r) = true then pure false else k else k) (pure true)
  | [], gs, h => by subst h; rfl
  | f :: fs, gs, h => by
    subst h
    rw [List.map_cons, List.foldr_cons, Op.eqFields, ← eqFields_map P d xs ys fs _ rfl]
set_option maxRecDepth 100000 in
theorem eqIn_h9 (xs ys : List UInt8) (hx : xs.length = 32) (hy : ys.length = 32) (w : World) :
    (Op.equalIn 9999 35 (.agg (bv xs).toArray) (.agg (bv ys).toArray)).run Tryd.prog w = .ok (decide (xs = ys)) w := by
  have h := run_equalIn_bytes (P := Tryd.prog) w 9997 35 5 32 Tryd.underlying35 Tryd.underlying5 (fun _ => rfl) xs ys hx hy
  rw [show (xs == ys) = decide (xs = ys) by by_cases h : xs = ys <;> simp [h]] at h
  exact h
set_option maxRecDepth 100000 in
theorem eqIn_u9 (a b : Nat) (w : World) : (Op.equalIn 9999 33 (.int .u64 a) (.int .u64 b)).run Tryd.prog w = .ok (decide (a = b)) w := by
  have h := run_equalIn_int (P := Tryd.prog) w 9998 33 .u64 .u64 (a : Int) (b : Int) Tryd.underlying33
  rw [show ((a : Int) == (b : Int)) = decide (a = b) by by_cases h : a = b <;> simp [h]; omega] at h
  exact h
/-- Four parts, one behind the other. -/
theorem four_eq {P : Program} (E : TypeId → Value → Value → Sem Bool) (X Y : Array Value) (T1 T2 T3 T4 : TypeId) (o1 o2 o3 o4 : Nat) (x1 x2 x3 x4 y1 y2 y3 y4 : Value) (c1 c2 c3 c4 : Prop) [Decidable c1] [Decidable c2] [Decidable c3] [Decidable c4] (w : World)
    (hx1 : (part T1 X o1).run P w = .ok x1 w) (hx2 : (part T2 X o2).run P w = .ok x2 w) (hx3 : (part T3 X o3).run P w = .ok x3 w) (hx4 : (part T4 X o4).run P w = .ok x4 w)
    (hy1 : (part T1 Y o1).run P w = .ok y1 w) (hy2 : (part T2 Y o2).run P w = .ok y2 w) (hy3 : (part T3 Y o3).run P w = .ok y3 w) (hy4 : (part T4 Y o4).run P w = .ok y4 w)
    (h1 : (E T1 x1 y1).run P w = .ok (decide c1) w) (h2 : (E T2 x2 y2).run P w = .ok (decide c2) w) (h3 : (E T3 x3 y3).run P w = .ok (decide c3) w) (h4 : (E T4 x4 y4).run P w = .ok (decide c4) w) :
    (do
        let a ← part T1 X o1
        let b ← part T1 Y o1
        let r ← E T1 a b
        if (!r) = true then pure false else (do
          let a ← part T2 X o2
          let b ← part T2 Y o2
          let r ← E T2 a b
          if (!r) = true then pure false else (do
            let a ← part T3 X o3
            let b ← part T3 Y o3
            let r ← E T3 a b
            if (!r) = true then pure false else (do
              let a ← part T4 X o4
              let b ← part T4 Y o4
              let r ← E T4 a b
              if (!r) = true then pure false else pure true))) : Sem Bool).run P w = .ok (decide (c1 ∧ c2 ∧ c3 ∧ c4)) w := by
  simp only [Sem.run_bind, hx1, hx2, hx3, hx4, hy1, hy2, hy3, hy4, h1, h2, h3, h4, Result.andThen_ok, Sem.run_ite, Sem.run_pure]
  by_cases k1 : c1 <;> by_cases k2 : c2 <;> by_cases k3 : c3 <;> by_cases k4 : c4 <;> simp [k1, k2, k3, k4]
theorem eqF_head (X Y : Array Value) : Op.eqFields 9999 X Y (Tryd.prog.fieldsOf 37).toList = (do
        let a ← part 33 X 0
        let b ← part 33 Y 0
        let r ← Op.equalIn 9999 33 a b
        if (!r) = true then pure false else (do
          let a ← part 33 X 1
          let b ← part 33 Y 1
          let r ← Op.equalIn 9999 33 a b
          if (!r) = true then pure false else (do
            let a ← part 35 X 2
            let b ← part 35 Y 2
            let r ← Op.equalIn 9999 35 a b
            if (!r) = true then pure false else (do
              let a ← part 35 X 34
              let b ← part 35 Y 34
              let r ← Op.equalIn 9999 35 a b
              if (!r) = true then pure false else pure true))) : Sem Bool) := by
  rw [eqFields_map Tryd.prog 9999 _ _ _ _ head_fields]
  simp only [List.foldr_cons, List.foldr_nil]
  rw [if_pos (by decide), if_pos (by decide), if_pos (by decide), if_pos (by decide)]
theorem eqIn_any (d : Nat) (X Y : Array Value) (w : World) : (Op.equalIn (d + 1) 37 (.agg X) (.agg Y)).run Tryd.prog w = (Op.eqFields d X Y (Tryd.prog.fieldsOf 37).toList).run Tryd.prog w :=
  run_equalIn_struct (P := Tryd.prog) w d 37 _ _ (by kernel_rfl) (by kernel_rfl)
set_option maxRecDepth 100000 in
/-- Two heads are compared. -/
theorem eqIn_head (n z n' z' : Nat) (r m r' m' : List UInt8) (hr : r.length = 32) (hm : m.length = 32) (hr' : r'.length = 32) (hm' : m'.length = 32) (w : World) :
    (Op.equalIn 10000 37 (.agg (hdL n z r m).toArray) (.agg (hdL n' z' r' m').toArray)).run Tryd.prog w = .ok (decide (n = n' ∧ z = z' ∧ r = r' ∧ m = m')) w :=
  (eqIn_any 9999 _ _ w).trans ((congrArg (fun s : Sem Bool => s.run Tryd.prog w) (eqF_head _ _)).trans (four_eq (P := Tryd.prog) (Op.equalIn 9999) _ _ _ _ _ _ _ _ _ _ _ _ _ _ _ _ _ _ _ _ _ _ w (part_int n z r m w).1 (part_int n z r m w).2 (part_root n z r m hr hm w) (part_mark n z r m hr hm w)
    (part_int n' z' r' m' w).1 (part_int n' z' r' m' w).2 (part_root n' z' r' m' hr' hm' w) (part_mark n' z' r' m' hr' hm' w) (eqIn_u9 n n' w) (eqIn_u9 z z' w) (eqIn_h9 r r' hr hr' w) (eqIn_h9 m m' hm hm' w)))
theorem head_guard : Tryd.prog.eqGuardType Tryd.prog.depth 37 = false := by kernel_rfl
theorem gives_eq_head {r : Nat → Value} {o : Oper} {w : World} {R : Value → World → Prop} (x y : Operand) (ty : TypeId) (ho : o.op = .binOp .eql 37 x y ty) {X Y : Array Value} (hx : rd r x = .agg X) (hy : rd r y = .agg Y) {b : Bool}
    (hq : (Op.equalIn 10000 37 (.agg X) (.agg Y)).run Tryd.prog w = .ok b w) (h : R (.bool b) w) : gives Tryd.prog r o w R := by
  have hg := run_eqGuard_agg (P := Tryd.prog) w .eql 37 x y X Y head_guard
  have he := run_eql_struct (P := Tryd.prog) w 37 X Y
  rw [hq] at he
  unfold gives execOp
  simp only [ho, hx, hy, Sem.run_bind, hg, he, Result.andThen_ok]
  exact h
end Go.Proofs.YtgimblpdmlnfeaaDoor
