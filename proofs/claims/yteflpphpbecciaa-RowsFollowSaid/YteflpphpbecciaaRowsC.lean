/- Which log is newer: the law's own function and the reference's. -/
import Derived.Test.YteflpphpbecciaaRowsB
import Derived.Test.YteflpphpbecciaaReg
import Derived.Deep.DeepCutAuto
namespace Go.Proofs.Yteflpphpbecciaa
open Go.RowKit

/-- What each operation hands on. -/
def nwF (b bt : Nat) (es : List EE) (a : Option Addr) (c : Nat) : Nat → Value → World → Prop
  | 0, v, _ => v = .agg #[.int .u64 b, .int .u64 bt, .slice a es.length c]
  | 1, v, _ => v = .agg #[.int .u64 b, .int .u64 bt, .slice a es.length c]
  | 2, v, _ => v = .int .u64 ((b + es.length : Nat) : Int)
  | 3, v, _ => v = .tuple #[.int .u64 (lastT bt es : Nat), .bool true]
  | 4, v, _ => v = .tuple #[.int .u64 (lastT bt es : Nat), .bool true]
  | 5, v, _ => v = .int .u64 (lastT bt es : Nat)
  | 6, v, _ => v = .bool true
  | 7, v, _ => v = .int .u64 (lastT bt es : Nat)
  | 8, v, _ => v = .bool true
  | _, _, _ => True

/-- What each operation hands on. -/
def nwG (b bt : Nat) (es : List EE) (a : Option Addr) (c b2 bt2 : Nat) (es2 : List EE) (a2 : Option Addr) (c2 : Nat) : Nat → Value → World → Prop
  | 0, v, _ => v = .agg #[.int .u64 b2, .int .u64 bt2, .slice a2 es2.length c2]
  | 1, v, _ => v = .agg #[.int .u64 b, .int .u64 bt, .slice a es.length c]
  | 2, v, _ => v = .int .u64 ((b + es.length : Nat) : Int)
  | 3, v, _ => v = .int .u64 (lastT bt es : Nat)
  | 4, v, _ => v = .bool (newerP b2 bt2 es2 (b + es.length) (lastT bt es))
  | 5, v, _ => v = .bool (newerP b2 bt2 es2 (b + es.length) (lastT bt es))
  | _, _, _ => True

set_option maxHeartbeats 4000000 in
theorem newer_any (b bt : Nat) (v : Value) (es : List EE) (b2 bt2 : Nat) (v2 : Value) (es2 : List EE) (w : World) (hb : b ≤ 4611686018427387904) (hl : es.length ≤ 140737488355328) (hr : Rd w 6 v es.length (ecells es))
    (hb2 : b2 ≤ 4611686018427387904) (hl2 : es2.length ≤ 140737488355328) (hr2 : Rd w 6 v2 es2.length (ecells es2)) :
    Calls Try.prog 16 #[.agg #[.int .u64 b, .int .u64 bt, v], .agg #[.int .u64 b2, .int .u64 bt2, v2]] w fun e w' => e = .returned (.bool (newerP b2 bt2 es2 (b + es.length) (lastT bt es))) ∧ Below w.heap.size w w' := by
  obtain ⟨a, c, rfl⟩ := hr.form
  obtain ⟨a2, c2, rfl⟩ := hr2.form
  go_enter Try.func16, Try.ntmps16
  go_wp2_with fail
  obtain ⟨w2, hw2⟩ : ∃ x : World, x = (w.alloc (.cells #[.int .u64 b, .int .u64 bt, .slice a es.length c] 25)).alloc (.cells #[.int .u64 b2, .int .u64 bt2, .slice a2 es2.length c2] 25) := ⟨_, rfl⟩
  rw [← hw2]
  have hbb : Below w.heap.size w w2 := by rw [hw2]; exact ((Below.refl _ _).alloc (Nat.le_refl _) _).alloc (by simp) _
  have k0 : w2.cell? ⟨w.heap.size, 0, none⟩ = some (.int .u64 b) := by rw [hw2]; simp [go_sem]
  have k1 : w2.cell? ⟨w.heap.size, 1, none⟩ = some (.int .u64 bt) := by rw [hw2]; simp [go_sem]
  have k2 : w2.cell? ⟨w.heap.size, 2, none⟩ = some (.slice a es.length c) := by rw [hw2]; simp [go_sem]
  have q0 : w2.cell? ⟨w.heap.size + 1, 0, none⟩ = some (.int .u64 b2) := by rw [hw2]; simp [go_sem]
  have q1 : w2.cell? ⟨w.heap.size + 1, 1, none⟩ = some (.int .u64 bt2) := by rw [hw2]; simp [go_sem]
  have q2 : w2.cell? ⟨w.heap.size + 1, 2, none⟩ = some (.slice a2 es2.length c2) := by rw [hw2]; simp [go_sem]
  have hz2 : w.heap.size + 2 ≤ w2.heap.size := by rw [hw2]; simp
  clear hw2
  refine wp_region_steps [some 8, some 9, some 10, some 11, some 7, some 12, some 13, some 5, some 6] [] (nwF b bt es a c) (fun _ wx wy => Below wx.heap.size wx wy) (fun wx => Below w2.heap.size w2 wx) (by kernel_rfl) (by kernel_rfl) rfl (by kernel_rfl) (Below.refl _ _).drew (fun _ wx => Below.refl _ _) (fun _ wx wy h k => h.trans (k.mono h.size)) ?hF ?hstep ?hend
  case hF =>
    exact ⟨fun _ _ _ _ _ _ h => h, ⟨fun _ _ _ _ _ _ h => h, ⟨fun _ _ _ _ _ _ h => h, ⟨fun _ _ _ _ _ _ h => h, ⟨fun _ _ _ _ _ _ h => h, ⟨fun _ _ _ _ _ _ h => h, ⟨fun _ _ _ _ _ _ h => h, ⟨fun _ _ _ _ _ _ h => h, ⟨fun _ _ _ _ _ _ h => h, trivial⟩⟩⟩⟩⟩⟩⟩⟩⟩
  case hstep =>
    -- operation 0: Op.load 25 (tmp 2)
    refine ⟨fun r wx hG hs hq hf => ?_, ?_⟩
    · have e2 : r 2 = .pointer (some ⟨w.heap.size, 0, none⟩) := hs 2 rfl
      refine (if_pos rfl).symm ▸ ?_
      clear hs hq hf
      unfold gives
      have e0 := (hG.cell (p := ⟨w.heap.size, 0, none⟩) (by show w.heap.size < _; omega)).trans k0
      have e1 := (hG.cell (p := ⟨w.heap.size, 1, none⟩) (by show w.heap.size < _; omega)).trans k1
      have e2 := (hG.cell (p := ⟨w.heap.size, 2, none⟩) (by show w.heap.size < _; omega)).trans k2
      go_simp
      exact ⟨Below.refl _ _, rfl⟩
    -- operation 1: Op.load 25 (tmp 2)
    refine ⟨fun r wx hG hs hq hf => ?_, ?_⟩
    · have e2 : r 2 = .pointer (some ⟨w.heap.size, 0, none⟩) := hs 2 rfl
      refine (if_pos rfl).symm ▸ ?_
      clear hs hq hf
      unfold gives
      have e0 := (hG.cell (p := ⟨w.heap.size, 0, none⟩) (by show w.heap.size < _; omega)).trans k0
      have e1 := (hG.cell (p := ⟨w.heap.size, 1, none⟩) (by show w.heap.size < _; omega)).trans k1
      have e2 := (hG.cell (p := ⟨w.heap.size, 2, none⟩) (by show w.heap.size < _; omega)).trans k2
      go_simp
      exact ⟨Below.refl _ _, rfl⟩
    -- operation 2: Op.call ( callee := Callee.value (func 14), args := #[tmp 9], argTypes := #[25] )
    refine ⟨fun r wx hG hs hq hf => ?_, ?_⟩
    · have h1 : r 9 = .agg #[.int .u64 b, .int .u64 bt, .slice a es.length c] := hf.1
      refine (if_pos rfl).symm ▸ ?_
      clear hs hq hf
      unfold gives
      go_simp
      refine (Last_any b bt es.length c a wx hb hl).mono ?_
      rintro e wy ⟨rfl, hb1⟩
      exact ⟨_, rfl, hb1, rfl⟩
    -- operation 3: Op.call ( callee := Callee.value (func 13), args := #[tmp 8, tmp 10], argTypes := #[25, 22] )
    refine ⟨fun r wx hG hs hq hf => ?_, ?_⟩
    · have h0 : r 8 = .agg #[.int .u64 b, .int .u64 bt, .slice a es.length c] := hf.1
      have h2 : r 10 = .int .u64 ((b + es.length : Nat) : Int) := hf.2.1
      refine (if_pos rfl).symm ▸ ?_
      clear hs hq hf
      unfold gives
      have hT := Term_any b bt (.slice a es.length c) es (b + es.length) wx hb (by omega) hl (hr.keep ((hbb).trans (hG.mono hbb.size)))
      rw [termP_last] at hT
      go_simp
      refine hT.mono ?_
      rintro e wy ⟨rfl, hb1⟩
      exact ⟨_, rfl, hb1, rfl⟩
    -- operation 4: Op.move (tmp 11)
    refine ⟨fun r wx hG hs hq hf => ?_, ?_⟩
    · have h3 : r 11 = .tuple #[.int .u64 (lastT bt es : Nat), .bool true] := hf.1
      refine (if_pos rfl).symm ▸ ?_
      clear hs hq hf
      unfold gives
      go_simp
      exact ⟨Below.refl _ _, rfl⟩
    -- operation 5: Op.extract (tmp 7) 0
    refine ⟨fun r wx hG hs hq hf => ?_, ?_⟩
    · have h4 : r 7 = .tuple #[.int .u64 (lastT bt es : Nat), .bool true] := hf.1
      refine (if_pos rfl).symm ▸ ?_
      clear hs hq hf
      unfold gives
      go_simp
      exact ⟨Below.refl _ _, rfl⟩
    -- operation 6: Op.extract (tmp 7) 1
    refine ⟨fun r wx hG hs hq hf => ?_, ?_⟩
    · have h4 : r 7 = .tuple #[.int .u64 (lastT bt es : Nat), .bool true] := hf.1
      refine (if_pos rfl).symm ▸ ?_
      clear hs hq hf
      unfold gives
      go_simp
      exact ⟨Below.refl _ _, rfl⟩
    -- operation 7: Op.assign (tmp 12)
    refine ⟨fun r wx hG hs hq hf => ?_, ?_⟩
    · have h5 : r 12 = .int .u64 (lastT bt es : Nat) := hf.1
      refine (if_pos rfl).symm ▸ ?_
      clear hs hq hf
      unfold gives
      go_simp
      exact ⟨Below.refl _ _, rfl⟩
    -- operation 8: Op.assign (tmp 13)
    refine ⟨fun r wx hG hs hq hf => ?_, ?_⟩
    · have h6 : r 13 = .bool true := hf.1
      refine (if_pos rfl).symm ▸ ?_
      clear hs hq hf
      unfold gives
      go_simp
      exact ⟨Below.refl _ _, rfl⟩
    exact trivial
  case hend =>
    intro u wz hG hfin
    have z7 : u 7 = .int .u64 (lastT bt es : Nat) := hfin 7 (by decide) (by kernel_rfl)
    have z8 : u 8 = .bool true := hfin 8 (by decide) (by kernel_rfl)
    clear hfin
    simp only [fill]
    obtain ⟨w3, hw3⟩ : ∃ w3 : World, w3 = wz := ⟨_, rfl⟩
    subst hw3
    have j0 := (hG.cell (p := ⟨w.heap.size, 0, none⟩) (by show w.heap.size < _; omega)).trans k0
    have j1 := (hG.cell (p := ⟨w.heap.size, 1, none⟩) (by show w.heap.size < _; omega)).trans k1
    have j2 := (hG.cell (p := ⟨w.heap.size, 2, none⟩) (by show w.heap.size < _; omega)).trans k2
    have i0 := (hG.cell (p := ⟨w.heap.size + 1, 0, none⟩) (by show w.heap.size + 1 < _; omega)).trans q0
    have i1 := (hG.cell (p := ⟨w.heap.size + 1, 1, none⟩) (by show w.heap.size + 1 < _; omega)).trans q1
    have i2 := (hG.cell (p := ⟨w.heap.size + 1, 2, none⟩) (by show w.heap.size + 1 < _; omega)).trans q2
    have hz3 := hG.size
    replace hbb := hbb.trans (hG.mono hbb.size)
    clear hG k0 k1 k2 q0 q1 q2
    go_simp
    go_wp2_with fail
    refine wp_region_steps [some 14, some 15, some 16, some 17, some 18, some 4] [] (nwG b bt es a c b2 bt2 es2 a2 c2) (fun _ wx wy => Below wx.heap.size wx wy) (fun wx => Below w3.heap.size w3 wx) (by kernel_rfl) (by kernel_rfl) rfl (by kernel_rfl) (Below.refl _ _).drew (fun _ wx => Below.refl _ _) (fun _ wx wy h k => h.trans (k.mono h.size)) ?hF ?hstep ?hend
    case hF =>
      exact ⟨fun _ _ _ _ _ _ h => h, ⟨fun _ _ _ _ _ _ h => h, ⟨fun _ _ _ _ _ _ h => h, ⟨fun _ _ _ _ _ _ h => h, ⟨fun _ _ _ _ _ _ h => h, ⟨fun _ _ _ _ _ _ h => h, trivial⟩⟩⟩⟩⟩⟩
    case hstep =>
      -- operation 0: Op.load 25 (tmp 3)
      refine ⟨fun r wx hG hs hq hf => ?_, ?_⟩
      · have e3 : r 3 = .pointer (some ⟨w.heap.size + 1, 0, none⟩) := hs 3 rfl
        refine (if_pos rfl).symm ▸ ?_
        clear hs hq hf
        unfold gives
        have e0 := (hG.cell (p := ⟨w.heap.size + 1, 0, none⟩) (by show w.heap.size + 1 < _; omega)).trans i0
        have e1 := (hG.cell (p := ⟨w.heap.size + 1, 1, none⟩) (by show w.heap.size + 1 < _; omega)).trans i1
        have e2 := (hG.cell (p := ⟨w.heap.size + 1, 2, none⟩) (by show w.heap.size + 1 < _; omega)).trans i2
        go_simp
        exact ⟨Below.refl _ _, rfl⟩
      -- operation 1: Op.load 25 (tmp 2)
      refine ⟨fun r wx hG hs hq hf => ?_, ?_⟩
      · have e2 : r 2 = .pointer (some ⟨w.heap.size, 0, none⟩) := hs 2 rfl
        refine (if_pos rfl).symm ▸ ?_
        clear hs hq hf
        unfold gives
        have e0 := (hG.cell (p := ⟨w.heap.size, 0, none⟩) (by show w.heap.size < _; omega)).trans j0
        have e1 := (hG.cell (p := ⟨w.heap.size, 1, none⟩) (by show w.heap.size < _; omega)).trans j1
        have e2 := (hG.cell (p := ⟨w.heap.size, 2, none⟩) (by show w.heap.size < _; omega)).trans j2
        go_simp
        exact ⟨Below.refl _ _, rfl⟩
      -- operation 2: Op.call ( callee := Callee.value (func 14), args := #[tmp 15], argTypes := #[25] )
      refine ⟨fun r wx hG hs hq hf => ?_, ?_⟩
      · have h1 : r 15 = .agg #[.int .u64 b, .int .u64 bt, .slice a es.length c] := hf.1
        refine (if_pos rfl).symm ▸ ?_
        clear hs hq hf
        unfold gives
        go_simp
        refine (Last_any b bt es.length c a wx hb hl).mono ?_
        rintro e wy ⟨rfl, hb1⟩
        exact ⟨_, rfl, hb1, rfl⟩
      -- operation 3: Op.move (tmp 5)
      refine ⟨fun r wx hG hs hq hf => ?_, ?_⟩
      · have e5 : r 5 = .int .u64 (lastT bt es : Nat) := hs 5 rfl
        refine (if_pos rfl).symm ▸ ?_
        clear hs hq hf
        unfold gives
        go_simp
        exact ⟨Below.refl _ _, rfl⟩
      -- operation 4: Op.call ( callee := Callee.value (func 19), args := #[tmp 14, tmp 16, tmp 17], argTypes := #[25, 22, 22] )
      refine ⟨fun r wx hG hs hq hf => ?_, ?_⟩
      · have h0 : r 14 = .agg #[.int .u64 b2, .int .u64 bt2, .slice a2 es2.length c2] := hf.1
        have h2 : r 16 = .int .u64 ((b + es.length : Nat) : Int) := hf.2.1
        have h3 : r 17 = .int .u64 (lastT bt es : Nat) := hf.2.2.1
        refine (if_pos rfl).symm ▸ ?_
        clear hs hq hf
        unfold gives
        go_simp
        refine (Newer_any b2 bt2 (.slice a2 es2.length c2) es2 (b + es.length) (lastT bt es) wx hb2 hl2 (hr2.keep ((hbb).trans (hG.mono hbb.size)))).mono ?_
        rintro e wy ⟨rfl, hb1⟩
        exact ⟨_, rfl, hb1, rfl⟩
      -- operation 5: Op.assign (tmp 18)
      refine ⟨fun r wx hG hs hq hf => ?_, ?_⟩
      · have h4 : r 18 = .bool (newerP b2 bt2 es2 (b + es.length) (lastT bt es)) := hf.1
        refine (if_pos rfl).symm ▸ ?_
        clear hs hq hf
        unfold gives
        go_simp
        exact ⟨Below.refl _ _, rfl⟩
      exact trivial
    case hend =>
      intro u wz hG hfin
      have z5 : u 5 = .bool (newerP b2 bt2 es2 (b + es.length) (lastT bt es)) := hfin 5 (by decide) (by kernel_rfl)
      clear hfin
      simp only [fill]
      go_simp
      go_wp2_with fail
      go_ret
      exact ⟨rfl, hbb.trans (hG.mono hbb.size)⟩

/-- What each operation hands on. -/
def rnF (b bt : Nat) (es : List EE) (a : Option Addr) (c : Nat) : Nat → Value → World → Prop
  | 0, v, _ => v = .agg #[.int .u64 b, .int .u64 bt, .slice a es.length c]
  | 1, v, _ => v = .agg #[.int .u64 b, .int .u64 bt, .slice a es.length c]
  | 2, v, _ => v = .int .u64 ((b + es.length : Nat) : Int)
  | 3, v, _ => v = .tuple #[.int .u64 (lastT bt es : Nat), .bool true]
  | 4, v, _ => v = .tuple #[.int .u64 (lastT bt es : Nat), .bool true]
  | 5, v, _ => v = .int .u64 (lastT bt es : Nat)
  | 6, v, _ => v = .bool true
  | 7, v, _ => v = .int .u64 (lastT bt es : Nat)
  | 8, v, _ => v = .bool true
  | _, _, _ => True

set_option maxHeartbeats 4000000 in
theorem RNewer_any (b bt : Nat) (v : Value) (es : List EE) (i t : Nat) (w : World) (hb : b ≤ 4611686018427387904) (hl : es.length ≤ 140737488355328) (hr : Rd w 6 v es.length (ecells es)) :
    Calls Try.prog 20 #[.agg #[.int .u64 b, .int .u64 bt, v], .int .u64 i, .int .u64 t] w fun e w' => e = .returned (.bool (newerP b bt es i t)) ∧ Below w.heap.size w w' := by
  obtain ⟨a, c, rfl⟩ := hr.form
  go_enter Try.func20, Try.ntmps20
  go_wp2_with fail
  obtain ⟨w2, hw2⟩ : ∃ x : World, x = (w.alloc (.cells #[.int .u64 b, .int .u64 bt, .slice a es.length c] 25)) := ⟨_, rfl⟩
  rw [← hw2]
  have hbb : Below w.heap.size w w2 := by rw [hw2]; exact (Below.refl _ _).alloc (Nat.le_refl _) _
  have k0 : w2.cell? ⟨w.heap.size, 0, none⟩ = some (.int .u64 b) := by rw [hw2]; simp [go_sem]
  have k1 : w2.cell? ⟨w.heap.size, 1, none⟩ = some (.int .u64 bt) := by rw [hw2]; simp [go_sem]
  have k2 : w2.cell? ⟨w.heap.size, 2, none⟩ = some (.slice a es.length c) := by rw [hw2]; simp [go_sem]
  have hz2 : w.heap.size + 1 ≤ w2.heap.size := by rw [hw2]; simp
  clear hw2
  refine wp_region_steps [some 10, some 11, some 12, some 13, some 9, some 14, some 15, some 7, some 8] [] (rnF b bt es a c) (fun _ wx wy => Below wx.heap.size wx wy) (fun wx => Below w2.heap.size w2 wx) (by kernel_rfl) (by kernel_rfl) rfl (by kernel_rfl) (Below.refl _ _).drew (fun _ wx => Below.refl _ _) (fun _ wx wy h k => h.trans (k.mono h.size)) ?hF ?hstep ?hend
  case hF =>
    exact ⟨fun _ _ _ _ _ _ h => h, ⟨fun _ _ _ _ _ _ h => h, ⟨fun _ _ _ _ _ _ h => h, ⟨fun _ _ _ _ _ _ h => h, ⟨fun _ _ _ _ _ _ h => h, ⟨fun _ _ _ _ _ _ h => h, ⟨fun _ _ _ _ _ _ h => h, ⟨fun _ _ _ _ _ _ h => h, ⟨fun _ _ _ _ _ _ h => h, trivial⟩⟩⟩⟩⟩⟩⟩⟩⟩
  case hstep =>
    -- operation 0: Op.load 25 (tmp 3)
    refine ⟨fun r wx hG hs hq hf => ?_, ?_⟩
    · have e3 : r 3 = .pointer (some ⟨w.heap.size, 0, none⟩) := hs 3 rfl
      refine (if_pos rfl).symm ▸ ?_
      clear hs hq hf
      unfold gives
      have e0 := (hG.cell (p := ⟨w.heap.size, 0, none⟩) (by show w.heap.size < _; omega)).trans k0
      have e1 := (hG.cell (p := ⟨w.heap.size, 1, none⟩) (by show w.heap.size < _; omega)).trans k1
      have e2 := (hG.cell (p := ⟨w.heap.size, 2, none⟩) (by show w.heap.size < _; omega)).trans k2
      go_simp
      exact ⟨Below.refl _ _, rfl⟩
    -- operation 1: Op.load 25 (tmp 3)
    refine ⟨fun r wx hG hs hq hf => ?_, ?_⟩
    · have e3 : r 3 = .pointer (some ⟨w.heap.size, 0, none⟩) := hs 3 rfl
      refine (if_pos rfl).symm ▸ ?_
      clear hs hq hf
      unfold gives
      have e0 := (hG.cell (p := ⟨w.heap.size, 0, none⟩) (by show w.heap.size < _; omega)).trans k0
      have e1 := (hG.cell (p := ⟨w.heap.size, 1, none⟩) (by show w.heap.size < _; omega)).trans k1
      have e2 := (hG.cell (p := ⟨w.heap.size, 2, none⟩) (by show w.heap.size < _; omega)).trans k2
      go_simp
      exact ⟨Below.refl _ _, rfl⟩
    -- operation 2: Op.call ( callee := Callee.value (func 18), args := #[tmp 11], argTypes := #[25] )
    refine ⟨fun r wx hG hs hq hf => ?_, ?_⟩
    · have h1 : r 11 = .agg #[.int .u64 b, .int .u64 bt, .slice a es.length c] := hf.1
      refine (if_pos rfl).symm ▸ ?_
      clear hs hq hf
      unfold gives
      go_simp
      refine (RLast_any b bt es.length c a wx hb hl).mono ?_
      rintro e wy ⟨rfl, hb1⟩
      exact ⟨_, rfl, hb1, rfl⟩
    -- operation 3: Op.call ( callee := Callee.value (func 17), args := #[tmp 10, tmp 12], argTypes := #[25, 22] )
    refine ⟨fun r wx hG hs hq hf => ?_, ?_⟩
    · have h0 : r 10 = .agg #[.int .u64 b, .int .u64 bt, .slice a es.length c] := hf.1
      have h2 : r 12 = .int .u64 ((b + es.length : Nat) : Int) := hf.2.1
      refine (if_pos rfl).symm ▸ ?_
      clear hs hq hf
      unfold gives
      have hT := RTerm_any b bt (.slice a es.length c) es (b + es.length) wx hb (by omega) hl (hr.keep ((hbb).trans (hG.mono hbb.size)))
      rw [termP_last] at hT
      go_simp
      refine hT.mono ?_
      rintro e wy ⟨rfl, hb1⟩
      exact ⟨_, rfl, hb1, rfl⟩
    -- operation 4: Op.move (tmp 13)
    refine ⟨fun r wx hG hs hq hf => ?_, ?_⟩
    · have h3 : r 13 = .tuple #[.int .u64 (lastT bt es : Nat), .bool true] := hf.1
      refine (if_pos rfl).symm ▸ ?_
      clear hs hq hf
      unfold gives
      go_simp
      exact ⟨Below.refl _ _, rfl⟩
    -- operation 5: Op.extract (tmp 9) 0
    refine ⟨fun r wx hG hs hq hf => ?_, ?_⟩
    · have h4 : r 9 = .tuple #[.int .u64 (lastT bt es : Nat), .bool true] := hf.1
      refine (if_pos rfl).symm ▸ ?_
      clear hs hq hf
      unfold gives
      go_simp
      exact ⟨Below.refl _ _, rfl⟩
    -- operation 6: Op.extract (tmp 9) 1
    refine ⟨fun r wx hG hs hq hf => ?_, ?_⟩
    · have h4 : r 9 = .tuple #[.int .u64 (lastT bt es : Nat), .bool true] := hf.1
      refine (if_pos rfl).symm ▸ ?_
      clear hs hq hf
      unfold gives
      go_simp
      exact ⟨Below.refl _ _, rfl⟩
    -- operation 7: Op.assign (tmp 14)
    refine ⟨fun r wx hG hs hq hf => ?_, ?_⟩
    · have h5 : r 14 = .int .u64 (lastT bt es : Nat) := hf.1
      refine (if_pos rfl).symm ▸ ?_
      clear hs hq hf
      unfold gives
      go_simp
      exact ⟨Below.refl _ _, rfl⟩
    -- operation 8: Op.assign (tmp 15)
    refine ⟨fun r wx hG hs hq hf => ?_, ?_⟩
    · have h6 : r 15 = .bool true := hf.1
      refine (if_pos rfl).symm ▸ ?_
      clear hs hq hf
      unfold gives
      go_simp
      exact ⟨Below.refl _ _, rfl⟩
    exact trivial
  case hend =>
    intro u wz hG hfin
    have z7 : u 7 = .int .u64 (lastT bt es : Nat) := hfin 7 (by decide) (by kernel_rfl)
    have z8 : u 8 = .bool true := hfin 8 (by decide) (by kernel_rfl)
    clear hfin
    simp only [fill]
    obtain ⟨w3, hw3⟩ : ∃ w3 : World, w3 = wz := ⟨_, rfl⟩
    subst hw3
    have j0 := (hG.cell (p := ⟨w.heap.size, 0, none⟩) (by show w.heap.size < _; omega)).trans k0
    have j1 := (hG.cell (p := ⟨w.heap.size, 1, none⟩) (by show w.heap.size < _; omega)).trans k1
    have j2 := (hG.cell (p := ⟨w.heap.size, 2, none⟩) (by show w.heap.size < _; omega)).trans k2
    have hz3 := hG.size
    replace hbb := hbb.trans (hG.mono hbb.size)
    have hla := RLast_any b bt es.length c a w3 hb hl
    have HLA := Lib.hid hla
    clear hG k0 k1 k2 hla
    go_simp
    generalize hT : lastT bt es = T at *
    rcases Nat.lt_trichotomy T t with h | h | h
    · have hz : (T : Int) < (t : Int) := by omega
      have HF : Hid (newerP b bt es i t = true) := by unfold Hid newerP; rw [hT]; simp [h]
      clear hT h
      go_wp2_with fail
      go_ret
      exact ⟨by rw [HF.out]; rfl, hbb⟩
    · subst h
      have hz : ¬ (T : Int) < (T : Int) := by omega
      have HF : Hid (newerP b bt es i T = decide (b + es.length ≤ i)) := by unfold Hid newerP; rw [hT]; simp
      clear hT
      go_wp2_with fail
      refine HLA.out.mono ?_
      rintro e w1 ⟨rfl, hb1⟩
      replace hbb := hbb.trans (hb1.mono hbb.size)
      clear hb1
      go_wp2_with fail
      go_ret
      exact ⟨by rw [HF.out]; exact ret_bool (decide_eq_decide.2 (by omega)), hbb⟩
    · have hz : ¬ (T : Int) < (t : Int) := by omega
      have hz2 : ((t : Int) == (T : Int)) = false := by simp; omega
      have HF : Hid (newerP b bt es i t = false) := by unfold Hid newerP; rw [hT, decide_eq_false (by omega), decide_eq_false (by omega)]; rfl
      clear hT h
      go_wp2_with fail
      go_ret
      exact ⟨by rw [HF.out]; rfl, hbb⟩
end Go.Proofs.Yteflpphpbecciaa
