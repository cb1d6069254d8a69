/- A log's struct result that lies in memory: plain words for the walk of Merge. -/
import Derived.Test.YteflpphpbecciaaMergeP
import Derived.Test.YteflpphpbecciaaRowsC
import Derived.Test.YteflpphpbecciaaSlEnt
import Derived.Deep.LoopGhost
import Derived.Deep.CutBlock
import Derived.Deep.CutRange
namespace Go.Proofs.Yteflpphpbecciaa
open Go.RowKit

/-- What stays while Merge runs: the log at A, and room for the answer at P. -/
def MW (w : World) (A P b bt : Nat) (v : Value) (wx : World) : Prop :=
  Below w.heap.size w wx ∧ A < wx.heap.size ∧ P < wx.heap.size ∧ wx.cell? ⟨A, 0, none⟩ = some (.int .u64 b) ∧ wx.cell? ⟨A, 1, none⟩ = some (.int .u64 bt) ∧ wx.cell? ⟨A, 2, none⟩ = some v ∧
  (∃ x y z, wx.cell? ⟨P, 0, none⟩ = some x ∧ wx.cell? ⟨P, 1, none⟩ = some y ∧ wx.cell? ⟨P, 2, none⟩ = some z) ∧ wx.frozen? ⟨P, 0, none⟩ = false ∧ wx.frozen? ⟨P, 1, none⟩ = false ∧ wx.frozen? ⟨P, 2, none⟩ = false ∧ wx.frozen? ⟨A, 2, none⟩ = false
/-- Three cells that are stored. -/
def mset (P : Nat) (x y z : Value) (w : World) : World := ((w.setCell ⟨P, 0, none⟩ x).setCell ⟨P, 1, none⟩ y).setCell ⟨P, 2, none⟩ z
theorem mset_cells {w : World} {P : Nat} {x y z p q r : Value} (c0 : w.cell? ⟨P, 0, none⟩ = some p) (c1 : w.cell? ⟨P, 1, none⟩ = some q) (c2 : w.cell? ⟨P, 2, none⟩ = some r) :
    (mset P x y z w).cell? ⟨P, 0, none⟩ = some x ∧ (mset P x y z w).cell? ⟨P, 1, none⟩ = some y ∧ (mset P x y z w).cell? ⟨P, 2, none⟩ = some z := by
  unfold mset
  refine ⟨?_, ?_, ?_⟩
  · rw [World.cell?_setCell_other _ _ _ _ (by simp), World.cell?_setCell_other _ _ _ _ (by simp)]; exact World.cell?_setCell_same _ _ _ c0
  · rw [World.cell?_setCell_other _ _ _ _ (by simp)]; exact World.cell?_setCell_same _ _ _ ((World.cell?_setCell_other _ _ _ _ (by simp)).trans c1)
  · exact World.cell?_setCell_same _ _ _ ((World.cell?_setCell_other _ _ _ _ (by simp)).trans ((World.cell?_setCell_other _ _ _ _ (by simp)).trans c2))
theorem MW.keep {w : World} {A P b bt : Nat} {v : Value} {wx wy : World} (h : MW w A P b bt v wx) (k : Below wx.heap.size wx wy) : MW w A P b bt v wy := by
  obtain ⟨h1, h2, h3, e0, e1, e2, ⟨x, y, z, c0, c1, c2⟩, f0, f1, f2, f3⟩ := h
  have hz := k.size
  have g : ∀ (B o : Nat) (u : Value), B < wx.heap.size → wx.cell? ⟨B, o, none⟩ = some u → wy.cell? ⟨B, o, none⟩ = some u := fun B o u hB hu => (k.cell (p := ⟨B, o, none⟩) hB).trans hu
  have f : ∀ (B o : Nat), B < wx.heap.size → wx.frozen? ⟨B, o, none⟩ = false → wy.frozen? ⟨B, o, none⟩ = false := fun B o hB hu => (k.frozen (p := ⟨B, o, none⟩) hB).trans hu
  exact ⟨h1.trans (k.mono h1.size), by omega, by omega, g _ _ _ h2 e0, g _ _ _ h2 e1, g _ _ _ h2 e2, ⟨x, y, z, g _ _ _ h3 c0, g _ _ _ h3 c1, g _ _ _ h3 c2⟩, f _ _ h3 f0, f _ _ h3 f1, f _ _ h3 f2, f _ _ h2 f3⟩
theorem MW.drew {w : World} {A P b bt : Nat} {v : Value} {wx : World} (h : MW w A P b bt v wx) : MW w A P b bt v wx.drew := h.keep (Below.refl _ _).drew
theorem MW.set {w : World} {A P b bt : Nat} {v : Value} {wx : World} (h : MW w A P b bt v wx) (hAP : A ≠ P) (hP : w.heap.size ≤ P) (x y z : Value) : MW w A P b bt v (mset P x y z wx) := by
  obtain ⟨h1, h2, h3, e0, e1, e2, ⟨p, q, r, c0, c1, c2⟩, f0, f1, f2, f3⟩ := h
  obtain ⟨d0, d1, d2⟩ := mset_cells (x := x) (y := y) (z := z) c0 c1 c2
  have g : ∀ (o : Nat) (u : Value), wx.cell? ⟨A, o, none⟩ = some u → (mset P x y z wx).cell? ⟨A, o, none⟩ = some u := fun o u hu => by
    unfold mset
    rw [World.cell?_setCell_other _ _ _ _ (by simp [hAP]), World.cell?_setCell_other _ _ _ _ (by simp [hAP]), World.cell?_setCell_other _ _ _ _ (by simp [hAP])]; exact hu
  have f : ∀ B o, (mset P x y z wx).frozen? ⟨B, o, none⟩ = wx.frozen? ⟨B, o, none⟩ := fun B o => (World.frozen?_setCell _ _ _ _).trans ((World.frozen?_setCell _ _ _ _).trans (World.frozen?_setCell _ _ _ _))
  refine ⟨((h1.setCell (p := ⟨P, 0, none⟩) hP _).setCell (p := ⟨P, 1, none⟩) hP _).setCell (p := ⟨P, 2, none⟩) hP _, by simpa [mset] using h2, by simpa [mset] using h3, g _ _ e0, g _ _ e1, g _ _ e2, ⟨_, _, _, d0, d1, d2⟩, (f _ 0).trans f0, (f _ 1).trans f1, (f _ 2).trans f2, (f _ 2).trans f3⟩
theorem mw_start (w : World) (b bt : Nat) (v : Value) (x y z : Value) (e : TypeId) : MW w w.heap.size (w.heap.size + 1) b bt v ((w.alloc (.cells #[.int .u64 b, .int .u64 bt, v] e)).alloc (.cells #[x, y, z] e)) := by
  refine ⟨((Below.refl _ _).alloc (Nat.le_refl _) _).alloc (by simp) _, by simp; omega, by simp, by simp [go_sem], by simp [go_sem], by simp [go_sem], ⟨x, y, z, by simp [go_sem], by simp [go_sem], by simp [go_sem]⟩, by simp [go_sem], by simp [go_sem], by simp [go_sem], by simp [go_sem]⟩
theorem Rd.arr (w : World) (e : TypeId) (x y : Value) (hx : x.oneCell' = true) (hy : y.oneCell' = true) : Rd (w.alloc (.cells #[x, y] e)) 1 (.slice (some ⟨w.heap.size, 0, none⟩) 2 2) 2 [x, y] := by
  refine ⟨rfl, by simp [hx, hy], .inr ⟨_, _, rfl, Nat.le_refl _, fun j u hu => ?_⟩⟩
  rw [Addr.add_lit, Nat.zero_add, World.cell?_alloc_at _ _ _ _ rfl]
  simpa using hu
theorem Rd.cap {w : World} {size : Nat} {a : Option Addr} {n c : Nat} {xs : List Value} (h : Rd w size (.slice a n c) n xs) : n ≤ c := by
  obtain ⟨_, _, ⟨h1, h2⟩ | ⟨ad, c', hv, hc, _⟩⟩ := h
  · simp at h1; omega
  · cases hv; exact hc
/-- How an operation may change the world: number k stores the answer. -/
def mK (k P b bt : Nat) (v : Value) (j : Nat) (wx wy : World) : Prop := if j = k then (wy = wx ∨ wy = mset P (.int .u64 b) (.int .u64 bt) v wx) else Below wx.heap.size wx wy
theorem mk_refl (k P b bt : Nat) (v : Value) (j : Nat) (w : World) : mK k P b bt v j w w := by
  unfold mK; split
  · exact .inl rfl
  · exact Below.refl _ _
theorem mk_set (k P b bt : Nat) (v : Value) (w : World) : mK k P b bt v k w (mset P (.int .u64 b) (.int .u64 bt) v w) := by
  unfold mK; rw [if_pos rfl]; exact .inr rfl
theorem MW.step {w : World} {A P b bt : Nat} {v : Value} {k j : Nat} {wx wy : World} {b' bt' : Nat} {v' : Value} (h : MW w A P b bt v wx) (hk : mK k P b' bt' v' j wx wy) (hAP : A ≠ P := by omega) (hP : w.heap.size ≤ P := by omega) : MW w A P b bt v wy := by
  unfold mK at hk; split at hk
  · rcases hk with rfl | rfl
    · exact h
    · exact h.set hAP hP _ _ _
  · exact h.keep hk
theorem mcells_keep {k P b bt : Nat} {v : Value} {j : Nat} {wx wy : World} {x y z : Value} (hj : j ≠ k) (hk : mK k P b bt v j wx wy) (h : wx.cell? ⟨P, 0, none⟩ = some x ∧ wx.cell? ⟨P, 1, none⟩ = some y ∧ wx.cell? ⟨P, 2, none⟩ = some z) :
    wy.cell? ⟨P, 0, none⟩ = some x ∧ wy.cell? ⟨P, 1, none⟩ = some y ∧ wy.cell? ⟨P, 2, none⟩ = some z := by
  unfold mK at hk
  rw [if_neg hj] at hk
  have g : ∀ (o : Nat) (u : Value), wx.cell? ⟨P, o, none⟩ = some u → wy.cell? ⟨P, o, none⟩ = some u := fun o u hu => (hk.cell (p := ⟨P, o, none⟩) (World.block_lt_of_cell? _ _ hu)).trans hu
  exact ⟨g _ _ h.1, g _ _ h.2.1, g _ _ h.2.2⟩

/-- What each operation hands on. -/
def mgFp (P b bt : Nat) (es : List EE) (a : Option Addr) (c : Nat) (x : Nat) : Nat → Value → World → Prop
  | 0, v, _ => v = .agg #[.int .u64 b, .int .u64 bt, .slice a es.length c]
  | 1, v, _ => v = .agg #[.int .u64 b, .int .u64 bt, .slice a es.length c]
  | 2, v, _ => v = .int .u64 ((b + es.length : Nat) : Int)
  | 3, v, _ => v = .int .u64 ((b + es.length + 1 : Nat) : Int)
  | 4, v, _ => v = .pointer (some ⟨x, 0, none⟩)
  | 5, v, _ => v = .int .u64 b
  | 6, v, w => w.cell? ⟨P, 0, none⟩ = some (.int .u64 b) ∧ w.cell? ⟨P, 1, none⟩ = some (.int .u64 bt) ∧ w.cell? ⟨P, 2, none⟩ = some (.slice a es.length c)
  | 7, v, w => v = .int .u64 ((b + es.length + 1 : Nat) : Int) ∧ w.cell? ⟨P, 0, none⟩ = some (.int .u64 b) ∧ w.cell? ⟨P, 1, none⟩ = some (.int .u64 bt) ∧ w.cell? ⟨P, 2, none⟩ = some (.slice a es.length c)
  | 8, v, _ => v = .int .u64 b
  | 9, v, _ => v = .bool true
  | _, _, _ => True

set_option maxHeartbeats 4000000 in
theorem mergeA_p (b bt : Nat) (v : Value) (es : List EE) (i t : Nat) (lv : Value) (ls : List EE) (w : World) (hb : b ≤ 4611686018427387904) (hl : es.length ≤ 140737488355328) (hr : Rd w 6 v es.length (ecells es))
    (hll : ls.length ≤ 140737488355328) (hlr : Rd w 6 lv ls.length (ecells ls)) (hi : i < b) (hk : ls.length ≤ b - i) :
    Calls Try.prog 9 #[.agg #[.int .u64 b, .int .u64 bt, v], .int .u64 i, .int .u64 t, lv] w fun e w' => e = .returned (.tuple #[.agg #[.int .u64 b, .int .u64 bt, v], .int .u64 ((b + es.length + 1 : Nat) : Int), .int .u64 b, .bool true]) ∧ Below w.heap.size w w' := by
  obtain ⟨a, c, rfl⟩ := hr.form
  obtain ⟨la, lc, rfl⟩ := hlr.form
  have hz1 : (i : Int) < (b : Int) := by omega
  have hw1 : IntKind.u64.wrap ((b : Int) - (i : Int)) = ((b - i : Nat) : Int) := by rw [IntWalk.u64_in _ (by omega)]; omega
  have hz2 : (ls.length : Int) ≤ ((b - i : Nat) : Int) := by omega
  generalize b - i = d at *
  go_enter Try.func9, Try.ntmps9
  go_wp2_with fail
  obtain ⟨w2, hMW⟩ : ∃ x : World, x = (w.alloc (.cells #[.int .u64 b, .int .u64 bt, .slice a es.length c] 25)).alloc (.cells #[.int .u64 0, .int .u64 0, .slice none 0 0] 25) := ⟨_, rfl⟩
  rw [← hMW]
  replace hMW : MW w w.heap.size (w.heap.size + 1) b bt (.slice a es.length c) w2 := by rw [hMW]; exact mw_start w _ _ _ _ _ _ _
  clear hlr hr
  refine wp_region_steps [some 31, some 32, some 33, some 34, some 35, some 36, none, some 9, some 10, some 11] [] (mgFp (w.heap.size + 1) b bt es a c w.heap.size) (mK 6 (w.heap.size + 1) b bt (.slice a es.length c)) (fun wx => MW w w.heap.size (w.heap.size + 1) b bt (.slice a es.length c) wx) (by kernel_rfl) (by kernel_rfl) rfl (by kernel_rfl) hMW.drew (mk_refl _ _ _ _ _) (fun j wx wy h k => MW.step h k) ?hF ?hstep ?hend
  case hF =>
    exact ⟨fun _ _ _ _ _ _ h => h, ⟨fun _ _ _ _ _ _ h => h, ⟨fun _ _ _ _ _ _ h => h, ⟨fun _ _ _ _ _ _ h => h, ⟨fun _ _ _ _ _ _ h => h, ⟨fun _ _ _ _ _ _ h => h, ⟨fun j hg _ _ _ k h => mcells_keep (fun e => by subst e; exact absurd hg (by rw [show goneB _ 6 6 = true by kernel_rfl]; simp)) k h, ⟨fun j hg _ _ _ k h => ⟨h.1, mcells_keep (fun e => by subst e; exact absurd hg (by rw [show goneB _ 7 6 = true by kernel_rfl]; simp)) k h.2⟩, ⟨fun _ _ _ _ _ _ h => h, ⟨fun _ _ _ _ _ _ h => h, trivial⟩⟩⟩⟩⟩⟩⟩⟩⟩⟩
  case hstep =>
    -- operation 0: Op.load 25 (tmp 4)
    refine ⟨fun r wx hG hs hq hf => ?_, ?_⟩
    · have e4 : r 4 = .pointer (some ⟨w.heap.size, 0, none⟩) := hs 4 rfl
      refine (if_pos rfl).symm ▸ ?_
      clear hs hq hf
      unfold gives
      obtain ⟨m1, m2, m3, e0, e1, e2, m7, m8, m9⟩ := hG
      go_simp
      exact ⟨mk_refl _ _ _ _ _ _ _, rfl⟩
    -- operation 1: Op.load 25 (tmp 4)
    refine ⟨fun r wx hG hs hq hf => ?_, ?_⟩
    · have e4 : r 4 = .pointer (some ⟨w.heap.size, 0, none⟩) := hs 4 rfl
      refine (if_pos rfl).symm ▸ ?_
      clear hs hq hf
      unfold gives
      obtain ⟨m1, m2, m3, e0, e1, e2, m7, m8, m9⟩ := hG
      go_simp
      exact ⟨mk_refl _ _ _ _ _ _ _, rfl⟩
    -- operation 2: Op.call ( callee := Callee.value (func 14), args := #[tmp 32], argTypes := #[25] )
    refine ⟨fun r wx hG hs hq hf => ?_, ?_⟩
    · have h1 : r 32 = .agg #[.int .u64 b, .int .u64 bt, .slice a es.length c] := hf.1
      refine (if_pos rfl).symm ▸ ?_
      clear hs hq hf
      unfold gives
      have hM := hG
      obtain ⟨m1, m2, m3, e0, e1, e2, m7, m8, m9⟩ := hG
      go_simp
      refine (Last_any b bt es.length c a wx hb hl).mono ?_
      rintro e wy ⟨rfl, hb1⟩
      exact ⟨_, rfl, hb1, rfl⟩
    -- operation 3: Op.binOp BinOp.add 22 (tmp 33) (const (Value.int IntKind.u64 1)) 22
    refine ⟨fun r wx hG hs hq hf => ?_, ?_⟩
    · have h2 : r 33 = .int .u64 ((b + es.length : Nat) : Int) := hf.1
      refine (if_pos rfl).symm ▸ ?_
      clear hs hq hf
      unfold gives
      have hw : IntKind.u64.wrap ((b : Int) + (es.length : Int) + 1) = (b : Int) + (es.length : Int) + 1 := IntWalk.u64_in _ (by omega)
      go_simp
      exact ⟨mk_refl _ _ _ _ _ _ _, congrArg (Value.int .u64) (by omega)⟩
    -- operation 4: Op.fieldAddr 25 (tmp 4) 0
    refine ⟨fun r wx hG hs hq hf => ?_, ?_⟩
    · have e4 : r 4 = .pointer (some ⟨w.heap.size, 0, none⟩) := hs 4 rfl
      refine (if_pos rfl).symm ▸ ?_
      clear hs hq hf
      unfold gives
      go_simp
      exact ⟨mk_refl _ _ _ _ _ _ _, rfl⟩
    -- operation 5: Op.load 22 (tmp 35)
    refine ⟨fun r wx hG hs hq hf => ?_, ?_⟩
    · have h4 : r 35 = .pointer (some ⟨w.heap.size, 0, none⟩) := hf.1
      refine (if_pos rfl).symm ▸ ?_
      clear hs hq hf
      unfold gives
      obtain ⟨m1, m2, m3, e0, e1, e2, m7, m8, m9⟩ := hG
      go_simp
      exact ⟨mk_refl _ _ _ _ _ _ _, rfl⟩
    -- operation 6: Op.store 25 (tmp 8) (tmp 31)
    refine ⟨fun r wx hG hs hq hf => ?_, ?_⟩
    · have e8 : r 8 = .pointer (some ⟨w.heap.size + 1, 0, none⟩) := hs 8 rfl
      have h0 : r 31 = .agg #[.int .u64 b, .int .u64 bt, .slice a es.length c] := hf.1
      refine (if_pos rfl).symm ▸ ?_
      clear hs hq hf
      unfold gives
      have hM := hG
      obtain ⟨m1, m2, m3, e0, e1, e2, ⟨x0, x1, x2, c0, c1, c2⟩, f0, m9⟩ := hG
      have f1 := m9.1
      have f2 := m9.2.1
      go_simp
      exact ⟨mk_set _ _ _ _ _ _, mset_cells c0 c1 c2⟩
    -- operation 7: Op.assign (tmp 34)
    refine ⟨fun r wx hG hs hq hf => ?_, ?_⟩
    · have h3 : r 34 = .int .u64 ((b + es.length + 1 : Nat) : Int) := hf.1
      have h6 : wx.cell? ⟨w.heap.size + 1, 0, none⟩ = some (.int .u64 b) ∧ wx.cell? ⟨w.heap.size + 1, 1, none⟩ = some (.int .u64 bt) ∧ wx.cell? ⟨w.heap.size + 1, 2, none⟩ = some (.slice a es.length c) := hf.2.1
      refine (if_pos rfl).symm ▸ ?_
      clear hs hq hf
      unfold gives
      go_simp
      exact ⟨mk_refl _ _ _ _ _ _ _, rfl, h6⟩
    -- operation 8: Op.assign (tmp 36)
    refine ⟨fun r wx hG hs hq hf => ?_, ?_⟩
    · have h5 : r 36 = .int .u64 b := hf.1
      have h7 : (r 9) = .int .u64 ((b + es.length + 1 : Nat) : Int) ∧ wx.cell? ⟨w.heap.size + 1, 0, none⟩ = some (.int .u64 b) ∧ wx.cell? ⟨w.heap.size + 1, 1, none⟩ = some (.int .u64 bt) ∧ wx.cell? ⟨w.heap.size + 1, 2, none⟩ = some (.slice a es.length c) := hf.2.1
      refine (if_pos rfl).symm ▸ ?_
      clear hs hq hf
      unfold gives
      go_simp
      exact ⟨mk_refl _ _ _ _ _ _ _, rfl⟩
    -- operation 9: Op.assign (const (Value.bool true))
    refine ⟨fun r wx hG hs hq hf => ?_, ?_⟩
    · refine (if_pos rfl).symm ▸ ?_
      clear hs hq hf
      unfold gives
      go_simp
      exact ⟨mk_refl _ _ _ _ _ _ _, rfl⟩
    exact trivial
  case hend =>
    intro u wz hG hfin
    have z7 : (u 7) = .int .u64 ((b + es.length + 1 : Nat) : Int) ∧ wz.cell? ⟨w.heap.size + 1, 0, none⟩ = some (.int .u64 b) ∧ wz.cell? ⟨w.heap.size + 1, 1, none⟩ = some (.int .u64 bt) ∧ wz.cell? ⟨w.heap.size + 1, 2, none⟩ = some (.slice a es.length c) := hfin 7 (by decide) (by kernel_rfl)
    have z8 : u 8 = .int .u64 b := hfin 8 (by decide) (by kernel_rfl)
    have z9 : u 9 = .bool true := hfin 9 (by decide) (by kernel_rfl)
    clear hfin
    simp only [fill]
    obtain ⟨z7, c0, c1, c2⟩ := z7
    have hbl := hG.1
    go_simp
    go_wp2_with fail
    exact bodyPost_ret (v := .tuple #[.agg #[.int .u64 b, .int .u64 bt, .slice a es.length c], .int .u64 ((b + es.length + 1 : Nat) : Int), .int .u64 b, .bool true]) (by simp [results, Try.results9, go_sem, c0, c1, c2]) rfl ⟨rfl, hbl⟩
/-- What each operation hands on. -/
def mgFr (P b bt : Nat) (es : List EE) (a : Option Addr) (c : Nat) (x : Nat) : Nat → Value → World → Prop
  | 0, v, _ => v = .agg #[.int .u64 b, .int .u64 bt, .slice a es.length c]
  | 1, v, _ => v = .agg #[.int .u64 b, .int .u64 bt, .slice a es.length c]
  | 2, v, _ => v = .int .u64 ((b + es.length : Nat) : Int)
  | 3, v, _ => v = .int .u64 ((b + es.length + 1 : Nat) : Int)
  | 4, v, _ => v = .pointer (some ⟨x, 0, none⟩)
  | 5, v, _ => v = .int .u64 b
  | 6, v, w => w.cell? ⟨P, 0, none⟩ = some (.int .u64 b) ∧ w.cell? ⟨P, 1, none⟩ = some (.int .u64 bt) ∧ w.cell? ⟨P, 2, none⟩ = some (.slice a es.length c)
  | 7, v, w => v = .int .u64 ((b + es.length + 1 : Nat) : Int) ∧ w.cell? ⟨P, 0, none⟩ = some (.int .u64 b) ∧ w.cell? ⟨P, 1, none⟩ = some (.int .u64 bt) ∧ w.cell? ⟨P, 2, none⟩ = some (.slice a es.length c)
  | 8, v, _ => v = .int .u64 b
  | 9, v, _ => v = .bool true
  | _, _, _ => True

set_option maxHeartbeats 4000000 in
theorem mergeA_r (b bt : Nat) (v : Value) (es : List EE) (i t : Nat) (lv : Value) (ls : List EE) (w : World) (hb : b ≤ 4611686018427387904) (hl : es.length ≤ 140737488355328) (hr : Rd w 6 v es.length (ecells es))
    (hll : ls.length ≤ 140737488355328) (hlr : Rd w 6 lv ls.length (ecells ls)) (hi : i < b) (hk : ls.length ≤ b - i) :
    Calls Try.prog 10 #[.agg #[.int .u64 b, .int .u64 bt, v], .int .u64 i, .int .u64 t, lv] w fun e w' => e = .returned (.tuple #[.agg #[.int .u64 b, .int .u64 bt, v], .int .u64 ((b + es.length + 1 : Nat) : Int), .int .u64 b, .bool true]) ∧ Below w.heap.size w w' := by
  obtain ⟨a, c, rfl⟩ := hr.form
  obtain ⟨la, lc, rfl⟩ := hlr.form
  have hz1 : (i : Int) < (b : Int) := by omega
  have hw1 : IntKind.u64.wrap ((b : Int) - (i : Int)) = ((b - i : Nat) : Int) := by rw [IntWalk.u64_in _ (by omega)]; omega
  have hz2 : (ls.length : Int) ≤ ((b - i : Nat) : Int) := by omega
  generalize b - i = d at *
  go_enter Try.func10, Try.ntmps10
  go_wp2_with fail
  obtain ⟨w2, hMW⟩ : ∃ x : World, x = (w.alloc (.cells #[.int .u64 b, .int .u64 bt, .slice a es.length c] 25)).alloc (.cells #[.int .u64 0, .int .u64 0, .slice none 0 0] 25) := ⟨_, rfl⟩
  rw [← hMW]
  replace hMW : MW w w.heap.size (w.heap.size + 1) b bt (.slice a es.length c) w2 := by rw [hMW]; exact mw_start w _ _ _ _ _ _ _
  clear hlr hr
  refine wp_region_steps [some 32, some 33, some 34, some 35, some 36, some 37, none, some 9, some 10, some 11] [] (mgFr (w.heap.size + 1) b bt es a c w.heap.size) (mK 6 (w.heap.size + 1) b bt (.slice a es.length c)) (fun wx => MW w w.heap.size (w.heap.size + 1) b bt (.slice a es.length c) wx) (by kernel_rfl) (by kernel_rfl) rfl (by kernel_rfl) hMW.drew (mk_refl _ _ _ _ _) (fun j wx wy h k => MW.step h k) ?hF ?hstep ?hend
  case hF =>
    exact ⟨fun _ _ _ _ _ _ h => h, ⟨fun _ _ _ _ _ _ h => h, ⟨fun _ _ _ _ _ _ h => h, ⟨fun _ _ _ _ _ _ h => h, ⟨fun _ _ _ _ _ _ h => h, ⟨fun _ _ _ _ _ _ h => h, ⟨fun j hg _ _ _ k h => mcells_keep (fun e => by subst e; exact absurd hg (by rw [show goneB _ 6 6 = true by kernel_rfl]; simp)) k h, ⟨fun j hg _ _ _ k h => ⟨h.1, mcells_keep (fun e => by subst e; exact absurd hg (by rw [show goneB _ 7 6 = true by kernel_rfl]; simp)) k h.2⟩, ⟨fun _ _ _ _ _ _ h => h, ⟨fun _ _ _ _ _ _ h => h, trivial⟩⟩⟩⟩⟩⟩⟩⟩⟩⟩
  case hstep =>
    -- operation 0: Op.load 25 (tmp 4)
    refine ⟨fun r wx hG hs hq hf => ?_, ?_⟩
    · have e4 : r 4 = .pointer (some ⟨w.heap.size, 0, none⟩) := hs 4 rfl
      refine (if_pos rfl).symm ▸ ?_
      clear hs hq hf
      unfold gives
      obtain ⟨m1, m2, m3, e0, e1, e2, m7, m8, m9⟩ := hG
      go_simp
      exact ⟨mk_refl _ _ _ _ _ _ _, rfl⟩
    -- operation 1: Op.load 25 (tmp 4)
    refine ⟨fun r wx hG hs hq hf => ?_, ?_⟩
    · have e4 : r 4 = .pointer (some ⟨w.heap.size, 0, none⟩) := hs 4 rfl
      refine (if_pos rfl).symm ▸ ?_
      clear hs hq hf
      unfold gives
      obtain ⟨m1, m2, m3, e0, e1, e2, m7, m8, m9⟩ := hG
      go_simp
      exact ⟨mk_refl _ _ _ _ _ _ _, rfl⟩
    -- operation 2: Op.call ( callee := Callee.value (func 18), args := #[tmp 33], argTypes := #[25] )
    refine ⟨fun r wx hG hs hq hf => ?_, ?_⟩
    · have h1 : r 33 = .agg #[.int .u64 b, .int .u64 bt, .slice a es.length c] := hf.1
      refine (if_pos rfl).symm ▸ ?_
      clear hs hq hf
      unfold gives
      have hM := hG
      obtain ⟨m1, m2, m3, e0, e1, e2, m7, m8, m9⟩ := hG
      go_simp
      refine (RLast_any b bt es.length c a wx hb hl).mono ?_
      rintro e wy ⟨rfl, hb1⟩
      exact ⟨_, rfl, hb1, rfl⟩
    -- operation 3: Op.binOp BinOp.add 22 (tmp 34) (const (Value.int IntKind.u64 1)) 22
    refine ⟨fun r wx hG hs hq hf => ?_, ?_⟩
    · have h2 : r 34 = .int .u64 ((b + es.length : Nat) : Int) := hf.1
      refine (if_pos rfl).symm ▸ ?_
      clear hs hq hf
      unfold gives
      have hw : IntKind.u64.wrap ((b : Int) + (es.length : Int) + 1) = (b : Int) + (es.length : Int) + 1 := IntWalk.u64_in _ (by omega)
      go_simp
      exact ⟨mk_refl _ _ _ _ _ _ _, congrArg (Value.int .u64) (by omega)⟩
    -- operation 4: Op.fieldAddr 25 (tmp 4) 0
    refine ⟨fun r wx hG hs hq hf => ?_, ?_⟩
    · have e4 : r 4 = .pointer (some ⟨w.heap.size, 0, none⟩) := hs 4 rfl
      refine (if_pos rfl).symm ▸ ?_
      clear hs hq hf
      unfold gives
      go_simp
      exact ⟨mk_refl _ _ _ _ _ _ _, rfl⟩
    -- operation 5: Op.load 22 (tmp 36)
    refine ⟨fun r wx hG hs hq hf => ?_, ?_⟩
    · have h4 : r 36 = .pointer (some ⟨w.heap.size, 0, none⟩) := hf.1
      refine (if_pos rfl).symm ▸ ?_
      clear hs hq hf
      unfold gives
      obtain ⟨m1, m2, m3, e0, e1, e2, m7, m8, m9⟩ := hG
      go_simp
      exact ⟨mk_refl _ _ _ _ _ _ _, rfl⟩
    -- operation 6: Op.store 25 (tmp 8) (tmp 32)
    refine ⟨fun r wx hG hs hq hf => ?_, ?_⟩
    · have e8 : r 8 = .pointer (some ⟨w.heap.size + 1, 0, none⟩) := hs 8 rfl
      have h0 : r 32 = .agg #[.int .u64 b, .int .u64 bt, .slice a es.length c] := hf.1
      refine (if_pos rfl).symm ▸ ?_
      clear hs hq hf
      unfold gives
      have hM := hG
      obtain ⟨m1, m2, m3, e0, e1, e2, ⟨x0, x1, x2, c0, c1, c2⟩, f0, m9⟩ := hG
      have f1 := m9.1
      have f2 := m9.2.1
      go_simp
      exact ⟨mk_set _ _ _ _ _ _, mset_cells c0 c1 c2⟩
    -- operation 7: Op.assign (tmp 35)
    refine ⟨fun r wx hG hs hq hf => ?_, ?_⟩
    · have h3 : r 35 = .int .u64 ((b + es.length + 1 : Nat) : Int) := hf.1
      have h6 : wx.cell? ⟨w.heap.size + 1, 0, none⟩ = some (.int .u64 b) ∧ wx.cell? ⟨w.heap.size + 1, 1, none⟩ = some (.int .u64 bt) ∧ wx.cell? ⟨w.heap.size + 1, 2, none⟩ = some (.slice a es.length c) := hf.2.1
      refine (if_pos rfl).symm ▸ ?_
      clear hs hq hf
      unfold gives
      go_simp
      exact ⟨mk_refl _ _ _ _ _ _ _, rfl, h6⟩
    -- operation 8: Op.assign (tmp 37)
    refine ⟨fun r wx hG hs hq hf => ?_, ?_⟩
    · have h5 : r 37 = .int .u64 b := hf.1
      have h7 : (r 9) = .int .u64 ((b + es.length + 1 : Nat) : Int) ∧ wx.cell? ⟨w.heap.size + 1, 0, none⟩ = some (.int .u64 b) ∧ wx.cell? ⟨w.heap.size + 1, 1, none⟩ = some (.int .u64 bt) ∧ wx.cell? ⟨w.heap.size + 1, 2, none⟩ = some (.slice a es.length c) := hf.2.1
      refine (if_pos rfl).symm ▸ ?_
      clear hs hq hf
      unfold gives
      go_simp
      exact ⟨mk_refl _ _ _ _ _ _ _, rfl⟩
    -- operation 9: Op.assign (const (Value.bool true))
    refine ⟨fun r wx hG hs hq hf => ?_, ?_⟩
    · refine (if_pos rfl).symm ▸ ?_
      clear hs hq hf
      unfold gives
      go_simp
      exact ⟨mk_refl _ _ _ _ _ _ _, rfl⟩
    exact trivial
  case hend =>
    intro u wz hG hfin
    have z7 : (u 7) = .int .u64 ((b + es.length + 1 : Nat) : Int) ∧ wz.cell? ⟨w.heap.size + 1, 0, none⟩ = some (.int .u64 b) ∧ wz.cell? ⟨w.heap.size + 1, 1, none⟩ = some (.int .u64 bt) ∧ wz.cell? ⟨w.heap.size + 1, 2, none⟩ = some (.slice a es.length c) := hfin 7 (by decide) (by kernel_rfl)
    have z8 : u 8 = .int .u64 b := hfin 8 (by decide) (by kernel_rfl)
    have z9 : u 9 = .bool true := hfin 9 (by decide) (by kernel_rfl)
    clear hfin
    simp only [fill]
    obtain ⟨z7, c0, c1, c2⟩ := z7
    have hbl := hG.1
    go_simp
    go_wp2_with fail
    exact bodyPost_ret (v := .tuple #[.agg #[.int .u64 b, .int .u64 bt, .slice a es.length c], .int .u64 ((b + es.length + 1 : Nat) : Int), .int .u64 b, .bool true]) (by simp [results, Try.results10, go_sem, c0, c1, c2]) rfl ⟨rfl, hbl⟩
/-- What each operation hands on. -/
def mgB (P b bt : Nat) (es : List EE) (a : Option Addr) (c : Nat) (x : Nat) : Nat → Value → World → Prop
  | 0, v, _ => v = .agg #[.int .u64 b, .int .u64 bt, .slice a es.length c]
  | 1, v, _ => v = .agg #[.int .u64 b, .int .u64 bt, .slice a es.length c]
  | 2, v, _ => v = .int .u64 ((b + es.length : Nat) : Int)
  | 3, v, _ => v = .int .u64 ((b + es.length + 1 : Nat) : Int)
  | 4, v, _ => v = .int .u64 x
  | 5, v, w => w.cell? ⟨P, 0, none⟩ = some (.int .u64 b) ∧ w.cell? ⟨P, 1, none⟩ = some (.int .u64 bt) ∧ w.cell? ⟨P, 2, none⟩ = some (.slice a es.length c)
  | 6, v, w => v = .int .u64 ((b + es.length + 1 : Nat) : Int) ∧ w.cell? ⟨P, 0, none⟩ = some (.int .u64 b) ∧ w.cell? ⟨P, 1, none⟩ = some (.int .u64 bt) ∧ w.cell? ⟨P, 2, none⟩ = some (.slice a es.length c)
  | 7, v, _ => v = .int .u64 x
  | 8, v, _ => v = .bool true
  | _, _, _ => True
/-- What each operation hands on. -/
def mrB (P b bt : Nat) (es : List EE) (a : Option Addr) (c : Nat) (x : Nat) : Nat → Value → World → Prop
  | 0, v, _ => v = .agg #[.int .u64 b, .int .u64 bt, .slice a es.length c]
  | 1, v, _ => v = .agg #[.int .u64 b, .int .u64 bt, .slice a es.length c]
  | 2, v, _ => v = .int .u64 ((b + es.length : Nat) : Int)
  | 3, v, _ => v = .int .u64 ((b + es.length + 1 : Nat) : Int)
  | 4, v, _ => v = .int .u64 x
  | 5, v, w => w.cell? ⟨P, 0, none⟩ = some (.int .u64 b) ∧ w.cell? ⟨P, 1, none⟩ = some (.int .u64 bt) ∧ w.cell? ⟨P, 2, none⟩ = some (.slice a es.length c)
  | 6, v, w => v = .int .u64 ((b + es.length + 1 : Nat) : Int) ∧ w.cell? ⟨P, 0, none⟩ = some (.int .u64 b) ∧ w.cell? ⟨P, 1, none⟩ = some (.int .u64 bt) ∧ w.cell? ⟨P, 2, none⟩ = some (.slice a es.length c)
  | 7, v, _ => v = .int .u64 x
  | 8, v, _ => v = .bool true
  | _, _, _ => True
end Go.Proofs.Yteflpphpbecciaa
