/- The law RowsFollow: what stays from round to round; pieces of a slice. -/
import Derived.Test.YteflpphpbecciaaFollowT
namespace Go.Proofs.Yteflpphpbecciaa
open Go.RowKit

theorem below_mset {B : Nat} {w w' : World} (h : Below B w w') {g : Nat} (hg : B ≤ g) (x y z : Value) : Below B w (mset g x y z w') :=
  ((h.setCell (p := ⟨g, 0, none⟩) hg _).setCell (p := ⟨g, 1, none⟩) hg _).setCell (p := ⟨g, 2, none⟩) hg _
theorem mset_frozen (g : Nat) (x y z : Value) (w : World) (p : Addr) : (mset g x y z w).frozen? p = w.frozen? p :=
  (World.frozen?_setCell _ _ _ _).trans ((World.frozen?_setCell _ _ _ _).trans (World.frozen?_setCell _ _ _ _))
theorem C3.mset {w : World} {G g : Nat} {a b c : Value} (h : C3 w G a b c) (hne : G ≠ g) (x y z : Value) : C3 (mset g x y z w) G a b c := by
  obtain ⟨h0, h1, h2, h3⟩ := h
  have e : ∀ o u, w.cell? ⟨G, o, none⟩ = some u → (Go.Proofs.Yteflpphpbecciaa.mset g x y z w).cell? ⟨G, o, none⟩ = some u := fun o u hu => by
    unfold Go.Proofs.Yteflpphpbecciaa.mset
    rw [World.cell?_setCell_other _ _ _ _ (by intro e; injection e with e; exact hne e.symm), World.cell?_setCell_other _ _ _ _ (by intro e; injection e with e; exact hne e.symm), World.cell?_setCell_other _ _ _ _ (by intro e; injection e with e; exact hne e.symm)]
    exact hu
  exact ⟨by simpa [Go.Proofs.Yteflpphpbecciaa.mset] using h0, e _ _ h1, e _ _ h2, e _ _ h3⟩
theorem frz_keep {w w' : World} {g : Nat} (h : w.frozen? ⟨g, 0, none⟩ = false ∧ w.frozen? ⟨g, 1, none⟩ = false ∧ w.frozen? ⟨g, 2, none⟩ = false) (hg : g < w.heap.size) (hb : Below w.heap.size w w') :
    w'.frozen? ⟨g, 0, none⟩ = false ∧ w'.frozen? ⟨g, 1, none⟩ = false ∧ w'.frozen? ⟨g, 2, none⟩ = false :=
  ⟨(hb.frozen (p := ⟨g, 0, none⟩) hg).trans h.1, (hb.frozen (p := ⟨g, 1, none⟩) hg).trans h.2.1, (hb.frozen (p := ⟨g, 2, none⟩) hg).trans h.2.2⟩

/-- What stays: the log that follows (at G12), the leader's (at G13). -/
def FW (w : World) (G12 G13 : Nat) (lv : Value) (E : List EE) (v12 : Value) (wr : World) : Prop :=
  C3 wr G12 (.int .u64 0) (.int .u64 0) v12 ∧ L3 wr G12 ∧ (wr.frozen? ⟨G12, 0, none⟩ = false ∧ wr.frozen? ⟨G12, 1, none⟩ = false ∧ wr.frozen? ⟨G12, 2, none⟩ = false) ∧ C3 wr G13 (.int .u64 0) (.int .u64 0) lv ∧ Rd wr 6 v12 E.length (ecells E) ∧ Below w.heap.size w wr
theorem FW.keep {w : World} {G12 G13 : Nat} {lv : Value} {E : List EE} {v12 : Value} {wr wx : World} (h : FW w G12 G13 lv E v12 wr) (k : Below wr.heap.size wr wx) : FW w G12 G13 lv E v12 wx := by
  obtain ⟨h1, h2, h3, h4, h5, h6⟩ := h
  exact ⟨h1.keep k, h2.keep h1.1 k, frz_keep h3 h1.1 k, h4.keep k, h5.keep k, h6.trans (k.mono h6.size)⟩
/-- Something is stored in another log's struct. -/
theorem FW.other {w : World} {G12 G13 : Nat} {lv : Value} {E : List EE} {v12 : Value} {wr : World} (h : FW w G12 G13 lv E v12 wr) {g : Nat} (h12 : G12 ≠ g) (h13 : G13 ≠ g) (hw : w.heap.size ≤ g) (hl : L3 wr g) (x y z : Value) : FW w G12 G13 lv E v12 (mset g x y z wr) := by
  obtain ⟨h1, h2, h3, h4, h5, h6⟩ := h
  exact ⟨h1.mset h12 _ _ _, L3.set h2 _ _ _, ⟨(mset_frozen _ _ _ _ _ _).trans h3.1, (mset_frozen _ _ _ _ _ _).trans h3.2.1, (mset_frozen _ _ _ _ _ _).trans h3.2.2⟩, h4.mset h13 _ _ _, rd_set3 h5 hl _ _ _, below_mset h6 hw _ _ _⟩

/-- The log that follows is stored anew. -/
theorem FW.store {w : World} {G12 G13 : Nat} {lv : Value} {E : List EE} {v12 : Value} {wr : World} (h : FW w G12 G13 lv E v12 wr) (hne : G13 ≠ G12) (hw : w.heap.size ≤ G12) {es : List EE} {v9 : Value} (h9 : Rd wr 6 v9 es.length (ecells es)) :
    FW w G12 G13 lv es v9 (mset G12 (.int .u64 0) (.int .u64 0) v9 wr) := by
  obtain ⟨⟨c0, c1, c2, c3⟩, h2, h3, h4, h5, h6⟩ := h
  obtain ⟨d0, d1, d2⟩ := mset_cells (x := .int .u64 0) (y := .int .u64 0) (z := v9) c1 c2 c3
  exact ⟨⟨by simpa [mset] using c0, d0, d1, d2⟩, L3.set h2 _ _ _, ⟨(mset_frozen _ _ _ _ _ _).trans h3.1, (mset_frozen _ _ _ _ _ _).trans h3.2.1, (mset_frozen _ _ _ _ _ _).trans h3.2.2⟩, h4.mset hne _ _ _, rd_set3 h9 h2 _ _ _, below_mset h6 hw _ _ _⟩
theorem tl0_ok (w : World) (l : List EE) : ESok w (tl0 l) := by
  intro e he
  obtain ⟨t, _, rfl⟩ := List.mem_map.1 he
  exact ⟨[], [], Rd.nil _ _, Rd.nil _ _, by simp, by simp⟩
theorem tl0_agree {E L : List EE} {m : Nat} (h : Agree E L m) : tl0 (L.take m) = tl0 (E.take m) := by unfold tl0; rw [agree_terms h]
theorem tl0_len (l : List EE) : (tl0 l).length = l.length := by simp [tl0]
/-- Another log's struct, to be stored into. -/
def GS (g : Nat) (w : World) : Prop := L3 w g ∧ (w.frozen? ⟨g, 0, none⟩ = false ∧ w.frozen? ⟨g, 1, none⟩ = false ∧ w.frozen? ⟨g, 2, none⟩ = false) ∧ ∃ x y z, C3 w g x y z
theorem GS.keep {g : Nat} {w w' : World} (h : GS g w) (k : Below w.heap.size w w') : GS g w' := by
  obtain ⟨h1, h2, x, y, z, h3⟩ := h
  exact ⟨h1.keep h3.1 k, frz_keep h2 h3.1 k, x, y, z, h3.keep k⟩
theorem GS.set {g : Nat} {w : World} (h : GS g w) (X Y Z : Value) : GS g (mset g X Y Z w) := by
  obtain ⟨h1, h2, x, y, z, c0, c1, c2, c3⟩ := h
  obtain ⟨d0, d1, d2⟩ := mset_cells (x := X) (y := Y) (z := Z) c1 c2 c3
  exact ⟨L3.set h1 _ _ _, ⟨(mset_frozen _ _ _ _ _ _).trans h2.1, (mset_frozen _ _ _ _ _ _).trans h2.2.1, (mset_frozen _ _ _ _ _ _).trans h2.2.2⟩, X, Y, Z, by simpa [mset] using c0, d0, d1, d2⟩
theorem GS.other {g G : Nat} {w : World} (h : GS g w) (hne : g ≠ G) (X Y Z : Value) : GS g (mset G X Y Z w) := by
  obtain ⟨h1, h2, x, y, z, h3⟩ := h
  exact ⟨L3.set h1 _ _ _, ⟨(mset_frozen _ _ _ _ _ _).trans h2.1, (mset_frozen _ _ _ _ _ _).trans h2.2.1, (mset_frozen _ _ _ _ _ _).trans h2.2.2⟩, x, y, z, h3.mset hne _ _ _⟩
/-- How an operation may change the world: number s stores at g. -/
def gmK (s g : Nat) (j : Nat) (wx wy : World) : Prop := if j = s then (wy = wx ∨ ∃ x y z, L3 wx g ∧ wy = mset g x y z wx) else Below wx.heap.size wx wy
theorem gmk_refl (s g j : Nat) (w : World) : gmK s g j w w := by
  unfold gmK; split
  · exact .inl rfl
  · exact Below.refl _ _
theorem gmk_of {s g j : Nat} {wx wy : World} (hj : j ≠ s) (h : Below wx.heap.size wx wy) : gmK s g j wx wy := by unfold gmK; rw [if_neg hj]; exact h
theorem gmk_set (s g : Nat) (w : World) (hl : L3 w g) (x y z : Value) : gmK s g s w (mset g x y z w) := by unfold gmK; rw [if_pos rfl]; exact .inr ⟨x, y, z, hl, rfl⟩
theorem gmk_below {s g j : Nat} {wx wy : World} (hj : j ≠ s) (h : gmK s g j wx wy) : Below wx.heap.size wx wy := by unfold gmK at h; rw [if_neg hj] at h; exact h
theorem gm_step {w : World} {G12 G13 : Nat} {lv : Value} {E : List EE} {v12 : Value} {s g j : Nat} {wx wy : World} (h12 : G12 ≠ g) (h13 : G13 ≠ g) (hw : w.heap.size ≤ g) (h : FW w G12 G13 lv E v12 wx ∧ GS g wx) (k : gmK s g j wx wy) :
    FW w G12 G13 lv E v12 wy ∧ GS g wy := by
  unfold gmK at k; split at k
  · rcases k with rfl | ⟨x, y, z, hl, rfl⟩
    · exact h
    · exact ⟨h.1.other h12 h13 hw h.2.1 x y z, h.2.set x y z⟩
  · exact ⟨h.1.keep k, h.2.keep k⟩
theorem gm_rd {s g j : Nat} {wx wy : World} {v : Value} {es : List EE} (h : Rd wx 6 v es.length (ecells es)) (k : gmK s g j wx wy) : Rd wy 6 v es.length (ecells es) := by
  unfold gmK at k; split at k
  · rcases k with rfl | ⟨x, y, z, hl, rfl⟩
    · exact h
    · exact rd_set3 h hl _ _ _
  · exact h.keep k
/-- How an operation may change the world: number s stores into a log's struct made since. -/
def fmK (s B0 : Nat) (j : Nat) (wx wy : World) : Prop := if j = s then (wy = wx ∨ ∃ g x y z, B0 ≤ g ∧ L3 wx g ∧ wy = mset g x y z wx) else Below wx.heap.size wx wy
theorem fmk_refl (s B0 j : Nat) (w : World) : fmK s B0 j w w := by
  unfold fmK; split
  · exact .inl rfl
  · exact Below.refl _ _
theorem fmk_of {s B0 j : Nat} {wx wy : World} (hj : j ≠ s) (h : Below wx.heap.size wx wy) : fmK s B0 j wx wy := by unfold fmK; rw [if_neg hj]; exact h
theorem fmk_set {s B0 g : Nat} {w : World} (hg : B0 ≤ g) (hl : L3 w g) (x y z : Value) : fmK s B0 s w (mset g x y z w) := by unfold fmK; rw [if_pos rfl]; exact .inr ⟨g, x, y, z, hg, hl, rfl⟩
theorem fmk_below {s B0 j : Nat} {wx wy : World} (hj : j ≠ s) (h : fmK s B0 j wx wy) : Below wx.heap.size wx wy := by unfold fmK at h; rw [if_neg hj] at h; exact h
theorem fm_step {w : World} {G12 G13 : Nat} {lv : Value} {E : List EE} {v12 : Value} {s B0 j : Nat} {wx wy : World} (h12 : G12 < B0) (h13 : G13 < B0) (hw : w.heap.size ≤ B0) (h : FW w G12 G13 lv E v12 wx ∧ B0 ≤ wx.heap.size) (k : fmK s B0 j wx wy) :
    FW w G12 G13 lv E v12 wy ∧ B0 ≤ wy.heap.size := by
  unfold fmK at k; split at k
  · rcases k with rfl | ⟨g, x, y, z, hg, hl, rfl⟩
    · exact h
    · exact ⟨h.1.other (by omega) (by omega) (by omega) hl x y z, by simpa [mset] using h.2⟩
  · exact ⟨h.1.keep k, Nat.le_trans h.2 k.size⟩

theorem fm_rd {s B0 j : Nat} {wx wy : World} {v : Value} {es : List EE} (h : Rd wx 6 v es.length (ecells es)) (k : fmK s B0 j wx wy) : Rd wy 6 v es.length (ecells es) := by
  unfold fmK at k; split at k
  · rcases k with rfl | ⟨g, x, y, z, _, hl, rfl⟩
    · exact h
    · exact rd_set3 h hl _ _ _
  · exact h.keep k
theorem ex_keep {w w' : World} {T : Option Addr → Nat → Value} {v : Value} {n : Nat} {xs : List Value} (h : ∃ a9 c9, v = T a9 c9 ∧ Rd w 6 (.slice a9 n c9) n xs) (kb : Below w.heap.size w w') : ∃ a9 c9, v = T a9 c9 ∧ Rd w' 6 (.slice a9 n c9) n xs := by
  obtain ⟨a9, c9, h1, h2⟩ := h
  exact ⟨a9, c9, h1, h2.keep kb⟩
theorem al_keep {w w' : World} {B0 : Nat} {v x y z : Value} (h : ∃ g, v = .pointer (some ⟨g, 0, none⟩) ∧ B0 ≤ g ∧ C3 w g x y z ∧ L3 w g ∧ w.frozen? ⟨g, 0, none⟩ = false ∧ w.frozen? ⟨g, 1, none⟩ = false ∧ w.frozen? ⟨g, 2, none⟩ = false) (kb : Below w.heap.size w w') :
    ∃ g, v = .pointer (some ⟨g, 0, none⟩) ∧ B0 ≤ g ∧ C3 w' g x y z ∧ L3 w' g ∧ w'.frozen? ⟨g, 0, none⟩ = false ∧ w'.frozen? ⟨g, 1, none⟩ = false ∧ w'.frozen? ⟨g, 2, none⟩ = false := by
  obtain ⟨g, h1, h2, h3, h4, h5⟩ := h
  exact ⟨g, h1, h2, h3.keep kb, h4.keep h3.1 kb, frz_keep h5 h3.1 kb⟩
theorem st_keep {w w' : World} {B0 n : Nat} {v x y : Value} {xs : List Value} (h : ∃ g, v = .pointer (some ⟨g, 0, none⟩) ∧ B0 ≤ g ∧ L3 w g ∧ w.frozen? ⟨g, 0, none⟩ = false ∧ w.frozen? ⟨g, 1, none⟩ = false ∧ w.frozen? ⟨g, 2, none⟩ = false ∧ ∃ a9 c9, C3 w g x y (.slice a9 n c9) ∧ Rd w 6 (.slice a9 n c9) n xs) (kb : Below w.heap.size w w') :
    ∃ g, v = .pointer (some ⟨g, 0, none⟩) ∧ B0 ≤ g ∧ L3 w' g ∧ w'.frozen? ⟨g, 0, none⟩ = false ∧ w'.frozen? ⟨g, 1, none⟩ = false ∧ w'.frozen? ⟨g, 2, none⟩ = false ∧ ∃ a9 c9, C3 w' g x y (.slice a9 n c9) ∧ Rd w' 6 (.slice a9 n c9) n xs := by
  obtain ⟨g, h1, h2, h3, f0, f1, f2, a9, c9, h4, h5⟩ := h
  obtain ⟨f0, f1, f2⟩ := frz_keep ⟨f0, f1, f2⟩ h4.1 kb
  exact ⟨g, h1, h2, h3.keep h4.1 kb, f0, f1, f2, a9, c9, h4.keep kb, h5.keep kb⟩

/-- A piece of a slice. -/
theorem slice_piece {w0 : World} {la : Option Addr} {L lc : Nat} {xs : List Value} (h : Rd w0 6 (.slice la L lc) L xs) (at_ n : Nat) (hn : at_ + n ≤ L) (hL : L ≤ 140737488355328) :
    ∃ a9 c9, (∀ wx : World, (Instr.slice 23 (.slice la L lc) (some (.int .i64 at_)) (some (.int .i64 ((at_ : Int) + (n : Int)))) none).run Try.prog wx = .ok (.slice a9 n c9) wx) ∧ Rd w0 6 (.slice a9 n c9) n ((xs.drop (at_ * 6)).take (n * 6)) := by
  have hcap := h.cap
  have z0 : (0 : Int) ≤ (at_ : Int) := by omega
  have z1 : (0 : Int) ≤ (at_ : Int) + (n : Int) := by omega
  have z2 : (at_ : Int) + (n : Int) ≤ (lc : Int) := by omega
  by_cases h0 : L = 0
  · obtain rfl : at_ = 0 := by omega
    obtain rfl : n = 0 := by omega
    subst h0
    obtain ⟨_, _, ⟨h1, _⟩ | ⟨ad, c', hv, _, _⟩⟩ := h
    · simp at h1
      obtain ⟨rfl, rfl⟩ := h1
      exact ⟨none, 0, fun wx => by kernel_rfl, by simp, by simp, .inl ⟨rfl, rfl⟩⟩
    · cases hv
      have hrun : ∃ a9 c9, a9.isSome = true ∧ ∀ wx : World, (Instr.slice 23 (.slice (some ad) 0 lc) (some (.int .i64 ((0 : Nat) : Int))) (some (.int .i64 (((0 : Nat) : Int) + ((0 : Nat) : Int)))) none).run Try.prog wx = .ok (.slice a9 0 c9) wx := by
        by_cases hl : lc = 0
        · subst hl
          exact ⟨some ad, 0, rfl, fun wx => by go_simp⟩
        · refine ⟨some (ad.add 0), lc, rfl, fun wx => ?_⟩
          have hl2 : ¬ 0 = lc := fun e => hl e.symm
          go_simp
      obtain ⟨a9, c9, hs, hrun⟩ := hrun
      obtain ⟨b9, rfl⟩ := Option.isSome_iff_exists.1 hs
      exact ⟨some b9, c9, hrun, by simp, by simp, .inr ⟨_, _, rfl, Nat.zero_le _, by simp⟩⟩
  · obtain ⟨q, o, rfl, hc, hsub⟩ := rd_sub h at_ (by omega) (by omega)
    have htk := hsub.takeN n (by omega)
    by_cases he : lc = at_
    · subst he
      obtain rfl : n = 0 := by omega
      refine ⟨some ⟨q, o, none⟩, 0, fun wx => ?_, by simp, by simp, .inr ⟨_, _, rfl, Nat.zero_le _, by simp⟩⟩
      go_simp
    · refine ⟨some ⟨q, o + at_ * 6, none⟩, lc - at_, fun wx => ?_, htk⟩
      have he2 : ¬ at_ = lc := fun e => he e.symm
      go_simp
      rw [if_pos (by omega), show ((at_ : Int) + (n : Int)).toNat - at_ = n by omega]
end Go.Proofs.Yteflpphpbecciaa
