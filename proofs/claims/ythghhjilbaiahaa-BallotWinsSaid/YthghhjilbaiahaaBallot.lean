/- Contracts of the functions of ballot, and of rows.Newer, as far as the laws of ballot ask them. -/
import Derived.Test.YthghhjilbaiahaaBase
import Derived.Test.YthghhjilbaiahaaReg
import Derived.Test.YthghhjilbaiahaaProg
import Derived.Outline
import Derived.OpenShut
import Derived.BigQuiet
import Derived.Deep.QuietTactic
namespace Go.Proofs.Ythghhjilbaiahaa
open Go.RowKit

theorem u64_of_wf {n : Int} (h : (Lit.int .u64 n).wf = true) : ∃ m : Nat, n = (m : Int) ∧ m < 18446744073709551616 := by
  simp [Lit.wf, IntKind.min, IntKind.max, IntKind.signed, IntKind.bits] at h
  exact ⟨n.toNat, by omega, by omega⟩

theorem bcell {W w1 : World} (hb : Below W.heap.size W w1) : (∀ b o, b < W.heap.size → w1.cell? ⟨b, o, none⟩ = W.cell? ⟨b, o, none⟩) ∧ (∀ b o, b < W.heap.size → w1.frozen? ⟨b, o, none⟩ = W.frozen? ⟨b, o, none⟩) :=
  ⟨fun b o h => hb.cell (p := ⟨b, o, none⟩) h, fun b o h => hb.frozen (p := ⟨b, o, none⟩) h⟩

/-- A log's entries, as far as their terms are asked: nil, or a row of entries of six cells, the first a number. -/
def Ents (w : World) (v : Value) (n : Nat) : Prop :=
  (v = .slice none 0 0 ∧ n = 0) ∨ ∃ a c, v = .slice (some a) n c ∧ n ≤ c ∧ n ≤ maxLen ∧ ∀ i, i < n → ∃ t : Nat, t < 18446744073709551616 ∧ w.cell? (a.add (i * 6)) = some (.int .u64 t)

theorem Ents.keep {w w' : World} {v : Value} {n : Nat} (h : Ents w v n) (hb : Below w.heap.size w w') : Ents w' v n := by
  rcases h with h | ⟨a, c, h1, h2, h3, h4⟩
  · exact .inl h
  · refine .inr ⟨a, c, h1, h2, h3, fun i hi => ?_⟩
    obtain ⟨t, ht, hc⟩ := h4 i hi
    exact ⟨t, ht, by rw [hb.cell (World.block_lt_of_cell? w _ hc)]; exact hc⟩
theorem Ents.form {w : World} {v : Value} {n : Nat} (h : Ents w v n) : ∃ a c, v = .slice a n c := by
  rcases h with ⟨rfl, rfl⟩ | ⟨a, c, rfl, _⟩
  · exact ⟨_, _, rfl⟩
  · exact ⟨_, _, rfl⟩

theorem u64w (x : Int) : (Value.int .u64 (IntKind.u64.wrap x)) = .int .u64 ((IntKind.u64.wrap x).toNat : Int) := by
  congr 1
  have := wf_wrap .u64 x
  obtain ⟨m, hm, _⟩ := u64_of_wf this
  omega
theorem u64w_lt (x : Int) : (IntKind.u64.wrap x).toNat < 18446744073709551616 := by
  obtain ⟨m, hm, _⟩ := u64_of_wf (wf_wrap .u64 x)
  omega

theorem Last_any (base bt : Nat) (v : Value) (n : Nat) (w : World) (_hb : base < 18446744073709551616) (hn : Ents w v n) :
    Calls Try.prog 15 #[.agg #[.int .u64 base, .int .u64 bt, v]] w fun e w' => (∃ m : Nat, m < 18446744073709551616 ∧ e = .returned (.int .u64 m) ∧ (base = 0 → n = 0 → m = 0)) ∧ Below w.heap.size w w' := by
  obtain ⟨a, c, rfl⟩ := hn.form
  go_enter Try.func15, Try.ntmps15
  go_wp2
  go_ret
  exact ⟨⟨_, u64w_lt _, congrArg Ending.returned (u64w _), fun h1 h2 => by subst h1 h2; rfl⟩, (Below.refl _ _).alloc (Nat.le_refl _) _⟩

theorem Ents.at {w : World} {a : Addr} {n : Nat} (h : ∀ i, i < n → ∃ t : Nat, t < 18446744073709551616 ∧ w.cell? (a.add (i * 6)) = some (.int .u64 t)) (h0 : 0 < n) :
    ∃ b off, a = ⟨b, off, none⟩ ∧ b < w.heap.size ∧ ∀ i, i < n → ∃ t : Nat, t < 18446744073709551616 ∧ w.cell? ⟨b, off + i * 6, none⟩ = some (.int .u64 t) := by
  obtain ⟨b, off, spot⟩ := a
  obtain ⟨t, _, hc⟩ := h 0 h0
  have hspot : spot = none := by simpa [Addr.add] using World.cell?_spot hc
  subst hspot
  refine ⟨b, off, rfl, by have := World.block_lt_of_cell? w _ hc; simpa [Addr.add] using this, fun i hi => ?_⟩
  obtain ⟨t, ht, hc⟩ := h i hi
  exact ⟨t, ht, by rwa [Addr.add_lit] at hc⟩

/-- 'Newer' answers. -/
theorem Newer_any (base bt : Nat) (v : Value) (n : Nat) (index term : Nat) (w : World) (hb : base < 18446744073709551616) (hn : Ents w v n) :
    Calls Try.prog 12 #[.agg #[.int .u64 base, .int .u64 bt, v], .int .u64 index, .int .u64 term] w fun e w' => (∃ b : Bool, e = .returned (.bool b) ∧ (n = 0 → base = 0 → bt = 0 → index = 0 → term = 0 → b = true)) ∧ Below w.heap.size w w' := by
  have hn0 := hn
  rcases hn with ⟨rfl, rfl⟩ | ⟨a, c, rfl, hc, hm, hcell⟩
  rotate_left
  unfold maxLen at hm
  rotate_left
  · go_enter Try.func12, Try.ntmps12
    go_wp2_with (go_at_call 15; refine (Last_any base bt _ 0 _ hb (.inl ⟨rfl, rfl⟩)).mono ?_; rintro e w1 ⟨⟨m, hm, rfl, hm0⟩, hb1⟩; replace hm0 := Lib.hid hm0)
    all_goals go_ret
    · exact ⟨⟨_, rfl, fun h1 h2 h3 h4 h5 => by have := hm0.out h2 h1; simp <;> omega⟩, ((Below.refl _ _).alloc (Nat.le_refl _) _).trans (hb1.mono (by simp))⟩
    · exact ⟨⟨_, rfl, fun h1 h2 h3 h4 h5 => by simp <;> omega⟩, (Below.refl _ _).alloc (Nat.le_refl _) _⟩
    · exact ⟨⟨_, rfl, fun h1 h2 h3 h4 h5 => by simp <;> omega⟩, (Below.refl _ _).alloc (Nat.le_refl _) _⟩
  · by_cases h0 : n = 0
    · subst h0
      go_enter Try.func12, Try.ntmps12
      go_wp2_with (go_at_call 15; refine (Last_any base bt _ 0 _ hb (hn0.keep ((Below.refl _ _).alloc (Nat.le_refl _) _))).mono ?_; rintro e w1 ⟨⟨m, hm, rfl, hm0⟩, hb1⟩; replace hm0 := Lib.hid hm0)
      all_goals go_ret
      · exact ⟨⟨_, rfl, fun h1 h2 h3 h4 h5 => by have := hm0.out h2 h1; simp <;> omega⟩, ((Below.refl _ _).alloc (Nat.le_refl _) _).trans (hb1.mono (by simp))⟩
      · exact ⟨⟨_, rfl, fun h1 h2 h3 h4 h5 => by simp <;> omega⟩, (Below.refl _ _).alloc (Nat.le_refl _) _⟩
      · exact ⟨⟨_, rfl, fun h1 h2 h3 h4 h5 => by simp <;> omega⟩, (Below.refl _ _).alloc (Nat.le_refl _) _⟩
    · obtain ⟨b, off, rfl, hlt, hcell⟩ := Ents.at hcell (by omega)
      obtain ⟨t, ht, hct⟩ := hcell (n - 1) (by omega)
      clear hcell
      go_enter Try.func12, Try.ntmps12
      go_wp2_with (go_at_call 15; refine (Last_any base bt _ n _ hb (hn0.keep ((Below.refl _ _).alloc (Nat.le_refl _) _))).mono ?_; rintro e w1 ⟨⟨m, hm, rfl, hm0⟩, hb1⟩; replace hm0 := Lib.hid hm0)
      all_goals go_ret
      · exact ⟨⟨_, rfl, fun h1 h2 h3 h4 h5 => by have := hm0.out h2 h1; simp <;> omega⟩, ((Below.refl _ _).alloc (Nat.le_refl _) _).trans (hb1.mono (by simp))⟩
      · exact ⟨⟨_, rfl, fun h1 h2 h3 h4 h5 => by simp <;> omega⟩, (Below.refl _ _).alloc (Nat.le_refl _) _⟩
      · exact ⟨⟨_, rfl, fun h1 h2 h3 h4 h5 => by simp <;> omega⟩, (Below.refl _ _).alloc (Nat.le_refl _) _⟩

/-- A struct of two cells that is stored whole. -/
theorem set2 {w : World} {b : Nat} {x y u v : Value} (c0 : w.cell? ⟨b, 0, none⟩ = some u) (c1 : w.cell? ⟨b, 1, none⟩ = some v) :
    ((w.setCell ⟨b, 0, none⟩ x).setCell ⟨b, 1, none⟩ y).cell? ⟨b, 0, none⟩ = some x ∧ ((w.setCell ⟨b, 0, none⟩ x).setCell ⟨b, 1, none⟩ y).cell? ⟨b, 1, none⟩ = some y :=
  ⟨(World.cell?_setCell_other _ _ _ _ (by simp)).trans (World.cell?_setCell_same _ _ _ c0), World.cell?_setCell_same _ _ _ ((World.cell?_setCell_other _ _ _ _ (by simp)).trans c1)⟩

/-- A term that is heard of. -/
def hearS (t v x : Nat) : Nat × Nat := if t < x then (x, 0) else (t, v)

theorem Hear_any (t v x : Nat) (w : World) :
    Calls Try.prog 7 #[.agg #[.int .u64 t, .int .u64 v], .int .u64 x] w fun e w' => e = .returned (.agg #[.int .u64 (hearS t v x).1, .int .u64 (hearS t v x).2]) ∧ Below w.heap.size w w' := by
  by_cases h : t < x
  · rw [show hearS t v x = (x, 0) from if_pos h]
    go_enter Try.func7, Try.ntmps7
    go_wp2
    exact bodyPost_ret (v := .agg #[.int .u64 x, .int .u64 0]) (by simp [results, Try.results7, go_sem]) rfl ⟨rfl, ((Below.refl _ _).alloc (Nat.le_refl _) _).alloc (by simp) _⟩
  · rw [show hearS t v x = (t, v) from if_neg h]
    go_enter Try.func7, Try.ntmps7
    go_wp2
    exact bodyPost_ret (v := .agg #[.int .u64 t, .int .u64 v]) (by simp [results, Try.results7, go_sem]) rfl ⟨rfl, ((Below.refl _ _).alloc (Nat.le_refl _) _).alloc (by simp) _⟩

theorem Stand_any (t v id : Nat) (w : World) :
    Calls Try.prog 8 #[.agg #[.int .u64 t, .int .u64 v], .int .u64 id] w fun e w' =>
      (e = .returned (.tuple #[.agg #[.int .u64 t, .int .u64 v], .bool false]) ∨ e = .returned (.tuple #[.agg #[.int .u64 ((t + 1 : Nat) : Int), .int .u64 id], .bool true])) ∧ Below w.heap.size w w' := by
  cases hd : decide ((4611686018427387904 : Int) ≤ (t : Int)) with
  | true =>
    go_enter Try.func8, Try.ntmps8
    go_wp2
    exact bodyPost_ret (v := .tuple #[.agg #[.int .u64 t, .int .u64 v], .bool false]) (by simp [results, Try.results8, go_sem]) rfl ⟨.inl rfl, ((Below.refl _ _).alloc (Nat.le_refl _) _).alloc (by simp) _⟩
  | false =>
    have hw : IntKind.u64.wrap ((t : Int) + 1) = (t : Int) + 1 := IntWalk.u64_in _ (by have := of_decide_eq_false hd; omega)
    go_enter Try.func8, Try.ntmps8
    go_wp2
    exact bodyPost_ret (v := .tuple #[.agg #[.int .u64 ((t + 1 : Nat) : Int), .int .u64 id], .bool true]) (by simp [results, Try.results8, go_sem]) rfl ⟨.inr rfl, ((Below.refl _ _).alloc (Nat.le_refl _) _).alloc (by simp) _⟩

/-- A vote is granted, or not. -/
def grantS (t v fr x : Nat) (b : Bool) : (Nat × Nat) × Bool :=
  let h := hearS t v x
  if (h.2 = 0 ∨ h.2 = fr) ∧ h.1 = x ∧ b = true then ((h.1, fr), true) else (h, false)

set_option maxHeartbeats 4000000 in
theorem Grant_any (t v base bt : Nat) (ent : Value) (n : Nat) (k : Int) (fr to_ x index lt commit stamp : Nat) (yes : Bool) (en me im : Value) (w : World) (hb : base < 18446744073709551616) (hn : Ents w ent n) :
    Calls Try.prog 6 #[.agg #[.int .u64 t, .int .u64 v], .agg #[.int .u64 base, .int .u64 bt, ent], .agg #[.int .i64 k, .int .u64 fr, .int .u64 to_, .int .u64 x, .int .u64 index, .int .u64 lt, .int .u64 commit, .int .u64 stamp, .bool yes, en, me, im]] w fun e w' =>
      (∃ b : Bool, e = .returned (.tuple #[.agg #[.int .u64 (grantS t v fr x b).1.1, .int .u64 (grantS t v fr x b).1.2], .bool (grantS t v fr x b).2]) ∧ (n = 0 → base = 0 → bt = 0 → index = 0 → lt = 0 → b = true)) ∧ Below w.heap.size w w' := by
  generalize hH : hearS t v x = H
  obtain ⟨ht, hv⟩ := H
  have fin : ∀ b : Bool, grantS t v fr x b = if (hv = 0 ∨ hv = fr) ∧ ht = x ∧ b = true then ((ht, fr), true) else ((ht, hv), false) := by
    intro b; unfold grantS; rw [hH]
  have FIN := Lib.hid fin
  clear fin
  have HH : Hid (hearS t v x = (ht, hv)) := hH
  clear hH
  go_enter Try.func6, Try.ntmps6
  go_wp2_with fail
  refine (Hear_any t v x _).mono ?_
  rintro e w1 ⟨rfl, hb1⟩
  rw [HH.out]
  obtain ⟨hc1, hf1⟩ := bcell hb1
  have hz1 : w.heap.size + 4 ≤ w1.heap.size := by have := hb1.size; simp at this; omega
  have c0 : w1.cell? ⟨w.heap.size, 0, none⟩ = some (.int .u64 t) := by rw [hc1 _ _ (by simp <;> omega)]; simp [go_sem]
  have c1 : w1.cell? ⟨w.heap.size, 1, none⟩ = some (.int .u64 v) := by rw [hc1 _ _ (by simp <;> omega)]; simp [go_sem]
  have f0 : w1.frozen? ⟨w.heap.size, 0, none⟩ = false := by rw [hf1 _ _ (by simp <;> omega)]; simp [go_sem]
  have c3 : w1.cell? ⟨w.heap.size + 1 + 1 + 1, 0, none⟩ = some (.int .u64 0) := by rw [hc1 _ _ (by simp <;> omega)]; simp [go_sem]
  have c4 : w1.cell? ⟨w.heap.size + 1 + 1 + 1, 1, none⟩ = some (.int .u64 0) := by rw [hc1 _ _ (by simp <;> omega)]; simp [go_sem]
  have hbb : Below w.heap.size w w1 := ((((Below.refl _ _).alloc (Nat.le_refl _) _).alloc (by simp <;> omega) _).alloc (by simp <;> omega) _).alloc (by simp <;> omega) _ |>.trans (hb1.mono (by simp <;> omega))
  have hb0 := (hbb.setCell (p := ⟨w.heap.size, 0, none⟩) (Nat.le_refl _) (.int .u64 ht)).setCell (p := ⟨w.heap.size, 1, none⟩) (Nat.le_refl _) (.int .u64 hv)
  cases e1 : ((hv : Int) == 0) <;> cases e2 : ((hv : Int) == (fr : Int)) <;> cases e3 : ((ht : Int) == (x : Int))
  · go_wp2_with fail
    refine bodyPost_ret (v := .tuple #[.agg #[.int .u64 ht, .int .u64 hv], .bool false]) (by simp [results, Try.results6, go_sem, c0, c1, c3, c4]) rfl ⟨⟨true, ?_, fun _ _ _ _ _ => rfl⟩, (hb0.setCell (by simp <;> omega) _).setCell (by simp <;> omega) _⟩
    rw [FIN.out, if_neg (by simp at e1 e2 e3; omega)]
  · go_wp2_with fail
    refine bodyPost_ret (v := .tuple #[.agg #[.int .u64 ht, .int .u64 hv], .bool false]) (by simp [results, Try.results6, go_sem, c0, c1, c3, c4]) rfl ⟨⟨true, ?_, fun _ _ _ _ _ => rfl⟩, (hb0.setCell (by simp <;> omega) _).setCell (by simp <;> omega) _⟩
    rw [FIN.out, if_neg (by simp at e1 e2 e3; omega)]
  · go_wp2_with fail
    refine bodyPost_ret (v := .tuple #[.agg #[.int .u64 ht, .int .u64 hv], .bool false]) (by simp [results, Try.results6, go_sem, c0, c1, c3, c4]) rfl ⟨⟨true, ?_, fun _ _ _ _ _ => rfl⟩, (hb0.setCell (by simp <;> omega) _).setCell (by simp <;> omega) _⟩
    rw [FIN.out, if_neg (by simp at e1 e2 e3; omega)]
  · go_wp2_with fail
    refine (Newer_any base bt ent n index lt _ hb (hn.keep hb0)).mono ?_
    rintro e w2 ⟨⟨b, rfl, hb0n⟩, hb2⟩
    replace hb0n := Lib.hid hb0n
    obtain ⟨hc2, hf2⟩ := bcell hb2
    have hz2 : w.heap.size + 4 ≤ w2.heap.size := by have := hb2.size; simp at this; omega
    have d0 := (hc2 w.heap.size 0 (by simp <;> omega)).trans (set2 c0 c1).1
    have d1 := (hc2 w.heap.size 1 (by simp <;> omega)).trans (set2 c0 c1).2
    have d2 := hc2 (w.heap.size + 1 + 1) 1 (by simp <;> omega)
    have d3 := (hc2 (w.heap.size + 1 + 1 + 1) 0 (by simp <;> omega)).trans ((World.cell?_setCell_other _ _ _ _ (by simp <;> omega)).trans ((World.cell?_setCell_other _ _ _ _ (by simp <;> omega)).trans c3))
    have d4 := (hc2 (w.heap.size + 1 + 1 + 1) 1 (by simp <;> omega)).trans ((World.cell?_setCell_other _ _ _ _ (by simp <;> omega)).trans ((World.cell?_setCell_other _ _ _ _ (by simp <;> omega)).trans c4))
    have g0 := hf2 w.heap.size 0 (by simp <;> omega)
    have g1 := hf2 w.heap.size 1 (by simp <;> omega)
    have g3 := hf2 (w.heap.size + 1 + 1 + 1) 0 (by simp <;> omega)
    have g4 := hf2 (w.heap.size + 1 + 1 + 1) 1 (by simp <;> omega)
    have hb3 := hb0.trans (hb2.mono (by simp <;> omega))
    have hor : hv = 0 ∨ hv = fr := by simp at e1 e2; omega
    have hx : ht = x := by simp at e3; omega
    have HOR := Lib.hid hor
    have HX := Lib.hid hx
    clear hor hx hc2 hf2
    cases b with
    | false =>
      go_wp2_with fail
      refine bodyPost_ret (v := .tuple #[.agg #[.int .u64 ht, .int .u64 hv], .bool false]) (by simp [results, Try.results6, go_sem, d0, d1, d3, d4]) rfl ⟨⟨false, ?_, hb0n.out⟩, (hb3.setCell (by simp <;> omega) _).setCell (by simp <;> omega) _⟩
      rw [FIN.out, if_neg (by simp)]
    | true =>
      have d1' : (w2.setCell ⟨w.heap.size, 1, none⟩ (.int .u64 fr)).cell? ⟨w.heap.size, 1, none⟩ = some (.int .u64 fr) := World.cell?_setCell_same _ _ _ d1
      go_wp2_with fail
      refine bodyPost_ret (v := .tuple #[.agg #[.int .u64 ht, .int .u64 fr], .bool true]) (by simp [results, Try.results6, go_sem, d0, d1, d3, d4]) rfl ⟨⟨true, ?_, fun _ _ _ _ _ => rfl⟩, ((hb3.setCell (p := ⟨w.heap.size, 1, none⟩) (by simp <;> omega) _).setCell (by simp <;> omega) _).setCell (by simp <;> omega) _⟩
      rw [FIN.out, if_pos ⟨HOR.out, HX.out, rfl⟩]
  · go_wp2_with fail
    refine bodyPost_ret (v := .tuple #[.agg #[.int .u64 ht, .int .u64 hv], .bool false]) (by simp [results, Try.results6, go_sem, c0, c1, c3, c4]) rfl ⟨⟨true, ?_, fun _ _ _ _ _ => rfl⟩, (hb0.setCell (by simp <;> omega) _).setCell (by simp <;> omega) _⟩
    rw [FIN.out, if_neg (by simp at e1 e2 e3; omega)]
  · go_wp2_with fail
    refine (Newer_any base bt ent n index lt _ hb (hn.keep hb0)).mono ?_
    rintro e w2 ⟨⟨b, rfl, hb0n⟩, hb2⟩
    replace hb0n := Lib.hid hb0n
    obtain ⟨hc2, hf2⟩ := bcell hb2
    have hz2 : w.heap.size + 4 ≤ w2.heap.size := by have := hb2.size; simp at this; omega
    have d0 := (hc2 w.heap.size 0 (by simp <;> omega)).trans (set2 c0 c1).1
    have d1 := (hc2 w.heap.size 1 (by simp <;> omega)).trans (set2 c0 c1).2
    have d2 := hc2 (w.heap.size + 1 + 1) 1 (by simp <;> omega)
    have d3 := (hc2 (w.heap.size + 1 + 1 + 1) 0 (by simp <;> omega)).trans ((World.cell?_setCell_other _ _ _ _ (by simp <;> omega)).trans ((World.cell?_setCell_other _ _ _ _ (by simp <;> omega)).trans c3))
    have d4 := (hc2 (w.heap.size + 1 + 1 + 1) 1 (by simp <;> omega)).trans ((World.cell?_setCell_other _ _ _ _ (by simp <;> omega)).trans ((World.cell?_setCell_other _ _ _ _ (by simp <;> omega)).trans c4))
    have g0 := hf2 w.heap.size 0 (by simp <;> omega)
    have g1 := hf2 w.heap.size 1 (by simp <;> omega)
    have g3 := hf2 (w.heap.size + 1 + 1 + 1) 0 (by simp <;> omega)
    have g4 := hf2 (w.heap.size + 1 + 1 + 1) 1 (by simp <;> omega)
    have hb3 := hb0.trans (hb2.mono (by simp <;> omega))
    have hor : hv = 0 ∨ hv = fr := by simp at e1 e2; omega
    have hx : ht = x := by simp at e3; omega
    have HOR := Lib.hid hor
    have HX := Lib.hid hx
    clear hor hx hc2 hf2
    cases b with
    | false =>
      go_wp2_with fail
      refine bodyPost_ret (v := .tuple #[.agg #[.int .u64 ht, .int .u64 hv], .bool false]) (by simp [results, Try.results6, go_sem, d0, d1, d3, d4]) rfl ⟨⟨false, ?_, hb0n.out⟩, (hb3.setCell (by simp <;> omega) _).setCell (by simp <;> omega) _⟩
      rw [FIN.out, if_neg (by simp)]
    | true =>
      have d1' : (w2.setCell ⟨w.heap.size, 1, none⟩ (.int .u64 fr)).cell? ⟨w.heap.size, 1, none⟩ = some (.int .u64 fr) := World.cell?_setCell_same _ _ _ d1
      go_wp2_with fail
      refine bodyPost_ret (v := .tuple #[.agg #[.int .u64 ht, .int .u64 fr], .bool true]) (by simp [results, Try.results6, go_sem, d0, d1, d3, d4]) rfl ⟨⟨true, ?_, fun _ _ _ _ _ => rfl⟩, ((hb3.setCell (p := ⟨w.heap.size, 1, none⟩) (by simp <;> omega) _).setCell (by simp <;> omega) _).setCell (by simp <;> omega) _⟩
      rw [FIN.out, if_pos ⟨HOR.out, HX.out, rfl⟩]
  · go_wp2_with fail
    refine bodyPost_ret (v := .tuple #[.agg #[.int .u64 ht, .int .u64 hv], .bool false]) (by simp [results, Try.results6, go_sem, c0, c1, c3, c4]) rfl ⟨⟨true, ?_, fun _ _ _ _ _ => rfl⟩, (hb0.setCell (by simp <;> omega) _).setCell (by simp <;> omega) _⟩
    rw [FIN.out, if_neg (by simp at e1 e2 e3; omega)]
  · go_wp2_with fail
    refine (Newer_any base bt ent n index lt _ hb (hn.keep hb0)).mono ?_
    rintro e w2 ⟨⟨b, rfl, hb0n⟩, hb2⟩
    replace hb0n := Lib.hid hb0n
    obtain ⟨hc2, hf2⟩ := bcell hb2
    have hz2 : w.heap.size + 4 ≤ w2.heap.size := by have := hb2.size; simp at this; omega
    have d0 := (hc2 w.heap.size 0 (by simp <;> omega)).trans (set2 c0 c1).1
    have d1 := (hc2 w.heap.size 1 (by simp <;> omega)).trans (set2 c0 c1).2
    have d2 := hc2 (w.heap.size + 1 + 1) 1 (by simp <;> omega)
    have d3 := (hc2 (w.heap.size + 1 + 1 + 1) 0 (by simp <;> omega)).trans ((World.cell?_setCell_other _ _ _ _ (by simp <;> omega)).trans ((World.cell?_setCell_other _ _ _ _ (by simp <;> omega)).trans c3))
    have d4 := (hc2 (w.heap.size + 1 + 1 + 1) 1 (by simp <;> omega)).trans ((World.cell?_setCell_other _ _ _ _ (by simp <;> omega)).trans ((World.cell?_setCell_other _ _ _ _ (by simp <;> omega)).trans c4))
    have g0 := hf2 w.heap.size 0 (by simp <;> omega)
    have g1 := hf2 w.heap.size 1 (by simp <;> omega)
    have g3 := hf2 (w.heap.size + 1 + 1 + 1) 0 (by simp <;> omega)
    have g4 := hf2 (w.heap.size + 1 + 1 + 1) 1 (by simp <;> omega)
    have hb3 := hb0.trans (hb2.mono (by simp <;> omega))
    have hor : hv = 0 ∨ hv = fr := by simp at e1 e2; omega
    have hx : ht = x := by simp at e3; omega
    have HOR := Lib.hid hor
    have HX := Lib.hid hx
    clear hor hx hc2 hf2
    cases b with
    | false =>
      go_wp2_with fail
      refine bodyPost_ret (v := .tuple #[.agg #[.int .u64 ht, .int .u64 hv], .bool false]) (by simp [results, Try.results6, go_sem, d0, d1, d3, d4]) rfl ⟨⟨false, ?_, hb0n.out⟩, (hb3.setCell (by simp <;> omega) _).setCell (by simp <;> omega) _⟩
      rw [FIN.out, if_neg (by simp)]
    | true =>
      have d1' : (w2.setCell ⟨w.heap.size, 1, none⟩ (.int .u64 fr)).cell? ⟨w.heap.size, 1, none⟩ = some (.int .u64 fr) := World.cell?_setCell_same _ _ _ d1
      go_wp2_with fail
      refine bodyPost_ret (v := .tuple #[.agg #[.int .u64 ht, .int .u64 fr], .bool true]) (by simp [results, Try.results6, go_sem, d0, d1, d3, d4]) rfl ⟨⟨true, ?_, fun _ _ _ _ _ => rfl⟩, ((hb3.setCell (p := ⟨w.heap.size, 1, none⟩) (by simp <;> omega) _).setCell (by simp <;> omega) _).setCell (by simp <;> omega) _⟩
      rw [FIN.out, if_pos ⟨HOR.out, HX.out, rfl⟩]
end Go.Proofs.Ythghhjilbaiahaa
