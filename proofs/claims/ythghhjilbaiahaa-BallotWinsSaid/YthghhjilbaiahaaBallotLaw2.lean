/- The law BallotOnce: the loop over the script. -/
import Derived.Test.YthghhjilbaiahaaBallotLaw
import Derived.Test.YthghhjilbaiahaaWords
import Derived.Deep.DeepCutAuto
import Derived.Deep.LoopGhost
import Derived.Deep.CutBlock
namespace Go.Proofs.Ythghhjilbaiahaa
open Go.RowKit

/-- Votes as cells. -/
def vcells (vs : List (Nat × Nat)) : List Value := vs.flatMap fun p => [.int .u64 p.1, .int .u64 p.2]

/-- What a script says, step by step. -/
def Script (w : World) (v : Value) (n : Nat) : Prop :=
  ((∃ a c, v = .slice a n c) ∧ n = 0) ∨ ∃ b off c, v = .slice (some ⟨b, off, none⟩) n c ∧ n ≤ c ∧ b < w.heap.size ∧ ∀ i, i < n →
    ∃ (kd k : Int) (fr to_ x idx lt cm st : Nat) (yes : Bool) (ea ma ia : Option Addr) (el ec ml mc il ic : Nat) (tm id : Nat), (-9223372036854775808 ≤ kd ∧ kd ≤ 9223372036854775807) ∧ 
      w.cell? ⟨b, off + i * 15, none⟩ = some (.int .i64 kd) ∧ w.cell? ⟨b, off + i * 15 + 1, none⟩ = some (.int .i64 k) ∧ w.cell? ⟨b, off + i * 15 + 2, none⟩ = some (.int .u64 fr) ∧ w.cell? ⟨b, off + i * 15 + 3, none⟩ = some (.int .u64 to_) ∧
      w.cell? ⟨b, off + i * 15 + 4, none⟩ = some (.int .u64 x) ∧ w.cell? ⟨b, off + i * 15 + 5, none⟩ = some (.int .u64 idx) ∧ w.cell? ⟨b, off + i * 15 + 6, none⟩ = some (.int .u64 lt) ∧ w.cell? ⟨b, off + i * 15 + 7, none⟩ = some (.int .u64 cm) ∧
      w.cell? ⟨b, off + i * 15 + 8, none⟩ = some (.int .u64 st) ∧ w.cell? ⟨b, off + i * 15 + 9, none⟩ = some (.bool yes) ∧ w.cell? ⟨b, off + i * 15 + 10, none⟩ = some (.slice ea el ec) ∧ w.cell? ⟨b, off + i * 15 + 11, none⟩ = some (.slice ma ml mc) ∧ w.cell? ⟨b, off + i * 15 + 12, none⟩ = some (.slice ia il ic) ∧
      w.cell? ⟨b, off + i * 15 + 13, none⟩ = some (.int .u64 tm) ∧ w.cell? ⟨b, off + i * 15 + 14, none⟩ = some (.int .u64 id)

/-- No vote so far is for another one, in the voter's term. -/
def VInv (t v : Nat) (vs : List (Nat × Nat)) : Prop := ∀ p ∈ vs, p.2 ≠ 0 ∧ p.1 ≤ t ∧ (p.1 = t → p.2 = v)

theorem Script.form {w : World} {v : Value} {n : Nat} (h : Script w v n) : ∃ a c, v = .slice a n c := by
  rcases h with ⟨h, _⟩ | ⟨b, off, c, rfl, _⟩
  · exact h
  · exact ⟨_, _, rfl⟩
theorem Script.keep {w w' : World} {v : Value} {n : Nat} (h : Script w v n) (hb : Below w.heap.size w w') : Script w' v n := by
  rcases h with h | ⟨b, off, c, hv, hc, hlt, h⟩
  · exact .inl h
  · refine .inr ⟨b, off, c, hv, hc, Nat.lt_of_lt_of_le hlt hb.size, fun i hi => ?_⟩
    have e : ∀ o, w'.cell? ⟨b, o, none⟩ = w.cell? ⟨b, o, none⟩ := fun o => hb.cell (p := ⟨b, o, none⟩) hlt
    simp only [e]
    exact h i hi

/-- The voter's state is stored anew; a block may come behind. -/
theorem hset {w1 w2 : World} {B R t v t' v' : Nat} {u6 : Value} {n : Nat} {xs : List Value} {e : TypeId} (o : Obj) (hB : B = w1.heap.size) (hBR : B < R) (hR : R < w2.heap.size)
    (d0 : w2.cell? ⟨B, 0, none⟩ = some (.int .u64 t)) (d1 : w2.cell? ⟨B, 1, none⟩ = some (.int .u64 v)) (d2 : w2.frozen? ⟨B, 0, none⟩ = false) (d3 : w2.frozen? ⟨B, 1, none⟩ = false)
    (d4 : w2.cell? ⟨R, 0, none⟩ = some (.int .u64 t)) (d5 : w2.cell? ⟨R, 1, none⟩ = some (.int .u64 v)) (own2 : w2.ownsRow (B + 1) e 2 u6 n xs) (hbb2 : Below B w1 w2) :
    let W := ((w2.setCell ⟨B, 0, none⟩ (.int .u64 t')).setCell ⟨B, 1, none⟩ (.int .u64 v'))
    (∀ W', (W' = W ∨ W' = W.alloc o) → W'.cell? ⟨B, 0, none⟩ = some (.int .u64 t') ∧ W'.cell? ⟨B, 1, none⟩ = some (.int .u64 v') ∧ W'.frozen? ⟨B, 0, none⟩ = false ∧ W'.frozen? ⟨B, 1, none⟩ = false ∧
      W'.cell? ⟨R, 0, none⟩ = some (.int .u64 t) ∧ W'.cell? ⟨R, 1, none⟩ = some (.int .u64 v) ∧ W'.ownsRow (B + 1) e 2 u6 n xs ∧ Below B w1 W' ∧ B + 1 ≤ W'.heap.size) := by
  intro W
  have hs : W.heap.size = w2.heap.size := by simp [W]
  have e0 : W.cell? ⟨B, 0, none⟩ = some (.int .u64 t') := (set2 d0 d1).1
  have e1 : W.cell? ⟨B, 1, none⟩ = some (.int .u64 v') := (set2 d0 d1).2
  have e2 : W.frozen? ⟨B, 0, none⟩ = false := by rw [show W.frozen? ⟨B, 0, none⟩ = w2.frozen? ⟨B, 0, none⟩ from (World.frozen?_setCell _ _ _ _).trans (World.frozen?_setCell _ _ _ _)]; exact d2
  have e3 : W.frozen? ⟨B, 1, none⟩ = false := by rw [show W.frozen? ⟨B, 1, none⟩ = w2.frozen? ⟨B, 1, none⟩ from (World.frozen?_setCell _ _ _ _).trans (World.frozen?_setCell _ _ _ _)]; exact d3
  have e4 : W.cell? ⟨R, 0, none⟩ = some (.int .u64 t) := (World.cell?_setCell_other _ _ _ _ (by simp <;> omega)).trans ((World.cell?_setCell_other _ _ _ _ (by simp <;> omega)).trans d4)
  have e5 : W.cell? ⟨R, 1, none⟩ = some (.int .u64 v) := (World.cell?_setCell_other _ _ _ _ (by simp <;> omega)).trans ((World.cell?_setCell_other _ _ _ _ (by simp <;> omega)).trans d5)
  have e6 : W.ownsRow (B + 1) e 2 u6 n xs := ownsRow_setCell_below (ownsRow_setCell_below own2 (by show B < B + 1; omega) _) (by show B < B + 1; omega) _
  have e7 : Below B w1 W := (hbb2.setCell (p := ⟨B, 0, none⟩) (Nat.le_refl _) _).setCell (p := ⟨B, 1, none⟩) (Nat.le_refl _) _
  intro W' hW'
  rcases hW' with rfl | rfl
  · exact ⟨e0, e1, e2, e3, e4, e5, e6, e7, by omega⟩
  · have hb : Below W.heap.size W (W.alloc o) := (Below.refl _ _).alloc (Nat.le_refl _) _
    refine ⟨(hb.cell (by show B < W.heap.size; omega)).trans e0, (hb.cell (by show B < W.heap.size; omega)).trans e1, (hb.frozen (by show B < W.heap.size; omega)).trans e2, (hb.frozen (by show B < W.heap.size; omega)).trans e3,
      (hb.cell (by show R < W.heap.size; omega)).trans e4, (hb.cell (by show R < W.heap.size; omega)).trans e5, own_keep e6 hb, e7.trans (hb.mono (by omega)), by simp; omega⟩

theorem grantS_ok (t v fr x : Nat) (b : Bool) (h : (grantS t v fr x b).2 = true) : (grantS t v fr x b).1.2 = fr ∧ (grantS t v fr x b).1.1 = x := by
  revert h
  unfold grantS
  simp only
  split
  · rename_i hc; intro _; exact ⟨rfl, hc.2.1⟩
  · intro h; cases h
theorem hearS_inv (t v x : Nat) : t < (hearS t v x).1 ∨ ((hearS t v x).1 = t ∧ (v = 0 ∨ (hearS t v x).2 = v)) := by
  unfold hearS
  by_cases h : t < x
  · left; rw [if_pos h]; exact h
  · right; rw [if_neg h]; exact ⟨rfl, .inr rfl⟩
theorem grantS_inv (t v fr x : Nat) (b : Bool) : t < (grantS t v fr x b).1.1 ∨ ((grantS t v fr x b).1.1 = t ∧ (v = 0 ∨ (grantS t v fr x b).1.2 = v)) := by
  unfold grantS hearS
  by_cases h : t < x
  · simp only [if_pos h]
    split <;> simp [h]
  · simp only [if_neg h]
    split
    · rename_i hc
      obtain ⟨h1, h2, _⟩ := hc
      right; simp only at h1 ⊢
      refine ⟨trivial, ?_⟩
      omega
    · right; simp

theorem infoHard : (Try.prog.info? 29).map (fun i => (i.zero, i.size, i.bytes)) = some (some (.agg #[.int .u64 0, .int .u64 0]), 2, 16) := by kernel_rfl
theorem Rd.row (w : World) (e : TypeId) (size : Nat) (xs : Array Value) (hx : xs.size = size) (h1 : ∀ u ∈ xs.toList, u.oneCell' = true) : Rd (w.alloc (.cells xs e)) size (.slice (some ⟨w.heap.size, 0, none⟩) 1 1) 1 xs.toList := by
  refine ⟨by simpa using hx, h1, .inr ⟨_, _, rfl, Nat.le_refl _, fun j u hu => ?_⟩⟩
  rw [Addr.add_lit, Nat.zero_add, World.cell?_alloc_at _ _ _ _ rfl]
  simpa using hu
theorem vcells_length (vs : List (Nat × Nat)) : (vcells vs).length = vs.length * 2 := by
  induction vs with
  | nil => rfl
  | cons p vs ih => simp only [vcells, List.flatMap_cons, List.length_append] at *; rw [ih]; simp; omega
theorem vcells_at (vs : List (Nat × Nat)) (k : Nat) (p : Nat × Nat) (h : vs[k]? = some p) : (vcells vs)[k * 2]? = some (.int .u64 p.1) ∧ (vcells vs)[k * 2 + 1]? = some (.int .u64 p.2) := by
  induction vs generalizing k with
  | nil => simp at h
  | cons q vs ih =>
    cases k with
    | zero => simp at h; subst h; simp [vcells]
    | succ k =>
      have := ih k (by simpa using h)
      simp only [vcells, List.flatMap_cons] at *
      rw [show (k + 1) * 2 = k * 2 + 2 by omega, show k * 2 + 2 + 1 = (k * 2 + 1) + 2 by omega]
      simpa using this
theorem own_votes {w : World} {B : Nat} {e : TypeId} {a : Option Addr} {c : Nat} {vs : List (Nat × Nat)} (h : w.ownsRow B e 2 (.slice a vs.length c) vs.length (vcells vs)) :
    ∀ k p, vs[k]? = some p → ∃ g, a = some ⟨g, 0, none⟩ ∧ vs.length ≤ c ∧ g < w.heap.size ∧ w.cell? ⟨g, k * 2, none⟩ = some (.int .u64 p.1) ∧ w.cell? ⟨g, k * 2 + 1, none⟩ = some (.int .u64 p.2) := by
  intro k p hp
  have hk : k < vs.length := (List.getElem?_eq_some_iff.1 hp).1
  obtain ⟨g, cap, hv, _, hc, _, hg⟩ := own_at h (by omega)
  simp only [Value.slice.injEq, true_and] at hv
  obtain ⟨rfl, rfl⟩ := hv
  have hcells := h.cells (g := g) rfl
  have h2 := vcells_at vs k p hp
  have h3 := hcells _ _ h2.1
  have h4 := hcells _ _ h2.2
  rw [Addr.add_lit, Nat.zero_add] at h3 h4
  exact ⟨g, rfl, hc, hg, h3, h4⟩

theorem VInv.step {t v t' v' : Nat} {vs : List (Nat × Nat)} (h : VInv t v vs) (hst : t < t' ∨ (t' = t ∧ (v = 0 ∨ v' = v))) : VInv t' v' vs := by
  intro p hp
  obtain ⟨h1, h2, h3⟩ := h p hp
  refine ⟨h1, by omega, fun he => ?_⟩
  rcases hst with h4 | ⟨h4, h5⟩
  · omega
  · have h6 := h3 (by omega)
    rcases h5 with h5 | h5
    · omega
    · omega
theorem VInv.snoc {t v : Nat} {vs : List (Nat × Nat)} (h : VInv t v vs) (h0 : v ≠ 0) : VInv t v (vs ++ [(t, v)]) := by
  intro p hp
  rcases List.mem_append.1 hp with hp | hp
  · exact h p hp
  · obtain rfl := List.mem_singleton.1 hp
    exact ⟨h0, Nat.le_refl _, fun _ => rfl⟩

set_option maxHeartbeats 8000000 in
set_option maxRecDepth 100000 in
theorem ballotOnce_walk (base bt : Nat) (ent vs : Value) (n m : Nat) (w : World) (hb : base < 18446744073709551616) (hn : Ents w ent n) (hs : Script w vs m) :
    Calls Try.prog 3 #[.agg #[.int .u64 base, .int .u64 bt, ent], vs] w fun e w' => e = .returned (.bool true) ∧ Below w.heap.size w w' := by
  cases hd : decide ((4611686018427387904 : Int) < (base : Int)) with
  | true =>
    go_enter Try.func3, Try.ntmps3
    go_wp2_with fail
    refine (awake22_any _).mono ?_
    rintro e w1 ⟨rfl, hb1⟩
    have c0 : w1.cell? ⟨w.heap.size, 0, none⟩ = some (.int .u64 base) := by rw [hb1.cell (by simp)]; simp [go_sem]
    go_wp2_with fail
    go_ret
    exact ⟨rfl, ((Below.refl _ _).alloc (Nat.le_refl _) _).trans (hb1.mono (by simp))⟩
  | false =>
    go_enter Try.func3, Try.ntmps3
    go_wp2_with fail
    refine (awake22_any _).mono ?_
    rintro e w1 ⟨rfl, hb1⟩
    have c0 : w1.cell? ⟨w.heap.size, 0, none⟩ = some (.int .u64 base) := by rw [hb1.cell (by simp)]; simp [go_sem]
    go_wp2_with fail
    have cb1 : w1.cell? ⟨w.heap.size, 1, none⟩ = some (.int .u64 bt) := by rw [hb1.cell (by simp)]; simp [go_sem]
    have cb2 : w1.cell? ⟨w.heap.size, 2, none⟩ = some ent := by rw [hb1.cell (by simp)]; simp [go_sem]
    have hz1 : w.heap.size + 1 ≤ w1.heap.size := by have := hb1.size; simp at this; omega
    have hbw : Below w.heap.size w w1 := ((Below.refl _ _).alloc (Nat.le_refl _) _).trans (hb1.mono (by simp))
    have hs1 := hs.keep hbw
    have hn1 := hn.keep hbw
    obtain ⟨av, cv, rfl⟩ := hs.form
    go_loopg [6, 7] 60 (fun g s6 s7 wr => ∃ (i t v : Nat) (vs : List (Nat × Nat)), i ≤ 60 ∧ i ≤ m ∧ g = 60 - i ∧ s7 = .int .i64 i ∧ vs.length ≤ i ∧ VInv t v vs ∧ wr.ownsRow (w1.heap.size + 1) 29 2 s6 vs.length (vcells vs) ∧
      wr.cell? ⟨w1.heap.size, 0, none⟩ = some (.int .u64 t) ∧ wr.cell? ⟨w1.heap.size, 1, none⟩ = some (.int .u64 v) ∧ wr.frozen? ⟨w1.heap.size, 0, none⟩ = false ∧ wr.frozen? ⟨w1.heap.size, 1, none⟩ = false ∧ Below w1.heap.size w1 wr ∧ w1.heap.size + 1 ≤ wr.heap.size)
    case atStart =>
      exact ⟨0, 0, 0, [], by omega, by omega, rfl, rfl, by simp, (by intro p hp; cases hp), World.ownsRow_nil _ _ _ _, by simp [go_sem], by simp [go_sem], by simp [go_sem], by simp [go_sem], (Below.refl _ _).alloc (Nat.le_refl _) _, by simp⟩
    case round =>
      obtain ⟨i, t, v, vs, hi, him, rfl, rfl, hvl, hinv, hown, ch0, ch1, fh0, fh1, hbr, hzr⟩ := hrel
      have hsr := hs1.keep hbr
      have hnr := hn1.keep hbr
      by_cases hlt : i < 60 ∧ i < m
      · obtain ⟨h60, hm⟩ := hlt
        rcases hsr with ⟨_, h0⟩ | ⟨b, off, c, hv, hc, hbl, hsr⟩
        · omega
        obtain ⟨kd, k, fr, to_, x, idx, lt, cm, st, yes, ea, ma, ia, el, ec, ml, mc, il, ic, tm, id, hkd, q0, q1, q2, q3, q4, q5, q6, q7, q8, q9, q10, q11, q12, q13, q14⟩ := hsr i hm
        clear hsr
        simp only [Value.slice.injEq, true_and] at hv
        obtain ⟨rfl, rfl⟩ := hv
        have l1 : w1.heap.size < wr.heap.size := by omega
        have l2 : w.heap.size < wr.heap.size := by omega
        have l3 : (i : Int) < 60 := by omega
        have l4 : (i : Int) < (m : Int) := by omega
        have ne1 : ¬ w1.heap.size = wr.heap.size := by omega
        have ne2 : ¬ w1.heap.size = wr.heap.size + 1 := by omega
        have HINV := Lib.hid hinv
        clear hinv
        have hxx : i * 15 = 15 * i := Nat.mul_comm _ _
        have HXX := Lib.hid hxx
        clear hxx
        go_upto_block 2 with fail
        generalize (wrap64 (kd.tmod 3 + 3)).tmod 3 = T
        go_cut [10, 11, 12, 13] (fun s10 s11 s12 s13 wz => ∃ t' v' : Nat, (t < t' ∨ (t' = t ∧ (v = 0 ∨ v' = v))) ∧ wz.cell? ⟨w1.heap.size, 0, none⟩ = some (.int .u64 t') ∧ wz.cell? ⟨w1.heap.size, 1, none⟩ = some (.int .u64 v') ∧
          wz.frozen? ⟨w1.heap.size, 0, none⟩ = false ∧ wz.frozen? ⟨w1.heap.size, 1, none⟩ = false ∧ wz.cell? ⟨wr.heap.size + 1, 0, none⟩ = some (.int .u64 t) ∧ wz.cell? ⟨wr.heap.size + 1, 1, none⟩ = some (.int .u64 v) ∧
          wz.ownsRow (w1.heap.size + 1) 29 2 u6 vs.length (vcells vs) ∧ Below w1.heap.size w1 wz ∧ w1.heap.size + 1 ≤ wz.heap.size)
        case first =>
          clear q0 q1 q2 q3 q4 q5 q6 q7 q8 q9 q10 q11 q12 q13 q14 hkd HXX
          have hbW : Below wr.heap.size wr ((wr.alloc (.cells #[.int .i64 kd, .int .i64 k, .int .u64 fr, .int .u64 to_, .int .u64 x, .int .u64 idx, .int .u64 lt, .int .u64 cm, .int .u64 st, .bool yes, .slice ea el ec, .slice ma ml mc, .slice ia il ic, .int .u64 tm, .int .u64 id] 36)).alloc (.cells #[.int .u64 t, .int .u64 v] 29)) := ((Below.refl _ _).alloc (Nat.le_refl _) _).alloc (by simp) _
          have hownW := own_keep hown hbW
          have cl0 := (hbr.cell (p := ⟨w.heap.size, 0, none⟩) (by show w.heap.size < w1.heap.size; omega)).trans c0
          have cl1 := (hbr.cell (p := ⟨w.heap.size, 1, none⟩) (by show w.heap.size < w1.heap.size; omega)).trans cb1
          have cl2 := (hbr.cell (p := ⟨w.heap.size, 2, none⟩) (by show w.heap.size < w1.heap.size; omega)).trans cb2
          cases e0 : (T == 0) with
          | true =>
            go_wp2_with fail
            refine (Grant_any t v base bt ent n k fr to_ x idx lt cm st yes (.slice ea el ec) (.slice ma ml mc) (.slice ia il ic) _ hb (hnr.keep hbW)).mono ?_
            rintro e w2 ⟨⟨bb, rfl, _⟩, hb2⟩
            have hg1 := grantS_ok t v fr x bb
            have hg2 := grantS_inv t v fr x bb
            generalize grantS t v fr x bb = G at *
            obtain ⟨⟨t', v'⟩, ok⟩ := G
            have z2 : wr.heap.size + 2 ≤ w2.heap.size := by have := hb2.size; simp at this; omega
            have z3 : w1.heap.size < w2.heap.size := by omega
            have z4 : wr.heap.size < w2.heap.size := by omega
            have z5 : wr.heap.size + 1 < w2.heap.size := by omega
            have ne3 : ¬ w1.heap.size = w2.heap.size := by omega
            have d0 : w2.cell? ⟨w1.heap.size, 0, none⟩ = some (.int .u64 t) := by rw [hb2.cell (by simp; omega)]; simp [go_sem, *]
            have d1 : w2.cell? ⟨w1.heap.size, 1, none⟩ = some (.int .u64 v) := by rw [hb2.cell (by simp; omega)]; simp [go_sem, *]
            have d2 : w2.frozen? ⟨w1.heap.size, 0, none⟩ = false := by rw [hb2.frozen (by simp; omega)]; simp [go_sem, *]
            have d3 : w2.frozen? ⟨w1.heap.size, 1, none⟩ = false := by rw [hb2.frozen (by simp; omega)]; simp [go_sem, *]
            have d4 : w2.cell? ⟨wr.heap.size + 1, 0, none⟩ = some (.int .u64 t) := by rw [hb2.cell (by simp)]; simp [go_sem]
            have d5 : w2.cell? ⟨wr.heap.size + 1, 1, none⟩ = some (.int .u64 v) := by rw [hb2.cell (by simp)]; simp [go_sem]
            have d6 : w2.cell? ⟨wr.heap.size, 2, none⟩ = some (.int .u64 fr) := by rw [hb2.cell (by simp; omega)]; simp [go_sem, *]
            have d7 : w2.cell? ⟨wr.heap.size, 4, none⟩ = some (.int .u64 x) := by rw [hb2.cell (by simp; omega)]; simp [go_sem, *]
            have own2 := own_keep hownW hb2
            have hbb2 : Below w1.heap.size w1 w2 := (hbr.trans (hbW.mono (by omega))).trans (hb2.mono (by simp; omega))
            clear hb2 hbW hownW hown ch0 ch1 fh0 fh1
            cases ok with
            | true =>
              obtain ⟨g1, g2⟩ := hg1 rfl
              simp only at g1 g2
              have h1 : ((v' : Int) != (fr : Int)) = false := by simp; omega
              have h2 : ((t' : Int) != (x : Int)) = false := by simp; omega
              have HG := Lib.hid hg2
              clear g1 g2 hg1 hg2
              go_wp2_with fail
              go_meet
              exact ⟨t', v', HG.out, hset _ rfl (by omega) z5 d0 d1 d2 d3 d4 d5 own2 hbb2 _ (.inr rfl)⟩
            | false =>
              have HG := Lib.hid hg2
              clear hg1 hg2
              go_wp2_with fail
              go_meet
              exact ⟨t', v', HG.out, hset _ rfl (by omega) z5 d0 d1 d2 d3 d4 d5 own2 hbb2 _ (.inr rfl)⟩
          | false =>
            cases e1 : (T == 1) with
            | true =>
              go_wp2_with fail
              refine (Hear_any t v tm _).mono ?_
              rintro e w2 ⟨rfl, hb2⟩
              have hg2 := hearS_inv t v tm
              generalize hearS t v tm = G at *
              obtain ⟨t', v'⟩ := G
              have z2 : wr.heap.size + 2 ≤ w2.heap.size := by have := hb2.size; simp at this; omega
              have z3 : w1.heap.size < w2.heap.size := by omega
              have z4 : wr.heap.size < w2.heap.size := by omega
              have z5 : wr.heap.size + 1 < w2.heap.size := by omega
              have ne3 : ¬ w1.heap.size = w2.heap.size := by omega
              have d0 : w2.cell? ⟨w1.heap.size, 0, none⟩ = some (.int .u64 t) := by rw [hb2.cell (by simp; omega)]; simp [go_sem, *]
              have d1 : w2.cell? ⟨w1.heap.size, 1, none⟩ = some (.int .u64 v) := by rw [hb2.cell (by simp; omega)]; simp [go_sem, *]
              have d2 : w2.frozen? ⟨w1.heap.size, 0, none⟩ = false := by rw [hb2.frozen (by simp; omega)]; simp [go_sem, *]
              have d3 : w2.frozen? ⟨w1.heap.size, 1, none⟩ = false := by rw [hb2.frozen (by simp; omega)]; simp [go_sem, *]
              have d4 : w2.cell? ⟨wr.heap.size + 1, 0, none⟩ = some (.int .u64 t) := by rw [hb2.cell (by simp)]; simp [go_sem]
              have d5 : w2.cell? ⟨wr.heap.size + 1, 1, none⟩ = some (.int .u64 v) := by rw [hb2.cell (by simp)]; simp [go_sem]
              have d6 : w2.cell? ⟨wr.heap.size, 2, none⟩ = some (.int .u64 fr) := by rw [hb2.cell (by simp; omega)]; simp [go_sem, *]
              have d7 : w2.cell? ⟨wr.heap.size, 4, none⟩ = some (.int .u64 x) := by rw [hb2.cell (by simp; omega)]; simp [go_sem, *]
              have own2 := own_keep hownW hb2
              have hbb2 : Below w1.heap.size w1 w2 := (hbr.trans (hbW.mono (by omega))).trans (hb2.mono (by simp; omega))
              clear hb2 hbW hownW hown ch0 ch1 fh0 fh1
              have HG := Lib.hid hg2
              clear hg2
              go_wp2_with fail
              go_meet
              exact ⟨t', v', HG.out, hset (.cells #[] 0) rfl (by omega) z5 d0 d1 d2 d3 d4 d5 own2 hbb2 _ (.inl rfl)⟩
            | false =>
              go_wp2_with fail
              refine (Stand_any t v id _).mono ?_
              rintro e w2 ⟨hor, hb2⟩
              have z2 : wr.heap.size + 2 ≤ w2.heap.size := by have := hb2.size; simp at this; omega
              have z3 : w1.heap.size < w2.heap.size := by omega
              have z4 : wr.heap.size < w2.heap.size := by omega
              have z5 : wr.heap.size + 1 < w2.heap.size := by omega
              have ne3 : ¬ w1.heap.size = w2.heap.size := by omega
              have d0 : w2.cell? ⟨w1.heap.size, 0, none⟩ = some (.int .u64 t) := by rw [hb2.cell (by simp; omega)]; simp [go_sem, *]
              have d1 : w2.cell? ⟨w1.heap.size, 1, none⟩ = some (.int .u64 v) := by rw [hb2.cell (by simp; omega)]; simp [go_sem, *]
              have d2 : w2.frozen? ⟨w1.heap.size, 0, none⟩ = false := by rw [hb2.frozen (by simp; omega)]; simp [go_sem, *]
              have d3 : w2.frozen? ⟨w1.heap.size, 1, none⟩ = false := by rw [hb2.frozen (by simp; omega)]; simp [go_sem, *]
              have d4 : w2.cell? ⟨wr.heap.size + 1, 0, none⟩ = some (.int .u64 t) := by rw [hb2.cell (by simp)]; simp [go_sem]
              have d5 : w2.cell? ⟨wr.heap.size + 1, 1, none⟩ = some (.int .u64 v) := by rw [hb2.cell (by simp)]; simp [go_sem]
              have d6 : w2.cell? ⟨wr.heap.size, 2, none⟩ = some (.int .u64 fr) := by rw [hb2.cell (by simp; omega)]; simp [go_sem, *]
              have d8 : w2.cell? ⟨wr.heap.size, 14, none⟩ = some (.int .u64 id) := by rw [hb2.cell (by simp; omega)]; simp [go_sem, *]
              have d7 : w2.cell? ⟨wr.heap.size, 4, none⟩ = some (.int .u64 x) := by rw [hb2.cell (by simp; omega)]; simp [go_sem, *]
              have own2 := own_keep hownW hb2
              have hbb2 : Below w1.heap.size w1 w2 := (hbr.trans (hbW.mono (by omega))).trans (hb2.mono (by simp; omega))
              clear hb2 hbW hownW hown ch0 ch1 fh0 fh1
              rcases hor with rfl | rfl
              · go_wp2_with fail
                go_meet
                exact ⟨t, v, .inr ⟨rfl, .inr rfl⟩, hset _ rfl (by omega) z5 d0 d1 d2 d3 d4 d5 own2 hbb2 _ (.inr rfl)⟩
              · have h1 : ((id : Int) != (id : Int)) = false := by simp
                have h2 : ((t : Int) < ((t + 1 : Nat) : Int)) := by omega
                go_wp2_with fail
                go_meet
                exact ⟨t + 1, id, .inl (by omega), hset _ rfl (by omega) z5 d0 d1 d2 d3 d4 d5 own2 hbb2 _ (.inr rfl)⟩
        case rest =>
          obtain ⟨t', v', hst, e0, e1, f0, f1, a0, a1, ownz, hbz, hzz⟩ := hcut
          clear hown ch0 ch1 fh0 fh1 q0 q1 q2 q3 q4 q5 q6 q7 q8 q9 q10 q11 q12 q13 q14 hkd HXX
          have HV : Hid (VInv t' v' vs) := VInv.step HINV.out hst
          have HST := Lib.hid hst
          have t0 : ¬ (t' : Int) < (t : Int) := by omega
          go_upto_region 24 with fail
          go_cut [121] (fun s121 wq => s121 = .bool false ∧ wq = wc)
          case first =>
            cases b1 : ((t' : Int) == (t : Int)) <;> cases b2 : ((v : Int) != 0) <;> cases b3 : ((v' : Int) != (v : Int))
            all_goals (try (exfalso; simp at b1 b2 b3; omega))
            all_goals clear hst
            all_goals go_wp2_with fail
            all_goals go_meet
            all_goals exact ⟨rfl, rfl⟩
          case rest =>
            obtain ⟨rfl, rfl⟩ := hcut
            clear hst t0 a0 a1
            go_wp2_with fail
            obtain ⟨ao, co, rfl⟩ := own_form ownz
            have hcells := own_votes ownz
            go_loopw [14] (fun s14 wx => (∃ k : Nat, k ≤ vs.length ∧ s14 = .int .i64 k) ∧ ∃ nq, wx = wc.drewN nq) (fun s14 _ => vs.length - (intOf s14).toNat)
            case atStart => exact ⟨⟨0, by omega, rfl⟩, 0, rfl⟩
            case round =>
              obtain ⟨⟨kk, hk, rfl⟩, na, rfl⟩ := hrel
              by_cases hkl : kk < vs.length
              · obtain ⟨p, hp⟩ : ∃ p, vs[kk]? = some p := ⟨vs[kk], List.getElem?_eq_getElem hkl⟩
                obtain ⟨gv, rfl, hcv, hgv, w0, w2⟩ := hcells kk p hp
                have hpv := HV.out p (List.mem_of_getElem? hp)
                obtain ⟨p1, p2⟩ := p
                simp only at hpv w0 w2
                have hkz : (kk : Int) < (vs.length : Int) := by omega
                have hk0 : (0 : Int) ≤ (kk : Int) := by omega
                clear hcells hp
                cases b4 : ((p1 : Int) == (t' : Int)) <;> cases b5 : ((v' : Int) != 0) <;> cases b6 : ((p2 : Int) != (v' : Int))
                all_goals (try (exfalso; simp at b4 b5 b6; omega))
                all_goals clear hpv
                all_goals go_wp2_with fail
                all_goals go_quiet (fail)
                all_goals go_wp2_with fail
                all_goals (go_roundw; (case rel => exact ⟨⟨kk + 1, by omega, by go_num⟩, na + nq, by simp [World.drewN]⟩); (case measure => simp [intOf]; omega))
              · have hkz : ¬ (kk : Int) < (vs.length : Int) := by omega
                clear hcells
                obtain ⟨wd, hwd⟩ : ∃ wd : World, wd = wc.drewN na := ⟨_, rfl⟩
                rw [← hwd]
                have e0' : wd.cell? ⟨w1.heap.size, 0, none⟩ = some (.int .u64 t') := by rw [hwd]; exact e0
                have e1' : wd.cell? ⟨w1.heap.size, 1, none⟩ = some (.int .u64 v') := by rw [hwd]; exact e1
                have f0' : wd.frozen? ⟨w1.heap.size, 0, none⟩ = false := by rw [hwd]; exact f0
                have f1' : wd.frozen? ⟨w1.heap.size, 1, none⟩ = false := by rw [hwd]; exact f1
                have own' : wd.ownsRow (w1.heap.size + 1) 29 2 (.slice ao vs.length co) vs.length (vcells vs) := by rw [hwd]; exact ownz
                have hb' : Below w1.heap.size w1 wd := by rw [hwd]; exact ⟨hbz.os, hbz.tape, hbz.output, hbz.size, hbz.block⟩
                have hz' : w1.heap.size + 1 ≤ wd.heap.size := by rw [hwd]; exact hzz
                clear hwd e0 e1 f0 f1 ownz hbz hzz
                cases b5 : ((v' : Int) != 0) with
                | false =>
                  go_wp2_with fail
                  go_roundg (60 - (i + 1))
                  case measure => omega
                  case rel => exact ⟨i + 1, t', v', vs, by omega, by omega, rfl, by go_num, by omega, HV.out, own', e0', e1', f0', f1', hb', hz'⟩
                | true =>
                  have hv0 : v' ≠ 0 := by simp at b5; omega
                  have hvs := VInv.snoc HV.out hv0
                  have HVS := Lib.hid hvs
                  clear hv0 hvs
                  go_wp2_with (at_builtin; refine wpList_app Try.underlying30 infoHard rfl (by decide) rfl _ _ rfl rfl rfl (own_keep own' ((Below.refl _ _).alloc (Nat.le_refl _) _)) (Rd.row wd 29 2 #[.int .u64 t', .int .u64 v'] rfl (by simp [Value.oneCell'])) (by omega) (by omega) (by simp; omega) ?_)
                  intro v6 w6 own6 hg6 _
                  replace hg6 := hg6.alloc
                  have hb6 := hg6.below hz' (own_block own')
                  have hz6 := hb6.size
                  go_wp2_with fail
                  go_roundg (60 - (i + 1))
                  case measure => omega
                  case rel =>
                    refine ⟨i + 1, t', v', vs ++ [(t', v')], by omega, by omega, rfl, by go_num, by simp; omega, HVS.out, ?_, ?_, ?_, ?_, ?_, hb'.trans (hb6.mono (by omega)), by omega⟩
                    · have : vcells (vs ++ [(t', v')]) = vcells vs ++ [.int .u64 t', .int .u64 v'] := by simp [vcells]
                      rw [this, List.length_append]; exact own6
                    · exact (hb6.cell (by show w1.heap.size < w1.heap.size + 1; omega)).trans e0'
                    · exact (hb6.cell (by show w1.heap.size < w1.heap.size + 1; omega)).trans e1'
                    · exact (hb6.frozen (by show w1.heap.size < w1.heap.size + 1; omega)).trans f0'
                    · exact (hb6.frozen (by show w1.heap.size < w1.heap.size + 1; omega)).trans f1'
      · have hfin : Below w.heap.size w wr := hbw.trans (hbr.mono (by omega))
        rcases hsr with ⟨hv, h0⟩ | ⟨b, off, c, hv, hc, hbl, hsr⟩
        · have l4 : ¬ (i : Int) < (m : Int) := by omega
          clear hinv
          go_wp2_with fail
          go_ret
          exact ⟨rfl, hfin⟩
        · clear hsr hinv
          by_cases hm : i < m
          · have l3 : ¬ (i : Int) < 60 := by omega
            have l4 : (i : Int) < (m : Int) := by omega
            go_wp2_with fail
            go_ret
            exact ⟨rfl, hfin⟩
          · have l4 : ¬ (i : Int) < (m : Int) := by omega
            go_wp2_with fail
            go_ret
            exact ⟨rfl, hfin⟩
end Go.Proofs.Ythghhjilbaiahaa
