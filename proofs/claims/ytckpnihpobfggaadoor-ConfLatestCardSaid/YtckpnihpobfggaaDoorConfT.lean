/- Contract: conf.Latest. -/
import Derived.Test.YtckpnihpobfggaaDoorConfE
namespace Go.Proofs.YtckpnihpobfggaaDoor
open Go.RowKit Go.Shelf

attribute [local go_sem] Oper.semAt_some

/-- The last entry that changes the members. -/
def lastConf (es : List EE) : Option EE := es.reverse.find? fun e => decide (e.k = 3)
/-- An entry's members read in w. -/
def MOk (w : World) (e : EE) : Prop := ∃ ml : List Nat, Rd w 1 e.m ml.length (uv ml) ∧ ml.length * 8 ≤ 140737488351232 ∧ e.d.oneCell' = true
theorem MOk_no (w : World) : MOk w noE := ⟨[], Rd.nil _ _, by simp, rfl⟩
theorem upto_mem {α : Type} (f : Nat → α) (k : Nat) (x : α) : x ∈ upto f k ↔ ∃ i, i < k ∧ x = f i := by
  unfold upto
  rw [List.mem_map]
  constructor
  · rintro ⟨i, hi, rfl⟩; exact ⟨i, List.mem_range.1 hi, rfl⟩
  · rintro ⟨i, hi, rfl⟩; exact ⟨i, List.mem_range.2 hi, rfl⟩
theorem back_rev {P : EE → Prop} (hP0 : P noE) (ps : List (EP P)) (i : Nat) (hi : i < ps.length) : (ps.map (·.1)).reverse[i]? = some (backF hP0 ps i).2.1 := by
  rw [List.getElem?_reverse (by simpa using hi), List.length_map, List.getElem?_map]
  unfold backF
  rw [List.getD_eq_getElem?_getD, List.getElem?_eq_getElem (by omega)]; rfl
theorem last_none {P : EE → Prop} (hP0 : P noE) (ps : List (EP P)) (h : ∀ x ∈ upto (backF hP0 ps) ps.length, x.2.1.k ≠ 3) : lastConf (ps.map (·.1)) = none := by
  unfold lastConf
  rw [List.find?_eq_none]
  intro e he
  obtain ⟨i, hi, rfl⟩ := List.getElem_of_mem he
  have hi' : i < ps.length := by simpa using hi
  have := back_rev hP0 ps i hi'
  rw [List.getElem?_eq_getElem hi] at this
  rw [Option.some.inj this]
  have := h _ ((upto_mem _ _ _).2 ⟨i, hi', rfl⟩)
  simpa using this
theorem last_some {P : EE → Prop} (hP0 : P noE) (ps : List (EP P)) (k : Nat) (hk : k < ps.length) (h : ∀ x ∈ upto (backF hP0 ps) k, x.2.1.k ≠ 3) (h3 : (backF hP0 ps k).2.1.k = 3) : lastConf (ps.map (·.1)) = some (backF hP0 ps k).2.1 := by
  unfold lastConf
  rw [List.find?_eq_some_iff_getElem]
  have hl : k < (ps.map (·.1)).reverse.length := by simpa using hk
  have hb := back_rev hP0 ps k hk
  rw [List.getElem?_eq_getElem hl] at hb
  refine ⟨by simpa using h3, k, hl, Option.some.inj hb, fun j hj => ?_⟩
  have hj' := back_rev hP0 ps j (by omega)
  rw [List.getElem?_eq_getElem (by omega)] at hj'
  rw [Option.some.inj hj']
  have := h _ ((upto_mem _ _ _).2 ⟨j, hj, rfl⟩)
  simpa using this

theorem load_words (w : World) (g : Nat) (a : Option Addr) (n c : Nat) (h : w.cell? ⟨g, 0, none⟩ = some (.slice a n c)) : (loadVar 22 ⟨g, 0, none⟩).run Tryd.prog w = .ok (.slice a n c) w := by
  unfold loadVar
  simp [go_sem, h]
theorem results_words {fn : Func} {p : Tmp} (h : fn.results = #[.cell p 22]) (tmps : Array Value) (w : World) (g : Nat) (a : Option Addr) (n c : Nat)
    (hp : tmps.getD p undef = .pointer (some ⟨g, 0, none⟩)) (hc : w.cell? ⟨g, 0, none⟩ = some (.slice a n c)) : (results fn tmps).run Tryd.prog w = .ok (.slice a n c) w := by
  have hp' : tmps[p]?.getD undef = .pointer (some ⟨g, 0, none⟩) := by simpa using hp
  simp [results, h, hp', asAddr, load_words w g a n c hc]
theorem below_grown {w w' : World} (h : Below w.heap.size w w') (r : Option Nat) : w.grownBy w' r := ⟨h.os, h.tape, h.output, h.size, fun k hk _ => h.block k hk⟩
theorem ent_one {w : World} (e : EE) (h : MOk w e) : ∀ u ∈ e.cells, u.oneCell' = true := by
  obtain ⟨ml, hr, _, hd⟩ := h
  obtain ⟨a, c, hm⟩ := hr.form
  intro u hu
  simp only [EE.cells, List.mem_cons, List.not_mem_nil, or_false] at hu
  rcases hu with rfl | rfl | rfl | rfl | rfl | rfl
  · rfl
  · rfl
  · rfl
  · rfl
  · exact hd
  · rw [hm]; rfl

set_option maxRecDepth 100000 in
set_option maxHeartbeats 8000000 in
theorem Latest_core (v u : Value) (l : List Nat) (w : World) {P : EE → Prop} (hP0 : P noE) (hP1 : ∀ e, P e → ∀ u ∈ e.cells, u.oneCell' = true) (ps : List (EP P)) (M : EE → List Nat) (hM : ∀ x : EP P, Rd w 1 x.1.m (M x.1).length (uv (M x.1)) ∧ (M x.1).length * 8 ≤ 140737488351232) (hr : Rd w 1 v l.length (uv l)) (hl : l.length * 8 ≤ 140737488351232)
    (hu : Rd w 6 u ps.length (ecells (ps.map (·.1)))) (hlp : ps.length ≤ 140737488355328) :
    Calls Tryd.prog 18 #[v, u] w fun e w' => ∃ (v' : Value) (X : List Nat), e = .returned v' ∧ Rd w' 1 v' X.length (uv X) ∧ Below w.heap.size w w' ∧
      ((lastConf (ps.map (·.1)) = none ∧ X = l) ∨ ∃ e : EE, lastConf (ps.map (·.1)) = some e ∧ X = M e) := by
  have hE := ents_of ps hu
  obtain ⟨v0a, v0c, rfl⟩ := hr.form
  obtain ⟨a, c, rfl⟩ := hu.form
  refine (callsIn_wide (n := 3)).1 ?_
  refine callsIn_of_wp_marks Tryd.func18 rfl trivial ?_ rfl
  simp only [Tryd.ntmps18, List.size_toArray, List.length_cons, List.length_nil, Nat.reduceAdd, Nat.reduceSub, Array.replicate_succ, Array.replicate_zero, List.push_toArray, List.append_toArray, List.nil_append, List.cons_append]
  gi_wp2
  refine ⟨trivial, ?_⟩
  refine (backward_in Fence.wide 2 trivial rfl _ _ _ _).mono ?_
  rintro e w4 ⟨rfl, hw4⟩
  obtain ⟨g, hg⟩ : ∃ g, g = w.heap.size := ⟨_, rfl⟩
  rw [show (w.alloc (Obj.cells #[Value.slice none 0 0] 22)).heap.size = g + 1 by rw [hg]; simp]
  have hb4 : Below g w w4 := by rw [hw4, hg]; exact ((Below.refl _ _).alloc (Nat.le_refl _) _).alloc (by simp) _
  have hs4 : w4.heap.size = g + 2 := by rw [hw4, hg]; simp
  have hr0 : w4.heap[g]? = some (.cells #[.slice none 0 0] 22 (0, 0)) := by
    rw [hw4, hg, heap_alloc_old _ _ (by simp)]
    exact heap_alloc_new _ _
  have hcB : w4.cell? ⟨g + 1, 0, none⟩ = some (.slice a ps.length c) := by rw [hw4, hg]; simp [go_sem]
  have hHq := (hE.below (hg ▸ hb4))
  rw [← hg] at hHq ⊢
  have HG := Lib.hid hg
  have HR := Lib.hid hr
  have HM := Lib.hid hM
  clear hE hw4 hr hu hM hg
  gi_wp2
  refine wpIn_rangeFunc_ownH rfl (by omega) (gf := 33) (lb := #[.pointer (some ⟨g + 1, 0, none⟩)]) rfl trivial (enters_of Tryd.func33 (by kernel_rfl) rfl)
    (back_stops hP0 Fence.wide 2 trivial rfl (by omega) (g + 1) g _ ps hlp w4 (by omega) (by omega) hcB hHq) Kp2.trans
    (fun W l o o' hle ho hc1 hc2 => ⟨belowK_b (w := w4) (by omega) W l o o' hle ho hc1 hc2, (grownBy_putObj' W l o').block _ (by have := (Array.getElem?_eq_some_iff.1 ho).1; omega) (fun e => by simp at e; omega)⟩) (Below.refl _ _) (fun _ => rfl)
    (fun pre W => (W.heap[g]? = some (.cells #[.slice none 0 0] 22 (0, 0)) ∧ (∀ y ∈ pre, y.2.1.k ≠ 3)) ∧ (Below g w W ∧ w4.heap.size ≤ W.heap.size))
    (fun cd pre W => (cd = .ret ∧ ∃ pre0 x, pre = pre0 ++ [x] ∧ (∀ y ∈ pre0, y.2.1.k ≠ 3) ∧ x.2.1.k = 3 ∧ ∃ v', W.heap[g]? = some (.cells #[v'] 22 (0, 0)) ∧ W.ownsRow g 25 1 v' (M x.2.1).length (uv (M x.2.1))) ∧ (Below g w W ∧ w4.heap.size ≤ W.heap.size))
    (OwnFrom.and (OwnFrom.and (Own.from (row_own _ _ (fun _ => rfl)) _) (ownFrom_pure _ _)) (OwnFrom.and (ownFrom_below (Nat.le_of_eq HG.out) (by omega)) (fun _ X Y row hs hg hr => Nat.le_trans hs hg.size)))
    (fun cd => OwnFrom.and (fun pre X Y row hs hgr hrw => by
      obtain ⟨h1, pre0, x, h2, h3, h4, v', h5, h6⟩ := hs
      exact ⟨h1, pre0, x, h2, h3, h4, v', row_own g (fun (_ : Unit) => Obj.cells #[v'] 22 (0, 0)) (fun _ => rfl) () X Y row h5 hgr (fun r e => (hrw r e).2), own_own _ _ _ _ _ _ _ () X Y row h6 hgr hrw⟩) (OwnFrom.and (ownFrom_below (Nat.le_of_eq HG.out) (by omega)) (fun _ X Y row hs hg hr => Nat.le_trans hs hg.size)))
    ⟨⟨hr0, by simp⟩, hb4, Nat.le_refl _⟩
    (fun x a' W => ∃ Bx, w4.heap.size ≤ Bx ∧ W.heap[Bx]? = some (.cells x.2.1.cells.toArray 35 (0, 0)) ∧ a' = { tmps := #[.slice v0a l.length v0c, .slice a ps.length c, undef, undef, .pointer (some ⟨g, 0, none⟩), undef, .pointer (some ⟨Bx, 0, none⟩), .slice a ps.length c, .func (.func 33) #[] #[.pointer (some ⟨g + 1, 0, none⟩)], .int .i64 x.1, .agg x.2.1.cells.toArray, undef, undef, undef, undef, undef, undef, undef, undef], defers := [] })
    (fun x a' _ X Y row hs hg hr => by
      obtain ⟨Bx, h1, h2, h3⟩ := hs
      exact ⟨Bx, h1, row_own Bx (fun (_ : Unit) => Obj.cells x.2.1.cells.toArray 35 (0, 0)) (fun _ => rfl) () X Y row h2 hg (fun r e => (hr r e).2), h3⟩)
    ?assign ?body ?done ?stop
  case assign =>
    rintro l pre x W K ⟨⟨h6, h4⟩, hB, hsz⟩ hK
    have HI := Lib.hid (And.intro h6 (And.intro h4 (And.intro hB hsz)))
    have H7 := Lib.hid (heap_alloc_new W (.cells #[.int .u64 0, .int .i64 0, .int .u64 0, .int .u64 0, .slice none 0 0, .slice none 0 0] 35))
    have hsz6 : (Tryd.prog.info? 35).map (·.size) = some x.2.1.cells.length := infoSz
    have hone : ∀ u ∈ x.2.1.cells, u.oneCell' = true := hP1 x.2.1 x.2.2
    have HS := Lib.hid (And.intro hsz6 hone)
    clear hsz6 hone
    clear h6 h4 hB hsz
    gi_wp2_with (with_reducible show wpListIn _ _ _ _ _ (⟨none, Op.store _ _ _, _, _, _, _⟩ :: _) _ _; refine wpListIn_store_row rfl _ _ _ rfl W.heap.size x.2.1.cells rfl rfl [.int .u64 0, .int .i64 0, .int .u64 0, .int .u64 0, .slice none 0 0, .slice none 0 0] 35 H7.out HS.out.1 rfl HS.out.2 ?_; intro W9 HG9 hg9 hz9)
    have k1 : Below W.heap.size W W9 := below_grow ((Below.refl _ _).alloc (Nat.le_refl _) _) hg9 (Nat.le_refl _) (by simp)
    obtain ⟨h6, h4, hB, hsz⟩ := HI.out
    have hgB : g ≤ W.heap.size := by omega
    have hg' : W.grownBy W9 none := below_grown k1 none
    exact hK _ _ (KeepsFrom.of_grownBy hg' (fun j e => by cases e)) ⟨k1.mono hgB, k1.block _ (by omega)⟩ ⟨⟨(k1.block _ (Array.getElem?_eq_some_iff.1 h6).1).trans h6, h4⟩, hB.trans (k1.mono hgB), Nat.le_trans hsz k1.size⟩ ⟨W.heap.size, hsz, HG9, rfl⟩
  case body =>
    rintro l pre x a' W hl ⟨r, hrr⟩ ⟨⟨h6, h4⟩, hB, hsz⟩ ⟨Bx, hBx, bX, rfl⟩ hlt
    have c1 : W.cell? ⟨Bx, 1, none⟩ = some (.int .i64 x.2.1.k) := by rw [cell_of_row _ _ _ _ _ _ bX]; rfl
    have c5 : W.cell? ⟨Bx, 5, none⟩ = some x.2.1.m := by rw [cell_of_row _ _ _ _ _ _ bX]; rfl
    have HI := Lib.hid (And.intro h6 (And.intro h4 (And.intro hB hsz)))
    by_cases hk : x.2.1.k = 3
    · rw [hk] at c1
      obtain ⟨ma, mc, hm⟩ := (HM.out x.2).1.form
      have hrW : Rd W 1 x.2.1.m (M x.2.1).length (uv (M x.2.1)) := (HM.out x.2).1.keep (HG.out ▸ hB)
      have hn : (M x.2.1).length * 8 ≤ 140737488351232 := (HM.out x.2).2
      rw [hm] at c5 hrW
      have HK := Lib.hid hk
      have HRW := Lib.hid (And.intro hrW hn)
      clear h6 h4 hB hsz bX hrr hk hm hrW hn
      gi_wp2
      refine ⟨trivial, ?_⟩
      refine (CallsIn.inRound l (callsIn_wide.2 (CloneU_any _ _ _ W HRW.out.1 (by have := HRW.out.2; omega)))).mono ?_
      rintro e W1 ⟨v', rfl, ho, hb1⟩
      obtain ⟨va, vc, rfl⟩ := own_form ho
      have bx : Boxed W1 g 22 (.slice none 0 0) := (hb1.block _ (Array.getElem?_eq_some_iff.1 HI.out.1).1).trans HI.out.1
      have cg := bx.cell
      have cf := bx.frozen
      have HO := Lib.hid (And.intro ho (And.intro hb1 bx))
      clear ho hb1 bx c1 c5
      gi_wp2
      have ho := HO.out.1
      have hb1 := HO.out.2.1
      have bx := HO.out.2.2
      obtain ⟨h6, h4, hB, hsz⟩ := HI.out
      have hgW : g < W.heap.size := (Array.getElem?_eq_some_iff.1 h6).1
      have kg := grownBy_setCell' W1 g (.slice va (M x.2.1).length vc)
      have hrow := (own_base ho (show g ≤ W.heap.size by omega)).kept kg (.inr fun e => by have := own_block ho g e; omega)
      exact ⟨(KeepsFrom.of_grownBy (below_grown hb1 none) (fun j e => by cases e)).trans (KeepsFrom.of_grownBy kg (fun j e => by simp at e; omega)),
        ⟨rfl, pre, x, rfl, h4, HK.out, _, bx.set _, hrow⟩, below_grow (hB.trans (hb1.mono (by omega))) kg (Nat.le_refl _) (Nat.lt_of_lt_of_le hgW hb1.size), Nat.le_trans hsz (Nat.le_trans hb1.size kg.size)⟩
    · have hkz : (x.2.1.k == 3) = false := by simpa using hk
      have HK := Lib.hid hk
      clear h6 h4 hB hsz bX hrr hk
      gi_wp2
      obtain ⟨h6, h4, hB, hsz⟩ := HI.out
      refine ⟨KeepsFrom.of_grownBy (World.grownBy.refl W none) (fun j e => by cases e), Kp2.refl _ _ _, ⟨h6, fun y hy => ?_⟩, hB, hsz⟩
      rcases List.mem_append.1 hy with hy | hy
      · exact h4 y hy
      · rw [List.mem_singleton.1 hy]; exact HK.out
  case done =>
    rintro D ys W hD rfl ⟨⟨h6, h4⟩, hB, hsz⟩ hK
    have hrW : Rd W 1 (.slice v0a l.length v0c) l.length (uv l) := HR.out.keep (HG.out ▸ hB)
    have HI := Lib.hid (And.intro h6 (And.intro h4 (And.intro hB (And.intro hsz hK))))
    have HRW := Lib.hid hrW
    clear h6 h4 hB hsz hrW hK
    gi_wp2
    refine ⟨trivial, ?_⟩
    refine (callsIn_wide.2 (CloneU_any _ _ _ W HRW.out (by omega))).mono ?_
    rintro e W1 ⟨v', rfl, ho, hb1⟩
    obtain ⟨va, vc, rfl⟩ := own_form ho
    have bx : Boxed W1 g 22 (.slice none 0 0) := (hb1.block _ (Array.getElem?_eq_some_iff.1 HI.out.1).1).trans HI.out.1
    have cg := bx.cell
    have cf := bx.frozen
    have HO := Lib.hid (And.intro ho (And.intro hb1 bx))
    clear ho hb1 bx
    gi_wp2
    have ho := HO.out.1
    have hb1 := HO.out.2.1
    have bx := HO.out.2.2
    obtain ⟨h6, h4, hB, hsz, hK⟩ := HI.out
    have hgW : g < W.heap.size := (Array.getElem?_eq_some_iff.1 h6).1
    have kg := grownBy_setCell' W1 g (.slice va l.length vc)
    have hrow := (own_base ho (show g ≤ W.heap.size by omega)).kept kg (.inr fun e => by have := own_block ho g e; omega)
    have hKD := (kg.block D (Nat.lt_of_lt_of_le (Array.getElem?_eq_some_iff.1 hK).1 hb1.size) (fun e => by simp at e; omega)).trans ((hb1.block D (Array.getElem?_eq_some_iff.1 hK).1).trans hK)
    have hbx := bx.set (.slice va l.length vc)
    refine ⟨by simp, .inl ⟨_, _, rfl, run_takeDeferred hKD, ?_⟩⟩
    have kp := grownBy_putObj' (W1.setCell ⟨g, 0, none⟩ (.slice va l.length vc)) D (.deferred none)
    have hgD : some g ≠ some D := fun e => by simp at e; omega
    have hb2 : Boxed ((W1.setCell ⟨g, 0, none⟩ (.slice va l.length vc)).putObj D (.deferred none)) g 22 (.slice va l.length vc) := hbx.kept kp hgD
    have hrow2 := own_own l.length _ g 1 _ _ 0 () _ _ (some D) hrow kp (fun r e => by
      obtain rfl : D = r := by simpa using e
      exact ⟨Nat.zero_le _, _, hKD, rfl⟩)
    refine ⟨.slice va l.length vc, results_words Tryd.results18 _ _ g va l.length vc rfl hb2.cell, _, l, rfl, own_rd hrow2 (uv_one _), ?_, .inl ⟨last_none hP0 ps h4, rfl⟩⟩
    have hBl : Below g w (W1.setCell ⟨g, 0, none⟩ (.slice va l.length vc)) := below_grow (hB.trans (hb1.mono (by omega))) kg (Nat.le_refl _) (Nat.lt_of_lt_of_le hgW hb1.size)
    have := hBl.trans (belowK_b (w := w4) (by omega) _ D _ (.deferred none) (by omega) hKD rfl rfl)
    exact HG.out ▸ this
  case stop =>
    rintro D cd pre W hD ⟨k, hk, hpre⟩ ⟨⟨rfl, pre0, x, hp, hno, h3, v', hrow, ho⟩, hB, hsz⟩ hK
    obtain ⟨va, vc, rfl⟩ := own_form ho
    gi_wp2
    have hl : lastConf (ps.map (·.1)) = some x.2.1 := by
      have hk0 : k ≠ 0 := fun e => by
        subst e
        rw [hp] at hpre
        simp [upto] at hpre
      obtain ⟨j, rfl⟩ : ∃ j, k = j + 1 := ⟨k - 1, by omega⟩
      rw [upto_succ, hp] at hpre
      obtain ⟨e1, e2⟩ := List.append_inj' hpre rfl
      obtain rfl : x = backF hP0 ps j := by simpa using e2
      rw [e1] at hno
      exact last_some hP0 ps j hk hno h3
    refine ⟨by simp, .inl ⟨_, _, rfl, run_takeDeferred hK, ?_⟩⟩
    have kp := grownBy_putObj' W D (.deferred none)
    have hgl : g < W.heap.size := (Array.getElem?_eq_some_iff.1 hrow).1
    have hgD : some g ≠ some D := fun e => by simp at e; omega
    have hb2 : Boxed (W.putObj D (.deferred none)) g 22 (.slice va (M x.2.1).length vc) := Boxed.kept hrow kp hgD
    have hrow2 := own_own (M x.2.1).length _ g 1 _ _ 0 () _ _ (some D) ho kp (fun r e => by
      obtain rfl : D = r := by simpa using e
      exact ⟨Nat.zero_le _, _, hK, rfl⟩)
    refine ⟨.slice va (M x.2.1).length vc, results_words Tryd.results18 _ _ g va (M x.2.1).length vc rfl hb2.cell, _, M x.2.1, rfl, own_rd hrow2 (uv_one _), ?_, .inr ⟨x.2.1, hl, rfl⟩⟩
    have := hB.trans (belowK_b (w := w4) (by omega) _ D _ (.deferred none) (by omega) hK rfl rfl)
    exact HG.out ▸ this
end Go.Proofs.YtckpnihpobfggaaDoor
