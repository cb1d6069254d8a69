/- slices.Backward over entries. -/
import Derived.Test.YtckpnihpobfggaaDoorConfO
import Derived.Test.YtckpnihpobfggaaDoorEnt
import Derived.Test.YtckpnihpobfggaaDoorSlU
import Derived.RangeFuncNested
import Derived.RangeFuncBound
import Derived.RangeFuncCalls
import Derived.RangeFuncLeaves
import Derived.Shelf.Abstract
import Derived.Shelf.RegionOpen
import Derived.WalkKit
import Derived.OwnWalkIn
import Derived.TacticsInMore
import Derived.LoopNIn
import Derived.LoopIn
import Derived.Deep.MidRow
import Derived.Great.BuildSlice
namespace Go.Proofs.YtckpnihpobfggaaDoor
open Go.RowKit Go.Shelf

attribute [local go_sem] Oper.semAt_some

theorem grown_setRow (w : World) (g : Nat) (cs : Array Value) : w.grownBy (w.setRow g cs) (some g) :=
  ⟨rfl, rfl, rfl, by simp, fun k _ hk => setRow_other w g k cs (fun e => hk (by rw [e]))⟩
theorem below_grow {B g : Nat} {w0 w w' : World} (hb : Below B w0 w) (h : w.grownBy w' (some g)) (hg : B ≤ g) (hgl : g < w.heap.size) : Below B w0 w' :=
  hb.trans ⟨h.os, h.tape, h.output, h.size, fun k hk => h.block k (by omega) (fun e => by simp at e; omega)⟩

section
variable {F : Fence} {n : Nat} {P : Program} {w : World} {ops : Array Oper} {rest : List Oper} {o : Oper} {a : Act} {Q : Exit → Act → World → Prop}
theorem wpListIn_val (hgd : o.guard = none) (hnd : ∀ c, o.op ≠ .defer c) (hab : o.about P w a.eval = none) {v : Value} {w' : World} (hrun : (execOp a.eval o).run P w = .ok (.value v) w') (h : wpListIn F n P ops Q rest (a.put o.dst v) w') : wpListIn F n P ops Q (o :: rest) a w := by
  refine wpListIn_plain hgd fun K hK => ?_
  unfold Oper.wpIn
  refine ⟨fun f hf => (by rw [hab] at hf; cases hf), ?_⟩
  rw [Oper.semAt_plain F _ _ hnd, hrun]
  exact hK _ _ h
theorem wpListIn_skp (hgd : o.guard = none) (hnd : ∀ c, o.op ≠ .defer c) (hab : o.about P w a.eval = none) {w' : World} (hrun : (execOp a.eval o).run P w = .ok .skip w') (h : wpListIn F n P ops Q rest (a.put o.dst undef) w') : wpListIn F n P ops Q (o :: rest) a w := by
  refine wpListIn_plain hgd fun K hK => ?_
  unfold Oper.wpIn
  refine ⟨fun f hf => (by rw [hab] at hf; cases hf), ?_⟩
  rw [Oper.semAt_plain F _ _ hnd, hrun]
  exact hK _ _ h
theorem wpListIn_load_row (hgd : o.guard = none) (ty : TypeId) (x : Operand) (ho : o.op = .load ty x)
    (g : Nat) (hx : a.eval x = .pointer (some ⟨g, 0, none⟩)) (t : TypeId) (cs : Array Value) (fr : Nat × Nat) (d : TypeDesc) (hg : w.heap[g]? = some (.cells cs t fr))
    (hu : P.underlying ty = some d) (hd : (match d with | .struct _ | .array _ _ => true | _ => false) = true) (hi : (P.info? ty).map (·.size) = some cs.size)
    (h : wpListIn F n P ops Q rest (a.put o.dst (.agg cs)) w) : wpListIn F n P ops Q (o :: rest) a w :=
  wpListIn_val hgd (by rw [ho]; intro c hc; cases hc) (by simp [Oper.about, ho]) (by
    unfold execOp
    simp only [ho, hx, Instr.loadAt, Instr.sureAddr, Sem.run_bind, Sem.run_pure, Result.andThen_ok, run_loadVar_row w g t ty cs fr d hg hu hd hi]) h
theorem wpListIn_load_mid (hgd : o.guard = none) (ty : TypeId) (x : Operand) (ho : o.op = .load ty x)
    (g off : Nat) (hx : a.eval x = .pointer (some ⟨g, off, none⟩)) (cs : List Value) (d : TypeDesc) (hc : w.rangeAt g off cs)
    (hu : P.underlying ty = some d) (hd : d.isRow = true) (hi : (P.info? ty).map (·.size) = some cs.length)
    (h : wpListIn F n P ops Q rest (a.put o.dst (.agg cs.toArray)) w) : wpListIn F n P ops Q (o :: rest) a w :=
  wpListIn_val hgd (by rw [ho]; intro c hc; cases hc) (by simp [Oper.about, ho]) (by
    unfold execOp
    simp only [ho, hx, Instr.loadAt, Instr.sureAddr, Sem.run_bind, Sem.run_pure, Result.andThen_ok, run_loadVar_mid w g off ty cs d hc hu hd hi]) h
theorem wpListIn_store_row (hgd : o.guard = none) (ty : TypeId) (x y : Operand) (ho : o.op = .store ty x y)
    (g : Nat) (cs : List Value) (hx : a.eval x = .pointer (some ⟨g, 0, none⟩)) (hy : a.eval y = .agg cs.toArray)
    (cur : List Value) (t : TypeId) (hg : w.heap[g]? = some (.cells cur.toArray t (0, 0))) (hi : (P.info? ty).map (·.size) = some cs.length) (hfit : cs.length = cur.length) (h1 : ∀ v ∈ cs, v.oneCell' = true)
    (h : ∀ w', w'.heap[g]? = some (.cells cs.toArray t (0, 0)) → w.grownBy w' (some g) → w'.heap.size = w.heap.size → wpListIn F n P ops Q rest (a.put o.dst undef) w') : wpListIn F n P ops Q (o :: rest) a w := by
  have hst := run_storeCells_at P g 0 t cs 0 cur.toArray w hg (by simp [hfit]) h1
  have hrun : (storeVar ty ⟨g, 0, none⟩ (.agg cs.toArray)).run P w = .ok () (w.setRow g cs.toArray) := by
    cases hq : P.info? ty with
    | none => simp [hq] at hi
    | some i =>
      have hs : cs.length = i.size := by simp [hq] at hi; omega
      have e : (cur.toArray.toList.take (0 + 0) ++ cs ++ cur.toArray.toList.drop (0 + 0 + cs.length)).toArray = cs.toArray := by simp [hfit]
      rw [e] at hst
      simp [storeVar, sizeOf, typeInfo, hq, Value.cells, hs, hst]
  exact wpListIn_skp hgd (by rw [ho]; intro c hc; cases hc) (by simp [Oper.about, ho]) (by
    unfold execOp
    simp only [ho, hx, hy, Instr.storeAt, Instr.sureAddr, Sem.run_bind, Sem.run_pure, Result.andThen_ok, hrun]) (h _ (setRow_heap w g _ _ t _ hg) (grown_setRow w g _) (by simp))
end

/-- What has come when k rounds are over. -/
def upto {α : Type} (f : Nat → α) (k : Nat) : List α := (List.range k).map f
theorem upto_succ {α : Type} (f : Nat → α) (k : Nat) : upto f (k + 1) = upto f k ++ [f k] := by simp [upto, List.range_succ]
theorem upto_length {α : Type} (f : Nat → α) (k : Nat) : (upto f k).length = k := by simp [upto]
/-- No entry. -/
def noE : EE := ⟨0, 0, 0, 0, .slice none 0 0, .slice none 0 0⟩
theorem infoEnt : (Tryd.prog.info? 35).map (fun i => (i.zero, i.size, i.bytes)) = some (some (.agg #[.int .u64 0, .int .i64 0, .int .u64 0, .int .u64 0, .slice none 0 0, .slice none 0 0]), 6, 80) := by kernel_rfl
theorem infoSz : (Tryd.prog.info? 35).map (·.size) = some 6 := by kernel_rfl
/-- An entry of which something is known. -/
abbrev EP (P : EE → Prop) := { e : EE // P e }
/-- A list from behind, each with its number. -/
def backF {P : EE → Prop} (hP0 : P noE) (ps : List (EP P)) (j : Nat) : Nat × EP P := (ps.length - 1 - j, ps.getD (ps.length - 1 - j) ⟨noE, hP0⟩)
/-- A slice that holds entries, below n₀. -/
def Ents1 {P : EE → Prop} (n₀ : Nat) (W : World) (v : Value) (ps : List (EP P)) : Prop :=
  ∃ a c, v = .slice a ps.length c ∧ (ps = [] ∨ ∃ b off, a = some ⟨b, off, none⟩ ∧ b < n₀ ∧ ∀ (j : Nat) (x : EP P), ps[j]? = some x → W.rangeAt b (off + j * 6) x.1.cells)
theorem Ents1.below {P : EE → Prop} {n₀ : Nat} {A B : World} {v : Value} {ps : List (EP P)} (h : Ents1 n₀ A v ps) (k : Below n₀ A B) : Ents1 n₀ B v ps := by
  obtain ⟨a, c, hv, h⟩ := h
  refine ⟨a, c, hv, ?_⟩
  rcases h with h | ⟨b, off, ha, hb, h⟩
  · exact .inl h
  · exact .inr ⟨b, off, ha, hb, fun j x hx i u hu => (k.cell (p := ⟨b, off + j * 6 + i, none⟩) hb).trans (h j x hx i u hu)⟩

/-- What a round keeps: all below n₀, and the box. -/
def Kp2 (n₀ Bs : Nat) (A B : World) : Prop := Below n₀ A B ∧ B.heap[Bs]? = A.heap[Bs]?
theorem Kp2.refl (n₀ Bs : Nat) (A : World) : Kp2 n₀ Bs A A := ⟨Below.refl _ _, rfl⟩
theorem Kp2.trans {n₀ Bs : Nat} {A B C : World} (h : Kp2 n₀ Bs A B) (k : Kp2 n₀ Bs B C) : Kp2 n₀ Bs A C := ⟨h.1.trans k.1, k.2.trans h.2⟩

theorem row_own {β : Type} (g : Nat) (f : β → Obj) (hf : ∀ s, (f s).isCells = true) : Own (fun (s : β) W => W.heap[g]? = some (f s)) := fun s A B row hs hg hr => by
  refine (hg.block g (Array.getElem?_eq_some_iff.1 hs).1 (fun e => ?_)).trans hs
  obtain ⟨o, ho, hc⟩ := hr g e.symm
  rw [hs] at ho
  obtain rfl := Option.some.inj ho
  rw [hf s] at hc; cases hc
set_option maxRecDepth 100000 in
set_option maxHeartbeats 4000000 in
theorem back1_in {P0 : EE → Prop} (hP0 : P0 noE) (F : Fence) (n : Nat) (h49 : F.fn 33) (hro : F.round = none) (hn : 1 ≤ n) (l Bs n₀ : Nat) (v : Value) (ps : List (EP P0)) (hlen : ps.length ≤ 140737488355328) (J Jx : List (Nat × EP P0) → World → Prop)
    (hY : ∀ pre x W, J pre W → pre.length < ps.length → YieldAt F (n - 1) Tryd.prog l #[.int .i64 (x.1 : Int), .agg x.2.1.cells.toArray] W fun e W' =>
      (e = .returned (.bool true) ∧ J (pre ++ [x]) W' ∧ Kp2 n₀ Bs W W') ∨ (e = .returned (.bool false) ∧ Jx (pre ++ [x]) W'))
    (W : World) (hBs : W.cell? ⟨Bs, 0, none⟩ = some v) (hR : Ents1 n₀ W v ps) (h0 : J [] W) :
    CallsIn F n Tryd.prog 33 #[.func (.yield l) #[] #[], .pointer (some ⟨Bs, 0, none⟩)] W fun e W' => (∃ v, e = .returned v) ∧
      ((∃ ys, ys = upto (backF hP0 ps) ps.length ∧ J ys W') ∨ (∃ pre, (∃ k, k ≤ ps.length ∧ pre = upto (backF hP0 ps) k) ∧ Jx pre W')) := by
  obtain ⟨sa, sc, rfl, hR⟩ := hR
  refine callsIn_of_wp Tryd.func33 rfl h49 ?_ hro
  simp only [Tryd.ntmps33, List.size_toArray, List.length_cons, List.length_nil, Nat.reduceAdd, Nat.reduceSub, Array.replicate_succ, Array.replicate_zero, List.push_toArray, List.append_toArray, List.nil_append, List.cons_append]
  have hw0 : IntKind.i64.wrap ((ps.length : Int) - 1) = (ps.length : Int) - 1 := IntWalk.i64_in _ (by omega)
  gi_wp2
  gi_loopw [3] (fun i wr => ∃ k : Nat, k ≤ ps.length ∧ i = .int .i64 ((ps.length : Int) - 1 - k) ∧ J (upto (backF hP0 ps) k) wr ∧ Kp2 n₀ Bs W wr)
    (fun i _ => (intOf i + 1).toNat)
  case atStart => exact ⟨0, Nat.zero_le _, by simp, h0, Kp2.refl _ _ _⟩
  case round =>
    obtain ⟨k, hk, rfl, hJs, hnx⟩ := hrel
    have hBs' := (World.cell?_of_block (a := ⟨Bs, 0, none⟩) hnx.2).trans hBs
    by_cases hlt : k < ps.length
    · rcases hR with rfl | ⟨b, off, rfl, hb, hc⟩
      · simp at hlt
      obtain ⟨i, hi⟩ : ∃ i : Nat, i = ps.length - 1 - k := ⟨_, rfl⟩
      have hil : i < ps.length := by omega
      have hiz : ((ps.length : Int) - 1 - (k : Int)) = (i : Int) := by omega
      have hx := List.getElem?_eq_getElem hil
      obtain ⟨x, hxe⟩ : ∃ x, ps[i]? = some x := ⟨_, hx⟩
      have hbk : backF hP0 ps k = (i, x) := by unfold backF; rw [← hi, List.getD_eq_getElem?_getD, hxe]; rfl
      have hrg := hc i x hxe
      have hrg' : wr.rangeAt b (off + i * 6) x.1.cells := fun j u hu => (hnx.1.cell (p := ⟨b, off + i * 6 + j, none⟩) hb).trans (hrg j u hu)
      obtain ⟨fn, tmps, assign, body, hy, hR2⟩ := hY _ (i, x) wr hJs (by rw [upto_length]; exact hlt)
      dsimp only at hy
      rw [hiz]
      have h1 : (0 : Int) ≤ (i : Int) := by omega
      have h2 : (i : Int) < (ps.length : Int) := by omega
      have HX := Lib.hid (And.intro hrg' (And.intro hbk hi))
      clear hw0 hx hxe hrg hrg' hbk hi hc
      have c0 := HX.out.1 0 _ rfl
      have c1 := HX.out.1 1 _ rfl
      have c2 := HX.out.1 2 _ rfl
      have c3 := HX.out.1 3 _ rfl
      have c4 := HX.out.1 4 _ rfl
      have c5 := HX.out.1 5 _ rfl
      simp only [EE.cells, Nat.add_zero] at hy c0
      gi_wp2
      clear c0 c1 c2 c3 c4 c5
      refine hR2.mono ?_
      rintro e W3 (⟨rfl, hJ3, hk3⟩ | ⟨rfl, hJx3⟩)
      · gi_wp2
        go_roundw
        case rel =>
          have e1 := HX.out.2.2
          refine ⟨k + 1, by omega, ?_, by rw [upto_succ, HX.out.2.1]; exact hJ3, hnx.trans hk3⟩
          exact congrArg (Value.int .i64) (by omega)
        case measure => simp [intOf]
      · gi_wp2
        refine bodyPost_ret (results_none rfl _ _ _) rfl ?_
        exact ⟨⟨_, rfl⟩, .inr ⟨_, ⟨k + 1, by omega, rfl⟩, by rw [upto_succ, HX.out.2.1]; exact hJx3⟩⟩
    · obtain rfl : k = ps.length := by omega
      have hz : ¬ (0 : Int) ≤ (ps.length : Int) - 1 - (ps.length : Int) := by omega
      gi_wp2
      go_end0
      exact ⟨⟨_, rfl⟩, .inl hJs⟩

set_option maxHeartbeats 1000000 in
theorem backward_in (F : Fence) (n : Nat) (h45 : F.fn 27) (hro : F.round = none) (a : Option Addr) (len cap : Nat) (w : World) :
    CallsIn F n Tryd.prog 27 #[.slice a len cap] w fun e w' => e = .returned (.func (.func 33) #[] #[.pointer (some ⟨w.heap.size, 0, none⟩)]) ∧ w' = w.alloc (.cells #[.slice a len cap] 31) := by
  refine callsIn_of_wp Tryd.func27 rfl h45 ?_ hro
  simp only [Tryd.ntmps27, List.size_toArray, List.length_cons, List.length_nil, Nat.reduceAdd, Nat.reduceSub, Array.replicate_succ, Array.replicate_zero, List.push_toArray, List.append_toArray, List.nil_append, List.cons_append]
  gi_wp2
  go_ret
  exact ⟨rfl, rfl⟩

theorem back_stops {P0 : EE → Prop} (hP0 : P0 noE) (F : Fence) (n : Nat) (h49 : F.fn 33) (hro : F.round = none) (hn : 1 ≤ n) (Bs n₀ : Nat) (v : Value) (ps : List (EP P0)) (hlen : ps.length ≤ 140737488355328) (w : World) (hBs : Bs < w.heap.size) (hn₀ : n₀ ≤ w.heap.size)
    (hc : w.cell? ⟨Bs, 0, none⟩ = some v) (hI : Ents1 n₀ w v ps) :
    SeqStopsK F n Tryd.prog 33 #[.pointer (some ⟨Bs, 0, none⟩)] (fun x : Nat × EP P0 => #[.int .i64 (x.1 : Int), .agg x.2.1.cells.toArray]) (Kp2 n₀ Bs) (fun ys => ys = upto (backF hP0 ps) ps.length)
      (fun pre => ∃ k, k ≤ ps.length ∧ pre = upto (backF hP0 ps) k) ps.length w := fun l J Jx W hW _ _ hY h0 =>
  back1_in hP0 F n h49 hro hn l Bs n₀ v ps hlen J Jx hY W ((hW.cell (p := ⟨Bs, 0, none⟩) hBs).trans hc) (hI.below (hW.mono hn₀)) h0


theorem own_own (n : Nat) (e : TypeId) (B size : Nat) (v : Value) (xs : List Value) (B' : Nat) : OwnFrom B' (fun (_ : Unit) W => W.ownsRow B e size v n xs) := fun _ X Y row hs hg hr => by
  refine hs.kept hg ?_
  cases hv : v.ownBlock with
  | none => exact .inl rfl
  | some g =>
    refine .inr fun e' => ?_
    obtain ⟨_, o, ho, hc⟩ := hr g e'.symm
    obtain ⟨_, h2 | ⟨g2, cap, cur, h3, hb, hg2, _⟩⟩ := hs
    · rw [h2.1] at hv; cases hv
    · rw [h3] at hv
      simp only [Value.ownBlock, Option.some.injEq] at hv
      subst hv
      rw [hg2] at ho
      obtain rfl := Option.some.inj ho
      cases hc
/-- Entries that lie one behind the other. -/
theorem ents_of {P : EE → Prop} {w : World} {v : Value} (ps : List (EP P)) (hr : Rd w 6 v ps.length (ecells (ps.map (·.1)))) : Ents1 w.heap.size w v ps := by
  obtain ⟨a, c, rfl⟩ := hr.form
  refine ⟨a, c, rfl, ?_⟩
  cases ps with
  | nil => exact .inl rfl
  | cons e0 rest =>
    obtain ⟨b, off, c', hv, hcc, hcell⟩ := hr.atN (by simp) (by omega)
    simp only [Value.slice.injEq, true_and] at hv
    obtain ⟨rfl, rfl⟩ := hv
    have hrg : ∀ (j : Nat) (x : EP P), (e0 :: rest)[j]? = some x → w.rangeAt b (off + j * 6) x.1.cells := fun j x hx i u hu => by
      have hi : i < 6 := by have := (List.getElem?_eq_some_iff.1 hu).1; simpa [EE.cells] using this
      have := hcell (j * 6 + i) u (by rw [ecells_get _ j x.1 (by rw [List.getElem?_map, hx]; rfl) i hi]; exact hu)
      rwa [← Nat.add_assoc] at this
    exact .inr ⟨b, off, rfl, World.block_lt_of_cell? w _ (hrg 0 e0 rfl 0 _ rfl), hrg⟩
end Go.Proofs.YtckpnihpobfggaaDoor
