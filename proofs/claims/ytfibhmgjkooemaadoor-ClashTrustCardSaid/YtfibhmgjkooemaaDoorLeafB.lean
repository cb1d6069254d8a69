/- Rows of hashes as cells: plain words. · slices.Backward over hashes; leaf.over. -/
import Derived.Test.YtfibhmgjkooemaaDoorLeafJ
import Derived.Test.YtfibhmgjkooemaaDoorGrowthP
import Derived.RangeFuncNested
import Derived.RangeFuncBound
import Derived.RangeFuncCalls
import Derived.RangeFuncLeaves
import Derived.Shelf.Abstract
import Derived.Shelf.RegionOpen
import Derived.WalkKit
import Derived.OwnWalkIn
import Derived.TacticsInMore
import Derived.LoopNIn
import Derived.LoopIn
import Derived.Deep.MidRow
namespace Go.Proofs.YtfibhmgjkooemaaDoor
open Go.RowKit Sha

theorem Rd.atN {w : World} {size : Nat} {v : Value} {n : Nat} {xs : List Value} (h : Rd w size v n xs) (h0 : 0 < n) (hs : 0 < size) :
    ∃ b off c, v = .slice (some ⟨b, off, none⟩) n c ∧ n ≤ c ∧ ∀ j u, xs[j]? = some u → w.cell? ⟨b, off + j, none⟩ = some u := by
  obtain ⟨hl, h1, ⟨_, h2⟩ | ⟨ad, c, hv, hc, hcell⟩⟩ := h
  · omega
  · obtain ⟨b, off, spot⟩ := ad
    have hpos : 0 < xs.length := by rw [hl]; exact Nat.mul_pos h0 hs
    have h3 := hcell 0 xs[0] (by simp)
    have hspot : spot = none := by
      have := World.cell?_spot h3
      simpa [Addr.add] using this
    subst hspot
    refine ⟨b, off, c, hv, hc, fun j u hu => ?_⟩
    have := hcell j u hu
    rwa [Addr.add_lit] at this
/-- Cells set one by one. -/
def setsL : List Value → Nat → List Value → List Value
  | xs, _, [] => xs
  | xs, o, v :: r => setsL (xs.set o v) (o + 1) r
theorem setsL_mid : ∀ (cs ys A C : List Value), cs.length = ys.length → setsL (A ++ (ys ++ C)) A.length cs = A ++ (cs ++ C)
  | [], [], A, C, _ => rfl
  | [], _ :: _, _, _, h => by simp at h
  | _ :: _, [], _, _, h => by simp at h
  | c :: cs, y :: ys, A, C, h => by
    have e : (A ++ (y :: ys ++ C)).set A.length c = (A ++ [c]) ++ (ys ++ C) := by
      rw [List.set_append_right _ _ (Nat.le_refl _), Nat.sub_self]; simp
    have := setsL_mid cs ys (A ++ [c]) C (by simpa using h)
    rw [List.length_append, List.length_singleton] at this
    show setsL ((A ++ (y :: ys ++ C)).set A.length c) (A.length + 1) cs = _
    rw [e, this]; simp
theorem setsL_flat (ps : List (List UInt8)) (k : Nat) (x : List UInt8) (hk : k < ps.length) (h32 : ∀ p ∈ ps, p.length = 32) (hx : x.length = 32) : setsL (ps.flatMap bv) (k * 32) (bv x) = (ps.set k x).flatMap bv := by
  have e : ps = ps.take k ++ (ps[k] :: ps.drop (k + 1)) := by rw [List.getElem_cons_drop, List.take_append_drop]
  have e2 : ps.set k x = ps.take k ++ (x :: ps.drop (k + 1)) := by rw [List.set_eq_take_append_cons_drop, if_pos hk]
  have hl : ((ps.take k).flatMap bv).length = k * 32 := by
    have : ∀ l : List (List UInt8), (∀ p ∈ l, p.length = 32) → (l.flatMap bv).length = l.length * 32 := by
      intro l
      induction l with
      | nil => intro _; rfl
      | cons a l ih => intro h; rw [List.flatMap_cons, List.length_append, bv_length, h a (by simp), ih (fun p hp => h p (by simp [hp])), List.length_cons]; omega
    rw [this _ (fun p hp => h32 p (List.mem_of_mem_take hp)), List.length_take]; omega
  rw [e2]
  conv => lhs; rw [e]
  rw [List.flatMap_append, List.flatMap_cons, List.flatMap_append, List.flatMap_cons, ← hl]
  exact setsL_mid _ _ _ _ (by rw [bv_length, bv_length, hx, h32 _ (List.getElem_mem hk)])
theorem flat_take32 : ∀ (ps : List (List UInt8)) (k : Nat), (∀ p ∈ ps, p.length = 32) → (ps.take k).flatMap bv = (ps.flatMap bv).take (k * 32)
  | [], k, _ => by simp
  | a :: l, 0, _ => by simp
  | a :: l, k + 1, h => by
    rw [List.take_succ_cons, List.flatMap_cons, List.flatMap_cons, flat_take32 l k (fun p hp => h p (by simp [hp]))]
    have ha : (bv a).length = 32 := by rw [bv_length, h a (by simp)]
    rw [show (k + 1) * 32 = (bv a).length + k * 32 by omega, List.take_length_add_append]
theorem flat_at32 : ∀ (ps : List (List UInt8)) (k j : Nat) (x : List UInt8), (∀ p ∈ ps, p.length = 32) → ps[k]? = some x → j < 32 → (ps.flatMap bv)[k * 32 + j]? = (bv x)[j]?
  | [], k, j, x, _, h, _ => by simp at h
  | a :: l, 0, j, x, h32, h, hj => by
    obtain rfl : a = x := by simpa using h
    rw [List.flatMap_cons, Nat.zero_mul, Nat.zero_add, List.getElem?_append_left (by rw [bv_length, h32 a (by simp)]; exact hj)]
  | a :: l, k + 1, j, x, h32, h, hj => by
    have ha : (bv a).length = 32 := by rw [bv_length, h32 a (by simp)]
    rw [List.flatMap_cons, List.getElem?_append_right (by omega), ha, show (k + 1) * 32 + j - 32 = k * 32 + j by omega]
    exact flat_at32 l k j x (fun p hp => h32 p (by simp [hp])) (by simpa using h) hj
theorem flat_one32 (ps : List (List UInt8)) : ∀ u ∈ ps.flatMap bv, u.oneCell' = true := by
  intro u hu
  obtain ⟨p, _, h⟩ := List.mem_flatMap.1 hu
  exact bv_one p u h

end Go.Proofs.YtfibhmgjkooemaaDoor
namespace Go.Proofs.YtfibhmgjkooemaaDoor
open Go.RowKit Go.Shelf Sha

attribute [local go_sem] Oper.semAt_some

section
variable {F : Fence} {n : Nat} {P : Program} {w : World} {ops : Array Oper} {rest : List Oper} {o : Oper} {a : Act} {Q : Exit → Act → World → Prop}
theorem wpListIn_val (hgd : o.guard = none) (hnd : ∀ c, o.op ≠ .defer c) (hab : o.about P w a.eval = none) {v : Value} {w' : World} (hrun : (execOp a.eval o).run P w = .ok (.value v) w') (h : wpListIn F n P ops Q rest (a.put o.dst v) w') : wpListIn F n P ops Q (o :: rest) a w := by
  refine wpListIn_plain hgd fun K hK => ?_
  unfold Oper.wpIn
  refine ⟨fun f hf => (by rw [hab] at hf; cases hf), ?_⟩
  rw [Oper.semAt_plain F _ _ hnd, hrun]
  exact hK _ _ h
theorem wpListIn_skp (hgd : o.guard = none) (hnd : ∀ c, o.op ≠ .defer c) (hab : o.about P w a.eval = none) {w' : World} (hrun : (execOp a.eval o).run P w = .ok .skip w') (h : wpListIn F n P ops Q rest (a.put o.dst undef) w') : wpListIn F n P ops Q (o :: rest) a w := by
  refine wpListIn_plain hgd fun K hK => ?_
  unfold Oper.wpIn
  refine ⟨fun f hf => (by rw [hab] at hf; cases hf), ?_⟩
  rw [Oper.semAt_plain F _ _ hnd, hrun]
  exact hK _ _ h
theorem wpListIn_load_row (hgd : o.guard = none) (ty : TypeId) (x : Operand) (ho : o.op = .load ty x)
    (g : Nat) (hx : a.eval x = .pointer (some ⟨g, 0, none⟩)) (t : TypeId) (cs : Array Value) (fr : Nat × Nat) (d : TypeDesc) (hg : w.heap[g]? = some (.cells cs t fr))
    (hu : P.underlying ty = some d) (hd : (match d with | .struct _ | .array _ _ => true | _ => false) = true) (hi : (P.info? ty).map (·.size) = some cs.size)
    (h : wpListIn F n P ops Q rest (a.put o.dst (.agg cs)) w) : wpListIn F n P ops Q (o :: rest) a w :=
  wpListIn_val hgd (by rw [ho]; intro c hc; cases hc) (by simp [Oper.about, ho]) (by
    unfold execOp
    simp only [ho, hx, Instr.loadAt, Instr.sureAddr, Sem.run_bind, Sem.run_pure, Result.andThen_ok, run_loadVar_row w g t ty cs fr d hg hu hd hi]) h
theorem wpListIn_load_mid (hgd : o.guard = none) (ty : TypeId) (x : Operand) (ho : o.op = .load ty x)
    (g off : Nat) (hx : a.eval x = .pointer (some ⟨g, off, none⟩)) (cs : List Value) (d : TypeDesc) (hc : w.rangeAt g off cs)
    (hu : P.underlying ty = some d) (hd : d.isRow = true) (hi : (P.info? ty).map (·.size) = some cs.length)
    (h : wpListIn F n P ops Q rest (a.put o.dst (.agg cs.toArray)) w) : wpListIn F n P ops Q (o :: rest) a w :=
  wpListIn_val hgd (by rw [ho]; intro c hc; cases hc) (by simp [Oper.about, ho]) (by
    unfold execOp
    simp only [ho, hx, Instr.loadAt, Instr.sureAddr, Sem.run_bind, Sem.run_pure, Result.andThen_ok, run_loadVar_mid w g off ty cs d hc hu hd hi]) h
theorem wpListIn_store_row (hgd : o.guard = none) (ty : TypeId) (x y : Operand) (ho : o.op = .store ty x y)
    (g : Nat) (cs : List Value) (hx : a.eval x = .pointer (some ⟨g, 0, none⟩)) (hy : a.eval y = .agg cs.toArray)
    (cur : List Value) (t : TypeId) (hg : w.heap[g]? = some (.cells cur.toArray t (0, 0))) (hi : (P.info? ty).map (·.size) = some cs.length) (hfit : cs.length = cur.length) (h1 : ∀ v ∈ cs, v.oneCell' = true)
    (h : ∀ w', w'.heap[g]? = some (.cells cs.toArray t (0, 0)) → w.grownBy w' (some g) → w'.heap.size = w.heap.size → wpListIn F n P ops Q rest (a.put o.dst undef) w') : wpListIn F n P ops Q (o :: rest) a w := by
  have hst := run_storeCells_at P g 0 t cs 0 cur.toArray w hg (by simp [hfit]) h1
  have hrun : (storeVar ty ⟨g, 0, none⟩ (.agg cs.toArray)).run P w = .ok () (w.setRow g cs.toArray) := by
    cases hq : P.info? ty with
    | none => simp [hq] at hi
    | some i =>
      have hs : cs.length = i.size := by simp [hq] at hi; omega
      have e : (cur.toArray.toList.take (0 + 0) ++ cs ++ cur.toArray.toList.drop (0 + 0 + cs.length)).toArray = cs.toArray := by simp [hfit]
      rw [e] at hst
      simp [storeVar, sizeOf, typeInfo, hq, Value.cells, hs, hst]
  exact wpListIn_skp hgd (by rw [ho]; intro c hc; cases hc) (by simp [Oper.about, ho]) (by
    unfold execOp
    simp only [ho, hx, hy, Instr.storeAt, Instr.sureAddr, Sem.run_bind, Sem.run_pure, Result.andThen_ok, hrun]) (h _ (setRow_heap w g _ _ t _ hg) (grown_setRow w g _) (by simp))
end

/-- What has come when k rounds are over. -/
def upto {α : Type} (f : Nat → α) (k : Nat) : List α := (List.range k).map f
theorem upto_succ {α : Type} (f : Nat → α) (k : Nat) : upto f (k + 1) = upto f k ++ [f k] := by simp [upto, List.range_succ]
theorem upto_length {α : Type} (f : Nat → α) (k : Nat) : (upto f k).length = k := by simp [upto]
/-- A hash. -/
abbrev H32 := { l : List UInt8 // l.length = 32 }
/-- A list from behind, each with its number. -/
def backF (ps : List H32) (j : Nat) : Nat × H32 := (ps.length - 1 - j, ps.getD (ps.length - 1 - j) ⟨zs 32, by simp [zs]⟩)
/-- A slice that holds hashes, below n₀. -/
def Hashes (n₀ : Nat) (W : World) (v : Value) (ps : List H32) : Prop :=
  ∃ a c, v = .slice a ps.length c ∧ (ps = [] ∨ ∃ b off, a = some ⟨b, off, none⟩ ∧ b < n₀ ∧ ∀ (j : Nat) (x : H32), ps[j]? = some x → W.rangeAt b (off + j * 32) (bv x.1))
theorem Hashes.below {n₀ : Nat} {A B : World} {v : Value} {ps : List H32} (h : Hashes n₀ A v ps) (k : Below n₀ A B) : Hashes n₀ B v ps := by
  obtain ⟨a, c, hv, h⟩ := h
  refine ⟨a, c, hv, ?_⟩
  rcases h with h | ⟨b, off, ha, hb, h⟩
  · exact .inl h
  · exact .inr ⟨b, off, ha, hb, fun j x hx i u hu => (k.cell (p := ⟨b, off + j * 32 + i, none⟩) hb).trans (h j x hx i u hu)⟩

/-- What a round keeps: all below n₀, and the box. -/
def Kp2 (n₀ Bs : Nat) (A B : World) : Prop := Below n₀ A B ∧ B.heap[Bs]? = A.heap[Bs]?
theorem Kp2.refl (n₀ Bs : Nat) (A : World) : Kp2 n₀ Bs A A := ⟨Below.refl _ _, rfl⟩
theorem Kp2.trans {n₀ Bs : Nat} {A B C : World} (h : Kp2 n₀ Bs A B) (k : Kp2 n₀ Bs B C) : Kp2 n₀ Bs A C := ⟨h.1.trans k.1, k.2.trans h.2⟩

set_option maxRecDepth 100000 in
set_option maxHeartbeats 4000000 in
theorem back1_in (F : Fence) (n : Nat) (h49 : F.fn 85) (hro : F.round = none) (hn : 1 ≤ n) (l Bs n₀ : Nat) (v : Value) (ps : List H32) (hlen : ps.length ≤ 140737488355328) (J Jx : List (Nat × H32) → World → Prop)
    (hY : ∀ pre x W, J pre W → pre.length < ps.length → YieldAt F (n - 1) Tryd.prog l #[.int .i64 (x.1 : Int), .agg (bv x.2.1).toArray] W fun e W' =>
      (e = .returned (.bool true) ∧ J (pre ++ [x]) W' ∧ Kp2 n₀ Bs W W') ∨ (e = .returned (.bool false) ∧ Jx (pre ++ [x]) W'))
    (W : World) (hBs : W.cell? ⟨Bs, 0, none⟩ = some v) (hR : Hashes n₀ W v ps) (h0 : J [] W) :
    CallsIn F n Tryd.prog 85 #[.func (.yield l) #[] #[], .pointer (some ⟨Bs, 0, none⟩)] W fun e W' => (∃ v, e = .returned v) ∧
      ((∃ ys, ys = upto (backF ps) ps.length ∧ J ys W') ∨ (∃ pre, (∃ k, k ≤ ps.length ∧ pre = upto (backF ps) k) ∧ Jx pre W')) := by
  obtain ⟨sa, sc, rfl, hR⟩ := hR
  refine callsIn_of_wp Tryd.func85 rfl h49 ?_ hro
  simp only [Tryd.ntmps85, List.size_toArray, List.length_cons, List.length_nil, Nat.reduceAdd, Nat.reduceSub, Array.replicate_succ, Array.replicate_zero, List.push_toArray, List.append_toArray, List.nil_append, List.cons_append]
  have hw0 : IntKind.i64.wrap ((ps.length : Int) - 1) = (ps.length : Int) - 1 := IntWalk.i64_in _ (by omega)
  gi_wp2
  gi_loopw [3] (fun i wr => ∃ k : Nat, k ≤ ps.length ∧ i = .int .i64 ((ps.length : Int) - 1 - k) ∧ J (upto (backF ps) k) wr ∧ Kp2 n₀ Bs W wr)
    (fun i _ => (intOf i + 1).toNat)
  case atStart => exact ⟨0, Nat.zero_le _, by simp, h0, Kp2.refl _ _ _⟩
  case round =>
    obtain ⟨k, hk, rfl, hJs, hnx⟩ := hrel
    have hBs' := (World.cell?_of_block (a := ⟨Bs, 0, none⟩) hnx.2).trans hBs
    by_cases hlt : k < ps.length
    · rcases hR with rfl | ⟨b, off, rfl, hb, hc⟩
      · simp at hlt
      obtain ⟨i, hi⟩ : ∃ i : Nat, i = ps.length - 1 - k := ⟨_, rfl⟩
      have hil : i < ps.length := by omega
      have hiz : ((ps.length : Int) - 1 - (k : Int)) = (i : Int) := by omega
      have hx := List.getElem?_eq_getElem hil
      obtain ⟨x, hxe⟩ : ∃ x, ps[i]? = some x := ⟨_, hx⟩
      have hbk : backF ps k = (i, x) := by unfold backF; rw [← hi, List.getD_eq_getElem?_getD, hxe]; rfl
      have hx32 := x.2
      have hrg := hc i x hxe
      have hrg' : wr.rangeAt b (off + i * 32) (bv x.1) := fun j u hu => (hnx.1.cell (p := ⟨b, off + i * 32 + j, none⟩) hb).trans (hrg j u hu)
      obtain ⟨fn, tmps, assign, body, hy, hR2⟩ := hY _ (i, x) wr hJs (by rw [upto_length]; exact hlt)
      dsimp only at hy
      rw [hiz]
      have h1 : (0 : Int) ≤ (i : Int) := by omega
      have h2 : (i : Int) < (ps.length : Int) := by omega
      have HX := Lib.hid (And.intro hrg' (And.intro hx32 (And.intro hbk hi)))
      clear hw0 hx hxe hx32 hrg hrg' hbk hi hc
      gi_wp2_with (with_reducible show wpListIn _ _ _ _ _ (⟨some 16, _, _, _, _, _⟩ :: _) _ _; refine wpListIn_load_mid rfl _ _ rfl b (off + i * 32) rfl (bv x.1) _ HX.out.1 Tryd.underlying35 rfl (hInfo' _ HX.out.2.1) ?_)
      refine hR2.mono ?_
      rintro e W3 (⟨rfl, hJ3, hk3⟩ | ⟨rfl, hJx3⟩)
      · gi_wp2
        go_roundw
        case rel =>
          have e1 := HX.out.2.2.2
          refine ⟨k + 1, by omega, ?_, by rw [upto_succ, HX.out.2.2.1]; exact hJ3, hnx.trans hk3⟩
          exact congrArg (Value.int .i64) (by omega)
        case measure => simp [intOf]
      · gi_wp2
        refine bodyPost_ret (results_none rfl _ _ _) rfl ?_
        exact ⟨⟨_, rfl⟩, .inr ⟨_, ⟨k + 1, by omega, rfl⟩, by rw [upto_succ, HX.out.2.2.1]; exact hJx3⟩⟩
    · obtain rfl : k = ps.length := by omega
      have hz : ¬ (0 : Int) ≤ (ps.length : Int) - 1 - (ps.length : Int) := by omega
      gi_wp2
      go_end0
      exact ⟨⟨_, rfl⟩, .inl hJs⟩

set_option maxHeartbeats 1000000 in
theorem backward_in (F : Fence) (n : Nat) (h45 : F.fn 77) (hro : F.round = none) (a : Option Addr) (len cap : Nat) (w : World) :
    CallsIn F n Tryd.prog 77 #[.slice a len cap] w fun e w' => e = .returned (.func (.func 85) #[] #[.pointer (some ⟨w.heap.size, 0, none⟩)]) ∧ w' = w.alloc (.cells #[.slice a len cap] 36) := by
  refine callsIn_of_wp Tryd.func77 rfl h45 ?_ hro
  simp only [Tryd.ntmps77, List.size_toArray, List.length_cons, List.length_nil, Nat.reduceAdd, Nat.reduceSub, Array.replicate_succ, Array.replicate_zero, List.push_toArray, List.append_toArray, List.nil_append, List.cons_append]
  gi_wp2
  go_ret
  exact ⟨rfl, rfl⟩

theorem back_stops (F : Fence) (n : Nat) (h49 : F.fn 85) (hro : F.round = none) (hn : 1 ≤ n) (Bs n₀ : Nat) (v : Value) (ps : List H32) (hlen : ps.length ≤ 140737488355328) (w : World) (hBs : Bs < w.heap.size) (hn₀ : n₀ ≤ w.heap.size)
    (hc : w.cell? ⟨Bs, 0, none⟩ = some v) (hI : Hashes n₀ w v ps) :
    SeqStopsK F n Tryd.prog 85 #[.pointer (some ⟨Bs, 0, none⟩)] (fun x : Nat × H32 => #[.int .i64 (x.1 : Int), .agg (bv x.2.1).toArray]) (Kp2 n₀ Bs) (fun ys => ys = upto (backF ps) ps.length)
      (fun pre => ∃ k, k ≤ ps.length ∧ pre = upto (backF ps) k) ps.length w := fun l J Jx W hW _ _ hY h0 =>
  back1_in F n h49 hro hn l Bs n₀ v ps hlen J Jx hY W ((hW.cell (p := ⟨Bs, 0, none⟩) hBs).trans hc) (hI.below (hW.mono hn₀)) h0

/-- The root over peaks. -/
def overH (n : Int) (ps : List (List UInt8)) : List UInt8 := Root.overL (nodeH n) (emptyH n) ps
/-- What the loop has reckoned. -/
def acc (n : Int) (h : List UInt8) (pre : List (Nat × H32)) : List UInt8 := pre.foldl (fun h x => nodeH n x.2.1 h) h
theorem acc_snoc (n : Int) (h : List UInt8) (pre : List (Nat × H32)) (x : Nat × H32) : acc n h (pre ++ [x]) = nodeH n x.2.1 (acc n h pre) := by simp [acc]
theorem acc_length (n : Int) : ∀ (pre : List (Nat × H32)) (h : List UInt8), h.length = 32 → (acc n h pre).length = 32
  | [], _, hh => hh
  | x :: r, h, _ => acc_length n r (nodeH n x.2.1 h) (nodeH_length _ _ _)
theorem acc_upto (n : Int) (h : List UInt8) (qs : List H32) (k : Nat) (hk : k ≤ qs.length) : acc n h (upto (backF qs) k) = (qs.drop (qs.length - k)).foldr (fun p h => nodeH n p.1 h) h := by
  induction k with
  | zero => simp [upto, acc]
  | succ k ih =>
    have hd : qs.drop (qs.length - (k + 1)) = qs[qs.length - (k + 1)] :: qs.drop (qs.length - (k + 1) + 1) := List.drop_eq_getElem_cons (by omega)
    rw [upto_succ, acc_snoc, ih (by omega), hd, List.foldr_cons, show qs.length - (k + 1) + 1 = qs.length - k by omega]
    congr 1
    unfold backF
    rw [show qs.length - 1 - k = qs.length - (k + 1) by omega, List.getD_eq_getElem?_getD, List.getElem?_eq_getElem (by omega)]; rfl
theorem overH_snoc (n : Int) (h : List UInt8) : ∀ qs : List H32, overH n (qs.map (·.1) ++ [h]) = qs.foldr (fun p h => nodeH n p.1 h) h
  | [] => rfl
  | q :: qs => by
    have := overH_snoc n h qs
    unfold overH at this ⊢
    rw [List.map_cons, List.cons_append, Root.overL_cons _ _ _ _ (by simp), this]; rfl
end Go.Proofs.YtfibhmgjkooemaaDoor
