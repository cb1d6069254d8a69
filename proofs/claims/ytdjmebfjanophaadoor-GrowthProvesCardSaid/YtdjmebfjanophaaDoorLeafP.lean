/- Leaves and nodes: plain words; the hashes of a zero byte and of nothing. -/
import Derived.Test.YtdjmebfjanophaaDoorShaO
import Derived.Test.YtdjmebfjanophaaDoorShaT
import Derived.Test.YtdjmebfjanophaaDoorReg
import Derived.Test.YtdjmebfjanophaaDoorOpen
import Derived.Stop.BytesEq
namespace Go.Proofs.YtdjmebfjanophaaDoor
open Go.RowKit Sha

/-- The hash of a text, n wide. -/
def hw (n : Int) (t : List UInt8) : List UInt8 := nar (Sha.sum t) (clip n)
theorem hw_length (n : Int) (t : List UInt8) : (hw n t).length = 32 := nar_length _ _
/-- A leaf; a node; nothing. -/
def leafH (n : Int) (l : List UInt8) : List UInt8 := hw n (0 :: l)
def nodeH (n : Int) (l r : List UInt8) : List UInt8 := hw n (1 :: (l ++ r))
def emptyH (n : Int) : List UInt8 := hw n []
theorem leafH_length (n : Int) (l : List UInt8) : (leafH n l).length = 32 := hw_length _ _
theorem nodeH_length (n : Int) (l r : List UInt8) : (nodeH n l r).length = 32 := hw_length _ _
theorem emptyH_length (n : Int) : (emptyH n).length = 32 := hw_length _ _

theorem sum_short (t : List UInt8) (h : (pad t).length = 64) : Sha.sum t = outB (blk begin0 (pad t)) := by
  rw [Sha.sum, h]
  show outB (blk begin0 (((pad t).drop (64 * 0)).take 64)) = _
  rw [Nat.mul_zero, List.drop_zero, List.take_of_length_le (by omega)]
set_option maxRecDepth 100000 in
theorem blk_zero : blk begin0 (pad [0]) = ⟨1848904604, 4289952408, 2628076774, 3145206316, 2022710591, 3006740598, 2232525574, 397385757⟩ := by
  rw [blk_fast]
  kernel_rfl
set_option maxRecDepth 100000 in
theorem blk_nil : blk begin0 (pad []) = ⟨3820012610, 2566659092, 2600203464, 2574235940, 665731556, 1687917388, 2761267483, 2018687061⟩ := by
  rw [blk_fast]
  kernel_rfl
theorem zero_bytes : (Sha.sum [0])[0]? = some 110 ∧ (Sha.sum [0])[1]? = some 52 := by
  rw [sum_short [0] rfl, blk_zero]
  exact ⟨rfl, rfl⟩
theorem nil_bytes : (Sha.sum [])[0]? = some 227 := by
  rw [sum_short [] rfl, blk_nil]
  rfl
theorem wide (t : List UInt8) : hw 256 t = Sha.sum t := by
  unfold hw
  rw [show clip 256 = 256 from rfl, nar_all _ (sum_length t)]
theorem narrow_at (t : List UInt8) : (hw 8 t)[1]? = some 0 := by
  unfold hw
  rw [show clip 8 = 8 from rfl, nar, bs_get _ _ _ (by omega)]
  rw [show mk (8 - 8 * 1) = 0 from rfl]
  simp

theorem wpList_guard {P : Program} {ops : Array Oper} {rest : List Oper} {o : Oper} {a : Act} {w : World} {Q : Exit → Act → World → Prop} (hg : Region.wanted o (yielded ops a.tmps) = true)
    (h : wpList P ops Q ({ o with guard := none } :: rest) a w) : wpList P ops Q (o :: rest) a w := by
  unfold wpList at h ⊢
  rw [if_pos hg]
  exact h
theorem run_index_at (A : Array Value) (v : Value) (i : Nat) (w : World) (hi : i < 32) (h : A[i]? = some v) (hs : A.size = 32) :
    (Instr.index 33 (.agg A) (.int .i64 i)).run Tryd.prog w = .ok v w := by
  simp [Instr.index, asIntOf, part, Sem.run_bind, Tryd.runUnderlying33, Tryd.sizeOf5, Tryd.isAgg5, hs, hi]
  exact (Array.getElem?_eq_some_iff.1 h).2
/-- Two hashes are compared. -/
theorem eqIn_hash (xs ys : List UInt8) (hx : xs.length = 32) (hy : ys.length = 32) (w : World) :
    (Op.equalIn 10000 33 (.agg (bv xs).toArray) (.agg (bv ys).toArray)).run Tryd.prog w = .ok (xs == ys) w :=
  run_equalIn_bytes (P := Tryd.prog) w 9998 33 5 32 Tryd.underlying33 Tryd.underlying5 (fun _ => rfl) xs ys hx hy
theorem eq_guard : Tryd.prog.eqGuardType Tryd.prog.depth 33 = false := by kernel_rfl
theorem gives_store_row {P : Program} {r : Nat → Value} {o : Oper} {w : World} {R : Value → World → Prop} (ty : TypeId) (x y : Operand) (ho : o.op = .store ty x y)
    (g : Nat) (cs : List Value) (hx : rd r x = .pointer (some ⟨g, 0, none⟩)) (hy : rd r y = .agg cs.toArray)
    (cur : List Value) (t : TypeId) (hg : w.heap[g]? = some (.cells cur.toArray t (0, 0))) (hi : (P.info? ty).map (·.size) = some cs.length) (hfit : cs.length = cur.length) (h1 : ∀ v ∈ cs, v.oneCell' = true)
    (h : ∀ w', w'.heap[g]? = some (.cells cs.toArray t (0, 0)) → w.grownBy w' (some g) → R undef w') : gives P r o w R := by
  have hst := run_storeCells_at P g 0 t cs 0 cur.toArray w hg (by simp [hfit]) h1
  have hrun : (storeVar ty ⟨g, 0, none⟩ (.agg cs.toArray)).run P w = .ok () (w.setRow g cs.toArray) := by
    cases hq : P.info? ty with
    | none => simp [hq] at hi
    | some i =>
      have hs : cs.length = i.size := by simp [hq] at hi; omega
      have e : (cur.toArray.toList.take (0 + 0) ++ cs ++ cur.toArray.toList.drop (0 + 0 + cs.length)).toArray = cs.toArray := by simp [hfit]
      rw [e] at hst
      simp [storeVar, sizeOf, typeInfo, hq, Value.cells, hs, hst]
  unfold gives execOp
  simp only [ho, hx, hy, Instr.storeAt, Instr.sureAddr, Sem.run_bind, Sem.run_pure, Result.andThen_ok, hrun]
  exact h _ (setRow_heap w g _ _ t _ hg) (grown_setRow w g _)

theorem gives_load_row {P : Program} {r : Nat → Value} {o : Oper} {w : World} {R : Value → World → Prop} (ty : TypeId) (x : Operand) (ho : o.op = .load ty x)
    (g : Nat) (hx : rd r x = .pointer (some ⟨g, 0, none⟩)) (t : TypeId) (cs : Array Value) (fr : Nat × Nat) (d : TypeDesc) (hg : w.heap[g]? = some (.cells cs t fr))
    (hu : P.underlying ty = some d) (hd : (match d with | .struct _ | .array _ _ => true | _ => false) = true) (hi : (P.info? ty).map (·.size) = some cs.size)
    (h : R (.agg cs) w) : gives P r o w R := by
  unfold gives execOp
  simp only [ho, hx, Instr.loadAt, Instr.sureAddr, Sem.run_bind, Sem.run_pure, Result.andThen_ok, run_loadVar_row w g t ty cs fr d hg hu hd hi]
  exact h

theorem rd_row {w : World} {g n : Nat} {l : List UInt8} {T : TypeId} (h : w.heap[g]? = some (.cells (bv l).toArray T (0, 0))) (hn : l.length = n) : Rd w 1 (.slice (some ⟨g, 0, none⟩) n n) l.length (bv l) := by
  subst hn
  refine ⟨by rw [bv_length]; omega, bv_one _, .inr ⟨_, _, rfl, Nat.le_refl _, fun j u hu => ?_⟩⟩
  rw [Addr.add_lit, Nat.zero_add, cell_of_row _ _ _ _ _ _ h]
  simpa using hu
/-- All operations leave alone what there was, but those of s: these leave alone what lies below B. -/
def kSet (s : List Nat) (B : Nat) (j : Nat) (w w' : World) : Prop := if j ∈ s then Below B w w' else Below w.heap.size w w'
theorem kSet_refl (s : List Nat) (B j : Nat) (w : World) : kSet s B j w w := by
  unfold kSet; split <;> exact Below.refl _ _
theorem kSet_base {s : List Nat} {B j : Nat} {w w' : World} (hB : B ≤ w.heap.size) (h : kSet s B j w w') : Below B w w' := by
  unfold kSet at h; split at h
  · exact h
  · exact h.mono hB
theorem kSet_below {s : List Nat} {B j : Nat} {w w' : World} (hj : ¬ j ∈ s) (h : kSet s B j w w') : Below w.heap.size w w' := by
  unfold kSet at h; rwa [if_neg hj] at h
theorem kSet_at {s : List Nat} {B j : Nat} {w w' : World} (hj : j ∈ s) (h : Below B w w') : kSet s B j w w' := by
  unfold kSet; rwa [if_pos hj]
theorem kSet_of {s : List Nat} {B j : Nat} {w w' : World} (hj : ¬ j ∈ s) (h : Below w.heap.size w w') : kSet s B j w w' := by
  unfold kSet; rwa [if_neg hj]
end Go.Proofs.YtdjmebfjanophaaDoor
