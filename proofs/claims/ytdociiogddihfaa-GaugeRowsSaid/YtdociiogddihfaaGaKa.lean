/- A row of a gauge that a drawn region stores. -/
import Derived.Test.YtdociiogddihfaaGaF
import Derived.Test.YtdociiogddihfaaTw
import Derived.Laws.Tables
namespace Go.Proofs.Ytdociiogddihfaa
open Go.ChangeShapes Go.WideShapes Go.ChangeAt Go.RowKit

def kPg (q g : Nat) (j : Nat) (w w' : World) : Prop := if j = q then w.grownBy w' (some g) else Below w.heap.size w w'
theorem kPg_refl (q g j : Nat) (w : World) : kPg q g j w w := by
  unfold kPg; split
  · exact World.grownBy.refl _ _
  · exact Below.refl _ _
theorem kPg_st {q g : Nat} {w w' : World} (h : w.grownBy w' (some g)) : kPg q g q w w' := by unfold kPg; rw [if_pos rfl]; exact h
theorem kPg_below {q g j : Nat} {w w' : World} (h1 : j ≠ q) (h : kPg q g j w w') : Below w.heap.size w w' := by unfold kPg at h; rwa [if_neg h1] at h
theorem kPg_G {q g j : Nat} {w0 w w' : World} (h : w0.grownBy w (some g)) (k : kPg q g j w w') : w0.grownBy w' (some g) := by
  unfold kPg at k
  split at k
  · exact grown_trans h k (fun j hj => .inl hj)
  · exact ⟨k.os.trans h.os, k.tape.trans h.tape, k.output.trans h.output, Nat.le_trans h.size k.size, fun i hi hne => (k.block i (Nat.lt_of_lt_of_le hi h.size)).trans (h.block i hi hne)⟩
theorem gives_store_gauge {P : Program} {r : Nat → Value} {o : Oper} {w : World} {R : Value → World → Prop} (ty : TypeId) (x y : Operand) (ho : o.op = .store ty x y)
    (g N m s l h : Nat) (hx : rd r x = .pointer (some ⟨g, 0, none⟩)) (hy : rd r y = Gv N m s l h) (t : TypeId) (old : Array Value) (hg : w.heap[g]? = some (.cells old t (0, 0))) (hi : (P.info? ty).map (·.size) = some 5) (hold : old.size = 5)
    (hk : ∀ w', w'.heap[g]? = some (.cells #[.int .u64 N, .float .f64 m, .float .f64 s, .float .f64 l, .float .f64 h] t (0, 0)) → w.grownBy w' (some g) → R undef w') : gives P r o w R := by
  have hs := run_storeVar_row (P := P) w g t ty old #[.int .u64 N, .float .f64 m, .float .f64 s, .float .f64 l, .float .f64 h] hg hi hold (by simp [Value.oneCell'])
  unfold gives execOp
  simp only [ho, hx, hy, Instr.storeAt, Instr.sureAddr, Sem.run_bind, Sem.run_pure, Result.andThen_ok, hs]
  exact hk _ (setRow_heap w g _ _ t _ hg) ⟨rfl, rfl, rfl, by simp, fun k _ hne => setRow_other w g k _ (fun e => hne (by rw [e]))⟩
theorem infoFloat : (Try.prog.info? 25).map (fun i => (i.zero, i.size, i.bytes)) = some (some (.float .f64 0), 1, 8) := by kernel_rfl
theorem gI (N m s l h : Nat) : (Try.prog.info? 27).map (·.size) = some (#[Value.int .u64 N, .float .f64 m, .float .f64 s, .float .f64 l, .float .f64 h] : Array Value).size := by kernel_rfl
theorem gI' : (Try.prog.info? 27).map (·.size) = some 5 := by kernel_rfl
theorem wpList_store_gauge {P : Program} {ops : Array Oper} {rest : List Oper} {o : Oper} {a : Act} {w : World} {Q : Exit → Act → World → Prop} (hgd : o.guard = none) (ty : TypeId) (x y : Operand) (ho : o.op = .store ty x y)
    (g : Nat) (N m s l h : Nat) (hx : a.eval x = .pointer (some ⟨g, 0, none⟩)) (hy : a.eval y = Gv N m s l h)
    (t : TypeId) (old : Array Value) (hg : w.heap[g]? = some (.cells old t (0, 0))) (hi : (P.info? ty).map (·.size) = some 5) (hold : old.size = 5)
    (hk : ∀ w', Hid (w'.heap[g]? = some (.cells #[.int .u64 N, .float .f64 m, .float .f64 s, .float .f64 l, .float .f64 h] t (0, 0))) → w.grownBy w' (some g) → wpList P ops Q rest (a.put o.dst undef) w') : wpList P ops Q (o :: rest) a w :=
  wpList_store_row hgd ty x y ho g #[.int .u64 N, .float .f64 m, .float .f64 s, .float .f64 l, .float .f64 h] hx hy t old hg hi hold (by simp [Value.oneCell']) (hk _ (setRow_heap w g _ _ t _ hg) ⟨rfl, rfl, rfl, by simp, fun k _ hne => setRow_other w g k _ (fun e => hne (by rw [e]))⟩)
theorem eq_order (x : Nat) (hx : x < 18446744073709551616) : (FloatKind.f64.format.order x x == some .eq) = !fnan x := by
  have := ne_order x hx
  cases h : fnan x <;> rw [h] at this <;> simpa [bne] using this
theorem grow_below {B g : Nat} {w0 w w' : World} (hb : Below B w0 w) (h : w.grownBy w' (some g)) (hg : B ≤ g) (hBw : B ≤ w.heap.size) : Below B w0 w' :=
  hb.trans ⟨h.os, h.tape, h.output, h.size, fun k hk => h.block k (by omega) (fun e => by simp at e; omega)⟩
theorem gives_load_row {P : Program} {r : Nat → Value} {o : Oper} {w : World} {R : Value → World → Prop} (ty : TypeId) (x : Operand) (ho : o.op = .load ty x)
    (g : Nat) (hx : rd r x = .pointer (some ⟨g, 0, none⟩)) (t : TypeId) (cs : Array Value) (fr : Nat × Nat) (d : TypeDesc) (hg : w.heap[g]? = some (.cells cs t fr))
    (hu : P.underlying ty = some d) (hd : (match d with | .struct _ | .array _ _ => true | _ => false) = true) (hi : (P.info? ty).map (·.size) = some cs.size)
    (h : R (.agg cs) w) : gives P r o w R := by
  unfold gives execOp
  simp only [ho, hx, Instr.loadAt, Instr.sureAddr, Sem.run_bind, Sem.run_pure, Result.andThen_ok, run_loadVar_row w g t ty cs fr d hg hu hd hi]
  exact h
end Go.Proofs.Ytdociiogddihfaa
