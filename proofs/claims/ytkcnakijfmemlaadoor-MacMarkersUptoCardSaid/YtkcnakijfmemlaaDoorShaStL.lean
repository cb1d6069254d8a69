/- What the law ShaStates wants beside: a string's bytes, an element loaded in a drawn region. -/
import Derived.Test.YtkcnakijfmemlaaDoorBuild1
import Derived.Test.YtkcnakijfmemlaaDoorReg
import Derived.Lib.ConvBytes
namespace Go.Proofs.YtkcnakijfmemlaaDoor
open Go.RowKit Sha

theorem bytesWorld_below (w : World) (e : TypeId) (s : ByteArray) : Below w.heap.size w (Lib.bytesWorld w e s) := by
  refine ⟨?_, ?_, ?_, by rw [Lib.bytesWorld_size]; omega, fun k hk => Lib.bytesWorld_at_old w e s k hk⟩
  all_goals simp [Lib.bytesWorld, World.freeze, World.alloc, World.drew, -World.alloc_eq, -World.drew_eq]
theorem bytesWorld_rd (w : World) (e : TypeId) (l : List UInt8) (c : Nat) (hc : l.length ≤ c) : Rd (Lib.bytesWorld w e ⟨l.toArray⟩) 1 (.slice (some ⟨w.heap.size, 0, none⟩) l.length c) l.length (bv l) := by
  refine ⟨by rw [bv_length]; omega, bv_one _, .inr ⟨_, _, rfl, hc, fun j u hu => ?_⟩⟩
  have hj : j < l.length := by have := (List.getElem?_eq_some_iff.1 hu).1; rwa [bv_length] at this
  rw [Addr.add_lit, Nat.zero_add, Lib.bytesWorld_cell w e ⟨l.toArray⟩ j hj, ← hu]
  simp [bv, hj]
theorem gives_load_mid {P : Program} {r : Nat → Value} {o : Oper} {w : World} {R : Value → World → Prop} (ty : TypeId) (x : Operand) (ho : o.op = .load ty x)
    (g off : Nat) (hx : rd r x = .pointer (some ⟨g, off, none⟩)) (cs : List Value) (d : TypeDesc) (hc : w.rangeAt g off cs)
    (hu : P.underlying ty = some d) (hd : d.isRow = true) (hi : (P.info? ty).map (·.size) = some cs.length)
    (h : R (.agg cs.toArray) w) : gives P r o w R := by
  unfold gives execOp
  simp only [ho, hx, Instr.loadAt, Instr.sureAddr, Sem.run_bind, Sem.run_pure, Result.andThen_ok, run_loadVar_mid w g off ty cs d hc hu hd hi]
  exact h
end Go.Proofs.YtkcnakijfmemlaaDoor
