/- A slice built of one element of many cells. -/
import Derived.Test.YtkcnakijfmemlaaDoorShaPieces
import Derived.Great.BuildSlice
namespace Go.Proofs.YtkcnakijfmemlaaDoor
open Go.RowKit Sha

theorem fold_set : ∀ (l : List Value) (n : Nat) (init : Array Value), n + l.length ≤ init.size →
    (l.zipIdx n).foldl (fun cs x => cs.setIfInBounds (0 + x.2) x.1) init = (init.toList.take n ++ (l ++ init.toList.drop (n + l.length))).toArray
  | [], n, init, _ => by simp
  | c :: l, n, init, h => by
    simp only [List.length_cons] at h
    rw [List.zipIdx_cons, List.foldl_cons, fold_set l (n + 1) _ (by simp; omega)]
    congr 1
    simp only [Nat.zero_add, Array.toList_setIfInBounds, List.length_cons]
    rw [List.take_add_one, List.getElem?_set_self (by simp; omega), List.drop_set_of_lt (by omega), List.take_set_of_le (by omega)]
    simp [Nat.add_assoc, Nat.add_comm 1]
theorem fill_one (cs : List Value) (init : Array Value) (h : init.size = cs.length) (size : Nat) (hs : size = cs.length) :
    Instr.fill (fun i => some (i * size, size)) init [(0, .agg cs.toArray)] = some cs.toArray := by
  subst hs
  have hf := fold_set cs 0 init (by omega)
  simp only [Nat.zero_add, List.take_zero, List.nil_append] at hf
  rw [List.drop_of_length_le (by simp; omega), List.append_nil] at hf
  simp [Instr.fill, Value.cells, h, hf]
theorem wpList_build1 {P : Program} {ops : Array Oper} {rest : List Oper} {o : Oper} {a : Act} {w : World} {Q : Exit → Act → World → Prop} (hg : o.guard = none) (t e : TypeId) (x : Operand) (ho : o.op = .buildSlice t 1 #[(0, x)])
    (cs : List Value) (hx : a.eval x = .agg cs.toArray) (hu : P.underlying t = some (.slice e)) {z : Value} {bytes : Nat} (hinfo : (P.info? e).map (fun i => (i.zero, i.size, i.bytes)) = some (some z, cs.length, bytes)) (h0 : 0 < cs.length) (h24 : cs.length ≤ 16777216)
    (h : wpList P ops Q rest (a.put o.dst (.slice (some ⟨w.heap.size, 0, none⟩) 1 1)) (w.alloc (.cells cs.toArray e))) : wpList P ops Q (o :: rest) a w := by
  obtain ⟨i, hi, hz, hsize, _⟩ := info_parts hinfo
  refine wpList_buildSlice hg t e 1 _ ho cs.toArray i z hu hi hz (by rw [hsize]; omega) (by rw [hsize]; omega) ?_ h
  have e : (Array.map (fun x : Nat × Operand => match x with | (i, x) => (i, a.eval x)) #[(0, x)]).toList = [(0, a.eval x)] := by simp
  rw [e, hx]
  exact fill_one cs _ (by simp [hsize]) _ hsize
end Go.Proofs.YtkcnakijfmemlaaDoor
