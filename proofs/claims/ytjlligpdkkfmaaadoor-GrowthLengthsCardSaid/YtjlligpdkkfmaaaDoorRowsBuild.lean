/- Slices of rows that are built at once. -/
import Derived.Test.YtjlligpdkkfmaaaDoorLeafI
namespace Go.Proofs.YtjlligpdkkfmaaaDoor
open Go.RowKit Sha Root

theorem fold_at (b : Nat) : ∀ (l : List Value) (n : Nat) (init : Array Value), b + n + l.length ≤ init.size →
    (l.zipIdx n).foldl (fun cs x => cs.setIfInBounds (b + x.2) x.1) init = (init.toList.take (b + n) ++ (l ++ init.toList.drop (b + n + l.length))).toArray
  | [], n, init, _ => by simp
  | c :: l, n, init, h => by
    simp only [List.length_cons] at h
    rw [List.zipIdx_cons, List.foldl_cons, fold_at b l (n + 1) _ (by simp; omega)]
    congr 1
    simp only [Array.toList_setIfInBounds, List.length_cons]
    rw [show b + (n + 1) = b + n + 1 by omega, List.take_add_one, List.getElem?_set_self (by simp; omega), List.drop_set_of_lt (by omega), List.take_set_of_le (by omega)]
    simp [Nat.add_assoc, Nat.add_comm 1]
theorem fill_rows (size : Nat) : ∀ (rows : List (List Value)) (n : Nat) (init : Array Value), (∀ r ∈ rows, r.length = size) → (n + rows.length) * size ≤ init.size →
    Instr.fill (fun i => some (i * size, size)) init ((rows.zipIdx n).map fun x => (x.2, Value.agg x.1.toArray)) = some (init.toList.take (n * size) ++ (rows.flatten ++ init.toList.drop ((n + rows.length) * size))).toArray
  | [], n, init, _, _ => by simp [Instr.fill]
  | r :: rows, n, init, h, hs => by
    have hr := h r (by simp)
    simp only [List.length_cons] at hs
    have e1 : (n + (rows.length + 1)) * size = n * size + size + rows.length * size := by rw [Nat.add_mul, Nat.add_mul]; omega
    have e2 : (n + 1 + rows.length) * size = n * size + size + rows.length * size := by rw [Nat.add_mul, Nat.add_mul]; omega
    have e3 : (n + 1) * size = n * size + size := by rw [Nat.add_mul]; omega
    have hf := fold_at (n * size) r 0 init (by omega)
    rw [List.zipIdx_cons, List.map_cons, Instr.fill]
    simp only [Value.cells, List.size_toArray, hr]
    rw [if_neg (by simp; omega)]
    have hz : (r.toArray.zipIdx).foldl (fun cs (x : Value × Nat) => cs.setIfInBounds (n * size + x.2) x.1) init = (init.toList.take (n * size) ++ (r ++ init.toList.drop (n * size + size))).toArray := by
      rw [Nat.add_zero, hr] at hf
      rw [← hf]
      simp
    show Instr.fill _ ((r.toArray.zipIdx).foldl (fun cs (x : Value × Nat) => cs.setIfInBounds (n * size + x.2) x.1) init) _ = _
    rw [hz, fill_rows size rows (n + 1) _ (fun q hq => h q (by simp [hq])) (by simp only [List.size_toArray, List.length_append, List.length_take, List.length_drop, Array.length_toList, hr]; omega)]
    have hl1 : (init.toList.take (n * size)).length = n * size := by simp; omega
    have e4 : (init.toList.take (n * size) ++ (r ++ init.toList.drop (n * size + size))).take (n * size + size) = init.toList.take (n * size) ++ r := by
      rw [← List.append_assoc, List.take_left' (by rw [List.length_append, hl1, hr])]
    have e5 : (init.toList.take (n * size) ++ (r ++ init.toList.drop (n * size + size))).drop (n * size + size + rows.length * size) = init.toList.drop (n * size + size + rows.length * size) := by
      rw [← List.append_assoc, List.drop_append, List.drop_of_length_le (by rw [List.length_append, hl1, hr]; omega), List.nil_append, List.length_append, hl1, hr, List.drop_drop]
      congr 1; omega
    rw [List.toList_toArray, e3, e2, e4, e5, List.flatten_cons, List.length_cons, e1, List.append_assoc, List.append_assoc]
theorem wpList_buildRows {P : Program} {ops : Array Oper} {rest : List Oper} {o : Oper} {a : Act} {w : World} {Q : Exit → Act → World → Prop} (hg : o.guard = none) (t e : TypeId) (len : Nat) (parts : Array (Nat × Operand)) (ho : o.op = .buildSlice t len parts)
    (rows : List (List Value)) {size bytes : Nat} (hr : ∀ r ∈ rows, r.length = size) (hlen : rows.length = len) (hx : (parts.map fun (i, x) => (i, a.eval x)).toList = (rows.zipIdx 0).map fun x => (x.2, Value.agg x.1.toArray))
    (hu : P.underlying t = some (.slice e)) {z : Value} (hinfo : (P.info? e).map (fun i => (i.zero, i.size, i.bytes)) = some (some z, size, bytes)) (h0 : 0 < len * size) (h24 : len * size ≤ 16777216)
    (h : wpList P ops Q rest (a.put o.dst (.slice (some ⟨w.heap.size, 0, none⟩) len len)) (w.alloc (.cells rows.flatten.toArray e))) : wpList P ops Q (o :: rest) a w := by
  obtain ⟨i, hi, hz, hsize, _⟩ := info_parts hinfo
  refine wpList_buildSlice hg t e len parts ho rows.flatten.toArray i z hu hi hz (by rw [hsize]; omega) (by rw [hsize]; omega) ?_ h
  rw [hx, hsize]
  have hf := fill_rows size rows 0 ((Array.range (len * size)).map (z.cells[· % z.cells.size]!)) hr (by simp [hlen])
  rw [hf, Nat.zero_mul, List.take_zero, List.nil_append, List.drop_of_length_le (by simp [hlen]), List.append_nil]
theorem Rd.rows (w : World) (e : TypeId) (size n : Nat) (rows : List (List Value)) (hn : rows.length = n) (h0 : 0 < n) (hx : ∀ r ∈ rows, r.length = size) (h1 : ∀ r ∈ rows, ∀ u ∈ r, u.oneCell' = true) : Rd (w.alloc (.cells rows.flatten.toArray e)) size (.slice (some ⟨w.heap.size, 0, none⟩) n n) n rows.flatten := by
  refine ⟨?_, fun u hu => ?_, .inr ⟨_, _, rfl, Nat.le_refl _, fun j u hu => ?_⟩⟩
  · subst hn
    clear h0 h1
    induction rows with
    | nil => simp
    | cons r rows ih => rw [List.flatten_cons, List.length_append, hx r (by simp), ih (fun q hq => hx q (by simp [hq])), List.length_cons, Nat.add_mul]; omega
  · obtain ⟨r, hr, hu⟩ := List.mem_flatten.1 hu
    exact h1 r hr u hu
  · rw [Addr.add_lit, Nat.zero_add, World.cell?_alloc_at _ _ _ _ rfl]
    simpa using hu
/-- A hash that begins with one byte and goes on with zeros. -/
def hb (b : UInt8) : List UInt8 := b :: zs 31
theorem hb_length (b : UInt8) : (hb b).length = 32 := by simp [hb, zs]
end Go.Proofs.YtjlligpdkkfmaaaDoor
