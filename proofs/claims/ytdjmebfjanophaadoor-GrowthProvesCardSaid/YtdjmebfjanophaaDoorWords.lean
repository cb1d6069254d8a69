/- Slices of 64-bit numbers: plain words, and how they come in; no program is named here. -/
import Derived.Test.YtdjmebfjanophaaDoorOpen
namespace Go.Proofs.YtdjmebfjanophaaDoor
open Go.ChangeShapes Go.WideShapes Go.ChangeAt Go.RowKit

theorem own_form {w : World} {B : Nat} {e : TypeId} {size : Nat} {v : Value} {n : Nat} {xs : List Value} (h : w.ownsRow B e size v n xs) : ∃ a c, v = .slice a n c := by
  obtain ⟨hl, ⟨rfl, rfl⟩ | ⟨g, cap, cur, hv, _⟩⟩ := h
  · exact ⟨_, _, rfl⟩
  · exact ⟨_, _, hv⟩

/-- Numbers as cells. -/
def uv (l : List Nat) : List Value := l.map fun (n : Nat) => .int .u64 (n : Int)
theorem uv_length (l : List Nat) : (uv l).length = l.length := by simp [uv]
theorem uv_one (l : List Nat) : ∀ u ∈ uv l, u.oneCell' = true := by
  intro u hu
  obtain ⟨_, _, rfl⟩ := List.mem_map.1 hu
  rfl

/-- A slice of 64-bit numbers that came in. -/
theorem open_words {H : Type} {enc : TypeId × Value → H} {P : Program} {W : World} {base : Nat} {t e : TypeId} {v : Value} {d : DataW H} {p : List MemPlace}
    (ht : P.underlying t = some (.slice e)) (he : P.underlying e = some (.int .u64)) (hc : P.cellsOf e = 1)
    (hv : ∃ a n c, v = .slice a n c) (h : DataW.Trod enc P W base (fun _ => true) true t v d p) :
    ∃ l : List Nat, Rd W 1 v l.length (uv l) ∧ (∀ x ∈ l, x < 18446744073709551616) ∧ ((d = .nil ∧ l = []) ∨ ∃ spare, d = .slice (l.map fun (b : Nat) => .lit (.int .u64 (b : Int))) spare) := by
  obtain ⟨a, n, c, rfl⟩ := hv
  obtain ⟨fuel, hf⟩ := h
  rcases open_ints ht he hc hf with ⟨hcs, hx⟩ | ⟨x, len, cap, zs, hcs, _, hl, hm, hz, hx, hcell, hwz⟩
  · simp [Value.cells] at hcs
    obtain ⟨rfl, rfl, rfl⟩ := hcs
    simp only [Prod.mk.injEq] at hx
    exact ⟨[], Rd.nil _ _, by simp, .inl ⟨hx.1, rfl⟩⟩
  · simp [Value.cells] at hcs
    obtain ⟨rfl, rfl, rfl⟩ := hcs
    simp only [if_true] at hz
    simp only [Prod.mk.injEq] at hx
    have hlen : ((zs.take n).map fun z => z.toNat).length = n := by simp; omega
    have hback : ∀ z ∈ zs, ((z.toNat : Nat) : Int) = z := fun z hzm => by have := bounds_u64 (hwz z hzm); omega
    refine ⟨(zs.take n).map fun z => z.toNat, ?_, ?_, .inr ⟨lits .u64 (zs.drop n), ?_⟩⟩
    · rw [hlen]
      refine ⟨by rw [uv_length, hlen]; omega, uv_one _, .inr ⟨x, c, rfl, hl, fun j u hu => ?_⟩⟩
      simp only [uv, List.map_map, List.getElem?_map] at hu
      cases hj : (zs.take n)[j]? with
      | none => simp [hj] at hu
      | some z =>
        simp only [hj, Option.map_some, Option.some.injEq, Function.comp] at hu
        have hjl : j < n := by have := (List.getElem?_eq_some_iff.1 hj).1; simp at this; omega
        rw [List.getElem?_take_of_lt hjl] at hj
        have hzm : z ∈ zs := List.mem_of_getElem? hj
        rw [hcell j (by omega), ← hu, hback z hzm]
        simp [List.getD, hj]
    · intro y hy
      obtain ⟨z, hzm, rfl⟩ := List.mem_map.1 hy
      have := bounds_u64 (hwz z (List.mem_of_mem_take hzm))
      omega
    · rw [hx.1, List.map_map]
      congr 1
      unfold lits
      refine List.map_congr_left fun z hzm => ?_
      simp only [Function.comp]
      rw [hback z (List.mem_of_mem_take hzm)]

/-- Its length is within the form's reach. -/
theorem words_reach {H : Type} {P : Program} {ts : List TypeId} {ds : List (DataW H)} (h : (DataW.weightsEach P ts ds).all (· ≤ reachBytes) = true) {j : Nat} {t e : TypeId} (ht : ts[j]? = some t) (hu : P.underlying t = some (.slice e)) (hb : P.bytesOf e = 8) {l : List Nat}
    (hd : ds[j]? = some .nil ∧ l = [] ∨ ∃ spare, ds[j]? = some (.slice (l.map fun (b : Nat) => .lit (.int .u64 (b : Int))) spare)) : l.length * 8 ≤ 140737488351232 := by
  rcases hd with ⟨_, rfl⟩ | ⟨spare, hd⟩
  · simp
  · have := sized_slice h ht hd hu
    rw [hb] at this
    simp at this
    have e : reachBytes = 140737488351232 := by decide
    omega

end Go.Proofs.YtdjmebfjanophaaDoor
