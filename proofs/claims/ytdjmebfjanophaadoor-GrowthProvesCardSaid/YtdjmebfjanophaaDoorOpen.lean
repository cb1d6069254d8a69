/- Arguments of a law, opened: no program is named here. -/
import Derived.Test.YtdjmebfjanophaaDoorBase
import Derived.ProofKit
import Derived.OpenShut
import Derived.SizedLaws
import Derived.Deep.CondSized
import Derived.Deep.Slices
namespace Go.Proofs.YtdjmebfjanophaaDoor
open Go.ChangeShapes Go.WideShapes Go.ChangeAt Go.RowKit

theorem u8_of_wf {n : Int} (h : (Lit.int .u8 n).wf = true) : ((UInt8.ofNat n.toNat).toNat : Int) = n := by
  have := bounds_u8 h
  have e := u8_nat n.toNat (by omega)
  omega

/-- A slice of bytes that came in. -/
theorem open_bytes {H : Type} {enc : TypeId × Value → H} {P : Program} {W : World} {base : Nat} {t e : TypeId} {v : Value} {d : DataW H} {p : List MemPlace}
    (ht : P.underlying t = some (.slice e)) (he : P.underlying e = some (.int .u8)) (hc : P.cellsOf e = 1)
    (hv : ∃ a n c, v = .slice a n c) (h : DataW.Trod enc P W base (fun _ => true) true t v d p) :
    ∃ l : List UInt8, Rd W 1 v l.length (bv l) ∧ ((d = .nil ∧ l = []) ∨ ∃ spare, d = .slice (l.map fun b => .lit (.int .u8 b.toNat)) spare) := by
  obtain ⟨a, n, c, rfl⟩ := hv
  obtain ⟨fuel, hf⟩ := h
  rcases open_ints ht he hc hf with ⟨hcs, hx⟩ | ⟨x, len, cap, zs, hcs, _, hl, hm, hz, hx, hcell, hwz⟩
  · simp [Value.cells] at hcs
    obtain ⟨rfl, rfl, rfl⟩ := hcs
    simp only [Prod.mk.injEq] at hx
    exact ⟨[], Rd.nil _ _, .inl ⟨hx.1, rfl⟩⟩
  · simp [Value.cells] at hcs
    obtain ⟨rfl, rfl, rfl⟩ := hcs
    simp only [if_true] at hz
    simp only [Prod.mk.injEq] at hx
    have hlen : ((zs.take n).map fun z => UInt8.ofNat z.toNat).length = n := by simp; omega
    have hback : ∀ z ∈ zs, ((UInt8.ofNat z.toNat).toNat : Int) = z := fun z hzm => u8_of_wf (hwz z hzm)
    refine ⟨(zs.take n).map fun z => UInt8.ofNat z.toNat, ?_, .inr ⟨lits .u8 (zs.drop n), ?_⟩⟩
    · rw [hlen]
      refine ⟨by rw [bv_length, hlen]; omega, bv_one _, .inr ⟨x, c, rfl, hl, fun j u hu => ?_⟩⟩
      simp only [bv, List.map_map, List.getElem?_map] at hu
      cases hj : (zs.take n)[j]? with
      | none => simp [hj] at hu
      | some z =>
        simp only [hj, Option.map_some, Option.some.injEq, Function.comp] at hu
        have hjl : j < n := by have := (List.getElem?_eq_some_iff.1 hj).1; simp at this; omega
        rw [List.getElem?_take_of_lt hjl] at hj
        have hzm : z ∈ zs := List.mem_of_getElem? hj
        rw [hcell j (by omega), ← hu, hback z hzm]
        simp [List.getD, hj]
    · rw [hx.1, List.map_map]
      congr 1
      unfold lits
      refine List.map_congr_left fun z hzm => ?_
      simp only [Function.comp]
      rw [hback z (List.mem_of_mem_take hzm)]

/-- Its length is within the form's reach. -/
theorem bytes_reach {H : Type} {P : Program} {ts : List TypeId} {ds : List (DataW H)} (h : (DataW.weightsEach P ts ds).all (· ≤ reachBytes) = true) {j : Nat} {t e : TypeId} (ht : ts[j]? = some t) (hu : P.underlying t = some (.slice e)) (hb : P.bytesOf e = 1) {l : List UInt8}
    (hd : ds[j]? = some .nil ∧ l = [] ∨ ∃ spare, ds[j]? = some (.slice (l.map fun b => .lit (.int .u8 b.toNat)) spare)) : l.length ≤ 140737488351232 := by
  rcases hd with ⟨_, rfl⟩ | ⟨spare, hd⟩
  · simp
  · have := sized_slice h ht hd hu
    rw [hb] at this
    simp at this
    have e : reachBytes = 140737488351232 := by decide
    omega

theorem u64_nat {n : Int} (h : (Lit.int .u64 n).wf = true) : ∃ m : Nat, n = (m : Int) ∧ m < 18446744073709551616 := by
  simp [Lit.wf, IntKind.min, IntKind.max, IntKind.signed, IntKind.bits] at h
  exact ⟨n.toNat, by omega, by omega⟩

theorem u32_nat {n : Int} (h : (Lit.int .u32 n).wf = true) : ∃ m : Nat, n = (m : Int) ∧ m < 4294967296 := by
  simp [Lit.wf, IntKind.min, IntKind.max, IntKind.signed, IntKind.bits] at h
  exact ⟨n.toNat, by omega, by omega⟩

section
variable {H : Type} {enc : TypeId × Value → H} {P : Program} {W : World}

/-- The cells cs read as a datum of type t. -/
def Trd (enc : TypeId × Value → H) (P : Program) (W : World) (t : TypeId) (cs : List Value) : Prop := ∃ fuel x, DataW.trod enc P W 0 (fun _ => true) true fuel t cs = some x

theorem Trd.of {t : TypeId} {v : Value} {d : DataW H} {p : List MemPlace} (h : DataW.Trod enc P W 0 (fun _ => true) true t v d p) : Trd enc P W t v.cells.toList := by
  obtain ⟨f, hf⟩ := h
  exact ⟨f, _, hf⟩
theorem Trd.int {t : TypeId} {k : IntKind} {cs : List Value} (ht : P.underlying t = some (.int k)) (h : Trd enc P W t cs) : ∃ n, cs = [.int k n] ∧ (Lit.int k n).wf = true := by
  obtain ⟨f, x, hf⟩ := h
  obtain ⟨n, h1, _, h2⟩ := DataW.trod_int ht hf
  exact ⟨n, h1, h2⟩
theorem Trd.bool {t : TypeId} {cs : List Value} (ht : P.underlying t = some .bool) (h : Trd enc P W t cs) : ∃ b, cs = [.bool b] := by
  obtain ⟨f, x, hf⟩ := h
  obtain ⟨b, h1, _⟩ := DataW.trod_bool ht hf
  exact ⟨b, h1⟩
theorem Trd.struct {t : TypeId} {fs : Array Field} {cs : List Value} (ht : P.underlying t = some (.struct fs)) (h : Trd enc P W t cs) :
    cs.length = P.cellsOf t ∧ ∀ (i : Nat) (f : Field), fs[i]? = some f → Trd enc P W f.type ((cs.drop f.offset).take (P.cellsOf f.type)) := by
  obtain ⟨f, x, hf⟩ := h
  obtain ⟨xs, n, _, rfl, hl, hlen, hff⟩ := DataW.trod_struct ht hf
  refine ⟨hl, fun i f hi => ?_⟩
  have h1 := hff i f hi
  have hi2 : i < xs.length := by rw [hlen]; exact (Array.getElem?_eq_some_iff.1 hi).1
  rw [List.getElem?_eq_getElem hi2] at h1
  exact ⟨n, _, h1⟩
theorem Trd.field {t : TypeId} {fs : Array Field} {cs : List Value} {f : Field} {n : Nat} (h : Trd enc P W t cs) (ht : P.underlying t = some (.struct fs)) (i : Nat) (hf : fs[i]? = some f) (hn : P.cellsOf f.type = n) :
    Trd enc P W f.type ((cs.drop f.offset).take n) := hn ▸ (h.struct ht).2 i f hf
theorem Trd.slice {t e : TypeId} {cs : List Value} (ht : P.underlying t = some (.slice e)) (h : Trd enc P W t cs) :
    ∃ a n c, cs = [.slice a n c] ∧ ((a = none ∧ n = 0 ∧ c = 0) ∨ ∃ ad, a = some ad ∧ n ≤ c ∧ c ≤ maxLen ∧
      ∀ i, i < n → ∃ ds : List Value, ds.length = P.cellsOf e ∧ (∀ j, j < P.cellsOf e → W.cell? (ad.add (i * P.cellsOf e + j)) = ds[j]?) ∧ Trd enc P W e ds) := by
  obtain ⟨f, x, hf⟩ := h
  rcases Go.Deep.open_slice ht hf with ⟨h1, _⟩ | ⟨a, len, cap, m, n, D, Pl, h1, _, hl, hm, hmm, _, hx⟩
  · exact ⟨_, _, _, h1, .inl ⟨rfl, rfl, rfl⟩⟩
  · refine ⟨_, _, _, h1, .inr ⟨a, rfl, hl, hm, fun i hi => ?_⟩⟩
    simp only [if_true] at hmm
    obtain ⟨ds, hd, ht2⟩ := hx i (by omega)
    obtain ⟨_, hlen, hc⟩ := World.cells?_some hd
    exact ⟨ds, hlen, fun j hj => by rw [← Go.Deep.add_add]; exact hc j hj, _, _, ht2⟩
end
end Go.Proofs.YtdjmebfjanophaaDoor
