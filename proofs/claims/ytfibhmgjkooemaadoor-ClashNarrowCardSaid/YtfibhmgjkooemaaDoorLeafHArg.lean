/- Hash arguments opened. -/
import Derived.Test.YtfibhmgjkooemaaDoorLeafJ
import Derived.Test.YtfibhmgjkooemaaDoorRows
import Derived.Lib.SmallJoins
namespace Go.Proofs.YtfibhmgjkooemaaDoor
open Go.ChangeShapes Go.WideShapes Go.ChangeAt Go.RowKit Sha

theorem bytes_of_cells : ∀ cs : List Value, (∀ i, i < cs.length → ∃ b : UInt8, cs[i]? = some (.int .u8 b.toNat)) → ∃ l : List UInt8, cs = bv l ∧ l.length = cs.length
  | [], _ => ⟨[], rfl, rfl⟩
  | c :: cs, h => by
    obtain ⟨b, hb⟩ := h 0 (by simp)
    obtain ⟨l, hl, hn⟩ := bytes_of_cells cs (fun i hi => by
      obtain ⟨b, hb⟩ := h (i + 1) (by simpa using hi)
      exact ⟨b, by simpa using hb⟩)
    have hc : c = .int .u8 b.toNat := by simpa using hb
    exact ⟨b :: l, by rw [hc, hl]; simp [bv], by simp [hn]⟩
set_option maxRecDepth 100000 in
theorem open_hash {H : Type} {enc : TypeId × Value → H} {W : World} {base : Nat} {v : Value} {d : DataW H} {p : List MemPlace} (g : Value.okWide Tryd.prog W .any base 35 v)
    (h : DataW.Trod enc Tryd.prog W 0 (fun _ => true) true 35 v d p) : ∃ l : List UInt8, v = .agg (bv l).toArray ∧ l.length = 32 := by
  simp only [Value.okWide, Tryd.underlying35] at g
  obtain ⟨cs, rfl, hsz, _⟩ := g
  obtain ⟨fuel, hf⟩ := h
  obtain ⟨xs, m, rfl, hx, hlen, hn, hel⟩ := DataW.trod_array Tryd.underlying35 hf
  have c32 : Tryd.prog.cellsOf 35 = 32 := by kernel_rfl
  have c1 : Tryd.prog.cellsOf 5 = 1 := by kernel_rfl
  rw [c32] at hsz
  have hcl : (Value.agg cs).cells.toList = cs.toList := rfl
  rw [hcl] at hel
  obtain ⟨l, hl, hll⟩ := bytes_of_cells cs.toList (fun i hi => by
    have hi32 : i < 32 := by simpa [hsz] using hi
    have h0 := hel i hi32
    rw [c1, Nat.mul_one] at h0
    obtain ⟨x, hx⟩ : ∃ x, xs[i]? = some x := ⟨_, List.getElem?_eq_getElem (by omega)⟩
    rw [hx] at h0
    obtain ⟨k, e1, _, wf⟩ := DataW.trod_int Tryd.underlying5 h0
    refine ⟨UInt8.ofNat k.toNat, ?_⟩
    rw [u8_of_wf wf]
    have h2 := congrArg (fun l => l[0]?) e1
    simpa using h2)
  refine ⟨l, ?_, by rw [hll]; simpa using hsz⟩
  rw [← hl]

end Go.Proofs.YtfibhmgjkooemaaDoor
