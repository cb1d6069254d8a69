/- Lists of hashes that come in. -/
import Derived.Test.YtfibhmgjkooemaaDoorLeafHArg
import Derived.Test.YtfibhmgjkooemaaDoorTw
import Derived.Test.YtfibhmgjkooemaaDoorLaidL
namespace Go.Proofs.YtfibhmgjkooemaaDoor
open Go.ChangeShapes Go.WideShapes Go.ChangeAt Go.RowKit Sha

theorem cHash : Tryd.prog.cellsOf 35 = 32 := by kernel_rfl
theorem bHash : Tryd.prog.bytesOf 35 = 32 := by kernel_rfl
theorem cU8 : Tryd.prog.cellsOf 5 = 1 := by kernel_rfl
/-- A hash that comes in. -/
theorem TW.hash {H : Type} {enc : TypeId × Value → H} {W : World} {ds : List Value} (hl : ds.length = 32) (h : TW enc Tryd.prog W 35 ds) : ∃ l : List UInt8, ds = bv l ∧ l.length = 32 := by
  obtain ⟨f, d, p, hf, _⟩ := h
  obtain ⟨xs, m, rfl, hx, hlen, hn, hel⟩ := DataW.trod_array Tryd.underlying35 hf
  obtain ⟨l, hb, hll⟩ := bytes_of_cells ds (fun i hi => by
    have h0 := hel i (by omega)
    rw [cU8, Nat.mul_one] at h0
    obtain ⟨x, hx⟩ : ∃ x, xs[i]? = some x := ⟨_, List.getElem?_eq_getElem (by omega)⟩
    rw [hx] at h0
    obtain ⟨k, e1, _, wf⟩ := DataW.trod_int Tryd.underlying5 h0
    refine ⟨UInt8.ofNat k.toNat, ?_⟩
    rw [u8_of_wf wf]
    have h2 := congrArg (fun l => l[0]?) e1
    simpa using h2)
  exact ⟨l, hb, by omega⟩
theorem TW.hashes {H : Type} {enc : TypeId × Value → H} {W : World} {v : Value} (h : TW enc Tryd.prog W 36 [v]) : ∃ ls : List (List UInt8), Rd W 32 v ls.length (ls.flatMap bv) ∧ ls.length * 32 ≤ 140737488351232 ∧ ∀ p ∈ ls, p.length = 32 := by
  obtain ⟨l, hr, hl, hq⟩ := h.elems Tryd.underlying36 cHash bv (fun l => l.length = 32) (fun ds hl htw => TW.hash hl htw) (fun l _ => bv_one l)
  rw [bHash] at hl
  exact ⟨l, hr, hl, fun p hp => (hq p hp).1⟩
end Go.Proofs.YtfibhmgjkooemaaDoor
