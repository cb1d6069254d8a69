import Derived.Test.YtfibhmgjkooemaaDoorLeafJ
import Derived.Test.YtfibhmgjkooemaaDoorRows
import Derived.Lib.SmallJoins
import Derived.Test.YtfibhmgjkooemaaDoorShaC
import Derived.ProofKit
import Derived.LaidMore
import Derived.OpenShut
import Derived.Stop.Joined
/- Hash arguments opened. -/
namespace Go.Proofs.YtfibhmgjkooemaaDoor
open Go.ChangeShapes Go.WideShapes Go.ChangeAt Go.RowKit Sha

theorem bytes_of_cells : ∀ cs : List Value, (∀ i, i < cs.length → ∃ b : UInt8, cs[i]? = some (.int .u8 b.toNat)) → ∃ l : List UInt8, cs = bv l ∧ l.length = cs.length
  | [], _ => ⟨[], rfl, rfl⟩
  | c :: cs, h => by
    obtain ⟨b, hb⟩ := h 0 (by simp)
    obtain ⟨l, hl, hn⟩ := bytes_of_cells cs (fun i hi => by
      obtain ⟨b, hb⟩ := h (i + 1) (by simpa using hi)
      exact ⟨b, by simpa using hb⟩)
    have hc : c = .int .u8 b.toNat := by simpa using hb
    exact ⟨b :: l, by rw [hc, hl]; simp [bv], by simp [hn]⟩
set_option maxRecDepth 100000 in
theorem open_hash {H : Type} {enc : TypeId × Value → H} {W : World} {base : Nat} {v : Value} {d : DataW H} {p : List MemPlace} (g : Value.okWide Tryd.prog W .any base 35 v)
    (h : DataW.Trod enc Tryd.prog W 0 (fun _ => true) true 35 v d p) : ∃ l : List UInt8, v = .agg (bv l).toArray ∧ l.length = 32 := by
  simp only [Value.okWide, Tryd.underlying35] at g
  obtain ⟨cs, rfl, hsz, _⟩ := g
  obtain ⟨fuel, hf⟩ := h
  obtain ⟨xs, m, rfl, hx, hlen, hn, hel⟩ := DataW.trod_array Tryd.underlying35 hf
  have c32 : Tryd.prog.cellsOf 35 = 32 := by kernel_rfl
  have c1 : Tryd.prog.cellsOf 5 = 1 := by kernel_rfl
  rw [c32] at hsz
  have hcl : (Value.agg cs).cells.toList = cs.toList := rfl
  rw [hcl] at hel
  obtain ⟨l, hl, hll⟩ := bytes_of_cells cs.toList (fun i hi => by
    have hi32 : i < 32 := by simpa [hsz] using hi
    have h0 := hel i hi32
    rw [c1, Nat.mul_one] at h0
    obtain ⟨x, hx⟩ : ∃ x, xs[i]? = some x := ⟨_, List.getElem?_eq_getElem (by omega)⟩
    rw [hx] at h0
    obtain ⟨k, e1, _, wf⟩ := DataW.trod_int Tryd.underlying5 h0
    refine ⟨UInt8.ofNat k.toNat, ?_⟩
    rw [u8_of_wf wf]
    have h2 := congrArg (fun l => l[0]?) e1
    simpa using h2)
  refine ⟨l, ?_, by rw [hll]; simpa using hsz⟩
  rw [← hl]

end Go.Proofs.YtfibhmgjkooemaaDoor

/- What the listed tables give the walks; the door's own heap. -/
namespace Go.Proofs.YtfibhmgjkooemaaDoor
open Go.ChangeShapes Go.WideShapes Go.ChangeAt Go.WideElems Go.RowKit Sha

theorem gRound : Tryd.prog.globalNamed "tabellion/sha.round" = some 4 := by kernel_rfl
theorem gBegin : Tryd.prog.globalNamed "tabellion/sha.begin" = some 0 := by kernel_rfl
theorem gCons : Tryd.prog.globalNamed "tabellion/tabellionref03.constants" = some 1 := by kernel_rfl
theorem tRound : (Tryd.prog.globals[4]?).map (·.type) = some 109 := by kernel_rfl
theorem tBegin : (Tryd.prog.globals[0]?).map (·.type) = some 86 := by kernel_rfl
theorem tCons : (Tryd.prog.globals[1]?).map (·.type) = some 109 := by kernel_rfl

theorem tab_of {H : Type} {enc : TypeId × Value → H} {W : World} {B : Nat} {spare : Nat → Bool} {held : Bool} {m : Nat} {t : TypeId} {cs : List Value} {ks : List Int} {p : List MemPlace} {n : Nat}
    (ht : Tryd.prog.underlying t = some (.array n 85)) (hd : DataW.trod enc Tryd.prog W B spare held m t cs = some (.agg (ks.map fun k => .lit (.int .u32 k)), p)) (hk : ks.length = n) :
    ∀ (i : Nat) (k : Int), ks[i]? = some k → cs[i]? = some (Value.int .u32 k) := by
  obtain ⟨xs, m1, rfl, hx1, hlen, hn, hel⟩ := DataW.trod_array ht hd
  intro i k hi
  have hin : i < n := by rw [← hk]; exact (List.getElem?_eq_some_iff.1 hi).1
  simp only [Prod.mk.injEq, DataW.agg.injEq] at hx1
  have h0 := hel i hin
  have c3 : Tryd.prog.cellsOf 85 = 1 := by kernel_rfl
  rw [c3, Nat.mul_one] at h0
  obtain ⟨x, hx⟩ : ∃ x, xs[i]? = some x := ⟨_, List.getElem?_eq_getElem (by omega)⟩
  rw [hx] at h0
  obtain ⟨k', e1, e2, _⟩ := DataW.trod_int Tryd.underlying85 h0
  have hxk : x.1 = .lit (.int .u32 k) := by
    have h1 : (xs.map (·.1))[i]? = some x.1 := by rw [List.getElem?_map, hx]; rfl
    rw [← hx1.1, List.getElem?_map, hi] at h1
    exact (Option.some.inj h1).symm
  rw [e2] at hxk
  have hkk : k' = k := by simpa using hxk
  have h2 := congrArg (fun l => l[0]?) e1
  rw [hkk] at h2
  simpa using h2

theorem dRound (H : Type) : Rows.laid_tabellion_sha_round (H := H) = .agg ((Sha.tab.map Int.ofNat).map fun k => .lit (.int .u32 k)) := rfl
theorem dCons (H : Type) : Rows.laid_tabellion_tabellionref03_constants (H := H) = .agg ((Sha.tab.map Int.ofNat).map fun k => .lit (.int .u32 k)) := rfl
theorem dBegin (H : Type) : Rows.laid_tabellion_sha_begin (H := H) = .agg ((begin0.l.map fun x => (x.toNat : Int)).map fun k => .lit (.int .u32 k)) := rfl
theorem tab_kk : ∀ j : Fin 64, (Sha.tab.map Int.ofNat)[j.1]? = some ((kk j.1).toNat : Int) := by decide
theorem beg_kk : ∀ j : Fin 8, (begin0.l.map fun x => (x.toNat : Int))[j.1]? = some ((begin0.l.getD j.1 0).toNat : Int) := by decide
theorem row_cells {W : World} {name : String} {g : Nat} {cs : Array Value} {ks : List Int} {n : Nat} {f : Nat → UInt32} (hg : Tryd.prog.globalNamed name = some g) (hv : W.var? Tryd.prog name = some cs)
    (hc : ∀ (i : Nat) (k : Int), ks[i]? = some k → cs.toList[i]? = some (Value.int .u32 k)) (hk : ∀ j, j < n → ks[j]? = some ((f j).toNat : Int)) : ∀ j, j < n → W.cell? ⟨g, j, none⟩ = some (u (f j)) := fun j hj => by
  rw [World.var?_cell hg hv j]
  have := hc j _ (hk j hj)
  rwa [Array.getElem?_toList] at this

end Go.Proofs.YtfibhmgjkooemaaDoor
