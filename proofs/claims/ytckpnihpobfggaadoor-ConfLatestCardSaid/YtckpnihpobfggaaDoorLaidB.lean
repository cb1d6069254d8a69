/- What the library's table of bits gives the walks; the door's own heap. -/
import Derived.Test.YtckpnihpobfggaaDoorConfBits
import Derived.Test.YtckpnihpobfggaaDoorRows
import Derived.ProofKit
import Derived.LaidMore
import Derived.OpenShut
import Derived.Stop.Joined
namespace Go.Proofs.YtckpnihpobfggaaDoor
open Go.ChangeShapes Go.WideShapes Go.ChangeAt Go.WideElems Go.RowKit

theorem gD64 : Tryd.prog.globalNamed "math/bits.deBruijn64tab" = some 1 := by kernel_rfl
theorem tD64 : (Tryd.prog.globals[1]?).map (·.type) = some 55 := by kernel_rfl
theorem tab8_of {H : Type} {enc : TypeId × Value → H} {W : World} {B : Nat} {spare : Nat → Bool} {held : Bool} {m : Nat} {t : TypeId} {cs : List Value} {ks : List Int} {p : List MemPlace} {n : Nat}
    (ht : Tryd.prog.underlying t = some (.array n 5)) (hd : DataW.trod enc Tryd.prog W B spare held m t cs = some (.agg (ks.map fun k => .lit (.int .u8 k)), p)) (hk : ks.length = n) :
    ∀ (i : Nat) (k : Int), ks[i]? = some k → cs[i]? = some (Value.int .u8 k) := by
  obtain ⟨xs, m1, rfl, hx1, hlen, hn, hel⟩ := DataW.trod_array ht hd
  intro i k hi
  have hin : i < n := by rw [← hk]; exact (List.getElem?_eq_some_iff.1 hi).1
  simp only [Prod.mk.injEq, DataW.agg.injEq] at hx1
  have h0 := hel i hin
  have c3 : Tryd.prog.cellsOf 5 = 1 := by kernel_rfl
  rw [c3, Nat.mul_one] at h0
  obtain ⟨x, hx⟩ : ∃ x, xs[i]? = some x := ⟨_, List.getElem?_eq_getElem (by omega)⟩
  rw [hx] at h0
  obtain ⟨k', e1, e2, _⟩ := DataW.trod_int Tryd.underlying5 h0
  have hxk : x.1 = .lit (.int .u8 k) := by
    have h1 : (xs.map (·.1))[i]? = some x.1 := by rw [List.getElem?_map, hx]; rfl
    rw [← hx1.1, List.getElem?_map, hi] at h1
    exact (Option.some.inj h1).symm
  rw [e2] at hxk
  have hkk : k' = k := by simpa using hxk
  have h2 := congrArg (fun l => l[0]?) e1
  rw [hkk] at h2
  simpa using h2
theorem dD64 (H : Type) : Rows.laid_math_bits_deBruijn64tab (H := H) = .agg ((Lib.deBruijn64tab.map Int.ofNat).map fun k => .lit (.int .u8 k)) := rfl
theorem d64_kk : ∀ j : Fin 64, (Lib.deBruijn64tab.map Int.ofNat)[j.1]? = some ((Lib.deBruijn64tab.getD j.1 0 : Nat) : Int) := by decide
theorem tabD_of {W : World} {cs : Array Value} (hv : W.var? Tryd.prog "math/bits.deBruijn64tab" = some cs) (hc : ∀ (i : Nat) (k : Int), (Lib.deBruijn64tab.map Int.ofNat)[i]? = some k → cs.toList[i]? = some (Value.int .u8 k)) : TabD W := fun j hj => by
  rw [World.var?_cell gD64 hv j]
  have := hc j _ (d64_kk ⟨j, hj⟩)
  rwa [Array.getElem?_toList] at this

def laidB : List (String × DataW Unit) := [("math/bits.deBruijn32tab", Rows.laid_math_bits_deBruijn32tab), ("math/bits.deBruijn64tab", Rows.laid_math_bits_deBruijn64tab)]
theorem of_laidB {W : World} (h : laidMetH Tryd.prog laidB W) : TabD W := by
  rw [MakeChecks.laidMetH_plain _ _ _ (by kernel_rfl)] at h
  obtain ⟨ps, ⟨ga, ta, csa, fa, pa, qa, hga, hta, hva, hda, ⟨gb, tb, csb, fb, pb, qb, hgb, htb, hvb, hdb, _, _⟩, _⟩, _, _⟩ := h
  obtain rfl := Option.some.inj (gD64.symm.trans hgb)
  obtain rfl := Option.some.inj (tD64.symm.trans htb)
  rw [dD64] at hdb
  exact tabD_of hvb (tab8_of Tryd.underlying55 hdb rfl)
theorem door_metB (os : Os) (args : Array Value) : laidMetH Tryd.prog laidB ((World.doorLaid Tryd.prog 400 os).forCall (fun _ _ => 0) ⟨#[], args, []⟩).memory :=
  laidMetH_of_parts3 (fuel := 8) (laidMet_of_run' 8 (by kernel_rfl) (by kernel_rfl)) (by kernel_rfl) (by kernel_rfl)
end Go.Proofs.YtckpnihpobfggaaDoor
