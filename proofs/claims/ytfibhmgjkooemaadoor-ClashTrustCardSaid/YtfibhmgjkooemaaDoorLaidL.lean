/- What the listed tables give the walks, with the library's table of bits; the door's own heap. -/
import Derived.Test.YtfibhmgjkooemaaDoorLaid
import Derived.Test.YtfibhmgjkooemaaDoorLeafI
namespace Go.Proofs.YtfibhmgjkooemaaDoor
open Go.ChangeShapes Go.WideShapes Go.ChangeAt Go.WideElems Go.RowKit Sha

def TabsRD (w : World) : Prop := TabsR w ∧ TabD w
theorem gD64 : Tryd.prog.globalNamed "math/bits.deBruijn64tab" = some 3 := by kernel_rfl
theorem tD64 : (Tryd.prog.globals[3]?).map (·.type) = some 87 := by kernel_rfl
theorem tab8_of {H : Type} {enc : TypeId × Value → H} {W : World} {B : Nat} {spare : Nat → Bool} {held : Bool} {m : Nat} {t : TypeId} {cs : List Value} {ks : List Int} {p : List MemPlace} {n : Nat}
    (ht : Tryd.prog.underlying t = some (.array n 5)) (hd : DataW.trod enc Tryd.prog W B spare held m t cs = some (.agg (ks.map fun k => .lit (.int .u8 k)), p)) (hk : ks.length = n) :
    ∀ (i : Nat) (k : Int), ks[i]? = some k → cs[i]? = some (Value.int .u8 k) := by
  obtain ⟨xs, m1, rfl, hx1, hlen, hn, hel⟩ := DataW.trod_array ht hd
  intro i k hi
  have hin : i < n := by rw [← hk]; exact (List.getElem?_eq_some_iff.1 hi).1
  simp only [Prod.mk.injEq, DataW.agg.injEq] at hx1
  have h0 := hel i hin
  have c3 : Tryd.prog.cellsOf 5 = 1 := by kernel_rfl
  rw [c3, Nat.mul_one] at h0
  obtain ⟨x, hx⟩ : ∃ x, xs[i]? = some x := ⟨_, List.getElem?_eq_getElem (by omega)⟩
  rw [hx] at h0
  obtain ⟨k', e1, e2, _⟩ := DataW.trod_int Tryd.underlying5 h0
  have hxk : x.1 = .lit (.int .u8 k) := by
    have h1 : (xs.map (·.1))[i]? = some x.1 := by rw [List.getElem?_map, hx]; rfl
    rw [← hx1.1, List.getElem?_map, hi] at h1
    exact (Option.some.inj h1).symm
  rw [e2] at hxk
  have hkk : k' = k := by simpa using hxk
  have h2 := congrArg (fun l => l[0]?) e1
  rw [hkk] at h2
  simpa using h2
theorem dD64 (H : Type) : Rows.laid_math_bits_deBruijn64tab (H := H) = .agg ((Lib.deBruijn64tab.map Int.ofNat).map fun k => .lit (.int .u8 k)) := rfl
theorem d64_kk : ∀ j : Fin 64, (Lib.deBruijn64tab.map Int.ofNat)[j.1]? = some ((Lib.deBruijn64tab.getD j.1 0 : Nat) : Int) := by decide
theorem tabD_of {W : World} {cs : Array Value} (hv : W.var? Tryd.prog "math/bits.deBruijn64tab" = some cs) (hc : ∀ (i : Nat) (k : Int), (Lib.deBruijn64tab.map Int.ofNat)[i]? = some k → cs.toList[i]? = some (Value.int .u8 k)) : TabD W := fun j hj => by
  rw [World.var?_cell gD64 hv j]
  have := hc j _ (d64_kk ⟨j, hj⟩)
  rwa [Array.getElem?_toList] at this

def laid5 : List (String × DataW Unit) := [("math/bits.deBruijn32tab", Rows.laid_math_bits_deBruijn32tab), ("math/bits.deBruijn64tab", Rows.laid_math_bits_deBruijn64tab), ("tabellion/sha.round", Rows.laid_tabellion_sha_round), ("tabellion/sha.begin", Rows.laid_tabellion_sha_begin), ("tabellion/tabellionref03.constants", Rows.laid_tabellion_tabellionref03_constants)]
theorem of_laid5 {W : World} (h : laidMetH Tryd.prog laid5 W) : TabsRD W := by
  rw [MakeChecks.laidMetH_plain _ _ _ (by kernel_rfl)] at h
  obtain ⟨ps, ⟨ga, ta, csa, fa, pa, qa, hga, hta, hva, hda, ⟨gb, tb, csb, fb, pb, qb, hgb, htb, hvb, hdb, ⟨g0, t0, cs0, f0, p0, q0, hg0, ht0, hv0, hd0, ⟨g1, t1, cs1, f1, p1, q1, hg1, ht1, hv1, hd1, ⟨g2, t2, cs2, f2, p2, q2, hg2, ht2, hv2, hd2, _, _⟩, _⟩, _⟩, _⟩, _⟩, _, _⟩ := h
  obtain rfl := Option.some.inj (gD64.symm.trans hgb)
  obtain rfl := Option.some.inj (gRound.symm.trans hg0)
  obtain rfl := Option.some.inj (gBegin.symm.trans hg1)
  obtain rfl := Option.some.inj (gCons.symm.trans hg2)
  obtain rfl := Option.some.inj (tD64.symm.trans htb)
  obtain rfl := Option.some.inj (tRound.symm.trans ht0)
  obtain rfl := Option.some.inj (tBegin.symm.trans ht1)
  obtain rfl := Option.some.inj (tCons.symm.trans ht2)
  rw [dD64] at hdb
  rw [dRound] at hd0
  rw [dBegin] at hd1
  rw [dCons] at hd2
  exact ⟨{ begin := row_cells gBegin hv1 (tab_of Tryd.underlying86 hd1 rfl) (fun j hj => beg_kk ⟨j, hj⟩)
           round := row_cells gRound hv0 (tab_of Tryd.underlying109 hd0 rfl) (fun j hj => tab_kk ⟨j, hj⟩)
           cons := row_cells gCons hv2 (tab_of Tryd.underlying109 hd2 rfl) (fun j hj => tab_kk ⟨j, hj⟩) }, tabD_of hvb (tab8_of Tryd.underlying87 hdb rfl)⟩
theorem door_met5 (os : Os) (args : Array Value) : laidMetH Tryd.prog laid5 ((World.doorLaid Tryd.prog 400 os).forCall (fun _ _ => 0) ⟨#[], args, []⟩).memory :=
  laidMetH_of_parts3 (fuel := 8) (laidMet_of_run' 8 (by kernel_rfl) (by kernel_rfl)) (by kernel_rfl) (by kernel_rfl)
end Go.Proofs.YtfibhmgjkooemaaDoor
