/- What the listed tables give the walks; the door's own heap. -/
import Derived.Test.YtfibhmgjkooemaaDoorShaC
import Derived.Test.YtfibhmgjkooemaaDoorRows
import Derived.ProofKit
import Derived.LaidMore
import Derived.OpenShut
import Derived.Stop.Joined
namespace Go.Proofs.YtfibhmgjkooemaaDoor
open Go.ChangeShapes Go.WideShapes Go.ChangeAt Go.WideElems Go.RowKit Sha

theorem gRound : Tryd.prog.globalNamed "tabellion/sha.round" = some 4 := by kernel_rfl
theorem gBegin : Tryd.prog.globalNamed "tabellion/sha.begin" = some 0 := by kernel_rfl
theorem gCons : Tryd.prog.globalNamed "tabellion/tabellionref03.constants" = some 1 := by kernel_rfl
theorem tRound : (Tryd.prog.globals[4]?).map (·.type) = some 109 := by kernel_rfl
theorem tBegin : (Tryd.prog.globals[0]?).map (·.type) = some 86 := by kernel_rfl
theorem tCons : (Tryd.prog.globals[1]?).map (·.type) = some 109 := by kernel_rfl

theorem tab_of {H : Type} {enc : TypeId × Value → H} {W : World} {B : Nat} {spare : Nat → Bool} {held : Bool} {m : Nat} {t : TypeId} {cs : List Value} {ks : List Int} {p : List MemPlace} {n : Nat}
    (ht : Tryd.prog.underlying t = some (.array n 85)) (hd : DataW.trod enc Tryd.prog W B spare held m t cs = some (.agg (ks.map fun k => .lit (.int .u32 k)), p)) (hk : ks.length = n) :
    ∀ (i : Nat) (k : Int), ks[i]? = some k → cs[i]? = some (Value.int .u32 k) := by
  obtain ⟨xs, m1, rfl, hx1, hlen, hn, hel⟩ := DataW.trod_array ht hd
  intro i k hi
  have hin : i < n := by rw [← hk]; exact (List.getElem?_eq_some_iff.1 hi).1
  simp only [Prod.mk.injEq, DataW.agg.injEq] at hx1
  have h0 := hel i hin
  have c3 : Tryd.prog.cellsOf 85 = 1 := by kernel_rfl
  rw [c3, Nat.mul_one] at h0
  obtain ⟨x, hx⟩ : ∃ x, xs[i]? = some x := ⟨_, List.getElem?_eq_getElem (by omega)⟩
  rw [hx] at h0
  obtain ⟨k', e1, e2, _⟩ := DataW.trod_int Tryd.underlying85 h0
  have hxk : x.1 = .lit (.int .u32 k) := by
    have h1 : (xs.map (·.1))[i]? = some x.1 := by rw [List.getElem?_map, hx]; rfl
    rw [← hx1.1, List.getElem?_map, hi] at h1
    exact (Option.some.inj h1).symm
  rw [e2] at hxk
  have hkk : k' = k := by simpa using hxk
  have h2 := congrArg (fun l => l[0]?) e1
  rw [hkk] at h2
  simpa using h2

theorem dRound (H : Type) : Rows.laid_tabellion_sha_round (H := H) = .agg ((Sha.tab.map Int.ofNat).map fun k => .lit (.int .u32 k)) := rfl
theorem dCons (H : Type) : Rows.laid_tabellion_tabellionref03_constants (H := H) = .agg ((Sha.tab.map Int.ofNat).map fun k => .lit (.int .u32 k)) := rfl
theorem dBegin (H : Type) : Rows.laid_tabellion_sha_begin (H := H) = .agg ((begin0.l.map fun x => (x.toNat : Int)).map fun k => .lit (.int .u32 k)) := rfl
theorem tab_kk : ∀ j : Fin 64, (Sha.tab.map Int.ofNat)[j.1]? = some ((kk j.1).toNat : Int) := by decide
theorem beg_kk : ∀ j : Fin 8, (begin0.l.map fun x => (x.toNat : Int))[j.1]? = some ((begin0.l.getD j.1 0).toNat : Int) := by decide
theorem row_cells {W : World} {name : String} {g : Nat} {cs : Array Value} {ks : List Int} {n : Nat} {f : Nat → UInt32} (hg : Tryd.prog.globalNamed name = some g) (hv : W.var? Tryd.prog name = some cs)
    (hc : ∀ (i : Nat) (k : Int), ks[i]? = some k → cs.toList[i]? = some (Value.int .u32 k)) (hk : ∀ j, j < n → ks[j]? = some ((f j).toNat : Int)) : ∀ j, j < n → W.cell? ⟨g, j, none⟩ = some (u (f j)) := fun j hj => by
  rw [World.var?_cell hg hv j]
  have := hc j _ (hk j hj)
  rwa [Array.getElem?_toList] at this

def laid3 : List (String × DataW Unit) := [("tabellion/sha.round", Rows.laid_tabellion_sha_round), ("tabellion/sha.begin", Rows.laid_tabellion_sha_begin), ("tabellion/tabellionref03.constants", Rows.laid_tabellion_tabellionref03_constants)]
def laid2 : List (String × DataW Unit) := [("tabellion/sha.round", Rows.laid_tabellion_sha_round), ("tabellion/sha.begin", Rows.laid_tabellion_sha_begin)]
theorem of_laid3 {W : World} (h : laidMetH Tryd.prog laid3 W) : TabsR W := by
  rw [MakeChecks.laidMetH_plain _ _ _ (by kernel_rfl)] at h
  obtain ⟨ps, ⟨g0, t0, cs0, f0, p0, q0, hg0, ht0, hv0, hd0, ⟨g1, t1, cs1, f1, p1, q1, hg1, ht1, hv1, hd1, ⟨g2, t2, cs2, f2, p2, q2, hg2, ht2, hv2, hd2, _, _⟩, _⟩, _⟩, _, _⟩ := h
  obtain rfl := Option.some.inj (gRound.symm.trans hg0)
  obtain rfl := Option.some.inj (gBegin.symm.trans hg1)
  obtain rfl := Option.some.inj (gCons.symm.trans hg2)
  obtain rfl := Option.some.inj (tRound.symm.trans ht0)
  obtain rfl := Option.some.inj (tBegin.symm.trans ht1)
  obtain rfl := Option.some.inj (tCons.symm.trans ht2)
  rw [dRound] at hd0
  rw [dBegin] at hd1
  rw [dCons] at hd2
  exact { begin := row_cells gBegin hv1 (tab_of Tryd.underlying86 hd1 rfl) (fun j hj => beg_kk ⟨j, hj⟩)
          round := row_cells gRound hv0 (tab_of Tryd.underlying109 hd0 rfl) (fun j hj => tab_kk ⟨j, hj⟩)
          cons := row_cells gCons hv2 (tab_of Tryd.underlying109 hd2 rfl) (fun j hj => tab_kk ⟨j, hj⟩) }
theorem of_laid2 {W : World} (h : laidMetH Tryd.prog laid2 W) : Tabs W := by
  rw [MakeChecks.laidMetH_plain _ _ _ (by kernel_rfl)] at h
  obtain ⟨ps, ⟨g0, t0, cs0, f0, p0, q0, hg0, ht0, hv0, hd0, ⟨g1, t1, cs1, f1, p1, q1, hg1, ht1, hv1, hd1, _, _⟩, _⟩, _, _⟩ := h
  obtain rfl := Option.some.inj (gRound.symm.trans hg0)
  obtain rfl := Option.some.inj (gBegin.symm.trans hg1)
  obtain rfl := Option.some.inj (tRound.symm.trans ht0)
  obtain rfl := Option.some.inj (tBegin.symm.trans ht1)
  rw [dRound] at hd0
  rw [dBegin] at hd1
  exact { begin := row_cells gBegin hv1 (tab_of Tryd.underlying86 hd1 rfl) (fun j hj => beg_kk ⟨j, hj⟩)
          round := row_cells gRound hv0 (tab_of Tryd.underlying109 hd0 rfl) (fun j hj => tab_kk ⟨j, hj⟩) }
/-- The door's own heap meets the conditions. -/
theorem door_met3 (os : Os) (args : Array Value) : laidMetH Tryd.prog laid3 ((World.doorLaid Tryd.prog 400 os).forCall (fun _ _ => 0) ⟨#[], args, []⟩).memory :=
  laidMetH_of_parts3 (fuel := 8) (laidMet_of_run' 8 (by kernel_rfl) (by kernel_rfl)) (by kernel_rfl) (by kernel_rfl)
theorem door_met2 (os : Os) (args : Array Value) : laidMetH Tryd.prog laid2 ((World.doorLaid Tryd.prog 400 os).forCall (fun _ _ => 0) ⟨#[], args, []⟩).memory :=
  laidMetH_of_parts3 (fuel := 8) (laidMet_of_run' 8 (by kernel_rfl) (by kernel_rfl)) (by kernel_rfl) (by kernel_rfl)
end Go.Proofs.YtfibhmgjkooemaaDoor
