/-
  The statement MacMarkersUptoCardSaid: for every input of bulk at most 1048576 the law returns true, and each argument reads as it read before.
  Conditions: those of the given row alone.
-/
import Derived.Test.YtkcnakijfmemlaaDoorMacMarkersO
import Derived.Test.YtkcnakijfmemlaaDoorOpen
import Derived.Test.YtkcnakijfmemlaaDoorLaidU
import Derived.Test.YtkcnakijfmemlaaDoorCards
import Derived.Test.YtkcnakijfmemlaaDoorTie
namespace Go.Proofs.YtkcnakijfmemlaaDoor.macMarkers
open Go.ChangeShapes Go.WideShapes Go.ChangeAt Go.RowKit
set_option linter.unusedVariables false

theorem own : ownKnob Tryd.prog.godebug = none := by kernel_rfl
theorem laidOut : laidOutB Tryd.prog = true := by kernel_rfl

set_option maxRecDepth 100000 in
theorem lifted (os : Os) (started : os.Started) (H : Type) (enc : TypeId × Value → H) (F : Stop.Interp) :
    ReturnsInHanded {} Tryd.checked os 8 .any (fun w args => ((Rows.OpenSpec.upto Rows.macMarkersSpec).pre enc Tryd.prog Tryd.f8 [] false w args ∧ laidMetH Tryd.prog laid3 w) ∧ sizedMet enc Tryd.prog Tryd.f8 (Rows.OpenSpec.upto Rows.macMarkersSpec) false w args) (((Rows.OpenSpec.upto Rows.macMarkersSpec).at F).post enc Tryd.prog Tryd.f8 false true false false) := by
  refine handed_cond_and (C := Tryd.checked) (s := Rows.OpenSpec.upto Rows.macMarkersSpec) (k := Rows.uptoSmall) (X := fun w _ => laidMetH Tryd.prog laid3 w) rfl (fun _ _ _ hh h => h.of_heap hh) own started (by kernel_rfl) Tryd.func8
    (cond_witness (enc := enc) (C := Tryd.checked) (os := os) (s := Rows.OpenSpec.upto Rows.macMarkersSpec) (k := Rows.uptoSmall) rfl (X := fun w _ => laidMetH Tryd.prog laid3 w) (World.doorLaid Tryd.prog 400 os) #[.slice none 0 0, .slice none 0 0] 8 rfl (World.shaped_of_RefB (by kernel_rfl) (by kernel_rfl)) (by kernel_rfl)
      (x := ([.nil, .nil], [], [])) (by kernel_rfl) (by kernel_rfl) (by kernel_rfl) (door_met3 os _)) ?_
  intro W base args ds gs before hval hW hsz hL
  have hG : TabsR W := of_laid3 hL
  have hW' := hW
  obtain ⟨p, q, hA0, hV, rfl, hfz, hnd⟩ := hW
  have hA : DataW.TrodAll enc Tryd.prog W 0 (fun _ => true) true Tryd.f8.params.toList args.toList ds p := hA0
  rw [Tryd.params8] at hA hval 
  obtain ⟨v0, vs0, d0, ds0, p0, q0, hargs, rfl, rfl, h0, r0⟩ := trodAll_cons hA
  obtain ⟨v1, vs1, d1, ds1, p1, q1, rfl, rfl, rfl, h1, r1⟩ := trodAll_cons r0
  obtain ⟨rfl, rfl, rfl⟩ := trodAll_nil r1
  obtain rfl : args = #[v0, v1] := by cases args; simp_all
  obtain ⟨rfl, rfl⟩ := trodVars_none hV
  have lt0 : ∀ x ∈ p0, x.block < W.heap.size := by obtain ⟨m, hm⟩ := h0; exact DataW.trod_lt m _ _ _ hm
  have g0 := hval 0 22 v0 rfl rfl
  have lt1 : ∀ x ∈ p1, x.block < W.heap.size := by obtain ⟨m, hm⟩ := h1; exact DataW.trod_lt m _ _ _ hm
  have g1 := hval 1 49 v1 rfl rfl
  clear hA0 
  simp only [List.append_nil] at hsz
  refine (law H enc W base v0 d0 p0 g0 h0 v1 d1 p1 g1 h1 hsz hG).mono fun e W' ⟨he, bel⟩ => ?_
  subst he
  exact ⟨_, rfl, _, _, _, [], _, [], hW', trodAll_mk1 (shut_bool Tryd.underlying4 _), (trodAll_cons_mk (Below.trod laidOut (by kernel_rfl) (of_decide_eq_true (by kernel_rfl)) h0 bel lt0) (trodAll_cons_mk (Below.trod laidOut (by kernel_rfl) (of_decide_eq_true (by kernel_rfl)) h1 bel lt1) trodAll_mk0)), rfl, bel.frame _, fun h => by cases h⟩

theorem holds : Rows.MacMarkersUptoSaid :=
  OpenClaim.holds_of_cond 8 Tryd.f8 rfl rfl rfl rfl rfl rfl rfl ⟨rfl, rfl, rfl, rfl, rfl⟩ rfl rfl rfl rfl rfl (by kernel_rfl) Tryd.func8 (by kernel_rfl)
    (of_decide_eq_true (by kernel_rfl)) (by unfold Func.isWrapper; first | (rw [if_pos (by decide +kernel)]; kernel_rfl) | (rw [if_neg (by decide +kernel)]; exact ⟨rfl, rfl⟩))
    (fun os started H enc _ F => lifted os started H enc F)
theorem proved : Rows.MacMarkersUptoCardSaid :=
  Claim7.holds_tied_plain_at .later [] [.data, .data, .data] true (true, "1fb17eb9c29cf167db9d1d9af11d376068067fa5a5e324de01a64df6355930a9") false
    holds (fun _ h => by cases h) (by kernel_rfl) (fun _ h => by cases h) macMarkersUpto_row_tie rfl ⟨rfl, rfl⟩ (by kernel_rfl) rfl
    (fun f fn hf hfn => by
      obtain rfl : f = 8 := Option.some.inj ((show Tryd.prog.funcNamed "tabellion/tabellionlaw04.MacMarkers" = some 8 by kernel_rfl).symm.trans hf) |>.symm
      obtain rfl : fn = Tryd.f8 := (Option.some.inj (Tryd.func8.symm.trans hfn)).symm
      exact ⟨by kernel_rfl, fun j t ht => by
        rw [Tryd.params8] at ht
        have hm : t ∈ ([22, 49] : List TypeId) := by simpa using Array.mem_of_getElem? ht
        have hall : (([22, 49] : List TypeId).all fun u => !Tryd.prog.wantsStandIn u) = true := by kernel_rfl
        exact (show Tryd.prog.wantsStandIn t = false by simpa using List.all_eq_true.1 hall t hm)⟩)
    (by kernel_rfl)
#print axioms proved
end Go.Proofs.YtkcnakijfmemlaaDoor.macMarkers
