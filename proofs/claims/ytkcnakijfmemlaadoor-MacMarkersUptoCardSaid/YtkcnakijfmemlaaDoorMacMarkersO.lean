/- The law's head of MacMarkers (Upto form). -/
import Derived.Test.YtkcnakijfmemlaaDoorMacMarkers
import Derived.Test.YtkcnakijfmemlaaDoorShaStatesO
namespace Go.Proofs.YtkcnakijfmemlaaDoor
open Go.ChangeShapes Go.WideShapes Go.ChangeAt Go.RowKit Sha

theorem open_op4 {H : Type} {enc : TypeId × Value → H} {W : World} {ds : List Value} (hl : ds.length = 2) (h : TB enc Tryd.prog W 54 ds) : ∃ o : OpE, ds = o.cells ∧ o.ok W := by
  obtain ⟨a0, a1, rfl⟩ := len2' hl
  have h0 : TB enc Tryd.prog W 3 [a0] := by have := h.field Tryd.underlying54 0 rfl (show Tryd.prog.cellsOf 3 = 1 by kernel_rfl); exact this
  have h1 : TB enc Tryd.prog W 22 [a1] := by have := h.field Tryd.underlying54 1 rfl (show Tryd.prog.cellsOf 22 = 1 by kernel_rfl); exact this
  obtain ⟨k, e1, b1, b2⟩ := h0.i64 Tryd.underlying3
  obtain ⟨dl, r1, g1⟩ := h1.bytes Tryd.underlying22 Tryd.underlying5 (by kernel_rfl)
  simp only [List.cons.injEq, and_true] at e1
  subst e1
  exact ⟨⟨k, a1, dl⟩, rfl, b1, b2, r1, by omega⟩
theorem macMarkers.law (H : Type) (enc : TypeId × Value → H) (W : World) (base : Nat)
    (v0 : Value) (d0 : DataW H) (p0 : List MemPlace) (g0 : Value.okWide Tryd.prog W .any base 22 v0) (h0 : DataW.Trod enc Tryd.prog W 0 (fun _ => true) true 22 v0 d0 p0)
    (v1 : Value) (d1 : DataW H) (p1 : List MemPlace) (g1 : Value.okWide Tryd.prog W .any base 49 v1) (h1 : DataW.Trod enc Tryd.prog W 0 (fun _ => true) true 49 v1 d1 p1)
    (hsz : Rows.uptoSmall H [d0, d1] = true) (hG : TabsR W) :
    Calls Tryd.prog 8 #[v0, v1] W fun e W' => e = .returned (.bool true) ∧ Below W.heap.size W W' := by
  obtain ⟨b, m, e, rfl⟩ := okWide_slice Tryd.underlying22 g0
  have htb0 : TB enc Tryd.prog W 22 [.slice b m e] := TB.of hsz h0 (by simp)
  obtain ⟨key, hr0, hl0⟩ := htb0.bytes Tryd.underlying22 Tryd.underlying5 (by kernel_rfl)
  obtain ⟨a, n, c, rfl⟩ := okWide_slice Tryd.underlying49 g1
  have htb : TB enc Tryd.prog W 49 [.slice a n c] := TB.of hsz h1 (by simp)
  obtain ⟨sc, hr, hl, hq⟩ := htb.elems Tryd.underlying49 (show Tryd.prog.cellsOf 54 = 2 by kernel_rfl) OpE.cells (fun o => o.ok W) (fun ds hl htw => open_op4 hl htw) (fun o ho u hu => by
    simp [OpE.cells] at hu
    rcases hu with rfl | rfl
    · rfl
    · obtain ⟨a, c, hv⟩ := ho.rd.form
      rw [hv]; rfl)
  exact macMarkers_walk key sc _ _ W hl0 hl hr0 hr (fun o ho => (hq o ho).1) hG
end Go.Proofs.YtkcnakijfmemlaaDoor
