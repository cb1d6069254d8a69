/- The law's head of ShaStates (Upto form). -/
import Derived.Test.YtkcnakijfmemlaaDoorShaStates
import Derived.Test.YtkcnakijfmemlaaDoorTb
namespace Go.Proofs.YtkcnakijfmemlaaDoor
open Go.ChangeShapes Go.WideShapes Go.ChangeAt Go.RowKit Sha

theorem len2' {α : Type} {l : List α} (h : l.length = 2) : ∃ a b, l = [a, b] := by
  match l, h with
  | [a, b], _ => exact ⟨a, b, rfl⟩
theorem open_op {H : Type} {enc : TypeId × Value → H} {W : World} {ds : List Value} (hl : ds.length = 2) (h : TB enc Tryd.prog W 42 ds) : ∃ o : OpE, ds = o.cells ∧ o.ok W := by
  obtain ⟨a0, a1, rfl⟩ := len2' hl
  have h0 : TB enc Tryd.prog W 3 [a0] := by have := h.field Tryd.underlying42 0 rfl (show Tryd.prog.cellsOf 3 = 1 by kernel_rfl); exact this
  have h1 : TB enc Tryd.prog W 22 [a1] := by have := h.field Tryd.underlying42 1 rfl (show Tryd.prog.cellsOf 22 = 1 by kernel_rfl); exact this
  obtain ⟨k, e1, b1, b2⟩ := h0.i64 Tryd.underlying3
  obtain ⟨dl, r1, g1⟩ := h1.bytes Tryd.underlying22 Tryd.underlying5 (by kernel_rfl)
  simp only [List.cons.injEq, and_true] at e1
  subst e1
  exact ⟨⟨k, a1, dl⟩, rfl, b1, b2, r1, by omega⟩
theorem shaStates.law (H : Type) (enc : TypeId × Value → H) (W : World) (base : Nat)
    (v0 : Value) (d0 : DataW H) (p0 : List MemPlace) (g0 : Value.okWide Tryd.prog W .any base 32 v0) (h0 : DataW.Trod enc Tryd.prog W 0 (fun _ => true) true 32 v0 d0 p0)
    (hsz : Rows.uptoSmall H [d0] = true) (hG : TabsR W) :
    Calls Tryd.prog 6 #[v0] W fun e W' => e = .returned (.bool true) ∧ Below W.heap.size W W' := by
  obtain ⟨a, n, c, rfl⟩ := okWide_slice Tryd.underlying32 g0
  have htb : TB enc Tryd.prog W 32 [.slice a n c] := TB.of hsz h0 (by simp)
  obtain ⟨sc, hr, hl, hq⟩ := htb.elems Tryd.underlying32 (show Tryd.prog.cellsOf 42 = 2 by kernel_rfl) OpE.cells (fun o => o.ok W) (fun ds hl htw => open_op hl htw) (fun o ho u hu => by
    simp [OpE.cells] at hu
    rcases hu with rfl | rfl
    · rfl
    · obtain ⟨a, c, hv⟩ := ho.rd.form
      rw [hv]; rfl)
  exact shaStates_walk sc _ W hl hr (fun o ho => (hq o ho).1) hG
end Go.Proofs.YtkcnakijfmemlaaDoor
