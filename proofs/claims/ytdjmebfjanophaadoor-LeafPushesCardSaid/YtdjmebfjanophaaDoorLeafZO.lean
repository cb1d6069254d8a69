/- The law LeafPushes: its arguments opened. -/
import Derived.Test.YtdjmebfjanophaaDoorLeafArgs
import Derived.Test.YtdjmebfjanophaaDoorLeafZ
namespace Go.Proofs.YtdjmebfjanophaaDoor
open Go.ChangeShapes Go.WideShapes Go.ChangeAt Go.RowKit Sha

theorem u64Cells : Tryd.prog.cellsOf 29 = 1 := by kernel_rfl
theorem hsCells : Tryd.prog.cellsOf 22 = 1 := by kernel_rfl
theorem leafPushes.law (H : Type) (enc : TypeId × Value → H) (W : World) (base : Nat)
    (v0 : Value) (d0 : DataW H) (p0 : List MemPlace) (g0 : Value.okWide Tryd.prog W .any base 3 v0) (h0 : DataW.Trod enc Tryd.prog W 0 (fun _ => true) true 3 v0 d0 p0)
    (v1 : Value) (d1 : DataW H) (p1 : List MemPlace) (g1 : Value.okWide Tryd.prog W .any base 31 v1) (h1 : DataW.Trod enc Tryd.prog W 0 (fun _ => true) true 31 v1 d1 p1)
    (v2 : Value) (d2 : DataW H) (p2 : List MemPlace) (g2 : Value.okWide Tryd.prog W .any base 33 v2) (h2 : DataW.Trod enc Tryd.prog W 0 (fun _ => true) true 33 v2 d2 p2)
    {ts : List TypeId} {es : List (DataW H)} (hsz : (DataW.weightsEach Tryd.prog ([3, 31, 33] ++ ts) ([d0, d1, d2] ++ es)).all (· ≤ reachBytes) = true) (hG : TabsRD W) :
    Calls Tryd.prog 4 #[v0, v1, v2] W fun e W' => e = .returned (.bool true) ∧ Below W.heap.size W W' := by
  obtain ⟨n, rfl, _, _, wn⟩ := open_int Tryd.underlying3 g0 h0
  have hn := bounds_i64 wn
  obtain ⟨l, rfl, hl⟩ := open_hash g2 h2
  have htw := TW.of hsz (j := 1) h1 rfl rfl
  obtain ⟨c0, c1, y0, y1, m, rfl, _, _⟩ := Go.Joins.open_agg2 Tryd.underlying31 (by kernel_rfl) (by kernel_rfl) g1 h1
  have hc : (Value.agg #[c0, c1]).cells.toList = [c0, c1] := rfl
  rw [hc] at htw
  have k0 : TW enc Tryd.prog W 29 [c0] := by have := htw.field Tryd.underlying31 0 rfl u64Cells; exact this
  have k1 : TW enc Tryd.prog W 22 [c1] := by have := htw.field Tryd.underlying31 1 rfl hsCells; exact this
  obtain ⟨b, e0, b0⟩ := k0.u64 Tryd.underlying29
  obtain ⟨ls, r2, l2, q2⟩ := TW.hashes k1
  simp only [List.cons.injEq, and_true] at e0
  subst e0
  obtain ⟨a, c, rfl⟩ := r2.form
  exact leafPushes_walk n b a c ls l W (by omega) b0 q2 l2 hl r2 hG.1 hG.2
end Go.Proofs.YtdjmebfjanophaaDoor
