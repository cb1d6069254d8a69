/- The law: its arguments opened. -/
import Derived.Test.YtfibhmgjkooemaaDoorClG
import Derived.Test.YtfibhmgjkooemaaDoorTxw
namespace Go.Proofs.YtfibhmgjkooemaaDoor
open Go.ChangeShapes Go.WideShapes Go.ChangeAt Go.RowKit Sha

set_option maxRecDepth 100000 in
theorem clashLists.law (H : Type) (enc : TypeId × Value → H) (W : World) (base : Nat)
    (v0 : Value) (d0 : DataW H) (p0 : List MemPlace) (g0 : Value.okWide Tryd.prog W .any base 3 v0) (h0 : DataW.Trod enc Tryd.prog W 0 (fun _ => true) true 3 v0 d0 p0)
    (v1 : Value) (d1 : DataW H) (p1 : List MemPlace) (g1 : Value.okWide Tryd.prog W .any base 22 v1) (h1 : DataW.Trod enc Tryd.prog W 0 (fun _ => true) true 22 v1 d1 p1)
    (v2 : Value) (d2 : DataW H) (p2 : List MemPlace) (g2 : Value.okWide Tryd.prog W .any base 22 v2) (h2 : DataW.Trod enc Tryd.prog W 0 (fun _ => true) true 22 v2 d2 p2)
    {ts : List TypeId} {es : List (DataW H)} (hsz : (DataW.weightsEach Tryd.prog ([3, 22, 22] ++ ts) ([d0, d1, d2] ++ es)).all (· ≤ reachBytes) = true) (hG : TabsR W) :
    Calls Tryd.prog 3 #[v0, v1, v2] W fun e W' => e = .returned (.bool true) ∧ Below W.heap.size W W' := by
  obtain ⟨n0, rfl, _, _, wn0⟩ := open_int Tryd.underlying3 g0 h0
  have hn0 := bounds_i64 wn0
  obtain ⟨a1, m1, c1, rfl⟩ := okWide_slice Tryd.underlying22 g1
  obtain ⟨ls1, r1, b1, q1⟩ := open_txw (TW.of hsz (j := 1) h1 rfl rfl)
  obtain ⟨a2, m2, c2, rfl⟩ := okWide_slice Tryd.underlying22 g2
  obtain ⟨ls2, r2, b2, q2⟩ := open_txw (TW.of hsz (j := 2) h2 rfl rfl)
  exact clashLists_walk n0 ls1 ls2 _ _ W hn0 b1 b2 r1 r2 hG
end Go.Proofs.YtfibhmgjkooemaaDoor
