/- The law LeafRoots: its arguments opened. -/
import Derived.Test.YtaljjnncljbbfaaDoorLeafArgs
import Derived.Test.YtaljjnncljbbfaaDoorLeafR
namespace Go.Proofs.YtaljjnncljbbfaaDoor
open Go.ChangeShapes Go.WideShapes Go.ChangeAt Go.RowKit Sha

theorem leafRoots.law (H : Type) (enc : TypeId × Value → H) (W : World) (base : Nat)
    (v0 : Value) (d0 : DataW H) (p0 : List MemPlace) (g0 : Value.okWide Tryd.prog W .any base 3 v0) (h0 : DataW.Trod enc Tryd.prog W 0 (fun _ => true) true 3 v0 d0 p0)
    (v1 : Value) (d1 : DataW H) (p1 : List MemPlace) (g1 : Value.okWide Tryd.prog W .any base 30 v1) (h1 : DataW.Trod enc Tryd.prog W 0 (fun _ => true) true 30 v1 d1 p1)
    {ts : List TypeId} {es : List (DataW H)} (hsz : (DataW.weightsEach Tryd.prog ([3, 30] ++ ts) ([d0, d1] ++ es)).all (· ≤ reachBytes) = true) (hG : TabsRD W) :
    Calls Tryd.prog 4 #[v0, v1] W fun e W' => e = .returned (.bool true) ∧ Below W.heap.size W W' := by
  obtain ⟨n, rfl, _, _, wn⟩ := open_int Tryd.underlying3 g0 h0
  have hn := bounds_i64 wn
  obtain ⟨a, m, c, rfl⟩ := okWide_slice Tryd.underlying30 g1
  obtain ⟨ls, r2, l2, q2⟩ := TW.hashes (TW.of hsz (j := 1) h1 rfl rfl)
  exact leafRoots_walk n _ ls W (by omega) q2 l2 r2 hG.1 hG.2
end Go.Proofs.YtaljjnncljbbfaaDoor
