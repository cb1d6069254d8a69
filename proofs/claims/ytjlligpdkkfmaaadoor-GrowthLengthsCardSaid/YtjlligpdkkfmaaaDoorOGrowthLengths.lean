/- The law: its arguments opened. -/
import Derived.Test.YtjlligpdkkfmaaaDoorLeafArgs
import Derived.Test.YtjlligpdkkfmaaaDoorGrN
namespace Go.Proofs.YtjlligpdkkfmaaaDoor
open Go.ChangeShapes Go.WideShapes Go.ChangeAt Go.RowKit Sha

set_option maxRecDepth 100000 in
theorem growthLengths.law (H : Type) (enc : TypeId × Value → H) (W : World) (base : Nat)
    (v0 : Value) (d0 : DataW H) (p0 : List MemPlace) (g0 : Value.okWide Tryd.prog W .any base 3 v0) (h0 : DataW.Trod enc Tryd.prog W 0 (fun _ => true) true 3 v0 d0 p0)
    (v1 : Value) (d1 : DataW H) (p1 : List MemPlace) (g1 : Value.okWide Tryd.prog W .any base 44 v1) (h1 : DataW.Trod enc Tryd.prog W 0 (fun _ => true) true 44 v1 d1 p1)
    (v2 : Value) (d2 : DataW H) (p2 : List MemPlace) (g2 : Value.okWide Tryd.prog W .any base 3 v2) (h2 : DataW.Trod enc Tryd.prog W 0 (fun _ => true) true 3 v2 d2 p2)
    (v3 : Value) (d3 : DataW H) (p3 : List MemPlace) (g3 : Value.okWide Tryd.prog W .any base 35 v3) (h3 : DataW.Trod enc Tryd.prog W 0 (fun _ => true) true 35 v3 d3 p3)
    {ts : List TypeId} {es : List (DataW H)} (hsz : (DataW.weightsEach Tryd.prog ([3, 44, 3, 35] ++ ts) ([d0, d1, d2, d3] ++ es)).all (· ≤ reachBytes) = true) (hG : TabsD W) :
    Calls Tryd.prog 6 #[v0, v1, v2, v3] W fun e W' => e = .returned (.bool true) ∧ Below W.heap.size W W' := by
  obtain ⟨n0, rfl, _, _, wn0⟩ := open_int Tryd.underlying3 g0 h0
  have hn0 := bounds_i64 wn0
  obtain ⟨a1, m1, c1, rfl⟩ := okWide_slice Tryd.underlying44 g1
  obtain ⟨ls1, r1, b1, q1⟩ := TW.hashes (TW.of hsz (j := 1) h1 rfl rfl)
  obtain ⟨aa1, cc1, he1⟩ := r1.form
  simp only [Value.slice.injEq] at he1
  obtain ⟨rfl, rfl, rfl⟩ := he1
  obtain ⟨n2, rfl, _, _, wn2⟩ := open_int Tryd.underlying3 g2 h2
  have hn2 := bounds_i64 wn2
  obtain ⟨l3, rfl, hl3⟩ := open_hash g3 h3
  exact growthLengths_walk n0 n2 l3 _ _ ls1 W (by omega) hl3 q1 b1 r1 hG.1 hG.2
end Go.Proofs.YtjlligpdkkfmaaaDoor
