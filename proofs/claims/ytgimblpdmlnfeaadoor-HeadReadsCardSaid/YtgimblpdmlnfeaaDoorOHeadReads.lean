/- The law: its arguments opened. -/
import Derived.Test.YtgimblpdmlnfeaaDoorHdArg
import Derived.Test.YtgimblpdmlnfeaaDoorHdN
namespace Go.Proofs.YtgimblpdmlnfeaaDoor
open Go.ChangeShapes Go.WideShapes Go.ChangeAt Go.RowKit Sha

set_option maxRecDepth 100000 in
theorem headReads.law (H : Type) (enc : TypeId × Value → H) (W : World) (base : Nat)
    (v0 : Value) (d0 : DataW H) (p0 : List MemPlace) (g0 : Value.okWide Tryd.prog W .any base 25 v0) (h0 : DataW.Trod enc Tryd.prog W 0 (fun _ => true) true 25 v0 d0 p0)
    (v1 : Value) (d1 : DataW H) (p1 : List MemPlace) (g1 : Value.okWide Tryd.prog W .any base 37 v1) (h1 : DataW.Trod enc Tryd.prog W 0 (fun _ => true) true 37 v1 d1 p1)
    {ts : List TypeId} {es : List (DataW H)} (hsz : (DataW.weightsEach Tryd.prog ([25, 37] ++ ts) ([d0, d1] ++ es)).all (· ≤ reachBytes) = true) (hG : Tabs W) :
    Calls Tryd.prog 5 #[v0, v1] W fun e W' => e = .returned (.bool true) ∧ Below W.heap.size W W' := by
  obtain ⟨a0, m0, c0, rfl⟩ := okWide_slice Tryd.underlying25 g0
  obtain ⟨t0, r0, b0⟩ := open_bytesW (TW.of hsz (j := 0) h0 rfl rfl)
  obtain ⟨n1, z1, rt1, mk1, rfl, hrt1, hmk1, hn1, hz1⟩ := open_head g1 (TW.of hsz (j := 1) h1 rfl rfl)
  exact headReads_walk t0 n1 z1 rt1 mk1 _ W b0 r0 hn1 hz1 hrt1 hmk1 hG
end Go.Proofs.YtgimblpdmlnfeaaDoor
