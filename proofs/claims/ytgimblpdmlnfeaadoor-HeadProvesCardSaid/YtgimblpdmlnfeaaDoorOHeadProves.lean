/- The law: its arguments opened. -/
import Derived.Test.YtgimblpdmlnfeaaDoorHdArg
import Derived.Test.YtgimblpdmlnfeaaDoorHdG
namespace Go.Proofs.YtgimblpdmlnfeaaDoor
open Go.ChangeShapes Go.WideShapes Go.ChangeAt Go.RowKit Sha

set_option maxRecDepth 100000 in
theorem headProves.law (H : Type) (enc : TypeId × Value → H) (W : World) (base : Nat)
    (v0 : Value) (d0 : DataW H) (p0 : List MemPlace) (g0 : Value.okWide Tryd.prog W .any base 3 v0) (h0 : DataW.Trod enc Tryd.prog W 0 (fun _ => true) true 3 v0 d0 p0)
    (v1 : Value) (d1 : DataW H) (p1 : List MemPlace) (g1 : Value.okWide Tryd.prog W .any base 37 v1) (h1 : DataW.Trod enc Tryd.prog W 0 (fun _ => true) true 37 v1 d1 p1)
    (v2 : Value) (d2 : DataW H) (p2 : List MemPlace) (g2 : Value.okWide Tryd.prog W .any base 37 v2) (h2 : DataW.Trod enc Tryd.prog W 0 (fun _ => true) true 37 v2 d2 p2)
    (v3 : Value) (d3 : DataW H) (p3 : List MemPlace) (g3 : Value.okWide Tryd.prog W .any base 33 v3) (h3 : DataW.Trod enc Tryd.prog W 0 (fun _ => true) true 33 v3 d3 p3)
    (v4 : Value) (d4 : DataW H) (p4 : List MemPlace) (g4 : Value.okWide Tryd.prog W .any base 25 v4) (h4 : DataW.Trod enc Tryd.prog W 0 (fun _ => true) true 25 v4 d4 p4)
    (v5 : Value) (d5 : DataW H) (p5 : List MemPlace) (g5 : Value.okWide Tryd.prog W .any base 44 v5) (h5 : DataW.Trod enc Tryd.prog W 0 (fun _ => true) true 44 v5 d5 p5)
    {ts : List TypeId} {es : List (DataW H)} (hsz : (DataW.weightsEach Tryd.prog ([3, 37, 37, 33, 25, 44] ++ ts) ([d0, d1, d2, d3, d4, d5] ++ es)).all (· ≤ reachBytes) = true) (hG : TabsR W) :
    Calls Tryd.prog 7 #[v0, v1, v2, v3, v4, v5] W fun e W' => e = .returned (.bool true) ∧ Below W.heap.size W W' := by
  obtain ⟨n0, rfl, _, _, wn0⟩ := open_int Tryd.underlying3 g0 h0
  have hn0 := bounds_i64 wn0
  obtain ⟨n1, z1, rt1, mk1, rfl, hrt1, hmk1, hn1, hz1⟩ := open_head g1 (TW.of hsz (j := 1) h1 rfl rfl)
  obtain ⟨n2, z2, rt2, mk2, rfl, hrt2, hmk2, hn2, hz2⟩ := open_head g2 (TW.of hsz (j := 2) h2 rfl rfl)
  obtain ⟨z3, rfl, _, _, wn3⟩ := open_int Tryd.underlying33 g3 h3
  obtain ⟨n3, rfl, hn3⟩ := u64_nat wn3
  obtain ⟨a4, m4, c4, rfl⟩ := okWide_slice Tryd.underlying25 g4
  obtain ⟨t4, r4, b4⟩ := open_bytesW (TW.of hsz (j := 4) h4 rfl rfl)
  obtain ⟨a5, m5, c5, rfl⟩ := okWide_slice Tryd.underlying44 g5
  obtain ⟨ls5, r5, b5, q5⟩ := TW.hashes (TW.of hsz (j := 5) h5 rfl rfl)
  obtain ⟨aa5, cc5, he5⟩ := r5.form
  simp only [Value.slice.injEq] at he5
  obtain ⟨rfl, rfl, rfl⟩ := he5
  exact headProves_walk n0 n1 z1 n2 z2 n3 rt1 mk1 rt2 mk2 t4 ls5 _ _ W hn0 hz1 hz2 hn3 hrt1 hmk1 hrt2 hmk2 b4 r4 q5 b5 r5 hG
end Go.Proofs.YtgimblpdmlnfeaaDoor
