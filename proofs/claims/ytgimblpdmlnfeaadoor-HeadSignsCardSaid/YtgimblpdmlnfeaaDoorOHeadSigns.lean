/- The law: its arguments opened. -/
import Derived.Test.YtgimblpdmlnfeaaDoorHdArg
import Derived.Test.YtgimblpdmlnfeaaDoorHdK
namespace Go.Proofs.YtgimblpdmlnfeaaDoor
open Go.ChangeShapes Go.WideShapes Go.ChangeAt Go.RowKit Sha

set_option maxRecDepth 100000 in
theorem headSigns.law (H : Type) (enc : TypeId × Value → H) (W : World) (base : Nat)
    (v0 : Value) (d0 : DataW H) (p0 : List MemPlace) (g0 : Value.okWide Tryd.prog W .any base 25 v0) (h0 : DataW.Trod enc Tryd.prog W 0 (fun _ => true) true 25 v0 d0 p0)
    (v1 : Value) (d1 : DataW H) (p1 : List MemPlace) (g1 : Value.okWide Tryd.prog W .any base 33 v1) (h1 : DataW.Trod enc Tryd.prog W 0 (fun _ => true) true 33 v1 d1 p1)
    (v2 : Value) (d2 : DataW H) (p2 : List MemPlace) (g2 : Value.okWide Tryd.prog W .any base 33 v2) (h2 : DataW.Trod enc Tryd.prog W 0 (fun _ => true) true 33 v2 d2 p2)
    (v3 : Value) (d3 : DataW H) (p3 : List MemPlace) (g3 : Value.okWide Tryd.prog W .any base 35 v3) (h3 : DataW.Trod enc Tryd.prog W 0 (fun _ => true) true 35 v3 d3 p3)
    (v4 : Value) (d4 : DataW H) (p4 : List MemPlace) (g4 : Value.okWide Tryd.prog W .any base 37 v4) (h4 : DataW.Trod enc Tryd.prog W 0 (fun _ => true) true 37 v4 d4 p4)
    {ts : List TypeId} {es : List (DataW H)} (hsz : (DataW.weightsEach Tryd.prog ([25, 33, 33, 35, 37] ++ ts) ([d0, d1, d2, d3, d4] ++ es)).all (· ≤ reachBytes) = true) (hG : TabsR W) :
    Calls Tryd.prog 4 #[v0, v1, v2, v3, v4] W fun e W' => e = .returned (.bool true) ∧ Below W.heap.size W W' := by
  obtain ⟨a0, m0, c0, rfl⟩ := okWide_slice Tryd.underlying25 g0
  obtain ⟨t0, r0, b0⟩ := open_bytesW (TW.of hsz (j := 0) h0 rfl rfl)
  obtain ⟨z1, rfl, _, _, wn1⟩ := open_int Tryd.underlying33 g1 h1
  obtain ⟨n1, rfl, hn1⟩ := u64_nat wn1
  obtain ⟨z2, rfl, _, _, wn2⟩ := open_int Tryd.underlying33 g2 h2
  obtain ⟨n2, rfl, hn2⟩ := u64_nat wn2
  obtain ⟨l3, rfl, hl3⟩ := open_hash g3 h3
  obtain ⟨n4, z4, rt4, mk4, rfl, hrt4, hmk4, hn4, hz4⟩ := open_head g4 (TW.of hsz (j := 4) h4 rfl rfl)
  exact headSigns_walk t0 n1 n2 n4 z4 l3 rt4 mk4 _ W b0 r0 hn1 hn2 hn4 hz4 hl3 hrt4 hmk4 hG
end Go.Proofs.YtgimblpdmlnfeaaDoor
