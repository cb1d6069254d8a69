/- The law ConfOverlaps: its arguments opened. -/
import Derived.Test.YtckpnihpobfggaaDoorConfO
import Derived.Test.YtckpnihpobfggaaDoorTw
namespace Go.Proofs.YtckpnihpobfggaaDoor
open Go.ChangeShapes Go.WideShapes Go.ChangeAt Go.RowKit

theorem confOverlaps.law (H : Type) (enc : TypeId × Value → H) (W : World) (base : Nat)
    (v0 : Value) (d0 : DataW H) (p0 : List MemPlace) (g0 : Value.okWide Tryd.prog W .any base 22 v0) (h0 : DataW.Trod enc Tryd.prog W 0 (fun _ => true) true 22 v0 d0 p0)
    (v1 : Value) (d1 : DataW H) (p1 : List MemPlace) (g1 : Value.okWide Tryd.prog W .any base 22 v1) (h1 : DataW.Trod enc Tryd.prog W 0 (fun _ => true) true 22 v1 d1 p1)
    (v2 : Value) (d2 : DataW H) (p2 : List MemPlace) (g2 : Value.okWide Tryd.prog W .any base 22 v2) (h2 : DataW.Trod enc Tryd.prog W 0 (fun _ => true) true 22 v2 d2 p2)
    (v3 : Value) (d3 : DataW H) (p3 : List MemPlace) (g3 : Value.okWide Tryd.prog W .any base 22 v3) (h3 : DataW.Trod enc Tryd.prog W 0 (fun _ => true) true 22 v3 d3 p3)
    {ts : List TypeId} {es : List (DataW H)} (hsz : (DataW.weightsEach Tryd.prog ([22, 22, 22, 22] ++ ts) ([d0, d1, d2, d3] ++ es)).all (· ≤ reachBytes) = true) (hG : TabD W) :
    Calls Tryd.prog 5 #[v0, v1, v2, v3] W fun e W' => e = .returned (.bool true) ∧ Below W.heap.size W W' := by
  obtain ⟨a0, n0, c0, rfl⟩ := okWide_slice Tryd.underlying22 g0
  obtain ⟨l0, r0, b0, q0⟩ := TW.words Tryd.underlying22 Tryd.underlying25 (by kernel_rfl) (by kernel_rfl) (TW.of hsz (j := 0) h0 rfl rfl)
  obtain ⟨a1, n1, c1, rfl⟩ := okWide_slice Tryd.underlying22 g1
  obtain ⟨l1, r1, b1, q1⟩ := TW.words Tryd.underlying22 Tryd.underlying25 (by kernel_rfl) (by kernel_rfl) (TW.of hsz (j := 1) h1 rfl rfl)
  obtain ⟨a2, n2, c2, rfl⟩ := okWide_slice Tryd.underlying22 g2
  obtain ⟨l2, r2, b2, q2⟩ := TW.words Tryd.underlying22 Tryd.underlying25 (by kernel_rfl) (by kernel_rfl) (TW.of hsz (j := 2) h2 rfl rfl)
  obtain ⟨a3, n3, c3, rfl⟩ := okWide_slice Tryd.underlying22 g3
  obtain ⟨l3, r3, b3, q3⟩ := TW.words Tryd.underlying22 Tryd.underlying25 (by kernel_rfl) (by kernel_rfl) (TW.of hsz (j := 3) h3 rfl rfl)
  exact ConfOverlaps_any _ _ _ _ l0 l1 l2 l3 W (by omega) (by omega) (by omega) (by omega) r0 r1 r2 r3 hG
end Go.Proofs.YtckpnihpobfggaaDoor
