/- The laws ConfMays, ConfCounts: their arguments opened. -/
import Derived.Test.YtckpnihpobfggaaDoorConfL
import Derived.Test.YtckpnihpobfggaaDoorTw
namespace Go.Proofs.YtckpnihpobfggaaDoor
open Go.ChangeShapes Go.WideShapes Go.ChangeAt Go.RowKit

theorem confMays.law (H : Type) (enc : TypeId × Value → H) (W : World) (base : Nat)
    (v0 : Value) (d0 : DataW H) (p0 : List MemPlace) (g0 : Value.okWide Tryd.prog W .any base 22 v0) (h0 : DataW.Trod enc Tryd.prog W 0 (fun _ => true) true 22 v0 d0 p0)
    (v1 : Value) (d1 : DataW H) (p1 : List MemPlace) (g1 : Value.okWide Tryd.prog W .any base 22 v1) (h1 : DataW.Trod enc Tryd.prog W 0 (fun _ => true) true 22 v1 d1 p1)
    {ts : List TypeId} {es : List (DataW H)} (hsz : (DataW.weightsEach Tryd.prog ([22, 22] ++ ts) ([d0, d1] ++ es)).all (· ≤ reachBytes) = true) (hG : TabD W) :
    Calls Tryd.prog 3 #[v0, v1] W fun e W' => e = .returned (.bool true) ∧ Below W.heap.size W W' := by
  obtain ⟨a0, n0, c0, rfl⟩ := okWide_slice Tryd.underlying22 g0
  obtain ⟨l0, r0, b0, q0⟩ := TW.words Tryd.underlying22 Tryd.underlying25 (by kernel_rfl) (by kernel_rfl) (TW.of hsz (j := 0) h0 rfl rfl)
  obtain ⟨a1, n1, c1, rfl⟩ := okWide_slice Tryd.underlying22 g1
  obtain ⟨l1, r1, b1, q1⟩ := TW.words Tryd.underlying22 Tryd.underlying25 (by kernel_rfl) (by kernel_rfl) (TW.of hsz (j := 1) h1 rfl rfl)
  exact ConfMays_any _ _ l0 l1 W (by omega) (by omega) r0 r1 hG

theorem confCounts.law (H : Type) (enc : TypeId × Value → H) (W : World) (base : Nat)
    (v0 : Value) (d0 : DataW H) (p0 : List MemPlace) (g0 : Value.okWide Tryd.prog W .any base 22 v0) (h0 : DataW.Trod enc Tryd.prog W 0 (fun _ => true) true 22 v0 d0 p0)
    (v1 : Value) (d1 : DataW H) (p1 : List MemPlace) (g1 : Value.okWide Tryd.prog W .any base 22 v1) (h1 : DataW.Trod enc Tryd.prog W 0 (fun _ => true) true 22 v1 d1 p1)
    (v2 : Value) (d2 : DataW H) (p2 : List MemPlace) (g2 : Value.okWide Tryd.prog W .any base 25 v2) (h2 : DataW.Trod enc Tryd.prog W 0 (fun _ => true) true 25 v2 d2 p2)
    {ts : List TypeId} {es : List (DataW H)} (hsz : (DataW.weightsEach Tryd.prog ([22, 22, 25] ++ ts) ([d0, d1, d2] ++ es)).all (· ≤ reachBytes) = true) (hG : TabD W) :
    Calls Tryd.prog 4 #[v0, v1, v2] W fun e W' => e = .returned (.bool true) ∧ Below W.heap.size W W' := by
  obtain ⟨a0, n0, c0, rfl⟩ := okWide_slice Tryd.underlying22 g0
  obtain ⟨l0, r0, b0, q0⟩ := TW.words Tryd.underlying22 Tryd.underlying25 (by kernel_rfl) (by kernel_rfl) (TW.of hsz (j := 0) h0 rfl rfl)
  obtain ⟨a1, n1, c1, rfl⟩ := okWide_slice Tryd.underlying22 g1
  obtain ⟨l1, r1, b1, q1⟩ := TW.words Tryd.underlying22 Tryd.underlying25 (by kernel_rfl) (by kernel_rfl) (TW.of hsz (j := 1) h1 rfl rfl)
  obtain ⟨n2, rfl, _, _, w2⟩ := open_int Tryd.underlying25 g2 h2
  obtain ⟨x, rfl, hx⟩ := u64_nat w2
  exact ConfCounts_any _ _ l0 l1 x W (by omega) (by omega) r0 r1 hG
end Go.Proofs.YtckpnihpobfggaaDoor
