/- The law CrcBursts: its arguments opened. -/
import Derived.Test.YtfeokdlkokmpcaaCrcBurst2
namespace Go.Proofs.Ytfeokdlkokmpcaa
open Go.ChangeShapes Go.WideShapes Go.ChangeAt Go.RowKit

theorem crcBursts.law (H : Type) (enc : TypeId × Value → H) (W : World) (base : Nat)
    (v0 : Value) (d0 : DataW H) (p0 : List MemPlace) (g0 : Value.okWide Try.prog W .any base 22 v0) (h0 : DataW.Trod enc Try.prog W 0 (fun _ => true) true 22 v0 d0 p0)
    (v1 : Value) (d1 : DataW H) (p1 : List MemPlace) (g1 : Value.okWide Try.prog W .any base 3 v1) (h1 : DataW.Trod enc Try.prog W 0 (fun _ => true) true 3 v1 d1 p1)
    (v2 : Value) (d2 : DataW H) (p2 : List MemPlace) (g2 : Value.okWide Try.prog W .any base 23 v2) (h2 : DataW.Trod enc Try.prog W 0 (fun _ => true) true 23 v2 d2 p2)
    {ts : List TypeId} {es : List (DataW H)} (hsz : (DataW.weightsEach Try.prog ([22, 3, 23] ++ ts) ([d0, d1, d2] ++ es)).all (· ≤ reachBytes) = true) :
    Calls Try.prog 7 #[v0, v1, v2] W fun e W' => e = .returned (.bool true) ∧ Below W.heap.size W W' := by
  obtain ⟨b, hrb, hdb⟩ := open_bytes Try.underlying22 Try.underlying5 (by kernel_rfl) (okWide_slice Try.underlying22 g0) h0
  have hlb := bytes_reach hsz (j := 0) (t := 22) rfl Try.underlying22 (by kernel_rfl) (l := b) (hdb.imp (fun h => ⟨congrArg some h.1, h.2⟩) (fun ⟨s, h⟩ => ⟨s, congrArg some h⟩))
  obtain ⟨fr, rfl, _, _, _⟩ := open_int Try.underlying3 g1 h1
  obtain ⟨t, rfl, _, _, wt⟩ := open_int Try.underlying23 g2 h2
  obtain ⟨t, rfl, ht⟩ := u32_nat wt
  exact crcBursts_walk v0 b fr t W ht (by omega) hrb
end Go.Proofs.Ytfeokdlkokmpcaa
