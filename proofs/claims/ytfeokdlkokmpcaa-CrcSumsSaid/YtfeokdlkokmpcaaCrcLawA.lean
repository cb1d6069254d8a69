/- The laws CrcSums and CrcJoins: their arguments opened. -/
import Derived.Test.YtfeokdlkokmpcaaCrcLaw
namespace Go.Proofs.Ytfeokdlkokmpcaa
open Go.ChangeShapes Go.WideShapes Go.ChangeAt Go.RowKit

theorem crcSums.law (H : Type) (enc : TypeId × Value → H) (W : World) (base : Nat)
    (v0 : Value) (d0 : DataW H) (p0 : List MemPlace) (g0 : Value.okWide Try.prog W .any base 22 v0) (h0 : DataW.Trod enc Try.prog W 0 (fun _ => true) true 22 v0 d0 p0)
    (v1 : Value) (d1 : DataW H) (p1 : List MemPlace) (g1 : Value.okWide Try.prog W .any base 23 v1) (h1 : DataW.Trod enc Try.prog W 0 (fun _ => true) true 23 v1 d1 p1)
    {ts : List TypeId} {es : List (DataW H)} (hsz : (DataW.weightsEach Try.prog ([22, 23] ++ ts) ([d0, d1] ++ es)).all (· ≤ reachBytes) = true) :
    Calls Try.prog 3 #[v0, v1] W fun e W' => e = .returned (.bool true) ∧ Below W.heap.size W W' := by
  obtain ⟨l, hrl, hdl⟩ := open_bytes Try.underlying22 Try.underlying5 (by kernel_rfl) (okWide_slice Try.underlying22 g0) h0
  have hll := bytes_reach hsz (j := 0) (t := 22) rfl Try.underlying22 (by kernel_rfl) (l := l) (hdl.imp (fun h => ⟨congrArg some h.1, h.2⟩) (fun ⟨s, h⟩ => ⟨s, congrArg some h⟩))
  obtain ⟨s, rfl, _, _, ws⟩ := open_int Try.underlying23 g1 h1
  obtain ⟨s, rfl, hs⟩ := u32_nat ws
  exact crcSums_walk v0 l s W hs (by omega) hrl

theorem crcJoins.law (H : Type) (enc : TypeId × Value → H) (W : World) (base : Nat)
    (v0 : Value) (d0 : DataW H) (p0 : List MemPlace) (g0 : Value.okWide Try.prog W .any base 23 v0) (h0 : DataW.Trod enc Try.prog W 0 (fun _ => true) true 23 v0 d0 p0)
    (v1 : Value) (d1 : DataW H) (p1 : List MemPlace) (g1 : Value.okWide Try.prog W .any base 23 v1) (h1 : DataW.Trod enc Try.prog W 0 (fun _ => true) true 23 v1 d1 p1)
    (v2 : Value) (d2 : DataW H) (p2 : List MemPlace) (g2 : Value.okWide Try.prog W .any base 28 v2) (h2 : DataW.Trod enc Try.prog W 0 (fun _ => true) true 28 v2 d2 p2)
    {ts : List TypeId} {es : List (DataW H)} (_hsz : (DataW.weightsEach Try.prog ([23, 23, 28] ++ ts) ([d0, d1, d2] ++ es)).all (· ≤ reachBytes) = true) :
    Calls Try.prog 4 #[v0, v1, v2] W fun e W' => e = .returned (.bool true) ∧ Below W.heap.size W W' := by
  obtain ⟨a, rfl, _, _, wa⟩ := open_int Try.underlying23 g0 h0
  obtain ⟨a, rfl, ha⟩ := u32_nat wa
  obtain ⟨b, rfl, _, _, wb⟩ := open_int Try.underlying23 g1 h1
  obtain ⟨b, rfl, hb⟩ := u32_nat wb
  obtain ⟨n, rfl, _, _, wn⟩ := open_int Try.underlying28 g2 h2
  obtain ⟨n, rfl, hn⟩ := u64_nat wn
  exact crcJoins_walk a b n W ha hb hn
end Go.Proofs.Ytfeokdlkokmpcaa
