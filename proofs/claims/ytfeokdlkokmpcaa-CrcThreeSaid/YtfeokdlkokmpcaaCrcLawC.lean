/- The law CrcThree: its arguments opened. -/
import Derived.Test.YtfeokdlkokmpcaaCrcThree
namespace Go.Proofs.Ytfeokdlkokmpcaa
open Go.ChangeShapes Go.WideShapes Go.ChangeAt Go.RowKit

theorem crcThree.law (H : Type) (enc : TypeId × Value → H) (W : World) (base : Nat)
    (v0 : Value) (d0 : DataW H) (p0 : List MemPlace) (g0 : Value.okWide Try.prog W .any base 22 v0) (h0 : DataW.Trod enc Try.prog W 0 (fun _ => true) true 22 v0 d0 p0)
    (v1 : Value) (d1 : DataW H) (p1 : List MemPlace) (g1 : Value.okWide Try.prog W .any base 22 v1) (h1 : DataW.Trod enc Try.prog W 0 (fun _ => true) true 22 v1 d1 p1)
    (v2 : Value) (d2 : DataW H) (p2 : List MemPlace) (g2 : Value.okWide Try.prog W .any base 22 v2) (h2 : DataW.Trod enc Try.prog W 0 (fun _ => true) true 22 v2 d2 p2)
    {ts : List TypeId} {es : List (DataW H)} (hsz : (DataW.weightsEach Try.prog ([22, 22, 22] ++ ts) ([d0, d1, d2] ++ es)).all (· ≤ reachBytes) = true) :
    Calls Try.prog 8 #[v0, v1, v2] W fun e W' => e = .returned (.bool true) ∧ Below W.heap.size W W' := by
  obtain ⟨a, hra, hda⟩ := open_bytes Try.underlying22 Try.underlying5 (by kernel_rfl) (okWide_slice Try.underlying22 g0) h0
  have hla := bytes_reach hsz (j := 0) (t := 22) rfl Try.underlying22 (by kernel_rfl) (l := a) (hda.imp (fun h => ⟨congrArg some h.1, h.2⟩) (fun ⟨s, h⟩ => ⟨s, congrArg some h⟩))
  obtain ⟨b, hrb, hdb⟩ := open_bytes Try.underlying22 Try.underlying5 (by kernel_rfl) (okWide_slice Try.underlying22 g1) h1
  have hlb := bytes_reach hsz (j := 1) (t := 22) rfl Try.underlying22 (by kernel_rfl) (l := b) (hdb.imp (fun h => ⟨congrArg some h.1, h.2⟩) (fun ⟨s, h⟩ => ⟨s, congrArg some h⟩))
  obtain ⟨c, hrc, hdc⟩ := open_bytes Try.underlying22 Try.underlying5 (by kernel_rfl) (okWide_slice Try.underlying22 g2) h2
  have hlc := bytes_reach hsz (j := 2) (t := 22) rfl Try.underlying22 (by kernel_rfl) (l := c) (hdc.imp (fun h => ⟨congrArg some h.1, h.2⟩) (fun ⟨s, h⟩ => ⟨s, congrArg some h⟩))
  exact crcThree_walk v0 v1 v2 a b c W (by omega) (by omega) (by omega) hra hrb hrc
end Go.Proofs.Ytfeokdlkokmpcaa
