/- The law's head of MacNests. -/
import Derived.Test.YtkcnakijfmemlaaDoorMacN
import Derived.Test.YtkcnakijfmemlaaDoorRows
namespace Go.Proofs.YtkcnakijfmemlaaDoor
open Go.ChangeShapes Go.WideShapes Go.ChangeAt Go.RowKit Sha

theorem macNests.law (H : Type) (enc : TypeId × Value → H) (W : World) (base : Nat)
    (v0 : Value) (d0 : DataW H) (p0 : List MemPlace) (g0 : Value.okWide Tryd.prog W .any base 22 v0) (h0 : DataW.Trod enc Tryd.prog W 0 (fun _ => true) true 22 v0 d0 p0)
    (v1 : Value) (d1 : DataW H) (p1 : List MemPlace) (g1 : Value.okWide Tryd.prog W .any base 22 v1) (h1 : DataW.Trod enc Tryd.prog W 0 (fun _ => true) true 22 v1 d1 p1)
    {ts : List TypeId} {es : List (DataW H)} (hsz : (DataW.weightsEach Tryd.prog ([22, 22] ++ ts) ([d0, d1] ++ es)).all (· ≤ reachBytes) = true) (hG : Tabs W) :
    Calls Tryd.prog 10 #[v0, v1] W fun e W' => e = .returned (.bool true) ∧ Below W.heap.size W W' := by
  obtain ⟨l, hrl, hdl⟩ := open_bytes Tryd.underlying22 Tryd.underlying5 (by kernel_rfl) (okWide_slice Tryd.underlying22 g0) h0
  have hl := bytes_reach (l := l) (j := 0) hsz rfl Tryd.underlying22 (by kernel_rfl) (by rcases hdl with ⟨rfl, rfl⟩ | ⟨s, rfl⟩ <;> simp)
  obtain ⟨m, hrm, hdm⟩ := open_bytes Tryd.underlying22 Tryd.underlying5 (by kernel_rfl) (okWide_slice Tryd.underlying22 g1) h1
  have hm := bytes_reach (l := m) (j := 1) hsz rfl Tryd.underlying22 (by kernel_rfl) (by rcases hdm with ⟨rfl, rfl⟩ | ⟨s, rfl⟩ <;> simp)
  exact macNests_walk l m v0 v1 W hl hm hrl hrm hG
end Go.Proofs.YtkcnakijfmemlaaDoor
