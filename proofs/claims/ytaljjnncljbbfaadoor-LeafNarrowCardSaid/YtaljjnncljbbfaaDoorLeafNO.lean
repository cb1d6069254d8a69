/- The law LeafNarrow: its arguments opened. -/
import Derived.Test.YtaljjnncljbbfaaDoorLaidL
import Derived.Test.YtaljjnncljbbfaaDoorLeafN
import Derived.Test.YtaljjnncljbbfaaDoorLeafHArg
namespace Go.Proofs.YtaljjnncljbbfaaDoor
open Go.ChangeShapes Go.WideShapes Go.ChangeAt Go.RowKit Sha

theorem leafNarrow.law (H : Type) (enc : TypeId × Value → H) (W : World) (base : Nat)
    (v0 : Value) (d0 : DataW H) (p0 : List MemPlace) (g0 : Value.okWide Tryd.prog W .any base 3 v0) (h0 : DataW.Trod enc Tryd.prog W 0 (fun _ => true) true 3 v0 d0 p0)
    (v1 : Value) (d1 : DataW H) (p1 : List MemPlace) (g1 : Value.okWide Tryd.prog W .any base 22 v1) (h1 : DataW.Trod enc Tryd.prog W 0 (fun _ => true) true 22 v1 d1 p1)
    (v2 : Value) (d2 : DataW H) (p2 : List MemPlace) (g2 : Value.okWide Tryd.prog W .any base 22 v2) (h2 : DataW.Trod enc Tryd.prog W 0 (fun _ => true) true 22 v2 d2 p2)
    {ts : List TypeId} {es : List (DataW H)} (hsz : (DataW.weightsEach Tryd.prog ([3, 22, 22] ++ ts) ([d0, d1, d2] ++ es)).all (· ≤ reachBytes) = true) (hG : TabsD W) :
    Calls Tryd.prog 6 #[v0, v1, v2] W fun e W' => e = .returned (.bool true) ∧ Below W.heap.size W W' := by
  obtain ⟨n, rfl, _, _, wn⟩ := open_int Tryd.underlying3 g0 h0
  have hn := bounds_i64 wn
  obtain ⟨l, hrl, hdl⟩ := open_bytes Tryd.underlying22 Tryd.underlying5 (by kernel_rfl) (okWide_slice Tryd.underlying22 g1) h1
  have hl := bytes_reach (l := l) (j := 1) hsz rfl Tryd.underlying22 (by kernel_rfl) (by rcases hdl with ⟨rfl, rfl⟩ | ⟨s, rfl⟩ <;> simp)
  obtain ⟨m, hrm, hdm⟩ := open_bytes Tryd.underlying22 Tryd.underlying5 (by kernel_rfl) (okWide_slice Tryd.underlying22 g2) h2
  have hm := bytes_reach (l := m) (j := 2) hsz rfl Tryd.underlying22 (by kernel_rfl) (by rcases hdm with ⟨rfl, rfl⟩ | ⟨s, rfl⟩ <;> simp)
  exact leafNarrow_walk n l m v1 v2 W (by omega) hl hm hrl hrm hG.1 hG.2
end Go.Proofs.YtaljjnncljbbfaaDoor
