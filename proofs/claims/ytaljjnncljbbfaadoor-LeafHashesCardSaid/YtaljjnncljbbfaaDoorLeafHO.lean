/- The law LeafHashes: its arguments opened. -/
import Derived.Test.YtaljjnncljbbfaaDoorLeafHArg
import Derived.Test.YtaljjnncljbbfaaDoorLeafH
namespace Go.Proofs.YtaljjnncljbbfaaDoor
open Go.ChangeShapes Go.WideShapes Go.ChangeAt Go.RowKit Sha

theorem leafHashes.law (H : Type) (enc : TypeId × Value → H) (W : World) (base : Nat)
    (v0 : Value) (d0 : DataW H) (p0 : List MemPlace) (g0 : Value.okWide Tryd.prog W .any base 3 v0) (h0 : DataW.Trod enc Tryd.prog W 0 (fun _ => true) true 3 v0 d0 p0)
    (v1 : Value) (d1 : DataW H) (p1 : List MemPlace) (g1 : Value.okWide Tryd.prog W .any base 22 v1) (h1 : DataW.Trod enc Tryd.prog W 0 (fun _ => true) true 22 v1 d1 p1)
    (v2 : Value) (d2 : DataW H) (p2 : List MemPlace) (g2 : Value.okWide Tryd.prog W .any base 24 v2) (h2 : DataW.Trod enc Tryd.prog W 0 (fun _ => true) true 24 v2 d2 p2)
    (v3 : Value) (d3 : DataW H) (p3 : List MemPlace) (g3 : Value.okWide Tryd.prog W .any base 24 v3) (h3 : DataW.Trod enc Tryd.prog W 0 (fun _ => true) true 24 v3 d3 p3)
    {ts : List TypeId} {es : List (DataW H)} (hsz : (DataW.weightsEach Tryd.prog ([3, 22, 24, 24] ++ ts) ([d0, d1, d2, d3] ++ es)).all (· ≤ reachBytes) = true) (hG : TabsR W) :
    Calls Tryd.prog 3 #[v0, v1, v2, v3] W fun e W' => e = .returned (.bool true) ∧ Below W.heap.size W W' := by
  obtain ⟨n, rfl, _, _, wn⟩ := open_int Tryd.underlying3 g0 h0
  have hn := bounds_i64 wn
  obtain ⟨l, hrl, hdl⟩ := open_bytes Tryd.underlying22 Tryd.underlying5 (by kernel_rfl) (okWide_slice Tryd.underlying22 g1) h1
  have hl := bytes_reach (l := l) (j := 1) hsz rfl Tryd.underlying22 (by kernel_rfl) (by rcases hdl with ⟨rfl, rfl⟩ | ⟨s, rfl⟩ <;> simp)
  obtain ⟨xs, rfl, hx⟩ := open_hash g2 h2
  obtain ⟨ys, rfl, hy⟩ := open_hash g3 h3
  exact leafHashes_walk n l v1 xs ys W (by omega) hl hrl hx hy hG
end Go.Proofs.YtaljjnncljbbfaaDoor
