/- The law: its arguments opened. -/
import Derived.Test.YtdjmebfjanophaaDoorLeafArgs
import Derived.Test.YtdjmebfjanophaaDoorPathI
namespace Go.Proofs.YtdjmebfjanophaaDoor
open Go.ChangeShapes Go.WideShapes Go.ChangeAt Go.RowKit Sha

theorem pathClimbs.law (H : Type) (enc : TypeId × Value → H) (W : World) (base : Nat)
    (v0 : Value) (d0 : DataW H) (p0 : List MemPlace) (g0 : Value.okWide Tryd.prog W .any base 3 v0) (h0 : DataW.Trod enc Tryd.prog W 0 (fun _ => true) true 3 v0 d0 p0)
    (v1 : Value) (d1 : DataW H) (p1 : List MemPlace) (g1 : Value.okWide Tryd.prog W .any base 33 v1) (h1 : DataW.Trod enc Tryd.prog W 0 (fun _ => true) true 33 v1 d1 p1)
    (v2 : Value) (d2 : DataW H) (p2 : List MemPlace) (g2 : Value.okWide Tryd.prog W .any base 29 v2) (h2 : DataW.Trod enc Tryd.prog W 0 (fun _ => true) true 29 v2 d2 p2)
    (v3 : Value) (d3 : DataW H) (p3 : List MemPlace) (g3 : Value.okWide Tryd.prog W .any base 29 v3) (h3 : DataW.Trod enc Tryd.prog W 0 (fun _ => true) true 29 v3 d3 p3)
    (v4 : Value) (d4 : DataW H) (p4 : List MemPlace) (g4 : Value.okWide Tryd.prog W .any base 22 v4) (h4 : DataW.Trod enc Tryd.prog W 0 (fun _ => true) true 22 v4 d4 p4)
    {ts : List TypeId} {es : List (DataW H)} (hsz : (DataW.weightsEach Tryd.prog ([3, 33, 29, 29, 22] ++ ts) ([d0, d1, d2, d3, d4] ++ es)).all (· ≤ reachBytes) = true) (hG : TabsR W) :
    Calls Tryd.prog 7 #[v0, v1, v2, v3, v4] W fun e W' => e = .returned (.bool true) ∧ Below W.heap.size W W' := by
  obtain ⟨n0, rfl, _, _, wn0⟩ := open_int Tryd.underlying3 g0 h0
  have hn0 := bounds_i64 wn0
  obtain ⟨l1, rfl, hl1⟩ := open_hash g1 h1
  obtain ⟨z2, rfl, _, _, wn2⟩ := open_int Tryd.underlying29 g2 h2
  obtain ⟨n2, rfl, hn2⟩ := u64_nat wn2
  obtain ⟨z3, rfl, _, _, wn3⟩ := open_int Tryd.underlying29 g3 h3
  obtain ⟨n3, rfl, hn3⟩ := u64_nat wn3
  obtain ⟨a4, m4, c4, rfl⟩ := okWide_slice Tryd.underlying22 g4
  obtain ⟨ls4, r4, b4, q4⟩ := TW.hashes (TW.of hsz (j := 4) h4 rfl rfl)
  obtain ⟨aa4, cc4, he4⟩ := r4.form
  simp only [Value.slice.injEq] at he4
  obtain ⟨rfl, rfl, rfl⟩ := he4
  exact pathClimbs_walk n0 l1 n2 n3 ls4 _ _ W (by omega) hl1 hn2 hn3 q4 b4 r4 hG
end Go.Proofs.YtdjmebfjanophaaDoor
