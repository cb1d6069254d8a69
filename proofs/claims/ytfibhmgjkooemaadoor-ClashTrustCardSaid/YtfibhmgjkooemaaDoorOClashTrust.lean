/- The law: its arguments opened. -/
import Derived.Test.YtfibhmgjkooemaaDoorClX
import Derived.Test.YtfibhmgjkooemaaDoorTxw
namespace Go.Proofs.YtfibhmgjkooemaaDoor
open Go.ChangeShapes Go.WideShapes Go.ChangeAt Go.RowKit Sha

set_option maxRecDepth 100000 in
theorem clashTrust.law (H : Type) (enc : TypeId × Value → H) (W : World) (base : Nat)
    (v0 : Value) (d0 : DataW H) (p0 : List MemPlace) (g0 : Value.okWide Tryd.prog W .any base 3 v0) (h0 : DataW.Trod enc Tryd.prog W 0 (fun _ => true) true 3 v0 d0 p0)
    (v1 : Value) (d1 : DataW H) (p1 : List MemPlace) (g1 : Value.okWide Tryd.prog W .any base 22 v1) (h1 : DataW.Trod enc Tryd.prog W 0 (fun _ => true) true 22 v1 d1 p1)
    (v2 : Value) (d2 : DataW H) (p2 : List MemPlace) (g2 : Value.okWide Tryd.prog W .any base 33 v2) (h2 : DataW.Trod enc Tryd.prog W 0 (fun _ => true) true 33 v2 d2 p2)
    (v3 : Value) (d3 : DataW H) (p3 : List MemPlace) (g3 : Value.okWide Tryd.prog W .any base 25 v3) (h3 : DataW.Trod enc Tryd.prog W 0 (fun _ => true) true 25 v3 d3 p3)
    (v4 : Value) (d4 : DataW H) (p4 : List MemPlace) (g4 : Value.okWide Tryd.prog W .any base 35 v4) (h4 : DataW.Trod enc Tryd.prog W 0 (fun _ => true) true 35 v4 d4 p4)
    (v5 : Value) (d5 : DataW H) (p5 : List MemPlace) (g5 : Value.okWide Tryd.prog W .any base 36 v5) (h5 : DataW.Trod enc Tryd.prog W 0 (fun _ => true) true 36 v5 d5 p5)
    {ts : List TypeId} {es : List (DataW H)} (hsz : (DataW.weightsEach Tryd.prog ([3, 22, 33, 25, 35, 36] ++ ts) ([d0, d1, d2, d3, d4, d5] ++ es)).all (· ≤ reachBytes) = true) (hG : TabsRD W) :
    Calls Tryd.prog 7 #[v0, v1, v2, v3, v4, v5] W fun e W' => e = .returned (.bool true) ∧ Below W.heap.size W W' := by
  obtain ⟨n0, rfl, _, _, wn0⟩ := open_int Tryd.underlying3 g0 h0
  have hn0 := bounds_i64 wn0
  obtain ⟨a1, m1, c1, rfl⟩ := okWide_slice Tryd.underlying22 g1
  obtain ⟨ls1, r1, b1, q1⟩ := open_txw (TW.of hsz (j := 1) h1 rfl rfl)
  obtain ⟨z2, rfl, _, _, wn2⟩ := open_int Tryd.underlying33 g2 h2
  obtain ⟨n2, rfl, hn2⟩ := u64_nat wn2
  obtain ⟨a3, m3, c3, rfl⟩ := okWide_slice Tryd.underlying25 g3
  obtain ⟨t3, r3, b3⟩ := open_bytesW (TW.of hsz (j := 3) h3 rfl rfl)
  obtain ⟨aa3, cc3, he3⟩ := r3.form
  simp only [Value.slice.injEq] at he3
  obtain ⟨rfl, rfl, rfl⟩ := he3
  obtain ⟨l4, rfl, hl4⟩ := open_hash g4 h4
  obtain ⟨a5, m5, c5, rfl⟩ := okWide_slice Tryd.underlying36 g5
  obtain ⟨ls5, r5, b5, q5⟩ := TW.hashes (TW.of hsz (j := 5) h5 rfl rfl)
  obtain ⟨aa5, cc5, he5⟩ := r5.form
  simp only [Value.slice.injEq] at he5
  obtain ⟨rfl, rfl, rfl⟩ := he5
  exact clashTrust_walk n0 ls1 n2 t3 l4 ls5 _ _ _ _ _ W hn0 b1 hn2 b3 hl4 b5 q5 r1 r3 r5 hG
end Go.Proofs.YtfibhmgjkooemaaDoor
