/- The law: its arguments opened. -/
import Derived.Test.YtfibhmgjkooemaaDoorClW
import Derived.Test.YtfibhmgjkooemaaDoorTxw
import Derived.Test.YtfibhmgjkooemaaDoorLeafArgs
namespace Go.Proofs.YtfibhmgjkooemaaDoor
open Go.ChangeShapes Go.WideShapes Go.ChangeAt Go.RowKit Sha

set_option maxRecDepth 100000 in
theorem clashNarrow.law (H : Type) (enc : TypeId × Value → H) (W : World) (base : Nat)
    (v0 : Value) (d0 : DataW H) (p0 : List MemPlace) (g0 : Value.okWide Tryd.prog W .any base 22 v0) (h0 : DataW.Trod enc Tryd.prog W 0 (fun _ => true) true 22 v0 d0 p0)
    (v1 : Value) (d1 : DataW H) (p1 : List MemPlace) (g1 : Value.okWide Tryd.prog W .any base 33 v1) (h1 : DataW.Trod enc Tryd.prog W 0 (fun _ => true) true 33 v1 d1 p1)
    (v2 : Value) (d2 : DataW H) (p2 : List MemPlace) (g2 : Value.okWide Tryd.prog W .any base 25 v2) (h2 : DataW.Trod enc Tryd.prog W 0 (fun _ => true) true 25 v2 d2 p2)
    (v3 : Value) (d3 : DataW H) (p3 : List MemPlace) (g3 : Value.okWide Tryd.prog W .any base 35 v3) (h3 : DataW.Trod enc Tryd.prog W 0 (fun _ => true) true 35 v3 d3 p3)
    {ts : List TypeId} {es : List (DataW H)} (hsz : (DataW.weightsEach Tryd.prog ([22, 33, 25, 35] ++ ts) ([d0, d1, d2, d3] ++ es)).all (· ≤ reachBytes) = true) (hG : TabsR W) :
    Calls Tryd.prog 6 #[v0, v1, v2, v3] W fun e W' => e = .returned (.bool true) ∧ Below W.heap.size W W' := by
  obtain ⟨a0, m0, c0, rfl⟩ := okWide_slice Tryd.underlying22 g0
  obtain ⟨ls0, r0, b0, q0⟩ := open_txw (TW.of hsz (j := 0) h0 rfl rfl)
  obtain ⟨z1, rfl, _, _, wn1⟩ := open_int Tryd.underlying33 g1 h1
  obtain ⟨n1, rfl, hn1⟩ := u64_nat wn1
  obtain ⟨a2, m2, c2, rfl⟩ := okWide_slice Tryd.underlying25 g2
  obtain ⟨t2, r2, b2⟩ := open_bytesW (TW.of hsz (j := 2) h2 rfl rfl)
  obtain ⟨aa2, cc2, he2⟩ := r2.form
  simp only [Value.slice.injEq] at he2
  obtain ⟨rfl, rfl, rfl⟩ := he2
  obtain ⟨l3, rfl, hl3⟩ := open_hash g3 h3
  exact clashNarrow_walk ls0 n1 t2 l3 _ _ _ W b0 hn1 b2 hl3 r0 r2 hG
end Go.Proofs.YtfibhmgjkooemaaDoor
