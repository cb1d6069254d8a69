/- The law RowsOrder: its arguments opened. -/
import Derived.Test.YteflpphpbecciaaRowsLaw
import Derived.Test.YteflpphpbecciaaEntOpen
import Derived.Lib.SmallJoins
namespace Go.Proofs.Yteflpphpbecciaa
open Go.ChangeShapes Go.WideShapes Go.ChangeAt Go.RowKit

theorem open_logV {H : Type} {enc : TypeId × Value → H} {W : World} {base : Nat} {ts : List TypeId} {ds : List (DataW H)} (hsz : (DataW.weightsEach Try.prog ts ds).all (· ≤ reachBytes) = true) {j : Nat}
    {v0 : Value} {d0 : DataW H} {p0 : List MemPlace} (g0 : Value.okWide Try.prog W .any base 25 v0) (h0 : DataW.Trod enc Try.prog W 0 (fun _ => true) true 25 v0 d0 p0) (ht : ts[j]? = some 25) (hd : ds[j]? = some d0) :
    ∃ (b bt : Nat) (v : Value) (es : List EE), v0 = .agg #[.int .u64 b, .int .u64 bt, v] ∧ b < 18446744073709551616 ∧ bt < 18446744073709551616 ∧ Rd W 6 v es.length (ecells es) ∧ es.length * 80 ≤ 140737488351232 ∧ ∀ e ∈ es, EIn W e := by
  have htw := TW.of hsz h0 ht hd
  obtain ⟨c0, c1, c2, y0, y1, y2, m, rfl, _, _, _⟩ := Go.Joins.open_agg3 Try.underlying25 (by kernel_rfl) (by kernel_rfl) g0 h0
  have hc : (Value.agg #[c0, c1, c2]).cells.toList = [c0, c1, c2] := rfl
  rw [hc] at htw
  obtain ⟨b, bt, v, es, he, h⟩ := open_log rfl htw
  simp only [List.cons.injEq, and_true] at he
  obtain ⟨rfl, rfl, rfl⟩ := he
  exact ⟨b, bt, _, es, rfl, h⟩

theorem rowsOrder.law (H : Type) (enc : TypeId × Value → H) (W : World) (base : Nat)
    (v0 : Value) (d0 : DataW H) (p0 : List MemPlace) (g0 : Value.okWide Try.prog W .any base 25 v0) (h0 : DataW.Trod enc Try.prog W 0 (fun _ => true) true 25 v0 d0 p0)
    (v1 : Value) (d1 : DataW H) (p1 : List MemPlace) (g1 : Value.okWide Try.prog W .any base 25 v1) (h1 : DataW.Trod enc Try.prog W 0 (fun _ => true) true 25 v1 d1 p1)
    (v2 : Value) (d2 : DataW H) (p2 : List MemPlace) (g2 : Value.okWide Try.prog W .any base 25 v2) (h2 : DataW.Trod enc Try.prog W 0 (fun _ => true) true 25 v2 d2 p2)
    {ts : List TypeId} {es : List (DataW H)} (hsz : (DataW.weightsEach Try.prog ([25, 25, 25] ++ ts) ([d0, d1, d2] ++ es)).all (· ≤ reachBytes) = true) :
    Calls Try.prog 5 #[v0, v1, v2] W fun e W' => e = .returned (.bool true) ∧ Below W.heap.size W W' := by
  obtain ⟨b1, t1, x1, e1, rfl, _, _, r1, l1, _⟩ := open_logV hsz (j := 0) g0 h0 rfl rfl
  obtain ⟨b2, t2, x2, e2, rfl, _, _, r2, l2, _⟩ := open_logV hsz (j := 1) g1 h1 rfl rfl
  obtain ⟨b3, t3, x3, e3, rfl, _, _, r3, l3, _⟩ := open_logV hsz (j := 2) g2 h2 rfl rfl
  exact rowsOrder_walk b1 t1 x1 e1 b2 t2 x2 e2 b3 t3 x3 e3 W (by omega) r1 (by omega) r2 (by omega) r3
end Go.Proofs.Yteflpphpbecciaa
