/- The law RowsMerges: its arguments opened. -/
import Derived.Test.YteflpphpbecciaaRowsMerges
import Derived.Test.YteflpphpbecciaaEntOpenB
import Derived.Lib.SmallJoins
namespace Go.Proofs.Yteflpphpbecciaa
open Go.ChangeShapes Go.WideShapes Go.ChangeAt Go.RowKit

theorem open_logVB {H : Type} {enc : TypeId × Value → H} {W : World} {base : Nat} {ds : List (DataW H)} (hsz : Rows.uptoSmall H ds = true)
    {v0 : Value} {d0 : DataW H} {p0 : List MemPlace} (g0 : Value.okWide Try.prog W .any base 25 v0) (h0 : DataW.Trod enc Try.prog W 0 (fun _ => true) true 25 v0 d0 p0) (hd : d0 ∈ ds) :
    ∃ (b bt : Nat) (v : Value) (es : List EE), v0 = .agg #[.int .u64 b, .int .u64 bt, v] ∧ b < 18446744073709551616 ∧ bt < 18446744073709551616 ∧ Rd W 6 v es.length (ecells es) ∧ es.length ≤ 1048576 ∧ ∀ e ∈ es, EIn W e := by
  have htw := TB.of hsz h0 hd
  obtain ⟨c0, c1, c2, y0, y1, y2, m, rfl, _, _, _⟩ := Go.Joins.open_agg3 Try.underlying25 (by kernel_rfl) (by kernel_rfl) g0 h0
  have hc : (Value.agg #[c0, c1, c2]).cells.toList = [c0, c1, c2] := rfl
  rw [hc] at htw
  obtain ⟨b, bt, v, es, he, h⟩ := open_logB rfl htw
  simp only [List.cons.injEq, and_true] at he
  obtain ⟨rfl, rfl, rfl⟩ := he
  exact ⟨b, bt, _, es, rfl, h⟩

theorem rowsMerges.law (H : Type) (enc : TypeId × Value → H) (W : World) (base : Nat)
    (v0 : Value) (d0 : DataW H) (p0 : List MemPlace) (g0 : Value.okWide Try.prog W .any base 25 v0) (h0 : DataW.Trod enc Try.prog W 0 (fun _ => true) true 25 v0 d0 p0)
    (v1 : Value) (d1 : DataW H) (p1 : List MemPlace) (g1 : Value.okWide Try.prog W .any base 22 v1) (h1 : DataW.Trod enc Try.prog W 0 (fun _ => true) true 22 v1 d1 p1)
    (v2 : Value) (d2 : DataW H) (p2 : List MemPlace) (g2 : Value.okWide Try.prog W .any base 22 v2) (h2 : DataW.Trod enc Try.prog W 0 (fun _ => true) true 22 v2 d2 p2)
    (v3 : Value) (d3 : DataW H) (p3 : List MemPlace) (g3 : Value.okWide Try.prog W .any base 23 v3) (h3 : DataW.Trod enc Try.prog W 0 (fun _ => true) true 23 v3 d3 p3)
    (hsz : Rows.uptoSmall H [d0, d1, d2, d3] = true) :
    Calls Try.prog 3 #[v0, v1, v2, v3] W fun e W' => e = .returned (.bool true) ∧ Below W.heap.size W W' := by
  obtain ⟨b, bt, x, es, rfl, _, _, r1, l1, hq⟩ := open_logVB hsz g0 h0 (by simp)
  obtain ⟨i, rfl, _, _, wi⟩ := open_int Try.underlying22 g1 h1
  obtain ⟨i, rfl, hi⟩ := u64_nat wi
  obtain ⟨t, rfl, _, _, wt⟩ := open_int Try.underlying22 g2 h2
  obtain ⟨t, rfl, ht⟩ := u64_nat wt
  obtain ⟨a, n, c, rfl⟩ := okWide_slice Try.underlying23 g3
  have htb := TB.of hsz h3 (by simp)
  have hc : (Value.slice a n c).cells.toList = [.slice a n c] := rfl
  rw [hc] at htb
  obtain ⟨ls, r2, l2, hq2⟩ := open_entriesB htb
  exact rowsMerges_walk b bt x es i t _ ls W hi r1 r2 (fun e he => (hq e he).1) (fun e he => (hq2 e he).1) (by omega)
end Go.Proofs.Yteflpphpbecciaa
