/- The law RowsFollow: its arguments opened. -/
import Derived.Test.YteflpphpbecciaaFollow
import Derived.Lib.SmallJoins
namespace Go.Proofs.Yteflpphpbecciaa
open Go.ChangeShapes Go.WideShapes Go.ChangeAt Go.RowKit

theorem flat_iv : ∀ l : List Int, l.flatMap (fun n : Int => [Value.int .i64 n]) = iv l
  | [] => rfl
  | x :: l => by rw [List.flatMap_cons, flat_iv l]; rfl
theorem TW.ints {H : Type} {enc : TypeId × Value → H} {P : Program} {W : World} {t e : TypeId} {v : Value} (ht : P.underlying t = some (.slice e)) (he : P.underlying e = some (.int .i64)) (hc : P.cellsOf e = 1) (hb : P.bytesOf e = 8) (h : TW enc P W t [v]) :
    ∃ l : List Int, Rd W 1 v l.length (iv l) ∧ l.length * 8 ≤ 140737488351232 ∧ ∀ x ∈ l, -9223372036854775808 ≤ x ∧ x ≤ 9223372036854775807 := by
  obtain ⟨l, hr, hl, hq⟩ := h.elems ht hc (fun n : Int => [Value.int .i64 n]) (fun n => -9223372036854775808 ≤ n ∧ n ≤ 9223372036854775807) (fun ds _ htw => htw.i64 he) (by intro a _ u hu; simp at hu; subst hu; rfl)
  refine ⟨l, ?_, by rw [hb] at hl; exact hl, fun x hx => (hq x hx).1⟩
  have := flat_iv l
  rw [this] at hr
  exact hr

theorem rowsFollow.law (H : Type) (enc : TypeId × Value → H) (W : World) (base : Nat)
    (v0 : Value) (d0 : DataW H) (p0 : List MemPlace) (g0 : Value.okWide Try.prog W .any base 23 v0) (h0 : DataW.Trod enc Try.prog W 0 (fun _ => true) true 23 v0 d0 p0)
    (v1 : Value) (d1 : DataW H) (p1 : List MemPlace) (g1 : Value.okWide Try.prog W .any base 23 v1) (h1 : DataW.Trod enc Try.prog W 0 (fun _ => true) true 23 v1 d1 p1)
    (v2 : Value) (d2 : DataW H) (p2 : List MemPlace) (g2 : Value.okWide Try.prog W .any base 3 v2) (h2 : DataW.Trod enc Try.prog W 0 (fun _ => true) true 3 v2 d2 p2)
    (v3 : Value) (d3 : DataW H) (p3 : List MemPlace) (g3 : Value.okWide Try.prog W .any base 37 v3) (h3 : DataW.Trod enc Try.prog W 0 (fun _ => true) true 37 v3 d3 p3)
    (v4 : Value) (d4 : DataW H) (p4 : List MemPlace) (g4 : Value.okWide Try.prog W .any base 3 v4) (h4 : DataW.Trod enc Try.prog W 0 (fun _ => true) true 3 v4 d4 p4)
    {ts : List TypeId} {es : List (DataW H)} (hsz : (DataW.weightsEach Try.prog ([23, 23, 3, 37, 3] ++ ts) ([d0, d1, d2, d3, d4] ++ es)).all (· ≤ reachBytes) = true) :
    Calls Try.prog 4 #[v0, v1, v2, v3, v4] W fun e W' => e = .returned (.bool true) ∧ Below W.heap.size W W' := by
  obtain ⟨a, n, c, rfl⟩ := okWide_slice Try.underlying23 g0
  obtain ⟨LL, r0, l0, q0⟩ := open_entries (TW.of hsz (j := 0) h0 rfl rfl)
  obtain ⟨a1, n1, c1, rfl⟩ := okWide_slice Try.underlying23 g1
  obtain ⟨MM, r1, l1, q1⟩ := open_entries (TW.of hsz (j := 1) h1 rfl rfl)
  obtain ⟨ag, rfl, _, _, _⟩ := open_int Try.underlying3 g2 h2
  obtain ⟨a3, n3, c3, rfl⟩ := okWide_slice Try.underlying37 g3
  obtain ⟨ns, r3, l3, _⟩ := TW.ints Try.underlying37 Try.underlying3 tInt (by kernel_rfl) (TW.of hsz (j := 3) h3 rfl rfl)
  obtain ⟨again, rfl, _, _, _⟩ := open_int Try.underlying3 g4 h4
  exact rowsFollow_walk _ _ LL MM ag _ ns again W r0 r1 (fun e he => (q0 e he).1) (fun e he => (q1 e he).1) r3 (by omega) (by omega) (by omega)
end Go.Proofs.Yteflpphpbecciaa
