/- The laws EdgeOrders, EdgeRanks, EdgeSteps: their walks. -/
import Derived.Test.YtnkjhibjlfojjaaEdgeIO
import Derived.Test.YtnkjhibjlfojjaaOpen
namespace Go.Proofs.Ytnkjhibjlfojjaa
open Go.ChangeShapes Go.WideShapes Go.ChangeAt Go.RowKit

theorem edgeOrders_walk (x y : Nat) (w : World) (hx : x < 18446744073709551616) (hy : y < 18446744073709551616) :
    Calls Try.prog 3 #[.int .u64 x, .int .u64 y] w fun e w' => e = .returned (.bool true) ∧ Below w.heap.size w w' := by
  have hfrom := run_frombits
  have h1 := ord_eq x y hx hy
  have h2 := class_eq x hx
  have h3 := ord_anti x y
  have hb : -1 ≤ ordP y x ∧ ordP y x ≤ 1 := by unfold ordP; split <;> (try split) <;> omega
  have hn : IntKind.i64.wrap (-(ordP y x)) = -(ordP y x) := IntWalk.i64_in _ ⟨by omega, by omega⟩
  have H1 := Lib.hid h1
  have H2 := Lib.hid h2
  have H3 := Lib.hid h3
  clear h1 h2 h3 hb
  go_enter Try.func3, Try.ntmps3
  go_wp2_with fail
  refine (awake05_any _).mono ?_
  rintro e w1 ⟨rfl, hb1⟩
  go_wp2_with fail
  refine (Order_any x y _ hx hy).mono ?_
  rintro e w' ⟨rfl, rfl⟩
  go_wp2_with fail
  refine (ROrder_any x y _ hx hy).mono ?_
  rintro e w' ⟨rfl, rfl⟩
  rw [H1.out]
  go_wp2_with fail
  refine (Class_any x _ hx).mono ?_
  rintro e w' ⟨rfl, rfl⟩
  go_wp2_with fail
  refine (RClass_any x _ hx).mono ?_
  rintro e w' ⟨rfl, rfl⟩
  rw [H2.out]
  go_wp2_with fail
  refine (Order_any x y _ hx hy).mono ?_
  rintro e w' ⟨rfl, rfl⟩
  rw [H3.out]
  go_wp2_with fail
  refine (Order_any y x _ hy hx).mono ?_
  rintro e w' ⟨rfl, rfl⟩
  go_wp2_with fail
  go_ret
  exact ⟨rfl, hb1⟩

theorem at_rank (x : Nat) (hx : x < 18446744073709551616) : canB (atP (rankP x)) = canB x := by
  unfold canB
  cases h : fnan x with
  | true =>
    have hr : rankP x = 9218868437227405313 := by unfold rankP; rw [if_pos h]
    rw [hr, if_pos rfl]; decide
  | false =>
    have h2 := of_decide_eq_false h
    have he : atP (rankP x) = x := by
      rcases sgn_cases x hx with ⟨h3, h4⟩ | ⟨h3, h4⟩
      · have : rankP x = -1 - (rung x : Int) := by unfold rankP; rw [if_neg (by simp [h]), if_pos h3]
        rw [atP_neg _ (by omega)]; omega
      · have : rankP x = (rung x : Int) := by unfold rankP; rw [if_neg (by simp [h]), if_neg (by simp [h3])]
        rw [atP_pos _ (by omega) (by omega)]; omega
    rw [he, h]

theorem edgeRanks_walk (x : Nat) (r : Int) (w : World) (hx : x < 18446744073709551616) (h1 : -9223372036854775808 ≤ r) (h2 : r ≤ 9223372036854775807) :
    Calls Try.prog 4 #[.int .u64 x, .int .i64 r] w fun e w' => e = .returned (.bool true) ∧ Below w.heap.size w w' := by
  have hfrom := run_frombits
  have H1 := Lib.hid (at_rank x hx)
  have hrb := rank_bounds x
  have ha := atP_lt r h2
  have ha2 := atP_lt (rankP x) (by omega)
  go_enter Try.func4, Try.ntmps4
  go_wp2_with fail
  refine (awake05_any _).mono ?_
  rintro e w1 ⟨rfl, hb1⟩
  go_wp2_with fail
  refine (Rank_any x _ hx).mono ?_
  rintro e w' ⟨rfl, rfl⟩
  go_wp2_with fail
  refine (RRank_any x _ hx).mono ?_
  rintro e w' ⟨rfl, rfl⟩
  go_wp2_with fail
  refine (At_any r _ h1 h2).mono ?_
  rintro e w' ⟨rfl, rfl⟩
  go_wp2_with fail
  refine (RAt_any r _ h1 h2).mono ?_
  rintro e w' ⟨rfl, rfl⟩
  go_wp2_with fail
  refine (Same_any _ _ _ ha ha).mono ?_
  rintro e w' ⟨rfl, rfl⟩
  go_wp2_with fail
  refine (Rank_any x _ hx).mono ?_
  rintro e w' ⟨rfl, rfl⟩
  go_wp2_with fail
  refine (At_any _ _ (by omega) (by omega)).mono ?_
  rintro e w' ⟨rfl, rfl⟩
  go_wp2_with fail
  refine (Same_any _ _ _ ha2 hx).mono ?_
  rintro e w' ⟨rfl, rfl⟩
  rw [H1.out]
  go_wp2_with fail
  go_ret
  exact ⟨rfl, hb1⟩

theorem edgeOrders.law (H : Type) (enc : TypeId × Value → H) (W : World) (base : Nat)
    (v0 : Value) (d0 : DataW H) (p0 : List MemPlace) (g0 : Value.okWide Try.prog W .any base 22 v0) (h0 : DataW.Trod enc Try.prog W 0 (fun _ => true) true 22 v0 d0 p0)
    (v1 : Value) (d1 : DataW H) (p1 : List MemPlace) (g1 : Value.okWide Try.prog W .any base 22 v1) (h1 : DataW.Trod enc Try.prog W 0 (fun _ => true) true 22 v1 d1 p1)
    {ts : List TypeId} {es : List (DataW H)} (_hsz : (DataW.weightsEach Try.prog ([22, 22] ++ ts) ([d0, d1] ++ es)).all (· ≤ reachBytes) = true) :
    Calls Try.prog 3 #[v0, v1] W fun e W' => e = .returned (.bool true) ∧ Below W.heap.size W W' := by
  obtain ⟨a, rfl, _, _, wa⟩ := open_int Try.underlying22 g0 h0
  obtain ⟨a, rfl, ha⟩ := u64_nat wa
  obtain ⟨b, rfl, _, _, wb⟩ := open_int Try.underlying22 g1 h1
  obtain ⟨b, rfl, hb⟩ := u64_nat wb
  exact edgeOrders_walk a b W ha hb

theorem edgeRanks.law (H : Type) (enc : TypeId × Value → H) (W : World) (base : Nat)
    (v0 : Value) (d0 : DataW H) (p0 : List MemPlace) (g0 : Value.okWide Try.prog W .any base 22 v0) (h0 : DataW.Trod enc Try.prog W 0 (fun _ => true) true 22 v0 d0 p0)
    (v1 : Value) (d1 : DataW H) (p1 : List MemPlace) (g1 : Value.okWide Try.prog W .any base 2 v1) (h1 : DataW.Trod enc Try.prog W 0 (fun _ => true) true 2 v1 d1 p1)
    {ts : List TypeId} {es : List (DataW H)} (_hsz : (DataW.weightsEach Try.prog ([22, 2] ++ ts) ([d0, d1] ++ es)).all (· ≤ reachBytes) = true) :
    Calls Try.prog 4 #[v0, v1] W fun e W' => e = .returned (.bool true) ∧ Below W.heap.size W W' := by
  obtain ⟨a, rfl, _, _, wa⟩ := open_int Try.underlying22 g0 h0
  obtain ⟨a, rfl, ha⟩ := u64_nat wa
  obtain ⟨r, rfl, _, _, wb⟩ := open_int Try.underlying2 g1 h1
  have hb := bounds_i64 wb
  exact edgeRanks_walk a r W ha (by omega) (by omega)
end Go.Proofs.Ytnkjhibjlfojjaa
