/- The law BinOrder: of two numbers the bytes of the lesser one are the lesser; no number's bytes begin with another one's. -/
import Derived.Test.YtfofpmjojpjkmaaBinRaw
import Derived.Test.YtfofpmjojpjkmaaNum
import Derived.Test.YtfofpmjojpjkmaaOpen
namespace Go.Proofs.Ytfofpmjojpjkmaa
open Go.ChangeShapes Go.WideShapes Go.ChangeAt Go.RowKit

theorem binOrder_walk (a b : Nat) (w : World) (ha : a < 18446744073709551616) (hb : b < 18446744073709551616) :
    Calls Try.prog 3 #[.int .u64 a, .int .u64 b] w fun e w' => e = .returned (.bool true) ∧ Below w.heap.size w w' := by
  have hless := numB_less a b ha hb
  by_cases hab : a = b
  · subst hab
    have h0 : ((a : Int) == a) = true := by simp
    go_enter Try.func3, Try.ntmps3
    go_wp2_with fail
    refine (lays_any w).mono ?_
    rintro e w1 ⟨rfl, hb1⟩
    go_wp2_with fail
    refine (Num_any a w1 ha).mono ?_
    rintro e w2 ⟨v2, rfl, hr2, hb2⟩
    have hcv := string_of_bytes (P := Try.prog) Try.underlying24 Try.underlying5 Try.underlying9 hr2
    go_wp2_with fail
    refine (Num_any a w2 ha).mono ?_
    rintro e w3 ⟨v3, rfl, hr3, hb3⟩
    have hcv3 := string_of_bytes (P := Try.prog) Try.underlying24 Try.underlying5 Try.underlying9 hr3
    have hs1 := hb1.size
    have hs2 := hb2.size
    have hbb := (hb1.trans (hb2.mono hs1)).trans (hb3.mono (Nat.le_trans hs1 hs2))
    generalize numB a = X at *
    clear hr2 hr3 hless
    go_wp2
    go_ret
    exact ⟨by simp, hbb⟩
  · have h0 : ((a : Int) == b) = false := by simp; omega
    have c1 := cut_ne a b ha hb hab
    have c2 := cut_ne b a hb ha (Ne.symm hab)
    go_enter Try.func3, Try.ntmps3
    go_wp2_with fail
    refine (lays_any w).mono ?_
    rintro e w1 ⟨rfl, hb1⟩
    go_wp2_with fail
    refine (Num_any a w1 ha).mono ?_
    rintro e w2 ⟨v2, rfl, hr2, hb2⟩
    have hcv := string_of_bytes (P := Try.prog) Try.underlying24 Try.underlying5 Try.underlying9 hr2
    go_wp2_with fail
    refine (Num_any b w2 hb).mono ?_
    rintro e w3 ⟨v3, rfl, hr3, hb3⟩
    have hcv3 := string_of_bytes (P := Try.prog) Try.underlying24 Try.underlying5 Try.underlying9 hr3
    have hs1 := hb1.size
    have hs2 := hb2.size
    have hbb := (hb1.trans (hb2.mono hs1)).trans (hb3.mono (Nat.le_trans hs1 hs2))
    generalize numB a = X at *
    generalize numB b = Y at *
    clear hr2 hr3
    go_wp2
    all_goals go_ret
    all_goals exact ⟨by simp [*], hbb⟩

theorem binOrder.law (H : Type) (enc : TypeId × Value → H) (W : World) (base : Nat)
    (v0 : Value) (d0 : DataW H) (p0 : List MemPlace) (g0 : Value.okWide Try.prog W .any base 22 v0) (h0 : DataW.Trod enc Try.prog W 0 (fun _ => true) true 22 v0 d0 p0)
    (v1 : Value) (d1 : DataW H) (p1 : List MemPlace) (g1 : Value.okWide Try.prog W .any base 22 v1) (h1 : DataW.Trod enc Try.prog W 0 (fun _ => true) true 22 v1 d1 p1)
    {ts : List TypeId} {ds : List (DataW H)} (_ : (DataW.weightsEach Try.prog ts ds).all (· ≤ reachBytes) = true) :
    Calls Try.prog 3 #[v0, v1] W fun e W' => e = .returned (.bool true) ∧ Below W.heap.size W W' := by
  obtain ⟨a, rfl, _, _, wa⟩ := open_int Try.underlying22 g0 h0
  obtain ⟨b, rfl, _, _, wb⟩ := open_int Try.underlying22 g1 h1
  obtain ⟨a, rfl, ha⟩ := u64_nat wa
  obtain ⟨b, rfl, hb⟩ := u64_nat wb
  exact binOrder_walk a b W ha hb
end Go.Proofs.Ytfofpmjojpjkmaa
