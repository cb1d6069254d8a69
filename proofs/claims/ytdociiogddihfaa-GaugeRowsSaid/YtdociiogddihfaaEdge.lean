/- Contracts of the package edge: ranks, classes, order. -/
import Derived.Test.YtdociiogddihfaaBase
import Derived.Test.YtdociiogddihfaaGaP
import Derived.Test.YtdociiogddihfaaProg
import Derived.Deep.QuietTactic
import Derived.BigQuiet
namespace Go.Proofs.Ytdociiogddihfaa
open Go.RowKit

theorem IsNaN_any (x : Nat) (w : World) (hx : x < 18446744073709551616) : Calls Try.prog 28 #[.float .f64 x] w fun e w' => e = .returned (.bool (fnan x)) ∧ w = w' := by
  go_enter Try.func28, Try.ntmps28
  go_wp2
  go_ret
  exact ⟨by rw [← ne_order x hx]; rfl, rfl⟩

theorem run_bits (x : Nat) (w : World) : (callFunc 52 #[.float .f64 x]).run Try.prog w = .ok (.value (.int .u64 x)) w :=
  run_callFunc_extern (e := Extern.MathFloatBits.float64bits) Try.func52 (by kernel_rfl) (by kernel_rfl) (by kernel_rfl) (by kernel_rfl) _ _
theorem ret_float {a b : Nat} (h : a = b) : Ending.returned (.float .f64 a) = .returned (.float .f64 b) := by rw [h]
theorem run_frombits (n : Int) (w : World) : (callFunc 10 #[.int .u64 n]).run Try.prog w = .ok (.value (.float .f64 n.toNat)) w :=
  run_callFunc_extern (e := Extern.MathFloatBits.float64frombits) Try.func10 (by kernel_rfl) (by kernel_rfl) (by kernel_rfl) (by kernel_rfl) _ _

theorem Rank_any (x : Nat) (w : World) (hx : x < 18446744073709551616) : Calls Try.prog 32 #[.float .f64 x] w fun e w' => e = .returned (.int .i64 (rankP x)) ∧ w = w' := by
  have hbits := run_bits
  cases h : fnan x with
  | true =>
    have hr : rankP x = 9218868437227405313 := by unfold rankP; rw [if_pos h]
    rw [hr]
    go_enter Try.func32, Try.ntmps32
    go_wp2_with (go_at_call 28; refine (IsNaN_any x _ hx).mono ?_; rintro e w' ⟨rfl, rfl⟩)
    go_ret
    exact ⟨rfl, rfl⟩
  | false =>
    rw [← rank_bits x hx h]
    go_enter Try.func32, Try.ntmps32
    go_wp2_with (go_at_call 28; refine (IsNaN_any x _ hx).mono ?_; rintro e w' ⟨rfl, rfl⟩)
    go_ret
    exact ⟨rfl, rfl⟩

theorem NaN_any (w : World) : Calls Try.prog 26 #[] w fun e w' => e = .returned (.float .f64 9221120237041090561) ∧ w = w' := by
  have hfrom := run_frombits
  go_enter Try.func26, Try.ntmps26
  go_wp2
  go_ret
  exact ⟨rfl, rfl⟩

theorem At_any (r : Int) (w : World) (h1 : -9223372036854775808 ≤ r) (h2 : r ≤ 9223372036854775807) : Calls Try.prog 33 #[.int .i64 r] w fun e w' => e = .returned (.float .f64 (atP r)) ∧ w = w' := by
  by_cases h3 : 9218868437227405312 < r
  · rw [atP_high r h3]
    go_enter Try.func33, Try.ntmps33
    go_wp2_with (go_at_call 26; refine (NaN_any _).mono ?_; rintro e w' ⟨rfl, rfl⟩)
    go_ret
    exact ⟨rfl, rfl⟩
  · have hfrom := run_frombits
    by_cases h4 : r < -9218868437227405313
    · have hb := at_bits (-9218868437227405313) (by omega) (by omega)
      have HB := Lib.hid hb
      clear hb
      rw [atP_low r h4]
      go_enter Try.func33, Try.ntmps33
      go_wp2_with fail
      go_ret
      exact ⟨ret_float (by rw [← Int.toNat_natCast (atP _), ← HB.out]; rfl), rfl⟩
    · have hb := at_bits r (by omega) (by omega)
      have HB := Lib.hid hb
      clear hb
      go_enter Try.func33, Try.ntmps33
      go_wp2_with fail
      go_ret
      exact ⟨ret_float (by rw [HB.out]; rfl), rfl⟩

theorem Order_any (x y : Nat) (w : World) (hx : x < 18446744073709551616) (hy : y < 18446744073709551616) : Calls Try.prog 49 #[.float .f64 x, .float .f64 y] w fun e w' => e = .returned (.int .i64 (ordP x y)) ∧ w = w' := by
  have hr1 := rank_bounds x
  have hr2 := rank_bounds y
  have hr : ∀ w, Calls Try.prog 32 #[.float .f64 x] w fun e w' => e = .returned (.int .i64 (rankP x)) ∧ w = w' := fun w => Rank_any x w hx
  have hs : ∀ w, Calls Try.prog 32 #[.float .f64 y] w fun e w' => e = .returned (.int .i64 (rankP y)) ∧ w = w' := fun w => Rank_any y w hy
  unfold ordP
  generalize rankP x = r at *
  generalize rankP y = s at *
  have HR := Lib.hid hr
  have HS := Lib.hid hs
  clear hr hs
  by_cases h1 : r < s
  · rw [if_pos h1]
    go_enter Try.func49, Try.ntmps49
    go_wp2_with fail
    refine (HR.out _).mono ?_
    rintro e w' ⟨rfl, rfl⟩
    go_wp2_with fail
    refine (HS.out _).mono ?_
    rintro e w' ⟨rfl, rfl⟩
    go_wp2_with fail
    go_ret
    exact ⟨rfl, rfl⟩
  · rw [if_neg h1]
    by_cases h2 : s < r
    · rw [if_pos h2]
      go_enter Try.func49, Try.ntmps49
      go_wp2_with fail
      refine (HR.out _).mono ?_
      rintro e w' ⟨rfl, rfl⟩
      go_wp2_with fail
      refine (HS.out _).mono ?_
      rintro e w' ⟨rfl, rfl⟩
      go_wp2_with fail
      go_ret
      exact ⟨rfl, rfl⟩
    · rw [if_neg h2]
      go_enter Try.func49, Try.ntmps49
      go_wp2_with fail
      refine (HR.out _).mono ?_
      rintro e w' ⟨rfl, rfl⟩
      go_wp2_with fail
      refine (HS.out _).mono ?_
      rintro e w' ⟨rfl, rfl⟩
      go_wp2_with fail
      go_ret
      exact ⟨rfl, rfl⟩

theorem RClass_any (x : Nat) (w : World) (hx : x < 18446744073709551616) : Calls Try.prog 51 #[.float .f64 x] w fun e w' => e = .returned (.int .i64 (classQ x)) ∧ w = w' := by
  unfold classQ
  have o1 := ne_order x hx
  have o2 := gt_order x 9218868437227405311 hx (by omega)
  have o3 := gt_order x 0 hx (by omega)
  have o4 := lt_order x 18442240474082181119 hx (by omega)
  have o5 := lt_order x 0 hx (by omega)
  cases h1 : fnan x with
  | true => 
    go_enter Try.func51, Try.ntmps51
    go_wp2_with fail
    go_ret
    exact ⟨rfl, rfl⟩
  | false =>
    cases h2 : fltB 9218868437227405311 x with
    | true => 
      go_enter Try.func51, Try.ntmps51
      go_wp2_with fail
      go_ret
      exact ⟨rfl, rfl⟩
    | false =>
      cases h3 : fltB 0 x with
      | true => 
        go_enter Try.func51, Try.ntmps51
        go_wp2_with fail
        go_ret
        exact ⟨rfl, rfl⟩
      | false =>
        cases h4 : fltB x 18442240474082181119 with
        | true => 
          go_enter Try.func51, Try.ntmps51
          go_wp2_with fail
          go_ret
          exact ⟨rfl, rfl⟩
        | false =>
          cases h5 : fltB x 0 with
          | true => 
            go_enter Try.func51, Try.ntmps51
            go_wp2_with fail
            go_ret
            exact ⟨rfl, rfl⟩
          | false =>
            have hz : x = 0 ∨ x = 9223372036854775808 := by
              have n3 : fnan 0 = false := by decide
              unfold fltB at h3 h5
              rw [h1, n3] at h3 h5
              simp only [Bool.or_self, Bool.not_false, Bool.true_and, fval_zero, decide_eq_false_iff_not] at h3 h5
              have hv : fval x = 0 := by omega
              unfold fval side at hv
              rcases sgn_cases x hx with ⟨g1, g2⟩ | ⟨g1, g2⟩
              · rw [if_pos g1] at hv; right; omega
              · rw [if_neg (by simp [g1])] at hv; left; omega
            rcases hz with rfl | rfl
            · have hq : ∀ w : World, (binOp .quo 25 (.float .f64 4607182418800017408) (.float .f64 0)).run Try.prog w = .ok (.float .f64 9218868437227405312) w := fun w => run_float_arith w .quo _ .f64 _ _ _ (by kernel_rfl)
              have o6 := lt_order 9218868437227405312 0 (by omega) (by omega)
              have o7 : fltB 9218868437227405312 0 = false := by decide
              rw [o7] at o6
              have s0 : sgn 0 = false := by decide
              rw [s0]
              go_enter Try.func51, Try.ntmps51
              go_wp2_with fail
              go_ret
              exact ⟨rfl, rfl⟩
            · have hq : ∀ w : World, (binOp .quo 25 (.float .f64 4607182418800017408) (.float .f64 9223372036854775808)).run Try.prog w = .ok (.float .f64 18442240474082181120) w := fun w => run_float_arith w .quo _ .f64 _ _ _ (by kernel_rfl)
              have o6 := lt_order 18442240474082181120 0 (by omega) (by omega)
              have o7 : fltB 18442240474082181120 0 = true := by decide
              rw [o7] at o6
              have s0 : sgn 9223372036854775808 = true := by decide
              rw [s0]
              go_enter Try.func51, Try.ntmps51
              go_wp2_with fail
              go_ret
              exact ⟨rfl, rfl⟩

theorem Bits_any (x : Nat) (w : World) (hx : x < 18446744073709551616) : Calls Try.prog 30 #[.float .f64 x] w fun e w' => e = .returned (.int .u64 (canB x)) ∧ w = w' := by
  have hbits := run_bits
  have o1 := ne_order x hx
  unfold canB
  cases h1 : fnan x with
  | true =>
    go_enter Try.func30, Try.ntmps30
    go_wp2_with fail
    go_ret
    exact ⟨rfl, rfl⟩
  | false =>
    go_enter Try.func30, Try.ntmps30
    go_wp2_with fail
    go_ret
    exact ⟨rfl, rfl⟩

theorem Same_any (x y : Nat) (w : World) (hx : x < 18446744073709551616) (hy : y < 18446744073709551616) : Calls Try.prog 14 #[.float .f64 x, .float .f64 y] w fun e w' => e = .returned (.bool (((canB x : Nat) : Int) == ((canB y : Nat) : Int))) ∧ w = w' := by
  go_enter Try.func14, Try.ntmps14
  go_wp2_with fail
  refine (Bits_any x _ hx).mono ?_
  rintro e w' ⟨rfl, rfl⟩
  go_wp2_with fail
  refine (Bits_any y _ hy).mono ?_
  rintro e w' ⟨rfl, rfl⟩
  go_wp2_with fail
  go_ret
  exact ⟨rfl, rfl⟩

theorem ROrder_any (x y : Nat) (w : World) (hx : x < 18446744073709551616) (hy : y < 18446744073709551616) : Calls Try.prog 29 #[.float .f64 x, .float .f64 y] w fun e w' => e = .returned (.int .i64 (ordQ x y)) ∧ w = w' := by
  have hr : ∀ w, Calls Try.prog 51 #[.float .f64 x] w fun e w' => e = .returned (.int .i64 (classQ x)) ∧ w = w' := fun w => RClass_any x w hx
  have hs : ∀ w, Calls Try.prog 51 #[.float .f64 y] w fun e w' => e = .returned (.int .i64 (classQ y)) ∧ w = w' := fun w => RClass_any y w hy
  have o1 := lt_order x y hx hy
  have o2 := gt_order x y hx hy
  unfold ordQ
  generalize classQ x = r at *
  generalize classQ y = s at *
  have HR := Lib.hid hr
  have HS := Lib.hid hs
  clear hr hs
  have d1 : ((r : Int) < (s : Int)) ∨ ((r : Int) = (s : Int)) ∨ ((s : Int) < (r : Int)) := by omega
  rcases d1 with d1 | d1 | d1
  · rw [if_pos (Or.inl (by omega))]
    go_enter Try.func29, Try.ntmps29
    go_wp2_with fail
    refine (HR.out _).mono ?_
    rintro e w' ⟨rfl, rfl⟩
    go_wp2_with fail
    refine (HS.out _).mono ?_
    rintro e w' ⟨rfl, rfl⟩
    go_wp2_with fail
    go_ret
    exact ⟨rfl, rfl⟩
  · obtain rfl : r = s := by omega
    have d2 : ¬ (r : Int) < (r : Int) := by omega
    clear d1
    cases h1 : fltB x y <;> cases h2 : fltB y x
    all_goals simp only [Nat.lt_irrefl, false_or, true_and, Bool.false_eq_true, if_true, if_false]
    all_goals
      go_enter Try.func29, Try.ntmps29
      go_wp2_with fail
      refine (HR.out _).mono ?_
      rintro e w' ⟨rfl, rfl⟩
      go_wp2_with fail
      refine (HS.out _).mono ?_
      rintro e w' ⟨rfl, rfl⟩
      go_wp2_with fail
      go_ret
      exact ⟨rfl, rfl⟩
  · rw [if_neg (by omega), if_pos (Or.inl (by omega))]
    have d2 : ¬ (r : Int) < (s : Int) := by omega
    have d3 : ((r : Int) == (s : Int)) = false := by simp; omega
    go_enter Try.func29, Try.ntmps29
    go_wp2_with fail
    refine (HR.out _).mono ?_
    rintro e w' ⟨rfl, rfl⟩
    go_wp2_with fail
    refine (HS.out _).mono ?_
    rintro e w' ⟨rfl, rfl⟩
    go_wp2_with fail
    go_ret
    exact ⟨rfl, rfl⟩
end Go.Proofs.Ytdociiogddihfaa
