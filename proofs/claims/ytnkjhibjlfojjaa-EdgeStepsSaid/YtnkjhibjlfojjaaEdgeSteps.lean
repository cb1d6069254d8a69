/- The law EdgeSteps: ranks stand as the floats do. -/
import Derived.Test.YtnkjhibjlfojjaaEdgeLaw
namespace Go.Proofs.Ytnkjhibjlfojjaa
open Go.ChangeShapes Go.WideShapes Go.ChangeAt Go.RowKit

theorem rank_at (r : Int) (h : r ≤ 9223372036854775807) : rankP (atP r) = max (min r 9218868437227405313) (-9218868437227405313) := by
  by_cases h1 : 9218868437227405312 < r
  · rw [atP_high r h1]
    have : rankP 9221120237041090561 = 9218868437227405313 := by decide
    omega
  · by_cases h2 : r < 0
    · have e := atP_neg r h2
      have h4 : rung (atP r) = (-1 - max r (-9218868437227405313)).toNat := by unfold rung; omega
      have h5 : fnan (atP r) = false := by unfold fnan; rw [decide_eq_false_iff_not]; omega
      have h6 : sgn (atP r) = true := by unfold sgn; rw [decide_eq_true_eq]; omega
      unfold rankP
      rw [if_neg (by simp [h5]), if_pos h6]; omega
    · have e := atP_pos r (by omega) (by omega)
      have h4 : rung (atP r) = r.toNat := by unfold rung; omega
      have h5 : fnan (atP r) = false := by unfold fnan; rw [decide_eq_false_iff_not]; omega
      have h6 : sgn (atP r) = false := by unfold sgn; rw [decide_eq_false_iff_not]; omega
      unfold rankP
      rw [if_neg (by simp [h5]), if_neg (by simp [h6])]; omega
theorem at_step (r : Int) (h0 : -9223372036854775808 ≤ r) (h : r < 9223372036854775807) : ordP (atP r) (atP (r + 1)) = -1 ∨ (ordP (atP r) (atP (r + 1)) = 0 ∧ (classP (atP r) = 0 ∨ classP (atP r) = 6)) := by
  have e1 := rank_at r (by omega)
  have e2 := rank_at (r + 1) (by omega)
  unfold ordP
  by_cases h1 : rankP (atP r) < rankP (atP (r + 1))
  · rw [if_pos h1]; exact .inl rfl
  · rw [if_neg h1, if_neg (by omega)]
    refine .inr ⟨rfl, ?_⟩
    have h3 : rankP (atP r) = -9218868437227405313 ∨ rankP (atP r) = 9218868437227405313 := by omega
    unfold classP
    rcases h3 with h3 | h3 <;> rw [h3]
    · exact .inl (by decide)
    · exact .inr (by decide)

set_option maxHeartbeats 8000000 in
theorem edgeSteps_walk (x y : Nat) (r : Int) (w : World) (hx : x < 18446744073709551616) (hy : y < 18446744073709551616) (h0 : -9223372036854775808 ≤ r) (h1 : r ≤ 9223372036854775807) :
    Calls Try.prog 5 #[.int .u64 x, .int .u64 y, .int .i64 r] w fun e w' => e = .returned (.bool true) ∧ Below w.heap.size w w' := by
  have hfrom := run_frombits
  have o1 := lt_order x y hx hy
  have o2 := gt_order x y hx hy
  have hr : ∀ w, Calls Try.prog 16 #[.float .f64 x] w fun e w' => e = .returned (.int .i64 (rankP x)) ∧ w = w' := fun w => Rank_any x w hx
  have hs : ∀ w, Calls Try.prog 16 #[.float .f64 y] w fun e w' => e = .returned (.int .i64 (rankP y)) ∧ w = w' := fun w => Rank_any y w hy
  have ho : ∀ w, Calls Try.prog 12 #[.float .f64 x, .float .f64 y] w fun e w' => e = .returned (.int .i64 (ordP x y)) ∧ w = w' := fun w => Order_any x y w hx hy
  have hf1 := flt_rank x y hx hy
  have hf2 := flt_rank y x hy hx
  have hat : ∀ w, Calls Try.prog 19 #[.int .i64 r] w fun e w' => e = .returned (.float .f64 (atP r)) ∧ w = w' := fun w => At_any r w h0 h1
  unfold ordP at ho
  have HR := Lib.hid hr
  have HS := Lib.hid hs
  have HO := Lib.hid ho
  have HAT := Lib.hid hat
  clear hr hs ho hat
  generalize rankP x = p at *
  generalize rankP y = q at *
  generalize fltB x y = b1 at *
  generalize fltB y x = b2 at *
  have cs : (p < q ∧ b2 = false) ∨ (p = q ∧ b1 = false ∧ b2 = false) ∨ (q < p ∧ b1 = false) := by
    cases b1 <;> cases b2 <;> simp at hf1 hf2 ⊢ <;> omega
  clear hf1 hf2
  rcases Int.lt_or_eq_of_le h1 with h2 | h2
  · have hst := at_step r h0 h2
    have ha1 := atP_lt r h1
    have ha2 := atP_lt (r + 1) (by omega)
    have hat : ∀ w, Calls Try.prog 19 #[.int .i64 (r + 1)] w fun e w' => e = .returned (.float .f64 (atP (r + 1))) ∧ w = w' := fun w => At_any _ w (by omega) (by omega)
    have ho : ∀ w, Calls Try.prog 12 #[.float .f64 (atP r), .float .f64 (atP (r + 1))] w fun e w' => e = .returned (.int .i64 (ordP (atP r) (atP (r + 1)))) ∧ w = w' := fun w => Order_any _ _ w ha1 ha2
    have hc : ∀ w, Calls Try.prog 14 #[.float .f64 (atP r)] w fun e w' => e = .returned (.int .i64 (classP (atP r))) ∧ w = w' := fun w => Class_any _ w ha1
    have HA2 := Lib.hid hat
    have HO2 := Lib.hid ho
    have HC := Lib.hid hc
    clear hat ho hc
    generalize ordP (atP r) (atP (r + 1)) = o at *
    generalize classP (atP r) = c at *
    generalize atP r = f at *
    generalize atP (r + 1) = g at *
    have hne : (r == 9223372036854775807) = false := by simp; omega
    rcases cs with ⟨c1, rfl⟩ | ⟨c1, rfl, rfl⟩ | ⟨c1, rfl⟩
    · have c2 : ¬ q < p := by omega
      rw [if_pos c1] at HO
      rcases hst with rfl | ⟨rfl, rfl | rfl⟩
      · cases b1
        all_goals
          go_enter Try.func5, Try.ntmps5
          go_wp2_with fail
          refine (awake05_any _).mono ?_
          rintro e w1 ⟨rfl, hb1⟩
          have HB := Lib.hid hb1
          clear hb1
          go_wp2_with fail
          refine (HR.out _).mono ?_
          rintro e w' ⟨rfl, rfl⟩
          go_wp2_with fail
          refine (HS.out _).mono ?_
          rintro e w' ⟨rfl, rfl⟩
          go_wp2_with fail
          refine (HO.out _).mono ?_
          rintro e w' ⟨rfl, rfl⟩
          go_wp2_with fail
          refine (HAT.out _).mono ?_
          rintro e w' ⟨rfl, rfl⟩
          go_wp2_with fail
          refine (HA2.out _).mono ?_
          rintro e w' ⟨rfl, rfl⟩
          go_wp2_with fail
          refine (HO2.out _).mono ?_
          rintro e w' ⟨rfl, rfl⟩
          go_wp2_with fail
          refine (HO2.out _).mono ?_
          rintro e w' ⟨rfl, rfl⟩
          go_wp2_with fail
          go_ret
          exact ⟨rfl, HB.out⟩
      · cases b1
        all_goals
          go_enter Try.func5, Try.ntmps5
          go_wp2_with fail
          refine (awake05_any _).mono ?_
          rintro e w1 ⟨rfl, hb1⟩
          have HB := Lib.hid hb1
          clear hb1
          go_wp2_with fail
          refine (HR.out _).mono ?_
          rintro e w' ⟨rfl, rfl⟩
          go_wp2_with fail
          refine (HS.out _).mono ?_
          rintro e w' ⟨rfl, rfl⟩
          go_wp2_with fail
          refine (HO.out _).mono ?_
          rintro e w' ⟨rfl, rfl⟩
          go_wp2_with fail
          refine (HAT.out _).mono ?_
          rintro e w' ⟨rfl, rfl⟩
          go_wp2_with fail
          refine (HA2.out _).mono ?_
          rintro e w' ⟨rfl, rfl⟩
          go_wp2_with fail
          refine (HO2.out _).mono ?_
          rintro e w' ⟨rfl, rfl⟩
          go_wp2_with fail
          refine (HO2.out _).mono ?_
          rintro e w' ⟨rfl, rfl⟩
          go_wp2_with fail
          refine (HC.out _).mono ?_
          rintro e w' ⟨rfl, rfl⟩
          go_wp2_with fail
          go_ret
          exact ⟨rfl, HB.out⟩
      · cases b1
        all_goals
          go_enter Try.func5, Try.ntmps5
          go_wp2_with fail
          refine (awake05_any _).mono ?_
          rintro e w1 ⟨rfl, hb1⟩
          have HB := Lib.hid hb1
          clear hb1
          go_wp2_with fail
          refine (HR.out _).mono ?_
          rintro e w' ⟨rfl, rfl⟩
          go_wp2_with fail
          refine (HS.out _).mono ?_
          rintro e w' ⟨rfl, rfl⟩
          go_wp2_with fail
          refine (HO.out _).mono ?_
          rintro e w' ⟨rfl, rfl⟩
          go_wp2_with fail
          refine (HAT.out _).mono ?_
          rintro e w' ⟨rfl, rfl⟩
          go_wp2_with fail
          refine (HA2.out _).mono ?_
          rintro e w' ⟨rfl, rfl⟩
          go_wp2_with fail
          refine (HO2.out _).mono ?_
          rintro e w' ⟨rfl, rfl⟩
          go_wp2_with fail
          refine (HO2.out _).mono ?_
          rintro e w' ⟨rfl, rfl⟩
          go_wp2_with fail
          refine (HC.out _).mono ?_
          rintro e w' ⟨rfl, rfl⟩
          go_wp2_with fail
          refine (HC.out _).mono ?_
          rintro e w' ⟨rfl, rfl⟩
          go_wp2_with fail
          go_ret
          exact ⟨rfl, HB.out⟩
    · have c2 : ¬ q < p := by omega
      have c3 : ¬ p < q := by omega
      rw [if_neg c3, if_neg c2] at HO
      clear c1
      rcases hst with rfl | ⟨rfl, rfl | rfl⟩
      · skip
        go_enter Try.func5, Try.ntmps5
        go_wp2_with fail
        refine (awake05_any _).mono ?_
        rintro e w1 ⟨rfl, hb1⟩
        have HB := Lib.hid hb1
        clear hb1
        go_wp2_with fail
        refine (HR.out _).mono ?_
        rintro e w' ⟨rfl, rfl⟩
        go_wp2_with fail
        refine (HS.out _).mono ?_
        rintro e w' ⟨rfl, rfl⟩
        go_wp2_with fail
        refine (HO.out _).mono ?_
        rintro e w' ⟨rfl, rfl⟩
        go_wp2_with fail
        refine (HAT.out _).mono ?_
        rintro e w' ⟨rfl, rfl⟩
        go_wp2_with fail
        refine (HA2.out _).mono ?_
        rintro e w' ⟨rfl, rfl⟩
        go_wp2_with fail
        refine (HO2.out _).mono ?_
        rintro e w' ⟨rfl, rfl⟩
        go_wp2_with fail
        refine (HO2.out _).mono ?_
        rintro e w' ⟨rfl, rfl⟩
        go_wp2_with fail
        go_ret
        exact ⟨rfl, HB.out⟩
      · skip
        go_enter Try.func5, Try.ntmps5
        go_wp2_with fail
        refine (awake05_any _).mono ?_
        rintro e w1 ⟨rfl, hb1⟩
        have HB := Lib.hid hb1
        clear hb1
        go_wp2_with fail
        refine (HR.out _).mono ?_
        rintro e w' ⟨rfl, rfl⟩
        go_wp2_with fail
        refine (HS.out _).mono ?_
        rintro e w' ⟨rfl, rfl⟩
        go_wp2_with fail
        refine (HO.out _).mono ?_
        rintro e w' ⟨rfl, rfl⟩
        go_wp2_with fail
        refine (HAT.out _).mono ?_
        rintro e w' ⟨rfl, rfl⟩
        go_wp2_with fail
        refine (HA2.out _).mono ?_
        rintro e w' ⟨rfl, rfl⟩
        go_wp2_with fail
        refine (HO2.out _).mono ?_
        rintro e w' ⟨rfl, rfl⟩
        go_wp2_with fail
        refine (HO2.out _).mono ?_
        rintro e w' ⟨rfl, rfl⟩
        go_wp2_with fail
        refine (HC.out _).mono ?_
        rintro e w' ⟨rfl, rfl⟩
        go_wp2_with fail
        go_ret
        exact ⟨rfl, HB.out⟩
      · skip
        go_enter Try.func5, Try.ntmps5
        go_wp2_with fail
        refine (awake05_any _).mono ?_
        rintro e w1 ⟨rfl, hb1⟩
        have HB := Lib.hid hb1
        clear hb1
        go_wp2_with fail
        refine (HR.out _).mono ?_
        rintro e w' ⟨rfl, rfl⟩
        go_wp2_with fail
        refine (HS.out _).mono ?_
        rintro e w' ⟨rfl, rfl⟩
        go_wp2_with fail
        refine (HO.out _).mono ?_
        rintro e w' ⟨rfl, rfl⟩
        go_wp2_with fail
        refine (HAT.out _).mono ?_
        rintro e w' ⟨rfl, rfl⟩
        go_wp2_with fail
        refine (HA2.out _).mono ?_
        rintro e w' ⟨rfl, rfl⟩
        go_wp2_with fail
        refine (HO2.out _).mono ?_
        rintro e w' ⟨rfl, rfl⟩
        go_wp2_with fail
        refine (HO2.out _).mono ?_
        rintro e w' ⟨rfl, rfl⟩
        go_wp2_with fail
        refine (HC.out _).mono ?_
        rintro e w' ⟨rfl, rfl⟩
        go_wp2_with fail
        refine (HC.out _).mono ?_
        rintro e w' ⟨rfl, rfl⟩
        go_wp2_with fail
        go_ret
        exact ⟨rfl, HB.out⟩
    · have c2 : ¬ p < q := by omega
      rw [if_neg c2, if_pos c1] at HO
      rcases hst with rfl | ⟨rfl, rfl | rfl⟩
      · cases b2
        all_goals
          go_enter Try.func5, Try.ntmps5
          go_wp2_with fail
          refine (awake05_any _).mono ?_
          rintro e w1 ⟨rfl, hb1⟩
          have HB := Lib.hid hb1
          clear hb1
          go_wp2_with fail
          refine (HR.out _).mono ?_
          rintro e w' ⟨rfl, rfl⟩
          go_wp2_with fail
          refine (HS.out _).mono ?_
          rintro e w' ⟨rfl, rfl⟩
          go_wp2_with fail
          refine (HO.out _).mono ?_
          rintro e w' ⟨rfl, rfl⟩
          go_wp2_with fail
          refine (HAT.out _).mono ?_
          rintro e w' ⟨rfl, rfl⟩
          go_wp2_with fail
          refine (HA2.out _).mono ?_
          rintro e w' ⟨rfl, rfl⟩
          go_wp2_with fail
          refine (HO2.out _).mono ?_
          rintro e w' ⟨rfl, rfl⟩
          go_wp2_with fail
          refine (HO2.out _).mono ?_
          rintro e w' ⟨rfl, rfl⟩
          go_wp2_with fail
          go_ret
          exact ⟨rfl, HB.out⟩
      · cases b2
        all_goals
          go_enter Try.func5, Try.ntmps5
          go_wp2_with fail
          refine (awake05_any _).mono ?_
          rintro e w1 ⟨rfl, hb1⟩
          have HB := Lib.hid hb1
          clear hb1
          go_wp2_with fail
          refine (HR.out _).mono ?_
          rintro e w' ⟨rfl, rfl⟩
          go_wp2_with fail
          refine (HS.out _).mono ?_
          rintro e w' ⟨rfl, rfl⟩
          go_wp2_with fail
          refine (HO.out _).mono ?_
          rintro e w' ⟨rfl, rfl⟩
          go_wp2_with fail
          refine (HAT.out _).mono ?_
          rintro e w' ⟨rfl, rfl⟩
          go_wp2_with fail
          refine (HA2.out _).mono ?_
          rintro e w' ⟨rfl, rfl⟩
          go_wp2_with fail
          refine (HO2.out _).mono ?_
          rintro e w' ⟨rfl, rfl⟩
          go_wp2_with fail
          refine (HO2.out _).mono ?_
          rintro e w' ⟨rfl, rfl⟩
          go_wp2_with fail
          refine (HC.out _).mono ?_
          rintro e w' ⟨rfl, rfl⟩
          go_wp2_with fail
          go_ret
          exact ⟨rfl, HB.out⟩
      · cases b2
        all_goals
          go_enter Try.func5, Try.ntmps5
          go_wp2_with fail
          refine (awake05_any _).mono ?_
          rintro e w1 ⟨rfl, hb1⟩
          have HB := Lib.hid hb1
          clear hb1
          go_wp2_with fail
          refine (HR.out _).mono ?_
          rintro e w' ⟨rfl, rfl⟩
          go_wp2_with fail
          refine (HS.out _).mono ?_
          rintro e w' ⟨rfl, rfl⟩
          go_wp2_with fail
          refine (HO.out _).mono ?_
          rintro e w' ⟨rfl, rfl⟩
          go_wp2_with fail
          refine (HAT.out _).mono ?_
          rintro e w' ⟨rfl, rfl⟩
          go_wp2_with fail
          refine (HA2.out _).mono ?_
          rintro e w' ⟨rfl, rfl⟩
          go_wp2_with fail
          refine (HO2.out _).mono ?_
          rintro e w' ⟨rfl, rfl⟩
          go_wp2_with fail
          refine (HO2.out _).mono ?_
          rintro e w' ⟨rfl, rfl⟩
          go_wp2_with fail
          refine (HC.out _).mono ?_
          rintro e w' ⟨rfl, rfl⟩
          go_wp2_with fail
          refine (HC.out _).mono ?_
          rintro e w' ⟨rfl, rfl⟩
          go_wp2_with fail
          go_ret
          exact ⟨rfl, HB.out⟩
  · subst h2
    clear HAT
    rcases cs with ⟨c1, rfl⟩ | ⟨c1, rfl, rfl⟩ | ⟨c1, rfl⟩
    · have c2 : ¬ q < p := by omega
      rw [if_pos c1] at HO
      cases b1
      all_goals
        go_enter Try.func5, Try.ntmps5
        go_wp2_with fail
        refine (awake05_any _).mono ?_
        rintro e w1 ⟨rfl, hb1⟩
        have HB := Lib.hid hb1
        clear hb1
        go_wp2_with fail
        refine (HR.out _).mono ?_
        rintro e w' ⟨rfl, rfl⟩
        go_wp2_with fail
        refine (HS.out _).mono ?_
        rintro e w' ⟨rfl, rfl⟩
        go_wp2_with fail
        refine (HO.out _).mono ?_
        rintro e w' ⟨rfl, rfl⟩
        go_wp2_with fail
        go_ret
        exact ⟨rfl, HB.out⟩
    · have c2 : ¬ q < p := by omega
      have c3 : ¬ p < q := by omega
      rw [if_neg c3, if_neg c2] at HO
      clear c1
      go_enter Try.func5, Try.ntmps5
      go_wp2_with fail
      refine (awake05_any _).mono ?_
      rintro e w1 ⟨rfl, hb1⟩
      have HB := Lib.hid hb1
      clear hb1
      go_wp2_with fail
      refine (HR.out _).mono ?_
      rintro e w' ⟨rfl, rfl⟩
      go_wp2_with fail
      refine (HS.out _).mono ?_
      rintro e w' ⟨rfl, rfl⟩
      go_wp2_with fail
      refine (HO.out _).mono ?_
      rintro e w' ⟨rfl, rfl⟩
      go_wp2_with fail
      go_ret
      exact ⟨rfl, HB.out⟩
    · have c2 : ¬ p < q := by omega
      rw [if_neg c2, if_pos c1] at HO
      cases b2
      all_goals
        go_enter Try.func5, Try.ntmps5
        go_wp2_with fail
        refine (awake05_any _).mono ?_
        rintro e w1 ⟨rfl, hb1⟩
        have HB := Lib.hid hb1
        clear hb1
        go_wp2_with fail
        refine (HR.out _).mono ?_
        rintro e w' ⟨rfl, rfl⟩
        go_wp2_with fail
        refine (HS.out _).mono ?_
        rintro e w' ⟨rfl, rfl⟩
        go_wp2_with fail
        refine (HO.out _).mono ?_
        rintro e w' ⟨rfl, rfl⟩
        go_wp2_with fail
        go_ret
        exact ⟨rfl, HB.out⟩

theorem edgeSteps.law (H : Type) (enc : TypeId × Value → H) (W : World) (base : Nat)
    (v0 : Value) (d0 : DataW H) (p0 : List MemPlace) (g0 : Value.okWide Try.prog W .any base 22 v0) (h0 : DataW.Trod enc Try.prog W 0 (fun _ => true) true 22 v0 d0 p0)
    (v1 : Value) (d1 : DataW H) (p1 : List MemPlace) (g1 : Value.okWide Try.prog W .any base 22 v1) (h1 : DataW.Trod enc Try.prog W 0 (fun _ => true) true 22 v1 d1 p1)
    (v2 : Value) (d2 : DataW H) (p2 : List MemPlace) (g2 : Value.okWide Try.prog W .any base 2 v2) (h2 : DataW.Trod enc Try.prog W 0 (fun _ => true) true 2 v2 d2 p2)
    {ts : List TypeId} {es : List (DataW H)} (_hsz : (DataW.weightsEach Try.prog ([22, 22, 2] ++ ts) ([d0, d1, d2] ++ es)).all (· ≤ reachBytes) = true) :
    Calls Try.prog 5 #[v0, v1, v2] W fun e W' => e = .returned (.bool true) ∧ Below W.heap.size W W' := by
  obtain ⟨a, rfl, _, _, wa⟩ := open_int Try.underlying22 g0 h0
  obtain ⟨a, rfl, ha⟩ := u64_nat wa
  obtain ⟨b, rfl, _, _, wb⟩ := open_int Try.underlying22 g1 h1
  obtain ⟨b, rfl, hb⟩ := u64_nat wb
  obtain ⟨r, rfl, _, _, wr⟩ := open_int Try.underlying2 g2 h2
  have hr := bounds_i64 wr
  exact edgeSteps_walk a b r W ha hb (by omega) (by omega)
end Go.Proofs.Ytnkjhibjlfojjaa
