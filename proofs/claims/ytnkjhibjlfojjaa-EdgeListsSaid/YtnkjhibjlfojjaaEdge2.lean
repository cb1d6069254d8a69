/- Contracts of the package edge: the class by thresholds; the reference's ranks. -/
import Derived.Test.YtnkjhibjlfojjaaEdge
namespace Go.Proofs.Ytnkjhibjlfojjaa
open Go.RowKit

set_option maxHeartbeats 1000000 in
theorem Class_any (x : Nat) (w : World) (hx : x < 18446744073709551616) : Calls Try.prog 14 #[.float .f64 x] w fun e w' => e = .returned (.int .i64 (classP x)) ∧ w = w' := by
  rw [← cntP_six x]
  have hr : ∀ w, Calls Try.prog 16 #[.float .f64 x] w fun e w' => e = .returned (.int .i64 (rankP x)) ∧ w = w' := fun w => Rank_any x w hx
  generalize rankP x = n at *
  have HR := Lib.hid hr
  clear hr
  have i0 : ∀ (w : World) a b c d e f, (Instr.index 72 (.agg #[a, b, c, d, e, f]) (.int .i64 0)).run Try.prog w = .ok a w := fun _ _ _ _ _ _ _ => by kernel_rfl
  have i1 : ∀ (w : World) a b c d e f, (Instr.index 72 (.agg #[a, b, c, d, e, f]) (.int .i64 1)).run Try.prog w = .ok b w := fun _ _ _ _ _ _ _ => by kernel_rfl
  have i2 : ∀ (w : World) a b c d e f, (Instr.index 72 (.agg #[a, b, c, d, e, f]) (.int .i64 2)).run Try.prog w = .ok c w := fun _ _ _ _ _ _ _ => by kernel_rfl
  have i3 : ∀ (w : World) a b c d e f, (Instr.index 72 (.agg #[a, b, c, d, e, f]) (.int .i64 3)).run Try.prog w = .ok d w := fun _ _ _ _ _ _ _ => by kernel_rfl
  have i4 : ∀ (w : World) a b c d e f, (Instr.index 72 (.agg #[a, b, c, d, e, f]) (.int .i64 4)).run Try.prog w = .ok e w := fun _ _ _ _ _ _ _ => by kernel_rfl
  have i5 : ∀ (w : World) a b c d e f, (Instr.index 72 (.agg #[a, b, c, d, e, f]) (.int .i64 5)).run Try.prog w = .ok f w := fun _ _ _ _ _ _ _ => by kernel_rfl
  go_enter Try.func14, Try.ntmps14
  go_wp2_with fail
  refine (HR.out _).mono ?_
  rintro e w' ⟨rfl, rfl⟩
  go_wp2_with fail
  go_loop [2, 9] (fun s2 s9 => ∃ i : Int, 0 ≤ i ∧ i ≤ 6 ∧ s9 = .int .i64 i ∧ s2 = .int .i64 (cntP n i.toNat)) (fun _ s9 => (6 - intOf s9).toNat)
  case atStart => exact ⟨0, by omega, by omega, rfl, rfl⟩
  case round =>
    obtain ⟨i, h0, h6, rfl, rfl⟩ := hrel
    have hc := cntP_le n i.toNat
    have hs : cntP n (i.toNat + 1) = cntP n i.toNat + (if thr i.toNat ≤ n then 1 else 0) := rfl
    have d : i = 0 ∨ i = 1 ∨ i = 2 ∨ i = 3 ∨ i = 4 ∨ i = 5 ∨ i = 6 := by omega
    rcases d with rfl | rfl | rfl | rfl | rfl | rfl | rfl
    · have hs' : cntP n 1 = cntP n 0 + (if (-9218868437227405312 : Int) ≤ n then 1 else 0) := hs
      have hc' : cntP n 0 ≤ 0 := hc
      clear hs hc
      have c0 : (((0 : Int).toNat : Nat)) = 0 := rfl
      rw [c0]
      by_cases ht : (-9218868437227405312 : Int) ≤ n
      · rw [if_pos ht] at hs'
        have HSS := Lib.hid hs'
        clear hs' c0
        go_wp2_with fail
        go_round
        case rel => exact ⟨1, by omega, by omega, rfl, by show _ = Value.int .i64 (cntP n 1); rw [HSS.out]; go_num⟩
        case measure => simp [intOf]
      · rw [if_neg ht] at hs'
        have HSS := Lib.hid hs'
        clear hs' c0
        go_wp2_with fail
        go_round
        case rel => exact ⟨1, by omega, by omega, rfl, by show _ = Value.int .i64 (cntP n 1); rw [HSS.out]; go_num⟩
        case measure => simp [intOf]
    · have hs' : cntP n 2 = cntP n 1 + (if (-1 : Int) ≤ n then 1 else 0) := hs
      have hc' : cntP n 1 ≤ 1 := hc
      clear hs hc
      have c0 : (((1 : Int).toNat : Nat)) = 1 := rfl
      rw [c0]
      by_cases ht : (-1 : Int) ≤ n
      · rw [if_pos ht] at hs'
        have HSS := Lib.hid hs'
        clear hs' c0
        go_wp2_with fail
        go_round
        case rel => exact ⟨2, by omega, by omega, rfl, by show _ = Value.int .i64 (cntP n 2); rw [HSS.out]; go_num⟩
        case measure => simp [intOf]
      · rw [if_neg ht] at hs'
        have HSS := Lib.hid hs'
        clear hs' c0
        go_wp2_with fail
        go_round
        case rel => exact ⟨2, by omega, by omega, rfl, by show _ = Value.int .i64 (cntP n 2); rw [HSS.out]; go_num⟩
        case measure => simp [intOf]
    · have hs' : cntP n 3 = cntP n 2 + (if (0 : Int) ≤ n then 1 else 0) := hs
      have hc' : cntP n 2 ≤ 2 := hc
      clear hs hc
      have c0 : (((2 : Int).toNat : Nat)) = 2 := rfl
      rw [c0]
      by_cases ht : (0 : Int) ≤ n
      · rw [if_pos ht] at hs'
        have HSS := Lib.hid hs'
        clear hs' c0
        go_wp2_with fail
        go_round
        case rel => exact ⟨3, by omega, by omega, rfl, by show _ = Value.int .i64 (cntP n 3); rw [HSS.out]; go_num⟩
        case measure => simp [intOf]
      · rw [if_neg ht] at hs'
        have HSS := Lib.hid hs'
        clear hs' c0
        go_wp2_with fail
        go_round
        case rel => exact ⟨3, by omega, by omega, rfl, by show _ = Value.int .i64 (cntP n 3); rw [HSS.out]; go_num⟩
        case measure => simp [intOf]
    · have hs' : cntP n 4 = cntP n 3 + (if (1 : Int) ≤ n then 1 else 0) := hs
      have hc' : cntP n 3 ≤ 3 := hc
      clear hs hc
      have c0 : (((3 : Int).toNat : Nat)) = 3 := rfl
      rw [c0]
      by_cases ht : (1 : Int) ≤ n
      · rw [if_pos ht] at hs'
        have HSS := Lib.hid hs'
        clear hs' c0
        go_wp2_with fail
        go_round
        case rel => exact ⟨4, by omega, by omega, rfl, by show _ = Value.int .i64 (cntP n 4); rw [HSS.out]; go_num⟩
        case measure => simp [intOf]
      · rw [if_neg ht] at hs'
        have HSS := Lib.hid hs'
        clear hs' c0
        go_wp2_with fail
        go_round
        case rel => exact ⟨4, by omega, by omega, rfl, by show _ = Value.int .i64 (cntP n 4); rw [HSS.out]; go_num⟩
        case measure => simp [intOf]
    · have hs' : cntP n 5 = cntP n 4 + (if (9218868437227405312 : Int) ≤ n then 1 else 0) := hs
      have hc' : cntP n 4 ≤ 4 := hc
      clear hs hc
      have c0 : (((4 : Int).toNat : Nat)) = 4 := rfl
      rw [c0]
      by_cases ht : (9218868437227405312 : Int) ≤ n
      · rw [if_pos ht] at hs'
        have HSS := Lib.hid hs'
        clear hs' c0
        go_wp2_with fail
        go_round
        case rel => exact ⟨5, by omega, by omega, rfl, by show _ = Value.int .i64 (cntP n 5); rw [HSS.out]; go_num⟩
        case measure => simp [intOf]
      · rw [if_neg ht] at hs'
        have HSS := Lib.hid hs'
        clear hs' c0
        go_wp2_with fail
        go_round
        case rel => exact ⟨5, by omega, by omega, rfl, by show _ = Value.int .i64 (cntP n 5); rw [HSS.out]; go_num⟩
        case measure => simp [intOf]
    · have hs' : cntP n 6 = cntP n 5 + (if (9218868437227405313 : Int) ≤ n then 1 else 0) := hs
      have hc' : cntP n 5 ≤ 5 := hc
      clear hs hc
      have c0 : (((5 : Int).toNat : Nat)) = 5 := rfl
      rw [c0]
      by_cases ht : (9218868437227405313 : Int) ≤ n
      · rw [if_pos ht] at hs'
        have HSS := Lib.hid hs'
        clear hs' c0
        go_wp2_with fail
        go_round
        case rel => exact ⟨6, by omega, by omega, rfl, by show _ = Value.int .i64 (cntP n 6); rw [HSS.out]; go_num⟩
        case measure => simp [intOf]
      · rw [if_neg ht] at hs'
        have HSS := Lib.hid hs'
        clear hs' c0
        go_wp2_with fail
        go_round
        case rel => exact ⟨6, by omega, by omega, rfl, by show _ = Value.int .i64 (cntP n 6); rw [HSS.out]; go_num⟩
        case measure => simp [intOf]
    · clear hs hc
      go_wp2_with fail
      go_ret
      exact ⟨rfl, rfl⟩

theorem RRank_any (x : Nat) (w : World) (hx : x < 18446744073709551616) : Calls Try.prog 17 #[.float .f64 x] w fun e w' => e = .returned (.int .i64 (rankP x)) ∧ w = w' := by
  have hbits := run_bits
  have o1 := ne_order x hx
  cases h : fnan x with
  | true =>
    have hr : rankP x = 9218868437227405313 := by unfold rankP; rw [if_pos h]
    rw [hr]
    go_enter Try.func17, Try.ntmps17
    go_wp2_with fail
    go_ret
    exact ⟨rfl, rfl⟩
  | false =>
    have hrr := rank_ref x hx h
    have hrl := rung_lt x
    have ha := andNot_top x hx
    have hs : ∀ w, Calls Try.prog 15 #[.float .f64 x] w fun e w' => e = .returned (.int .i64 (classQ x)) ∧ w = w' := fun w => RClass_any x w hx
    rw [hrr]
    clear hrr
    have HS := Lib.hid hs
    generalize classQ x = c at *
    clear hs
    have hw : wrap64 (rung x : Int) = (rung x : Int) := IntWalk.wrap64_in _ ⟨by omega, by omega⟩
    by_cases hc : (c : Int) < 3
    · rw [if_pos (show c < 3 by omega)]
      have hw2 : IntKind.i64.wrap (-1 - (rung x : Int)) = -1 - (rung x : Int) := IntWalk.i64_in _ ⟨by omega, by omega⟩
      generalize rung x = r at *
      go_enter Try.func17, Try.ntmps17
      go_wp2_with fail
      refine (HS.out _).mono ?_
      rintro e w' ⟨rfl, rfl⟩
      go_wp2_with fail
      go_ret
      exact ⟨rfl, rfl⟩
    · rw [if_neg (show ¬ c < 3 by omega)]
      generalize rung x = r at *
      go_enter Try.func17, Try.ntmps17
      go_wp2_with fail
      refine (HS.out _).mono ?_
      rintro e w' ⟨rfl, rfl⟩
      go_wp2_with fail
      go_ret
      exact ⟨rfl, rfl⟩

theorem RAt_any (r : Int) (w : World) (h1 : -9223372036854775808 ≤ r) (h2 : r ≤ 9223372036854775807) : Calls Try.prog 20 #[.int .i64 r] w fun e w' => e = .returned (.float .f64 (atP r)) ∧ w = w' := by
  have hfrom := run_frombits
  by_cases h3 : 9218868437227405312 < r
  · rw [atP_high r h3]
    go_enter Try.func20, Try.ntmps20
    go_wp2_with (go_at_call 36; refine (NaN_any _).mono ?_; rintro e w' ⟨rfl, rfl⟩)
    go_ret
    exact ⟨rfl, rfl⟩
  · by_cases h4 : r < -9218868437227405313
    · have ho := or_top 9218868437227405312 (by omega)
      rw [atP_low r h4, atP_neg _ (by omega)]
      go_enter Try.func20, Try.ntmps20
      go_wp2_with fail
      go_ret
      exact ⟨rfl, rfl⟩
    · by_cases h5 : r < 0
      · have ho := or_top (-1 - r).toNat (by omega)
        have hc : ((-1 - r).toNat : Int) = -1 - r := by omega
        rw [hc] at ho
        have hw : IntKind.u64.wrap (-1 - r) = -1 - r := IntWalk.u64_in _ ⟨by omega, by omega⟩
        have hm : max r (-9218868437227405313) = r := by omega
        rw [atP_neg _ (by omega), hm]
        clear hc hm
        go_enter Try.func20, Try.ntmps20
        go_wp2_with fail
        go_ret
        exact ⟨ret_float (by omega), rfl⟩
      · rw [atP_pos _ (by omega) (by omega)]
        go_enter Try.func20, Try.ntmps20
        go_wp2_with fail
        go_ret
        exact ⟨rfl, rfl⟩
end Go.Proofs.Ytnkjhibjlfojjaa
