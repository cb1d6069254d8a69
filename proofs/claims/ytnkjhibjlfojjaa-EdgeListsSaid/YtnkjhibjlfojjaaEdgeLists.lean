/- The law EdgeLists: the least and the most of floats. -/
import Derived.Test.YtnkjhibjlfojjaaEdgeList
import Derived.Test.YtnkjhibjlfojjaaEdgeLaw
import Derived.Test.YtnkjhibjlfojjaaWords
namespace Go.Proofs.Ytnkjhibjlfojjaa
open Go.ChangeShapes Go.WideShapes Go.ChangeAt Go.RowKit

theorem infoFloat : (Try.prog.info? 24).map (fun i => (i.zero, i.size, i.bytes)) = some (some (.float .f64 0), 1, 8) := by kernel_rfl
theorem mnFrom_le (l : List Nat) : ∀ n : Int, mnFrom n l ≤ n ∧ ∀ x ∈ l, mnFrom n l ≤ rankP x := by
  induction l with
  | nil => intro n; exact ⟨Int.le_refl _, by simp⟩
  | cons y l ih =>
    intro n
    obtain ⟨h1, h2⟩ := ih (min n (rankP y))
    refine ⟨by show mnFrom _ l ≤ n; omega, fun x hx => ?_⟩
    show mnFrom _ l ≤ _
    rcases List.mem_cons.1 hx with rfl | hx
    · omega
    · exact h2 x hx
theorem mxFrom_le (l : List Nat) : ∀ n : Int, n ≤ mxFrom n l ∧ ∀ x ∈ l, rankP x ≤ mxFrom n l := by
  induction l with
  | nil => intro n; exact ⟨Int.le_refl _, by simp⟩
  | cons y l ih =>
    intro n
    obtain ⟨h1, h2⟩ := ih (max n (rankP y))
    refine ⟨by show n ≤ mxFrom _ l; omega, fun x hx => ?_⟩
    show _ ≤ mxFrom _ l
    rcases List.mem_cons.1 hx with rfl | hx
    · omega
    · exact h2 x hx
theorem mnR_le (l : List Nat) (x : Nat) (h : x ∈ l) : mnR l ≤ rankP x := by
  cases l with
  | nil => cases h
  | cons y l => exact (mnFrom_le _ _).2 x h
theorem mxR_le (l : List Nat) (x : Nat) (h : x ∈ l) : rankP x ≤ mxR l := by
  cases l with
  | nil => cases h
  | cons y l => exact (mxFrom_le _ _).2 x h
theorem rank_at' (r : Int) (h : -9218868437227405313 ≤ r ∧ r ≤ 9218868437227405313) : rankP (atP r) = r := by
  by_cases h1 : 9218868437227405312 < r
  · rw [atP_high r h1]
    have : rankP 9221120237041090561 = 9218868437227405313 := by decide
    omega
  · by_cases h2 : r < 0
    · have e := atP_neg r h2
      have h4 : rung (atP r) = (-1 - max r (-9218868437227405313)).toNat := by unfold rung; omega
      have h5 : fnan (atP r) = false := by unfold fnan; rw [decide_eq_false_iff_not]; omega
      have h6 : sgn (atP r) = true := by unfold sgn; rw [decide_eq_true_eq]; omega
      unfold rankP
      rw [if_neg (by simp [h5]), if_pos h6]; omega
    · have e := atP_pos r (by omega) (by omega)
      have h4 : rung (atP r) = r.toNat := by unfold rung; omega
      have h5 : fnan (atP r) = false := by unfold fnan; rw [decide_eq_false_iff_not]; omega
      have h6 : sgn (atP r) = false := by unfold sgn; rw [decide_eq_false_iff_not]; omega
      unfold rankP
      rw [if_neg (by simp [h5]), if_neg (by simp [h6])]; omega
theorem canB_rank (x : Int) (y : Nat) (hy : y < 18446744073709551616) (h : rankP y = x) : canB (atP x) = canB y := by
  rw [← h]; exact at_rank y hy
theorem fv_snoc (l : List Nat) (k y : Nat) (h : l[k]? = some y) : fv (l.take (k + 1)) = fv (l.take k) ++ [.float .f64 y] := by
  rw [List.take_add_one, h]; simp [fv]

set_option maxHeartbeats 4000000 in
theorem edgeLists_walk (v : Value) (l : List Nat) (w : World) (hf : Fl l) (hl : l.length * 8 ≤ 140737488351232) (hr : Rd w 1 v l.length (uv l)) :
    Calls Try.prog 7 #[v] w fun e w' => e = .returned (.bool true) ∧ Below w.heap.size w w' := by
  have hfrom := run_frombits
  obtain ⟨a, c, rfl⟩ := hr.form
  go_enter Try.func7, Try.ntmps7
  go_wp2_with fail
  refine (awake05_any _).mono ?_
  rintro e w1 ⟨rfl, hb1⟩
  go_wp2_with fail
  go_loopw [3, 4] (fun s3 s4 wr => ∃ k : Nat, k ≤ l.length ∧ s4 = .int .i64 k ∧ wr.ownsRow w.heap.size 24 1 s3 k (fv (l.take k)) ∧ Below w.heap.size w wr) (fun _ i _ => l.length - (intOf i).toNat)
  case atStart => exact ⟨0, by omega, rfl, World.ownsRow_nil _ _ _ _, hb1⟩
  case round =>
    obtain ⟨k, hk, rfl, hown, hbr⟩ := hrel
    have hz := hbr.size
    by_cases hlt : k < l.length
    · have hkz : (k : Int) < (l.length : Int) := by omega
      have hk0 : (0 : Int) ≤ (k : Int) := by omega
      obtain ⟨q, o, c', hv, _, hcell⟩ := (hr.keep hbr).at (by omega)
      simp only [Value.slice.injEq, true_and] at hv
      obtain ⟨rfl, rfl⟩ := hv
      obtain ⟨y, hy⟩ : ∃ y, l[k]? = some y := ⟨l[k], List.getElem?_eq_getElem hlt⟩
      have hc := hcell k (.int .u64 y) (by simp [uv, hy])
      have hsn := fv_snoc l k y hy
      have HS := Lib.hid hsn
      clear hcell hy hsn
      go_wp2_with (at_builtin; refine wpList_app Try.underlying41 infoFloat rfl (by decide) rfl _ _ rfl rfl rfl (hown.alloc _) (Rd.one _ _ _ rfl) (by omega) (by omega) (by simp; omega) ?_)
      intro v2 w2 hown2 hg2 _
      have hb2 := (hg2.alloc).below hz (own_block hown)
      rw [← HS.out] at hown2
      clear hg2 hown
      go_wp2_with fail
      go_roundw
      case rel => exact ⟨k + 1, by omega, by go_num, hown2, hbr.trans hb2⟩
      case measure => simp [intOf]; omega
    · obtain rfl : k = l.length := by omega
      rw [List.take_of_length_le (by omega)] at hown
      have hrd := own_rd hown (fv_one _)
      obtain ⟨ao, co, rfl⟩ := own_form hown
      have hmn := mnR_bounds l
      have hmx := mxR_bounds l
      have hb1 := atP_lt (mnR l) (by omega)
      have hb2 := atP_lt (mxR l) (by omega)
      have r1 := rank_at' _ hmn
      have r2 := rank_at' _ hmx
      have s1 := canB_rank _ _ (mnL_lt l hf) (mnL_rank l hf)
      have s2 := canB_rank _ _ (mxL_lt l hf) (mxL_rank l hf)
      have l1 := mnR_le l
      have l2 := mxR_le l
      have hleast : Calls Try.prog 25 #[.slice ao l.length co] wr fun e w' => e = .returned (.float .f64 (atP (mnR l))) ∧ wr = w' := Least_any _ l wr hf (by omega) hrd
      have hmost : Calls Try.prog 26 #[.slice ao l.length co] wr fun e w' => e = .returned (.float .f64 (atP (mxR l))) ∧ wr = w' := Most_any _ l wr hf (by omega) hrd
      have hrleast : Calls Try.prog 27 #[.slice ao l.length co] wr fun e w' => e = .returned (.float .f64 (mnL l)) ∧ wr = w' := RLeast_any _ l wr hf (by omega) hrd
      have hrmost : Calls Try.prog 28 #[.slice ao l.length co] wr fun e w' => e = .returned (.float .f64 (mxL l)) ∧ wr = w' := RMost_any _ l wr hf (by omega) hrd
      have t1 := mnL_lt l hf
      have t2 := mxL_lt l hf
      generalize atP (mnR l) = x1 at *
      generalize atP (mxR l) = x2 at *
      generalize mnL l = y1 at *
      generalize mxL l = y2 at *
      have HL := Lib.hid hleast
      have HM := Lib.hid hmost
      have RL := Lib.hid hrleast
      have RM := Lib.hid hrmost
      have R1 := Lib.hid r1
      have R2 := Lib.hid r2
      have S1 := Lib.hid s1
      have S2 := Lib.hid s2
      have L1 := Lib.hid l1
      have L2 := Lib.hid l2
      have HR := Lib.hid hrd
      clear hleast hmost hrleast hrmost r1 r2 s1 s2 l1 l2 hown hr hrd
      have hkz : ¬ (l.length : Int) < (l.length : Int) := by omega
      go_wp2_with fail
      refine HL.out.mono ?_
      rintro e w' ⟨rfl, rfl⟩
      go_wp2_with fail
      refine HM.out.mono ?_
      rintro e w' ⟨rfl, rfl⟩
      go_wp2_with fail
      clear hkz
      go_loop [7] (fun s7 => ∃ k : Nat, k ≤ l.length ∧ s7 = .int .i64 k) (fun i => l.length - (intOf i).toNat)
      case atStart => exact ⟨0, by omega, rfl⟩
      case round =>
        obtain ⟨k, hk, rfl⟩ := hrel
        by_cases hlt : k < l.length
        · have hkz : (k : Int) < (l.length : Int) := by omega
          have hk0 : (0 : Int) ≤ (k : Int) := by omega
          obtain ⟨q, o, c', hv, _, hcell⟩ := HR.out.at (by omega)
          simp only [Value.slice.injEq, true_and] at hv
          obtain ⟨rfl, rfl⟩ := hv
          obtain ⟨y, hy⟩ : ∃ y, l[k]? = some y := ⟨l[k], List.getElem?_eq_getElem hlt⟩
          have hc := hcell k (.float .f64 y) (by simp [fv, hy])
          have hym := List.mem_of_getElem? hy
          have hyl := hf y hym
          have o1 : ¬ (0 : Int) < ordP x1 y := by have := L1.out y hym; have := R1.out; unfold ordP; split <;> (try split) <;> omega
          have o2 : ¬ ordP x2 y < 0 := by have := L2.out y hym; have := R2.out; unfold ordP; split <;> (try split) <;> omega
          have h1 : ∀ w, Calls Try.prog 12 #[.float .f64 x1, .float .f64 y] w fun e w' => e = .returned (.int .i64 (ordP x1 y)) ∧ w = w' := fun w => Order_any x1 y w hb1 hyl
          have h2 : ∀ w, Calls Try.prog 12 #[.float .f64 x2, .float .f64 y] w fun e w' => e = .returned (.int .i64 (ordP x2 y)) ∧ w = w' := fun w => Order_any x2 y w hb2 hyl
          generalize ordP x1 y = p1 at *
          generalize ordP x2 y = p2 at *
          have H1 := Lib.hid h1
          have H2 := Lib.hid h2
          clear hcell hy hym h1 h2 hf
          go_wp2_with fail
          refine (H1.out _).mono ?_
          rintro e w' ⟨rfl, rfl⟩
          go_wp2_with fail
          refine (H2.out _).mono ?_
          rintro e w' ⟨rfl, rfl⟩
          go_wp2_with fail
          go_round
          case rel => exact ⟨k + 1, by omega, by go_num⟩
          case measure => simp [intOf]; omega
        · have hkz : ¬ (k : Int) < (l.length : Int) := by omega
          clear hf
          go_wp2_with fail
          refine RL.out.mono ?_
          rintro e w' ⟨rfl, rfl⟩
          go_wp2_with fail
          refine (Same_any _ _ _ hb1 t1).mono ?_
          rintro e w' ⟨rfl, rfl⟩
          rw [S1.out]
          go_wp2_with fail
          refine RM.out.mono ?_
          rintro e w' ⟨rfl, rfl⟩
          go_wp2_with fail
          refine (Same_any _ _ _ hb2 t2).mono ?_
          rintro e w' ⟨rfl, rfl⟩
          rw [S2.out]
          go_wp2_with fail
          go_ret
          exact ⟨rfl, hbr⟩

theorem edgeLists.law (H : Type) (enc : TypeId × Value → H) (W : World) (base : Nat)
    (v0 : Value) (d0 : DataW H) (p0 : List MemPlace) (g0 : Value.okWide Try.prog W .any base 40 v0) (h0 : DataW.Trod enc Try.prog W 0 (fun _ => true) true 40 v0 d0 p0)
    {ts : List TypeId} {es : List (DataW H)} (hsz : (DataW.weightsEach Try.prog ([40] ++ ts) ([d0] ++ es)).all (· ≤ reachBytes) = true) :
    Calls Try.prog 7 #[v0] W fun e W' => e = .returned (.bool true) ∧ Below W.heap.size W W' := by
  obtain ⟨l, hrl, hfl, hdl⟩ := open_words Try.underlying40 Try.underlying22 (by kernel_rfl) (okWide_slice Try.underlying40 g0) h0
  have hll := words_reach hsz (j := 0) (t := 40) rfl Try.underlying40 (by kernel_rfl) (l := l) (hdl.imp (fun h => ⟨congrArg some h.1, h.2⟩) (fun ⟨s, h⟩ => ⟨s, congrArg some h⟩))
  exact edgeLists_walk v0 l W hfl hll hrl
end Go.Proofs.Ytnkjhibjlfojjaa
