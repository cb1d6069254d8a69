/- Contract: who may follow, by the reference. -/
import Derived.Test.YtckpnihpobfggaaDoorConfW
namespace Go.Proofs.YtckpnihpobfggaaDoor
open Go.RowKit Ones

/-- By this one they may follow. -/
def stepP (l r : List Nat) (id : Nat) : Bool := if id ∈ l then decide (lessP l id = r) else decide (moreP l id = r)
def mayR (l r : List Nat) : Bool := memB 0 l && (memB 0 r && (List.range 7).any fun k => stepP l r (k + 1))

set_option maxHeartbeats 4000000 in
theorem refMay_any (v u : Value) (l r : List Nat) (w : World) (hl : l.length * 8 ≤ 140737488355328 - 8) (hi : r.length * 8 ≤ 140737488355328 - 8) (hr : Rd w 1 v l.length (uv l)) (hu : Rd w 1 u r.length (uv r)) :
    Calls Tryd.prog 9 #[v, u] w fun e w' => e = .returned (.bool (mayR l r)) ∧ Below w.heap.size w w' := by
  have hA := refMembers_any v l w (by omega) hr
  have hB := fun w1 (h : Below w.heap.size w w1) => refMembers_any u r w1 (by omega) (hu.keep h)
  unfold mayR
  cases hml : memB 0 l with
  | false =>
    rw [hml] at hA
    go_enter Tryd.func9, Tryd.ntmps9
    go_wp2_with fail
    refine hA.mono ?_
    rintro e w1 ⟨rfl, hb1⟩
    clear hA hB
    go_wp2_with fail
    go_ret
    exact ⟨rfl, hb1⟩
  | true =>
    rw [hml] at hA
    cases hmr : memB 0 r with
    | false =>
      rw [hmr] at hB
      go_enter Tryd.func9, Tryd.ntmps9
      go_wp2_with fail
      refine hA.mono ?_
      rintro e w1 ⟨rfl, hb1⟩
      go_wp2_with fail
      refine (hB w1 hb1).mono ?_
      rintro e w2 ⟨rfl, hb2⟩
      clear hA hB
      go_wp2_with fail
      go_ret
      exact ⟨rfl, hb1.trans (hb2.mono hb1.size)⟩
    | true =>
      rw [hmr] at hB
      clear hml hmr
      have HR := Lib.hid (And.intro hr hu)
      clear hr hu
      go_enter Tryd.func9, Tryd.ntmps9
      go_wp2_with fail
      refine hA.mono ?_
      rintro e w1 ⟨rfl, hb1⟩
      go_wp2_with fail
      refine (hB w1 hb1).mono ?_
      rintro e w2 ⟨rfl, hb2⟩
      have hb := hb1.trans (hb2.mono hb1.size)
      clear hA hB hb1 hb2
      go_wp2_with fail
      go_loopw [5] (fun s5 wr => ∃ k : Nat, k ≤ 7 ∧ s5 = .int .u64 ((k + 1 : Nat) : Int) ∧ (∀ i, i < k → stepP l r (i + 1) = false) ∧ Below w.heap.size w wr) (fun i _ => 8 - (intOf i).toNat)
      case atStart => exact ⟨0, by omega, rfl, fun i hi => absurd hi (by omega), hb⟩
      case round =>
        obtain ⟨k, hk, rfl, hno, hbr⟩ := hrel
        obtain ⟨j, hj⟩ : ∃ j, j = k + 1 := ⟨_, rfl⟩
        rw [← hj]
        have HN := Lib.hid hno
        have HJ := Lib.hid hj
        by_cases hlt : k < 7
        · have hkz : (j : Int) ≤ 7 := by omega
          have hj8 : j ≤ 7 := by omega
          have hhas := fun wx (h : Below w.heap.size w wx) => refHas_any v l j wx (by omega) (HR.out.1.keep h)
          have hbr' := hbr
          clear hno hj hlt hb
          by_cases hin : j ∈ l
          · have hhas2 : ∀ wx, Below w.heap.size w wx → Calls Tryd.prog 11 #[v, .int .u64 j] wx (fun e w' => e = .returned (.bool true) ∧ Below wx.heap.size wx w') := fun wx h => by
              have := hhas wx h
              rwa [decide_eq_true hin] at this
            have hQ : stepP l r j = decide (lessP l j = r) := by unfold stepP; rw [if_pos hin]
            clear hhas hin
            go_wp2_with fail
            refine (hhas2 wr hbr).mono ?_
            rintro e w2 ⟨rfl, hb2⟩
            have hb2 := hbr.trans (hb2.mono hbr.size)
            clear hbr
            go_wp2_with fail
            refine (hhas2 w2 hb2).mono ?_
            rintro e w3 ⟨rfl, hb3⟩
            have hb3 := hb2.trans (hb3.mono hb2.size)
            clear hb2
            go_wp2_with fail
            refine (refWithout_any v l j w3 hl (HR.out.1.keep hb3)).mono ?_
            rintro e w4 ⟨⟨v', rfl, ho⟩, hb4⟩
            have hb4' := hb3.trans (hb4.mono hb3.size)
            have hle := lessP_le l j
            have hnu := refNums_any v' u (lessP l j) r w4 (by omega) (by omega) (own_rd ho (uv_one _)) (HR.out.2.keep hb4')
            obtain ⟨b, hb⟩ : ∃ b, b = decide (lessP l j = r) := ⟨_, rfl⟩
            rw [← hb] at hnu hQ
            have HQ := Lib.hid hQ
            obtain ⟨na, nc, rfl⟩ := own_form ho
            clear hhas2 hb3 hb4 ho hb hQ
            go_wp2_with fail
            refine hnu.mono ?_
            rintro e w5 ⟨rfl, hb5⟩
            have hb5 := hb4'.trans (hb5.mono hb4'.size)
            clear hnu hb4'
            cases b with
            | true =>
              go_wp2_with fail
              go_ret
              refine ⟨?_, hb5⟩
              refine congrArg (fun b => Ending.returned (Value.bool b)) (Eq.symm ?_)
              exact List.any_eq_true.2 ⟨k, List.mem_range.2 (by have := HJ.out; omega), by rw [← HJ.out]; exact HQ.out⟩
            | false =>
              go_wp2_with fail
              go_roundw
              case rel =>
                refine ⟨k + 1, by have := HJ.out; omega, by rw [← HJ.out]; go_num, fun i hi => ?_, hb5⟩
                by_cases hik : i < k
                · exact HN.out i hik
                · obtain rfl : i = k := by omega
                  rw [← HJ.out]; exact HQ.out
              case measure => simp [intOf]; omega
          · have hhas2 : ∀ wx, Below w.heap.size w wx → Calls Tryd.prog 11 #[v, .int .u64 j] wx (fun e w' => e = .returned (.bool false) ∧ Below wx.heap.size wx w') := fun wx h => by
              have := hhas wx h
              rwa [decide_eq_false hin] at this
            have hQ : stepP l r j = decide (moreP l j = r) := by unfold stepP; rw [if_neg hin]
            clear hhas hin
            go_wp2_with fail
            refine (hhas2 wr hbr).mono ?_
            rintro e w2 ⟨rfl, hb2⟩
            have hb2 := hbr.trans (hb2.mono hbr.size)
            clear hbr
            go_wp2_with fail
            refine (refWith_any v l j w2 (by omega) (HR.out.1.keep hb2)).mono ?_
            rintro e w4 ⟨⟨v', rfl, ho⟩, hb4⟩
            have hb4' := hb2.trans (hb4.mono hb2.size)
            have hle := moreK_le l j 7
            have hnu := refNums_any v' u (moreP l j) r w4 (by unfold moreP; omega) (by omega) (own_rd ho (uv_one _)) (HR.out.2.keep hb4')
            obtain ⟨b, hb⟩ : ∃ b, b = decide (moreP l j = r) := ⟨_, rfl⟩
            rw [← hb] at hnu hQ
            have HQ := Lib.hid hQ
            obtain ⟨na, nc, rfl⟩ := own_form ho
            clear hb2 hb4 ho hb hQ hle
            go_wp2_with fail
            refine hnu.mono ?_
            rintro e w5 ⟨rfl, hb5⟩
            have hb5 := hb4'.trans (hb5.mono hb4'.size)
            clear hnu hb4'
            cases b with
            | true =>
              go_wp2_with fail
              go_ret
              refine ⟨?_, hb5⟩
              refine congrArg (fun b => Ending.returned (Value.bool b)) (Eq.symm ?_)
              exact List.any_eq_true.2 ⟨k, List.mem_range.2 (by have := HJ.out; omega), by rw [← HJ.out]; exact HQ.out⟩
            | false =>
              go_wp2_with fail
              refine (hhas2 w5 hb5).mono ?_
              rintro e w6 ⟨rfl, hb6⟩
              have hb6 := hb5.trans (hb6.mono hb5.size)
              clear hhas2 hb5
              go_wp2_with fail
              go_roundw
              case rel =>
                refine ⟨k + 1, by have := HJ.out; omega, by rw [← HJ.out]; go_num, fun i hi => ?_, hb6⟩
                by_cases hik : i < k
                · exact HN.out i hik
                · obtain rfl : i = k := by omega
                  rw [← HJ.out]; exact HQ.out
              case measure => simp [intOf]; omega
        · have hkz : ¬ (j : Int) ≤ 7 := by omega
          obtain rfl : k = 7 := by omega
          clear hno hj hb
          go_wp2_with fail
          go_ret
          refine ⟨?_, hbr⟩
          refine congrArg (fun b => Ending.returned (Value.bool b)) (Eq.symm ?_)
          have h0 : stepP l r 1 = false := HN.out 0 (by omega)
          have h1 : stepP l r 2 = false := HN.out 1 (by omega)
          have h2 : stepP l r 3 = false := HN.out 2 (by omega)
          have h3 : stepP l r 4 = false := HN.out 3 (by omega)
          have h4 : stepP l r 5 = false := HN.out 4 (by omega)
          have h5 : stepP l r 6 = false := HN.out 5 (by omega)
          have h6 : stepP l r 7 = false := HN.out 6 (by omega)
          rw [h0, h1, h2, h3, h4, h5, h6]; rfl
end Go.Proofs.YtckpnihpobfggaaDoor
