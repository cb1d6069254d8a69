/- Contracts: the reference's members and majorities. -/
import Derived.Test.YtckpnihpobfggaaDoorConfS
namespace Go.Proofs.YtckpnihpobfggaaDoor
open Go.RowKit Ones

set_option maxHeartbeats 1000000 in
theorem refHas_any (v : Value) (l : List Nat) (x : Nat) (w : World) (hl : l.length ≤ 140737488355328) (hr : Rd w 1 v l.length (uv l)) :
    Calls Tryd.prog 11 #[v, .int .u64 x] w fun e w' => e = .returned (.bool (decide (x ∈ l))) ∧ Below w.heap.size w w' := by
  obtain ⟨a, c, rfl⟩ := hr.form
  go_enter Tryd.func11, Tryd.ntmps11
  go_wp2_with fail
  go_loopw [5] (fun s5 wr => ∃ k : Nat, k ≤ l.length ∧ s5 = .int .i64 k ∧ x ∉ l.take k ∧ Below w.heap.size w wr) (fun i _ => l.length - (intOf i).toNat)
  case atStart => exact ⟨0, by omega, rfl, by simp, Below.refl _ _⟩
  case round =>
    obtain ⟨k, hk, rfl, hnot, hbr⟩ := hrel
    by_cases hlt : k < l.length
    · have hkz : (k : Int) < (l.length : Int) := by omega
      have hk0 : (0 : Int) ≤ (k : Int) := by omega
      obtain ⟨q, o, c', hv, _, hcell⟩ := (hr.keep hbr).at (by omega)
      simp only [Value.slice.injEq, true_and] at hv
      obtain ⟨rfl, rfl⟩ := hv
      obtain ⟨y, hy⟩ : ∃ y, l[k]? = some y := ⟨l[k], List.getElem?_eq_getElem hlt⟩
      have hc := hcell k (.int .u64 y) (by simp [uv, hy])
      have HY := Lib.hid hy
      have HN := Lib.hid hnot
      clear hcell hr hy hnot
      by_cases hxy : x = y
      · subst hxy
        go_wp2_with fail
        go_ret
        exact ⟨congrArg (fun b => Ending.returned (Value.bool b)) (decide_eq_true (List.mem_of_getElem? HY.out)).symm, hbr⟩
      · have hxz : ¬ (y : Int) = (x : Int) := by omega
        go_wp2_with fail
        go_roundw
        case rel => exact ⟨k + 1, by omega, by go_num, by rw [List.take_add_one, HY.out]; simp only [Option.toList_some, List.mem_append, List.mem_singleton]; exact fun h => h.elim HN.out hxy, hbr⟩
        case measure => simp [intOf]; omega
    · have hkz : ¬ (k : Int) < (l.length : Int) := by omega
      have HN := Lib.hid (show x ∉ l by rw [List.take_of_length_le (by omega)] at hnot; exact hnot)
      clear hnot hr
      go_wp2_with fail
      go_ret
      exact ⟨congrArg (fun b => Ending.returned (Value.bool b)) (decide_eq_false HN.out).symm, hbr⟩

set_option maxHeartbeats 1000000 in
theorem refMajority_any (v : Value) (l : List Nat) (w : World) (hl : l.length ≤ 140737488355328) (hr : Rd w 1 v l.length (uv l)) :
    Calls Tryd.prog 13 #[v] w fun e w' => e = .returned (.int .i64 ((l.length / 2 + 1 : Nat) : Int)) ∧ Below w.heap.size w w' := by
  obtain ⟨a, c, rfl⟩ := hr.form
  have h1 : IntKind.i64.wrap ((l.length : Int) / 2 + 1) = (l.length : Int) / 2 + 1 := IntWalk.i64_in _ (by omega)
  go_enter Tryd.func13, Tryd.ntmps13
  go_wp2_with fail
  go_ret
  refine ⟨congrArg (fun b => Ending.returned (Value.int .i64 b)) ?_, Below.refl _ _⟩
  omega

set_option maxHeartbeats 2000000 in
theorem refQuorum_any (v u : Value) (l ids : List Nat) (w : World) (hl : l.length ≤ 140737488355328) (hi : ids.length ≤ 140737488355328) (hr : Rd w 1 v l.length (uv l)) (hu : Rd w 1 u ids.length (uv ids)) :
    Calls Tryd.prog 15 #[v, u] w fun e w' => e = .returned (.bool (decide (l.length / 2 + 1 ≤ among ids l))) ∧ Below w.heap.size w w' := by
  obtain ⟨a, c, rfl⟩ := hr.form
  obtain ⟨a2, c2, rfl⟩ := hu.form
  have hmaj := fun w1 (h : Below w.heap.size w w1) => refMajority_any _ l w1 hl (hr.keep h)
  go_enter Tryd.func15, Tryd.ntmps15
  go_wp2_with fail
  go_loopw [5, 6] (fun s5 s6 wr => ∃ k : Nat, k ≤ l.length ∧ s6 = .int .i64 k ∧ s5 = .int .i64 (among ids (l.take k) : Nat) ∧ Below w.heap.size w wr) (fun _ i _ => l.length - (intOf i).toNat)
  case atStart => exact ⟨0, by omega, rfl, rfl, Below.refl _ _⟩
  case round =>
    obtain ⟨k, hk, rfl, rfl, hbr⟩ := hrel
    by_cases hlt : k < l.length
    · have hkz : (k : Int) < (l.length : Int) := by omega
      have hk0 : (0 : Int) ≤ (k : Int) := by omega
      obtain ⟨q, o, c', hv, _, hcell⟩ := (hr.keep hbr).at (by omega)
      simp only [Value.slice.injEq, true_and] at hv
      obtain ⟨rfl, rfl⟩ := hv
      obtain ⟨y, hy⟩ : ∃ y, l[k]? = some y := ⟨l[k], List.getElem?_eq_getElem hlt⟩
      have hc := hcell k (.int .u64 y) (by simp [uv, hy])
      have hsn := among_snoc ids l k y hy
      obtain ⟨m, hm⟩ : ∃ m, m = among ids (l.take k) := ⟨_, rfl⟩
      have hml : m ≤ l.length := by rw [hm]; exact Nat.le_trans (among_le _ _) (by simp; omega)
      rw [← hm] at hsn ⊢
      have HSN := Lib.hid hsn
      have hu2 := hu.keep hbr
      clear hcell hr hy hu hsn hm hmaj
      go_wp2_with fail
      refine (refHas_any _ ids y _ hi hu2).mono ?_
      rintro e w2 ⟨rfl, hb2⟩
      have hbr2 := hbr.trans (hb2.mono hbr.size)
      by_cases hin : y ∈ ids
      · have hinb : decide (y ∈ ids) = true := by simp [hin]
        clear hbr hb2
        go_wp2_with fail
        go_roundw
        case rel => exact ⟨k + 1, by omega, by go_num, by rw [HSN.out, if_pos hin]; rfl, hbr2⟩
        case measure => simp [intOf]; omega
      · have hinb : decide (y ∈ ids) = false := by simp [hin]
        clear hbr hb2
        go_wp2_with fail
        go_roundw
        case rel => exact ⟨k + 1, by omega, by go_num, by rw [HSN.out, if_neg hin]; rfl, hbr2⟩
        case measure => simp [intOf]; omega
    · have hkz : ¬ (k : Int) < (l.length : Int) := by omega
      rw [List.take_of_length_le (by omega)]
      have hj := hmaj _ hbr
      obtain ⟨m, hm⟩ : ∃ m, m = among ids l := ⟨_, rfl⟩
      obtain ⟨d, hd⟩ : ∃ d, d = l.length / 2 + 1 := ⟨_, rfl⟩
      rw [← hm]
      rw [← hd] at hj
      have HM := Lib.hid hm
      have HD := Lib.hid hd
      clear hm hd hmaj
      go_wp2_with fail
      refine hj.mono ?_
      rintro e w2 ⟨rfl, hb2⟩
      clear hj
      go_wp2_with fail
      go_ret
      refine ⟨congrArg (fun b => Ending.returned (Value.bool b)) ?_, hbr.trans (hb2.mono hbr.size)⟩
      have e1 := HM.out
      have e2 := HD.out
      rw [← e1, ← e2]

set_option maxHeartbeats 2000000 in
theorem refMembers_any (v : Value) (l : List Nat) (w : World) (hl : l.length ≤ 140737488355328) (hr : Rd w 1 v l.length (uv l)) :
    Calls Tryd.prog 23 #[v] w fun e w' => e = .returned (.bool (memB 0 l)) ∧ Below w.heap.size w w' := by
  obtain ⟨a, c, rfl⟩ := hr.form
  go_enter Tryd.func23, Tryd.ntmps23
  go_wp2_with fail
  go_loopw [3] (fun s3 wr => ∃ k last : Nat, k ≤ l.length ∧ s3 = .int .i64 k ∧ ((k = 0 ∧ last = 0) ∨ ∃ j, k = j + 1 ∧ l[j]? = some last ∧ 1 ≤ last) ∧ memB 0 l = memB last (l.drop k) ∧ Below w.heap.size w wr) (fun i _ => l.length - (intOf i).toNat)
  case atStart => exact ⟨0, 0, by omega, rfl, .inl ⟨rfl, rfl⟩, rfl, Below.refl _ _⟩
  case round =>
    obtain ⟨k, last, hk, rfl, hlast, hmem, hbr⟩ := hrel
    by_cases hlt : k < l.length
    · have hkz : (k : Int) < (l.length : Int) := by omega
      have hk0 : (0 : Int) ≤ (k : Int) := by omega
      obtain ⟨q, o, c', hv, _, hcell⟩ := (hr.keep hbr).at (by omega)
      simp only [Value.slice.injEq, true_and] at hv
      obtain ⟨rfl, rfl⟩ := hv
      obtain ⟨y, hy⟩ : ∃ y, l[k]? = some y := ⟨l[k], List.getElem?_eq_getElem hlt⟩
      have hc := hcell k (.int .u64 y) (by simp [uv, hy])
      have hdr : l.drop k = y :: l.drop (k + 1) := by rw [List.drop_eq_getElem_cons hlt]; rw [List.getElem?_eq_getElem hlt] at hy; injection hy with hy; rw [hy]
      rw [hdr, memB] at hmem
      have HM := Lib.hid hmem
      have HY := Lib.hid hy
      by_cases h1 : y < 1
      · have h1z : decide ((y : Int) < 1) = true := decide_eq_true (by omega)
        clear hcell hr hy hmem hdr hlast
        go_wp2_with fail
        go_quiet (fail)
        go_wp2_with fail
        go_ret
        exact ⟨by rw [HM.out, if_pos (Or.inl (by omega))]; rfl, below_drewN hbr _⟩
      · have h1z : decide ((y : Int) < 1) = false := decide_eq_false (by omega)
        by_cases h2 : 7 < y
        · have h2z : decide ((7 : Int) < (y : Int)) = true := decide_eq_true (by omega)
          clear hcell hr hy hmem hdr hlast
          go_wp2_with fail
          go_quiet (fail)
          go_wp2_with fail
          go_ret
          exact ⟨by rw [HM.out, if_pos (Or.inr h2)]; rfl, below_drewN hbr _⟩
        · have h2z : decide ((7 : Int) < (y : Int)) = false := decide_eq_false (by omega)
          rcases hlast with ⟨hk1, rfl⟩ | ⟨j, hk1, hj, hl1⟩
          · have h3z : decide (0 < k) = false := decide_eq_false (by omega)
            have HK1 := Lib.hid hk1
            clear hk1
            clear hcell hr hy hmem hdr
            go_wp2_with fail
            go_quiet (fail)
            go_wp2_with fail
            go_roundw
            case rel => exact ⟨k + 1, y, by omega, by go_num, .inr ⟨k, rfl, HY.out, by omega⟩, by rw [HM.out, if_neg (by omega)], below_drewN hbr _⟩
            case measure => simp [intOf]; omega
          · have hc2 := hcell j (.int .u64 last) (by simp [uv, hj])
            have h3z : decide (0 < k) = true := decide_eq_true (by omega)
            have h4 : IntKind.i64.wrap ((k : Int) - 1) = (j : Int) := (IntWalk.i64_in _ (by omega)).trans (by omega)
            have h5 : (0 : Int) ≤ (j : Int) := by omega
            have h6 : (j : Int) < (l.length : Int) := by omega
            have HK1 := Lib.hid hk1
            clear hk1
            clear hcell hr hy hmem hdr hj
            by_cases h7 : y ≤ last
            · have h7z : decide ((y : Int) ≤ (last : Int)) = true := decide_eq_true (by omega)
              go_wp2_with fail
              go_quiet (fail)
              go_wp2_with fail
              go_ret
              exact ⟨by rw [HM.out, if_pos (Or.inl h7)]; rfl, below_drewN hbr _⟩
            · have h7z : decide ((y : Int) ≤ (last : Int)) = false := decide_eq_false (by omega)
              go_wp2_with fail
              go_quiet (fail)
              go_wp2_with fail
              go_roundw
              case rel => exact ⟨k + 1, y, by omega, by go_num, .inr ⟨k, rfl, HY.out, by omega⟩, by rw [HM.out, if_neg (by omega)], below_drewN hbr _⟩
              case measure => simp [intOf]; omega
    · have hkz : ¬ (k : Int) < (l.length : Int) := by omega
      rw [List.drop_of_length_le (by omega), memB] at hmem
      have HM := Lib.hid hmem
      clear hmem hr
      go_wp2_with fail
      go_ret
      refine ⟨?_, hbr⟩
      rw [HM.out]
      refine congrArg (fun b => Ending.returned (Value.bool b)) ?_
      rw [Bool.eq_iff_iff]
      simp only [decide_eq_true_eq]
      rcases hlast with ⟨h1, h2⟩ | ⟨j, h1, hj, hl1⟩ <;> omega

set_option maxHeartbeats 2000000 in
theorem refNums_any (v u : Value) (l r : List Nat) (w : World) (hl : l.length ≤ 140737488355328) (_hi : r.length ≤ 140737488355328) (hr : Rd w 1 v l.length (uv l)) (hu : Rd w 1 u r.length (uv r)) :
    Calls Tryd.prog 17 #[v, u] w fun e w' => e = .returned (.bool (decide (l = r))) ∧ Below w.heap.size w w' := by
  obtain ⟨a, c, rfl⟩ := hr.form
  obtain ⟨a2, c2, rfl⟩ := hu.form
  by_cases hlen : l.length = r.length
  · rw [← hlen] at hu ⊢
    go_enter Tryd.func17, Tryd.ntmps17
    go_wp2_with fail
    go_loopw [5] (fun s5 wr => ∃ k : Nat, k ≤ l.length ∧ s5 = .int .i64 k ∧ l.take k = r.take k ∧ Below w.heap.size w wr) (fun i _ => l.length - (intOf i).toNat)
    case atStart => exact ⟨0, by omega, rfl, rfl, Below.refl _ _⟩
    case round =>
      obtain ⟨k, hk, rfl, heq, hbr⟩ := hrel
      by_cases hlt : k < l.length
      · have hkz : (k : Int) < (l.length : Int) := by omega
        have hk0 : (0 : Int) ≤ (k : Int) := by omega
        obtain ⟨q, o, c', hv, _, hcell⟩ := (hr.keep hbr).at (by omega)
        simp only [Value.slice.injEq, true_and] at hv
        obtain ⟨rfl, rfl⟩ := hv
        obtain ⟨q2, o2, c2', hv2, _, hcell2⟩ := (hu.keep hbr).at (by omega)
        simp only [Value.slice.injEq, true_and] at hv2
        obtain ⟨rfl, rfl⟩ := hv2
        obtain ⟨y, hy⟩ : ∃ y, l[k]? = some y := ⟨l[k], List.getElem?_eq_getElem hlt⟩
        obtain ⟨z, hz⟩ : ∃ z, r[k]? = some z := ⟨r[k], List.getElem?_eq_getElem (by omega)⟩
        have hc := hcell k (.int .u64 y) (by simp [uv, hy])
        have hc2 := hcell2 k (.int .u64 z) (by simp [uv, hz])
        have HX := Lib.hid (And.intro hy (And.intro hz heq))
        clear hcell hcell2 hr hu hy hz heq
        by_cases h1 : y = z
        · subst h1
          go_wp2_with fail
          go_quiet (fail)
          go_wp2_with fail
          go_roundw
          case rel => exact ⟨k + 1, by omega, by go_num, by rw [List.take_add_one, List.take_add_one, HX.out.1, HX.out.2.1, HX.out.2.2], below_drewN hbr _⟩
          case measure => simp [intOf]; omega
        · have h1z : ¬ (y : Int) = (z : Int) := by omega
          go_wp2_with fail
          go_quiet (fail)
          go_wp2_with fail
          go_ret
          refine ⟨?_, below_drewN hbr _⟩
          refine congrArg (fun b => Ending.returned (Value.bool b)) (decide_eq_false fun e => h1 ?_).symm
          have := HX.out.1
          rw [e, HX.out.2.1] at this
          exact (Option.some.inj this).symm
      · have hkz : ¬ (k : Int) < (l.length : Int) := by omega
        have HX := Lib.hid heq
        clear hr hu heq
        go_wp2_with fail
        go_ret
        refine ⟨congrArg (fun b => Ending.returned (Value.bool b)) (decide_eq_true ?_).symm, hbr⟩
        have := HX.out
        rwa [List.take_of_length_le (by omega), List.take_of_length_le (by omega)] at this
  · have hz : ¬ (l.length : Int) = (r.length : Int) := by omega
    go_enter Tryd.func17, Tryd.ntmps17
    go_wp2_with fail
    go_ret
    exact ⟨congrArg (fun b => Ending.returned (Value.bool b)) (decide_eq_false fun e => hlen (by rw [e])).symm, Below.refl _ _⟩
end Go.Proofs.YtckpnihpobfggaaDoor
