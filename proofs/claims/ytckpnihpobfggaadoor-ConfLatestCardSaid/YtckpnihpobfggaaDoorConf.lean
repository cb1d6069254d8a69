/- Contracts: members and majorities (conf.Has, Majority, Quorum; cmd.Members). -/
import Derived.Test.YtckpnihpobfggaaDoorBase
import Derived.Test.YtckpnihpobfggaaDoorWords
import Derived.Test.YtckpnihpobfggaaDoorReg
import Derived.Test.YtckpnihpobfggaaDoorProg
import Derived.Outline
import Derived.OpenShut
import Derived.BigQuiet
import Derived.Deep.QuietTactic
import Derived.Deep.DeepCutAuto
import Derived.Deep.CutBlock
namespace Go.Proofs.YtckpnihpobfggaaDoor
open Go.RowKit

set_option maxHeartbeats 1000000 in
theorem indexU64_any (v : Value) (l : List Nat) (x : Nat) (w : World) (hl : l.length ≤ 140737488355328) (hr : Rd w 1 v l.length (uv l)) :
    Calls Tryd.prog 32 #[v, .int .u64 x] w fun e w' => (∃ k : Int, e = .returned (.int .i64 k) ∧ (0 ≤ k ↔ x ∈ l)) ∧ Below w.heap.size w w' := by
  obtain ⟨a, c, rfl⟩ := hr.form
  go_enter Tryd.func32, Tryd.ntmps32
  go_wp2_with fail
  go_loopw [8] (fun s8 wr => ∃ k : Nat, k ≤ l.length ∧ s8 = .int .i64 k ∧ x ∉ l.take k ∧ Below w.heap.size w wr) (fun i _ => l.length - (intOf i).toNat)
  case atStart => exact ⟨0, by omega, rfl, by simp, Below.refl _ _⟩
  case round =>
    obtain ⟨k, hk, rfl, hnot, hbr⟩ := hrel
    by_cases hlt : k < l.length
    · have hkz : (k : Int) < (l.length : Int) := by omega
      have hk0 : (0 : Int) ≤ (k : Int) := by omega
      obtain ⟨q, o, c', hv, _, hcell⟩ := (hr.keep hbr).at (by omega)
      simp only [Value.slice.injEq, true_and] at hv
      obtain ⟨rfl, rfl⟩ := hv
      obtain ⟨y, hy⟩ : ∃ y, l[k]? = some y := ⟨l[k], List.getElem?_eq_getElem hlt⟩
      have hc := hcell k (.int .u64 y) (by simp [uv, hy])
      have HY := Lib.hid hy
      have HN := Lib.hid hnot
      clear hcell hr hy hnot
      by_cases hxy : x = y
      · subst hxy
        go_wp2_with fail
        go_ret
        exact ⟨⟨k, rfl, ⟨fun _ => List.mem_of_getElem? HY.out, fun _ => hk0⟩⟩, hbr⟩
      · have hxz : ¬ (x : Int) = (y : Int) := by omega
        go_wp2_with fail
        go_roundw
        case rel => exact ⟨k + 1, by omega, by go_num, by rw [List.take_add_one, HY.out]; simp only [Option.toList_some, List.mem_append, List.mem_singleton]; exact fun h => h.elim HN.out hxy, hbr⟩
        case measure => simp [intOf]; omega
    · have hkz : ¬ (k : Int) < (l.length : Int) := by omega
      have HN := Lib.hid (show x ∉ l by rw [List.take_of_length_le (by omega)] at hnot; exact hnot)
      clear hnot hr
      go_wp2_with fail
      go_ret
      exact ⟨⟨-1, rfl, ⟨fun h => by omega, fun h => absurd h HN.out⟩⟩, hbr⟩

set_option maxHeartbeats 1000000 in
theorem containsU64_any (v : Value) (l : List Nat) (x : Nat) (w : World) (hl : l.length ≤ 140737488355328) (hr : Rd w 1 v l.length (uv l)) :
    Calls Tryd.prog 26 #[v, .int .u64 x] w fun e w' => e = .returned (.bool (decide (x ∈ l))) ∧ Below w.heap.size w w' := by
  go_enter Tryd.func26, Tryd.ntmps26
  go_wp2_with fail
  refine (indexU64_any v l x _ hl hr).mono ?_
  rintro e w1 ⟨⟨k, rfl, hk⟩, hb⟩
  have HK := Lib.hid hk
  clear hk
  go_wp2_with fail
  go_ret
  exact ⟨congrArg (fun b => Ending.returned (Value.bool b)) (decide_eq_decide.2 HK.out), hb⟩

set_option maxHeartbeats 1000000 in
theorem Has_any (v : Value) (l : List Nat) (x : Nat) (w : World) (hl : l.length ≤ 140737488355328) (hr : Rd w 1 v l.length (uv l)) :
    Calls Tryd.prog 10 #[v, .int .u64 x] w fun e w' => e = .returned (.bool (decide (x ∈ l))) ∧ Below w.heap.size w w' := by
  go_enter Tryd.func10, Tryd.ntmps10
  go_wp2_with fail
  refine (containsU64_any v l x _ hl hr).mono ?_
  rintro e w1 ⟨rfl, hb⟩
  go_wp2_with fail
  go_ret
  exact ⟨rfl, hb⟩

set_option maxHeartbeats 1000000 in
theorem Majority_any (v : Value) (l : List Nat) (w : World) (hl : l.length ≤ 140737488355328) (hr : Rd w 1 v l.length (uv l)) :
    Calls Tryd.prog 12 #[v] w fun e w' => e = .returned (.int .i64 ((l.length / 2 + 1 : Nat) : Int)) ∧ Below w.heap.size w w' := by
  obtain ⟨a, c, rfl⟩ := hr.form
  have h1 : IntKind.i64.wrap ((l.length : Int) / 2 + 1) = (l.length : Int) / 2 + 1 := IntWalk.i64_in _ (by omega)
  go_enter Tryd.func12, Tryd.ntmps12
  go_wp2_with fail
  go_ret
  refine ⟨congrArg (fun b => Ending.returned (Value.int .i64 b)) ?_, Below.refl _ _⟩
  omega

/-- How many of the members are among ids. -/
def among (ids members : List Nat) : Nat := members.countP fun x => decide (x ∈ ids)
theorem among_le (ids members : List Nat) : among ids members ≤ members.length := List.countP_le_length
theorem among_snoc (ids members : List Nat) (k y : Nat) (h : members[k]? = some y) : among ids (members.take (k + 1)) = among ids (members.take k) + (if y ∈ ids then 1 else 0) := by
  unfold among
  rw [List.take_add_one, h, List.countP_append]
  by_cases hy : y ∈ ids <;> simp [hy]

set_option maxHeartbeats 1000000 in
theorem Quorum_any (v u : Value) (l ids : List Nat) (w : World) (hl : l.length ≤ 140737488355328) (hi : ids.length ≤ 140737488355328) (hr : Rd w 1 v l.length (uv l)) (hu : Rd w 1 u ids.length (uv ids)) :
    Calls Tryd.prog 14 #[v, u] w fun e w' => e = .returned (.bool (decide (l.length / 2 + 1 ≤ among ids l))) ∧ Below w.heap.size w w' := by
  obtain ⟨a, c, rfl⟩ := hr.form
  obtain ⟨a2, c2, rfl⟩ := hu.form
  go_enter Tryd.func14, Tryd.ntmps14
  go_wp2_with fail
  refine (Majority_any _ l _ hl hr).mono ?_
  rintro e w1 ⟨rfl, hb1⟩
  go_wp2_with fail
  go_loopw [5, 12] (fun s5 s12 wr => ∃ k : Nat, k ≤ l.length ∧ s12 = .int .i64 k ∧ s5 = .int .i64 (((l.length / 2 + 1 : Nat) : Int) - (among ids (l.take k) : Nat)) ∧ Below w.heap.size w wr) (fun _ i _ => l.length - (intOf i).toNat)
  case atStart => exact ⟨0, by omega, rfl, by simp [among], hb1⟩
  case round =>
    obtain ⟨k, hk, rfl, rfl, hbr⟩ := hrel
    by_cases hlt : k < l.length
    · have hkz : (k : Int) < (l.length : Int) := by omega
      have hk0 : (0 : Int) ≤ (k : Int) := by omega
      obtain ⟨q, o, c', hv, _, hcell⟩ := (hr.keep hbr).at (by omega)
      simp only [Value.slice.injEq, true_and] at hv
      obtain ⟨rfl, rfl⟩ := hv
      obtain ⟨y, hy⟩ : ∃ y, l[k]? = some y := ⟨l[k], List.getElem?_eq_getElem hlt⟩
      have hc := hcell k (.int .u64 y) (by simp [uv, hy])
      have hsn := among_snoc ids l k y hy
      obtain ⟨m, hm⟩ : ∃ m, m = among ids (l.take k) := ⟨_, rfl⟩
      have hml : m ≤ l.length := by rw [hm]; exact Nat.le_trans (among_le _ _) (by simp; omega)
      obtain ⟨d, hd⟩ : ∃ d, d = l.length / 2 + 1 := ⟨_, rfl⟩
      have hdl : d ≤ 140737488355329 := by omega
      rw [← hm, ← hd]
      rw [← hm] at hsn
      have HSN := Lib.hid hsn
      have HD := Lib.hid hd
      have hu2 := hu.keep hbr
      clear hcell hr hy hu hsn hm hd
      go_wp2_with fail
      refine (Has_any _ ids y _ hi hu2).mono ?_
      rintro e w2 ⟨rfl, hb2⟩
      have hbr2 := hbr.trans (hb2.mono hbr.size)
      by_cases hin : y ∈ ids
      · have hw : IntKind.i64.wrap ((d : Int) - (m : Int) - 1) = (d : Int) - (m : Int) - 1 := IntWalk.i64_in _ (by omega)
        have hinb : decide (y ∈ ids) = true := by simp [hin]
        clear hbr hb2
        go_wp2_with fail
        go_roundw
        case rel => exact ⟨k + 1, by omega, by go_num, by rw [HSN.out, if_pos hin]; congr 1; omega, hbr2⟩
        case measure => simp [intOf]; omega
      · have hinb : decide (y ∈ ids) = false := by simp [hin]
        clear hbr hb2
        go_wp2_with fail
        go_roundw
        case rel => exact ⟨k + 1, by omega, by go_num, by rw [HSN.out, if_neg hin]; rfl, hbr2⟩
        case measure => simp [intOf]; omega
    · have hkz : ¬ (k : Int) < (l.length : Int) := by omega
      rw [List.take_of_length_le (by omega)]
      obtain ⟨m, hm⟩ : ∃ m, m = among ids l := ⟨_, rfl⟩
      obtain ⟨d, hd⟩ : ∃ d, d = l.length / 2 + 1 := ⟨_, rfl⟩
      rw [← hm, ← hd]
      have HM := Lib.hid hm
      have HD := Lib.hid hd
      clear hm hd
      go_wp2_with fail
      go_ret
      refine ⟨congrArg (fun b => Ending.returned (Value.bool b)) ?_, hbr⟩
      have e1 := HM.out
      have e2 := HD.out
      rw [← e1, ← e2, Bool.eq_iff_iff]; simp; omega

/-- Are these members? `last`: the one ahead. -/
def memB : Nat → List Nat → Bool
  | last, [] => decide (0 < last)
  | last, x :: r => if x ≤ last ∨ 7 < x then false else memB x r

set_option maxHeartbeats 1000000 in
theorem Members_any (v : Value) (l : List Nat) (w : World) (hl : l.length ≤ 140737488355328) (hr : Rd w 1 v l.length (uv l)) :
    Calls Tryd.prog 16 #[v] w fun e w' => e = .returned (.bool (memB 0 l)) ∧ Below w.heap.size w w' := by
  obtain ⟨a, c, rfl⟩ := hr.form
  go_enter Tryd.func16, Tryd.ntmps16
  go_wp2_with fail
  go_loopw [3, 8] (fun s3 s8 wr => ∃ k last : Nat, k ≤ l.length ∧ s8 = .int .i64 k ∧ s3 = .int .u64 last ∧ memB 0 l = memB last (l.drop k) ∧ Below w.heap.size w wr) (fun _ i _ => l.length - (intOf i).toNat)
  case atStart => exact ⟨0, 0, by omega, rfl, rfl, rfl, Below.refl _ _⟩
  case round =>
    obtain ⟨k, last, hk, rfl, rfl, hmem, hbr⟩ := hrel
    by_cases hlt : k < l.length
    · have hkz : (k : Int) < (l.length : Int) := by omega
      have hk0 : (0 : Int) ≤ (k : Int) := by omega
      obtain ⟨q, o, c', hv, _, hcell⟩ := (hr.keep hbr).at (by omega)
      simp only [Value.slice.injEq, true_and] at hv
      obtain ⟨rfl, rfl⟩ := hv
      obtain ⟨y, hy⟩ : ∃ y, l[k]? = some y := ⟨l[k], List.getElem?_eq_getElem hlt⟩
      have hc := hcell k (.int .u64 y) (by simp [uv, hy])
      have hdr : l.drop k = y :: l.drop (k + 1) := by rw [List.drop_eq_getElem_cons hlt]; rw [List.getElem?_eq_getElem hlt] at hy; injection hy with hy; rw [hy]
      rw [hdr, memB] at hmem
      have HM := Lib.hid hmem
      clear hcell hr hy hmem hdr
      by_cases h1 : y ≤ last
      · have h1z : (y : Int) ≤ (last : Int) := by omega
        go_wp2_with fail
        go_ret
        exact ⟨by rw [HM.out, if_pos (Or.inl h1)]; rfl, hbr⟩
      · have h1z : ¬ (y : Int) ≤ (last : Int) := by omega
        by_cases h2 : 7 < y
        · have h2z : (7 : Int) < (y : Int) := by omega
          go_wp2_with fail
          go_ret
          exact ⟨by rw [HM.out, if_pos (Or.inr h2)]; rfl, hbr⟩
        · have h2z : ¬ (7 : Int) < (y : Int) := by omega
          go_wp2_with fail
          go_roundw
          case rel => exact ⟨k + 1, y, by omega, by go_num, rfl, by rw [HM.out, if_neg (by omega)], hbr⟩
          case measure => simp [intOf]; omega
    · have hkz : ¬ (k : Int) < (l.length : Int) := by omega
      rw [List.drop_of_length_le (by omega), memB] at hmem
      have HM := Lib.hid hmem
      clear hmem hr
      go_wp2_with fail
      go_ret
      refine ⟨?_, hbr⟩
      rw [HM.out]
      refine congrArg (fun b => Ending.returned (Value.bool b)) ?_
      rw [Bool.eq_iff_iff]
end Go.Proofs.YtckpnihpobfggaaDoor
