/- Contracts: members with one more, or one less; who may follow (the reference's). -/
import Derived.Test.YtckpnihpobfggaaDoorConfR
namespace Go.Proofs.YtckpnihpobfggaaDoor
open Go.RowKit Ones

theorem infoU : (Tryd.prog.info? 25).map (fun i => (i.zero, i.size, i.bytes)) = some (some (.int .u64 0), 1, 8) := by kernel_rfl
theorem uv_append (a b : List Nat) : uv (a ++ b) = uv a ++ uv b := by simp [uv]

/-- Without one. -/
def lessP (l : List Nat) (id : Nat) : List Nat := l.filter fun x => decide (x ≠ id)
theorem lessP_snoc (l : List Nat) (id k y : Nat) (h : l[k]? = some y) : lessP (l.take (k + 1)) id = lessP (l.take k) id ++ (if y = id then [] else [y]) := by
  unfold lessP
  rw [List.take_add_one, h, Option.toList_some, List.filter_append]
  by_cases hy : y = id <;> simp [hy]
theorem lessP_le (l : List Nat) (id : Nat) : (lessP l id).length ≤ l.length := List.length_filter_le _ _
/-- With one more. -/
def moreK (l : List Nat) (id k : Nat) : List Nat := ((List.range k).map (· + 1)).filter fun x => decide (x = id ∨ x ∈ l)
def moreP (l : List Nat) (id : Nat) : List Nat := moreK l id 7
theorem moreK_snoc (l : List Nat) (id k : Nat) : moreK l id (k + 1) = moreK l id k ++ (if k + 1 = id ∨ k + 1 ∈ l then [k + 1] else []) := by
  unfold moreK
  rw [List.range_succ, List.map_append, List.filter_append]
  by_cases h : k + 1 = id ∨ k + 1 ∈ l <;> simp [h]
theorem moreK_le (l : List Nat) (id k : Nat) : (moreK l id k).length ≤ k := by
  unfold moreK
  refine Nat.le_trans (List.length_filter_le _ _) (by simp)

set_option maxHeartbeats 2000000 in
theorem refWithout_any (v : Value) (l : List Nat) (id : Nat) (w : World) (hl : l.length * 8 ≤ 140737488355328 - 8) (hr : Rd w 1 v l.length (uv l)) :
    Calls Tryd.prog 25 #[v, .int .u64 id] w fun e w' => (∃ v', e = .returned v' ∧ w'.ownsRow w.heap.size 25 1 v' (lessP l id).length (uv (lessP l id))) ∧ Below w.heap.size w w' := by
  obtain ⟨a, c, rfl⟩ := hr.form
  go_enter Tryd.func25, Tryd.ntmps25
  go_wp2_with fail
  go_loopw [5, 6] (fun s5 s6 wr => ∃ k : Nat, k ≤ l.length ∧ s6 = .int .i64 k ∧ wr.ownsRow w.heap.size 25 1 s5 (lessP (l.take k) id).length (uv (lessP (l.take k) id)) ∧ Below w.heap.size w wr) (fun _ i _ => l.length - (intOf i).toNat)
  case atStart => exact ⟨0, by omega, rfl, World.ownsRow_nil _ _ _ _, Below.refl _ _⟩
  case round =>
    obtain ⟨k, hk, rfl, ho, hbr⟩ := hrel
    obtain ⟨ra, rc, rfl⟩ := own_form ho
    by_cases hlt : k < l.length
    · have hkz : (k : Int) < (l.length : Int) := by omega
      have hk0 : (0 : Int) ≤ (k : Int) := by omega
      obtain ⟨q, o, c', hv, _, hcell⟩ := (hr.keep hbr).at (by omega)
      simp only [Value.slice.injEq, true_and] at hv
      obtain ⟨rfl, rfl⟩ := hv
      obtain ⟨y, hy⟩ : ∃ y, l[k]? = some y := ⟨l[k], List.getElem?_eq_getElem hlt⟩
      have hc := hcell k (.int .u64 y) (by simp [uv, hy])
      have hsn := lessP_snoc l id k y hy
      have hml : (lessP (l.take k) id).length ≤ l.length := Nat.le_trans (lessP_le _ _) (by simp; omega)
      obtain ⟨m, hm⟩ : ∃ m, m = lessP (l.take k) id := ⟨_, rfl⟩
      rw [← hm] at ho hsn hml ⊢
      obtain ⟨n, hn⟩ : ∃ n, n = m.length := ⟨_, rfl⟩
      rw [← hn] at ho hml ⊢
      have HN := Lib.hid hn
      have HSN := Lib.hid hsn
      clear hcell hr hy hsn hm hn
      by_cases hyx : y = id
      · subst hyx
        have HO := Lib.hid ho
        clear ho
        go_wp2_with fail
        go_roundw
        case rel => exact ⟨k + 1, by omega, by go_num, by rw [HSN.out, if_pos rfl, List.append_nil, ← HN.out]; exact HO.out, hbr⟩
        case measure => simp [intOf]; omega
      · have hyz : ¬ (y : Int) = (id : Int) := by omega
        have HBR := Lib.hid hbr
        have HO1 := Lib.hid ho
        clear ho
        go_wp2_with (at_builtin; refine wpList_app (o := ⟨some 25, _, _, _, _, _⟩) Tryd.underlying22 infoU rfl (by decide) rfl _ _ rfl rfl rfl (own_keep HO1.out ((Below.refl _ _).alloc (Nat.le_refl _) _)) (Rd.one wr (.int .u64 y) 25 rfl) (by omega) (by omega) (by have := HBR.out.size; simp; omega) ?_; intro v5 w5 ho5 hg5 _)
        have hb5 : Below w.heap.size w w5 := HBR.out.trans (hg5.alloc.below HBR.out.size (own_block HO1.out))
        have HB5 := Lib.hid hb5
        have HO5 := Lib.hid ho5
        clear hb5 ho5 hg5 hbr
        go_wp2_with fail
        go_roundw
        case rel => exact ⟨k + 1, by omega, by go_num, by rw [HSN.out, if_neg hyx, uv_append, List.length_append, ← HN.out]; exact HO5.out, HB5.out⟩
        case measure => simp [intOf]; omega
    · have hkz : ¬ (k : Int) < (l.length : Int) := by omega
      rw [List.take_of_length_le (by omega)] at ho ⊢
      have HO := Lib.hid ho
      clear hr ho
      go_wp2_with fail
      go_ret
      exact ⟨⟨_, rfl, HO.out⟩, hbr⟩

set_option maxHeartbeats 2000000 in
theorem refWith_any (v : Value) (l : List Nat) (id : Nat) (w : World) (hl : l.length ≤ 140737488355328) (hr : Rd w 1 v l.length (uv l)) :
    Calls Tryd.prog 24 #[v, .int .u64 id] w fun e w' => (∃ v', e = .returned v' ∧ w'.ownsRow w.heap.size 25 1 v' (moreP l id).length (uv (moreP l id))) ∧ Below w.heap.size w w' := by
  go_enter Tryd.func24, Tryd.ntmps24
  go_wp2_with fail
  go_loopw [5, 6] (fun s5 s6 wr => ∃ k : Nat, k ≤ 7 ∧ s6 = .int .u64 ((k + 1 : Nat) : Int) ∧ wr.ownsRow w.heap.size 25 1 s5 (moreK l id k).length (uv (moreK l id k)) ∧ Below w.heap.size w wr) (fun _ i _ => 8 - (intOf i).toNat)
  case atStart => exact ⟨0, by omega, rfl, World.ownsRow_nil _ _ _ _, Below.refl _ _⟩
  case round =>
    obtain ⟨k, hk, rfl, ho, hbr⟩ := hrel
    obtain ⟨ra, rc, rfl⟩ := own_form ho
    obtain ⟨j, hj⟩ : ∃ j, j = k + 1 := ⟨_, rfl⟩
    rw [← hj]
    by_cases hlt : k < 7
    · have hkz : (j : Int) ≤ 7 := by omega
      have hsn := moreK_snoc l id k
      have hml := moreK_le l id k
      have hhas := refHas_any v l j wr hl (hr.keep hbr)
      obtain ⟨m, hm⟩ : ∃ m, m = moreK l id k := ⟨_, rfl⟩
      rw [← hm] at ho hsn hml ⊢
      rw [← hj] at hsn
      obtain ⟨n, hn⟩ : ∃ n, n = m.length := ⟨_, rfl⟩
      rw [← hn] at ho hml ⊢
      have HJ := Lib.hid hj
      have HN := Lib.hid hn
      have HSN := Lib.hid hsn
      have hj8 : j ≤ 7 := by omega
      have hkj : k + 1 = j := hj.symm
      have HKJ := Lib.hid hkj
      clear hr hsn hm hn hj hkj hlt
      by_cases hyx : j = id
      · subst hyx
        have HBR := Lib.hid hbr
        have HO1 := Lib.hid ho
        clear ho hhas
        go_wp2_with (at_builtin; refine wpList_app (o := ⟨some 22, _, _, _, _, _⟩) Tryd.underlying22 infoU rfl (by decide) rfl _ _ rfl rfl rfl (own_keep HO1.out ((Below.refl _ _).alloc (Nat.le_refl _) _)) (Rd.one wr (.int .u64 j) 25 rfl) (by omega) (by omega) (by have := HBR.out.size; simp; omega) ?_; intro v5 w5 ho5 hg5 _)
        have hb5 : Below w.heap.size w w5 := HBR.out.trans (hg5.alloc.below HBR.out.size (own_block HO1.out))
        have HB5 := Lib.hid hb5
        have HO5 := Lib.hid ho5
        clear hb5 ho5 hg5 hbr
        go_wp2_with fail
        go_roundw
        case rel => exact ⟨k + 1, by have := HJ.out; omega, by rw [HKJ.out]; go_num, by rw [HKJ.out, HSN.out, if_pos (Or.inl rfl), uv_append, List.length_append, ← HN.out]; exact HO5.out, HB5.out⟩
        case measure => simp [intOf]; omega
      · have hyz : ¬ (j : Int) = (id : Int) := by omega
        by_cases hin : j ∈ l
        · have HIN := Lib.hid hin
          rw [decide_eq_true hin] at hhas
          have HO1 := Lib.hid ho
          clear ho hin
          go_wp2_with fail
          refine hhas.mono ?_
          rintro e w2 ⟨rfl, hb2⟩
          have hbr2 := hbr.trans (hb2.mono hbr.size)
          have HBR := Lib.hid hbr2
          have HO2 := Lib.hid (own_keep HO1.out hb2)
          clear hhas hb2 hbr hbr2
          go_wp2_with (at_builtin; refine wpList_app (o := ⟨some 22, _, _, _, _, _⟩) Tryd.underlying22 infoU rfl (by decide) rfl _ _ rfl rfl rfl (own_keep HO2.out ((Below.refl _ _).alloc (Nat.le_refl _) _)) (Rd.one w2 (.int .u64 j) 25 rfl) (by omega) (by omega) (by have := HBR.out.size; simp; omega) ?_; intro v5 w5 ho5 hg5 _)
          have hb5 : Below w.heap.size w w5 := HBR.out.trans (hg5.alloc.below HBR.out.size (own_block HO2.out))
          have HB5 := Lib.hid hb5
          have HO5 := Lib.hid ho5
          clear hb5 ho5 hg5
          go_wp2_with fail
          go_roundw
          case rel => exact ⟨k + 1, by have := HJ.out; omega, by rw [HKJ.out]; go_num, by rw [HKJ.out, HSN.out, if_pos (Or.inr HIN.out), uv_append, List.length_append, ← HN.out]; exact HO5.out, HB5.out⟩
          case measure => simp [intOf]; omega
        · have HIN := Lib.hid hin
          rw [decide_eq_false hin] at hhas
          have HO1 := Lib.hid ho
          clear ho hin
          go_wp2_with fail
          refine hhas.mono ?_
          rintro e w2 ⟨rfl, hb2⟩
          have hbr2 := hbr.trans (hb2.mono hbr.size)
          have HBR := Lib.hid hbr2
          have HO2 := Lib.hid (own_keep HO1.out hb2)
          clear hhas hb2 hbr hbr2
          go_wp2_with fail
          go_roundw
          case rel => exact ⟨k + 1, by have := HJ.out; omega, by rw [HKJ.out]; go_num, by rw [HKJ.out, HSN.out, if_neg (fun h => h.elim hyx HIN.out), List.append_nil, ← HN.out]; exact HO2.out, HBR.out⟩
          case measure => simp [intOf]; omega
    · have hkz : ¬ (j : Int) ≤ 7 := by omega
      obtain rfl : k = 7 := by omega
      have HO := Lib.hid ho
      clear hr ho hj
      go_wp2_with fail
      go_ret
      exact ⟨⟨_, rfl, HO.out⟩, hbr⟩
end Go.Proofs.YtckpnihpobfggaaDoor
