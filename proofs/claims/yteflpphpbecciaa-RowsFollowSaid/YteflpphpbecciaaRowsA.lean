/- Contracts of the package rows and its reference: the last index, terms, which log is newer. -/
import Derived.Test.YteflpphpbecciaaEnt
import Derived.Test.YteflpphpbecciaaProg
import Derived.Outline
namespace Go.Proofs.Yteflpphpbecciaa
open Go.RowKit

theorem bcellR {W w1 : World} (hb : Below W.heap.size W w1) : (∀ b o, b < W.heap.size → w1.cell? ⟨b, o, none⟩ = W.cell? ⟨b, o, none⟩) ∧ (∀ b o, b < W.heap.size → w1.frozen? ⟨b, o, none⟩ = W.frozen? ⟨b, o, none⟩) :=
  ⟨fun b o h => hb.cell (p := ⟨b, o, none⟩) h, fun b o h => hb.frozen (p := ⟨b, o, none⟩) h⟩

theorem Last_any (b bt n c : Nat) (a : Option Addr) (w : World) (hb : b ≤ 4611686018427387904) (hn : n ≤ 140737488355328) :
    Calls Try.prog 14 #[.agg #[.int .u64 b, .int .u64 bt, .slice a n c]] w fun e w' => e = .returned (.int .u64 ((b + n : Nat) : Int)) ∧ Below w.heap.size w w' := by
  have h1 : IntKind.u64.wrap ((b : Int) + (n : Int)) = (b : Int) + (n : Int) := IntWalk.u64_in _ (by omega)
  go_enter Try.func14, Try.ntmps14
  go_wp2_with fail
  go_ret
  exact ⟨by go_num, (Below.refl _ _).alloc (Nat.le_refl _) _⟩
theorem RLast_any (b bt n c : Nat) (a : Option Addr) (w : World) (hb : b ≤ 4611686018427387904) (hn : n ≤ 140737488355328) :
    Calls Try.prog 18 #[.agg #[.int .u64 b, .int .u64 bt, .slice a n c]] w fun e w' => e = .returned (.int .u64 ((b + n : Nat) : Int)) ∧ Below w.heap.size w w' := by
  have h1 : IntKind.u64.wrap ((b : Int) + (n : Int)) = (b : Int) + (n : Int) := IntWalk.u64_in _ (by omega)
  go_enter Try.func18, Try.ntmps18
  go_wp2_with fail
  go_ret
  exact ⟨by go_num, (Below.refl _ _).alloc (Nat.le_refl _) _⟩

set_option maxHeartbeats 1000000 in
theorem Term_any (b bt : Nat) (v : Value) (es : List EE) (i : Nat) (w : World) (hb : b ≤ 4611686018427387904) (hi : i < 18446744073709551616) (hl : es.length ≤ 140737488355328) (hr : Rd w 6 v es.length (ecells es)) :
    Calls Try.prog 13 #[.agg #[.int .u64 b, .int .u64 bt, v], .int .u64 i] w fun e w' => e = .returned (.tuple #[.int .u64 (termP b bt es i).1, .bool (termP b bt es i).2]) ∧ Below w.heap.size w w' := by
  obtain ⟨a, c, rfl⟩ := hr.form
  unfold termP
  by_cases h1 : i = b
  · subst h1
    rw [if_pos rfl]
    have hw : IntKind.u64.wrap ((i : Int) - (i : Int)) = 0 := by rw [IntKind.wrap_u64]; omega
    go_enter Try.func13, Try.ntmps13
    go_wp2_with fail
    go_ret2
    exact ⟨rfl, (Below.refl _ _).alloc (Nat.le_refl _) _⟩
  · rw [if_neg h1]
    by_cases h2 : b < i
    · have hw : IntKind.u64.wrap ((i : Int) - (b : Int)) = ((i - b : Nat) : Int) := by rw [IntWalk.u64_in _ (by omega)]; omega
      have hk : 0 < i - b := by omega
      by_cases h3 : i ≤ b + es.length
      · rw [if_pos ⟨h2, h3⟩]
        have hlt : i - b - 1 < es.length := by omega
        obtain ⟨ee, he⟩ : ∃ ee, es[i - b - 1]? = some ee := ⟨es[i - b - 1], List.getElem?_eq_getElem hlt⟩
        obtain ⟨q, o, c', hv, _, hq, c0, _⟩ := ent_at hr _ ee he
        simp only [Value.slice.injEq, true_and] at hv
        obtain ⟨rfl, rfl⟩ := hv
        rw [he]
        simp only [Option.map_some, Option.getD_some]
        obtain ⟨j, hj⟩ : ∃ j, i - b = j + 1 := ⟨i - b - 1, by omega⟩
        have hj2 : i - b - 1 = j := by omega
        have ho : o + 6 * j = o + j * 6 := by omega
        rw [hj2] at c0 hlt
        rw [hj] at hw
        have hw2 : IntKind.u64.wrap (((j + 1 : Nat) : Int) - 1) = (j : Int) := by rw [IntWalk.u64_in _ (by omega)]; omega
        have hz : (((j + 1 : Nat) : Int) == 0) = false := by simp; omega
        have hle : ((j + 1 : Nat) : Int) ≤ (es.length : Int) := by omega
        have hbi : (b : Int) < (i : Int) := by omega
        have hjl : (j : Int) < (es.length : Int) := by omega
        have hj0 : (0 : Int) ≤ (j : Int) := by omega
        have hql : q < w.heap.size := hq
        clear hr he hj hj2 hlt ho h1 h2 h3 hk
        push_cast at hw hw2 hz hle
        go_enter Try.func13, Try.ntmps13
        go_wp2_with fail
        go_ret2
        exact ⟨rfl, (Below.refl _ _).alloc (Nat.le_refl _) _⟩
      · rw [if_neg (by omega)]
        have hz : (((i - b : Nat) : Int) == 0) = false := by simp; omega
        have hle : ¬ ((i - b : Nat) : Int) ≤ (es.length : Int) := by omega
        generalize i - b = d at *
        go_enter Try.func13, Try.ntmps13
        go_wp2_with fail
        go_ret2
        exact ⟨rfl, (Below.refl _ _).alloc (Nat.le_refl _) _⟩
    · rw [if_neg (by omega)]
      obtain ⟨d, hd⟩ : ∃ d : Nat, IntKind.u64.wrap ((i : Int) - (b : Int)) = (d : Int) ∧ es.length < d := by
        refine ⟨(18446744073709551616 + i - b), ?_, by omega⟩
        rw [IntKind.wrap_u64]; omega
      obtain ⟨hw, hd⟩ := hd
      have hz : ((d : Int) == 0) = false := by simp; omega
      have hle : ¬ (d : Int) ≤ (es.length : Int) := by omega
      go_enter Try.func13, Try.ntmps13
      go_wp2_with fail
      go_ret2
      exact ⟨rfl, (Below.refl _ _).alloc (Nat.le_refl _) _⟩

set_option maxHeartbeats 1000000 in
theorem RTerm_any (b bt : Nat) (v : Value) (es : List EE) (i : Nat) (w : World) (hb : b ≤ 4611686018427387904) (hi : i < 18446744073709551616) (hl : es.length ≤ 140737488355328) (hr : Rd w 6 v es.length (ecells es)) :
    Calls Try.prog 17 #[.agg #[.int .u64 b, .int .u64 bt, v], .int .u64 i] w fun e w' => e = .returned (.tuple #[.int .u64 (termP b bt es i).1, .bool (termP b bt es i).2]) ∧ Below w.heap.size w w' := by
  obtain ⟨a, c, rfl⟩ := hr.form
  unfold termP
  by_cases h1 : i = b
  · subst h1
    rw [if_pos rfl]
    go_enter Try.func17, Try.ntmps17
    go_wp2_with fail
    go_ret2
    exact ⟨rfl, (Below.refl _ _).alloc (Nat.le_refl _) _⟩
  · rw [if_neg h1]
    have hne : ((i : Int) == (b : Int)) = false := by simp; omega
    by_cases h2 : b < i
    · have hlt0 : ¬ (i : Int) < (b : Int) := by omega
      by_cases h3 : i ≤ b + es.length
      · rw [if_pos ⟨h2, h3⟩]
        have hlt : i - b - 1 < es.length := by omega
        obtain ⟨ee, he⟩ : ∃ ee, es[i - b - 1]? = some ee := ⟨es[i - b - 1], List.getElem?_eq_getElem hlt⟩
        obtain ⟨q, o, c', hv, _, hq, c0, _⟩ := ent_at hr _ ee he
        simp only [Value.slice.injEq, true_and] at hv
        obtain ⟨rfl, rfl⟩ := hv
        rw [he]
        simp only [Option.map_some, Option.getD_some]
        obtain ⟨j, hj⟩ : ∃ j, i - b = j + 1 := ⟨i - b - 1, by omega⟩
        have hj2 : i - b - 1 = j := by omega
        have ho : o + 6 * j = o + j * 6 := by omega
        rw [hj2] at c0 hlt
        have hw : IntKind.u64.wrap ((i : Int) - (b : Int)) = (j : Int) + 1 := by rw [IntWalk.u64_in _ (by omega)]; omega
        have hw2 : IntKind.u64.wrap ((j : Int) + 1 - 1) = (j : Int) := by rw [IntWalk.u64_in _ (by omega)]; omega
        have hle : ¬ ((b + es.length : Nat) : Int) < (i : Int) := by omega
        have hjl : (j : Int) < (es.length : Int) := by omega
        have hj0 : (0 : Int) ≤ (j : Int) := by omega
        have hla := RLast_any b bt es.length c (some ⟨q, o, none⟩) (w.alloc (.cells #[.int .u64 b, .int .u64 bt, .slice (some ⟨q, o, none⟩) es.length c] 25)) hb hl
        have HLA := Lib.hid hla
        have c0w := c0
        clear hr he hj hj2 hlt ho h1 h2 h3 hla
        push_cast at hle
        go_enter Try.func17, Try.ntmps17
        go_wp2_with fail
        refine HLA.out.mono ?_
        rintro e w1 ⟨rfl, hb1⟩
        have hbb : Below w.heap.size w w1 := ((Below.refl _ _).alloc (Nat.le_refl _) _).trans (hb1.mono (by simp))
        obtain ⟨hc1, hf1⟩ := bcellR hb1
        have d0 : w1.cell? ⟨w.heap.size, 0, none⟩ = some (.int .u64 b) := by rw [hc1 _ _ (by simp)]; simp [go_sem]
        have d2 : w1.cell? ⟨w.heap.size, 2, none⟩ = some (.slice (some ⟨q, o, none⟩) es.length c) := by rw [hc1 _ _ (by simp)]; simp [go_sem]
        have d3 : w1.cell? ⟨q, o + j * 6, none⟩ = some (.int .u64 ee.t) := by rw [hbb.cell (by exact hq)]; exact c0w
        clear hc1 hf1 c0 c0w hb1
        go_wp2_with fail
        go_ret2
        exact ⟨rfl, hbb⟩
      · rw [if_neg (by omega)]
        have hle : ((b + es.length : Nat) : Int) < (i : Int) := by omega
        have hla := RLast_any b bt es.length c a (w.alloc (.cells #[.int .u64 b, .int .u64 bt, .slice a es.length c] 25)) hb hl
        have HLA := Lib.hid hla
        clear hla h1 h2 h3
        push_cast at hle
        go_enter Try.func17, Try.ntmps17
        go_wp2_with fail
        refine HLA.out.mono ?_
        rintro e w1 ⟨rfl, hb1⟩
        have hbb : Below w.heap.size w w1 := ((Below.refl _ _).alloc (Nat.le_refl _) _).trans (hb1.mono (by simp))
        clear hb1
        go_wp2_with fail
        go_ret2
        exact ⟨rfl, hbb⟩
    · rw [if_neg (by omega)]
      have hlt0 : (i : Int) < (b : Int) := by omega
      go_enter Try.func17, Try.ntmps17
      go_wp2_with fail
      go_ret2
      exact ⟨rfl, (Below.refl _ _).alloc (Nat.le_refl _) _⟩
end Go.Proofs.Yteflpphpbecciaa
