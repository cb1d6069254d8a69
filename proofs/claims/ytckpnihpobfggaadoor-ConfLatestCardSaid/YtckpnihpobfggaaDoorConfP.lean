/- Plain law: who may follow, by bits and by lists; and majorities that meet. -/
import Derived.Test.YtckpnihpobfggaaDoorConfM
namespace Go.Proofs.YtckpnihpobfggaaDoor
open Ones

/-- In order, each 1 to 7. -/
def Srt (l : List Nat) : Prop := l.Pairwise (· < ·) ∧ ∀ x ∈ l, 1 ≤ x ∧ x ≤ 7
theorem memB_srt : ∀ (l : List Nat) (last : Nat), memB last l = true → l.Pairwise (· < ·)
  | [], _, _ => List.Pairwise.nil
  | y :: r, last, h => by
    unfold memB at h
    split at h
    · simp at h
    · exact List.Pairwise.cons (fun x hx => (memB_le r y h x hx).1) (memB_srt r y h)
theorem srt_of (l : List Nat) (h : memB 0 l = true) : Srt l := ⟨memB_srt l 0 h, fun x hx => by have := memB_le l 0 h x hx; omega⟩
theorem sorted_ext : ∀ l r : List Nat, l.Pairwise (· < ·) → r.Pairwise (· < ·) → (∀ x, x ∈ l ↔ x ∈ r) → l = r
  | [], [], _, _, _ => rfl
  | [], b :: r, _, _, h => by have := (h b).2 (by simp); simp at this
  | a :: l, [], _, _, h => by have := (h a).1 (by simp); simp at this
  | a :: l, b :: r, hl, hr, h => by
    have hl1 := List.pairwise_cons.1 hl
    have hr1 := List.pairwise_cons.1 hr
    have hab : a = b := by
      rcases List.mem_cons.1 ((h a).1 (by simp)) with h1 | h1
      · exact h1
      · rcases List.mem_cons.1 ((h b).2 (by simp)) with h2 | h2
        · exact h2.symm
        · have := hl1.1 b h2; have := hr1.1 a h1; omega
    subst hab
    rw [sorted_ext l r hl1.2 hr1.2 fun x => ?_]
    constructor
    · intro hx
      have := hl1.1 x hx
      rcases List.mem_cons.1 ((h x).1 (List.mem_cons_of_mem _ hx)) with h1 | h1
      · omega
      · exact h1
    · intro hx
      have := hr1.1 x hx
      rcases List.mem_cons.1 ((h x).2 (List.mem_cons_of_mem _ hx)) with h1 | h1
      · omega
      · exact h1
theorem setF_bit (l : List Nat) (i : Nat) : (setF l).testBit i = decide (i ∈ l) := by
  unfold setF
  have : ∀ (l : List Nat) (s : Nat), (l.foldl (fun s x => s ||| 2 ^ x) s).testBit i = (s.testBit i || decide (i ∈ l)) := by
    intro l
    induction l with
    | nil => intro s; simp
    | cons y r ih =>
      intro s
      rw [List.foldl_cons, ih, Nat.testBit_or, Nat.testBit_two_pow]
      by_cases h : y = i
      · subst h; simp
      · have h2 : ¬ i = y := fun e => h e.symm
        simp [h, h2]
  rw [this]; simp
theorem moreP_mem (l : List Nat) (id x : Nat) (hl : Srt l) (h1 : 1 ≤ id) (h2 : id ≤ 7) : x ∈ moreP l id ↔ x = id ∨ x ∈ l := by
  unfold moreP moreK
  rw [List.mem_filter, decide_eq_true_eq, List.mem_map]
  constructor
  · exact fun h => h.2
  · intro h
    refine ⟨?_, h⟩
    have : 1 ≤ x ∧ x ≤ 7 := by
      rcases h with rfl | h
      · exact ⟨h1, h2⟩
      · exact hl.2 x h
    exact ⟨x - 1, List.mem_range.2 (by omega), by omega⟩
theorem moreP_srt (l : List Nat) (id : Nat) : (moreP l id).Pairwise (· < ·) := by
  unfold moreP moreK
  exact List.Pairwise.filter _ (List.Pairwise.map _ (fun a b h => by omega) List.pairwise_lt_range)
theorem lessP_mem (l : List Nat) (id x : Nat) : x ∈ lessP l id ↔ x ∈ l ∧ x ≠ id := by
  unfold lessP
  rw [List.mem_filter, decide_eq_true_eq]
theorem lessP_srt (l : List Nat) (id : Nat) (hl : Srt l) : (lessP l id).Pairwise (· < ·) := List.Pairwise.filter _ hl.1

theorem step_bits (l r : List Nat) (id : Nat) (hl : Srt l) (hr : Srt r) (h1 : 1 ≤ id) (h2 : id ≤ 7) : stepP l r id = decide (setF l ^^^ setF r = 2 ^ id) := by
  have hx : setF l ^^^ setF r = 2 ^ id ↔ ∀ i, ((decide (i ∈ l)) ^^ (decide (i ∈ r))) = decide (id = i) := by
    constructor
    · intro h i
      have := congrArg (fun n => n.testBit i) h
      simp only [Nat.testBit_xor, setF_bit, Nat.testBit_two_pow] at this
      exact this
    · intro h
      apply Nat.eq_of_testBit_eq
      intro i
      rw [Nat.testBit_xor, setF_bit, setF_bit, Nat.testBit_two_pow]
      exact h i
  have hy : (∀ i, ((decide (i ∈ l)) ^^ (decide (i ∈ r))) = decide (id = i)) ↔ ∀ i, (id = i ↔ ¬ (i ∈ l ↔ i ∈ r)) := by
    refine forall_congr' fun i => ?_
    by_cases hi : i ∈ l <;> by_cases hd : id = i <;> by_cases hr2 : i ∈ r <;> simp [hi, hd, hr2]
  rw [hy] at hx
  unfold stepP
  split
  · rename_i hin
    rw [Bool.eq_iff_iff, decide_eq_true_eq, decide_eq_true_eq, hx]
    constructor
    · rintro rfl i
      rw [lessP_mem]
      by_cases hd : id = i
      · subst hd; simp [hin]
      · simp [hd, Ne.symm hd]
    · intro h
      refine sorted_ext _ _ (lessP_srt l id hl) hr.1 fun x => ?_
      have := h x
      rw [lessP_mem]
      by_cases hd : id = x
      · subst hd; simpa [hin] using this
      · simp only [hd, false_iff, Classical.not_not] at this
        rw [← this]; simp [Ne.symm hd]
  · rename_i hin
    rw [Bool.eq_iff_iff, decide_eq_true_eq, decide_eq_true_eq, hx]
    constructor
    · rintro rfl i
      rw [moreP_mem l id _ hl h1 h2]
      by_cases hd : id = i
      · subst hd; simp [hin]
      · simp [hd, Ne.symm hd]
    · intro h
      refine sorted_ext _ _ (moreP_srt l id) hr.1 fun x => ?_
      have := h x
      rw [moreP_mem l id x hl h1 h2]
      by_cases hd : id = x
      · subst hd; simpa [hin] using this
      · simp only [hd, false_iff, Classical.not_not] at this
        rw [← this]; simp [Ne.symm hd]
theorem pop_one : ∀ c : Fin 128, decide (pop 64 (2 * c.1) = 1) = (List.range 7).any fun k => decide (2 * c.1 = 2 ^ (k + 1)) := by decide +kernel
theorem setF_even (l : List Nat) (hl : Srt l) : (setF l).testBit 0 = false := by
  rw [setF_bit]
  exact decide_eq_false fun h => by have := hl.2 0 h; omega
theorem setF_pos (l : List Nat) (hl : memB 0 l = true) : setF l ≠ 0 := by
  intro h
  cases l with
  | nil => simp [memB] at hl
  | cons a r =>
    have := setF_bit (a :: r) a
    rw [h] at this
    simp at this
/-- The two say the same. -/
theorem may_alike (l r : List Nat) : mayP l r = mayR l r := by
  unfold mayP mayR setP
  cases hl : memB 0 l with
  | false => rfl
  | true =>
    cases hr : memB 0 r with
    | false => simp
    | true =>
      have sl := srt_of l hl
      have sr := srt_of r hr
      have hlt : setF l ^^^ setF r < 256 := Nat.xor_lt_two_pow (n := 8) (setF_lt l fun x hx => (sl.2 x hx).2) (setF_lt r fun x hx => (sr.2 x hx).2)
      have he : (setF l ^^^ setF r) % 2 = 0 := by
        have : (setF l ^^^ setF r).testBit 0 = false := by rw [Nat.testBit_xor, setF_even l sl, setF_even r sr]; rfl
        rw [Nat.testBit_zero] at this
        have := of_decide_eq_false this
        omega
      have h1 : (List.range 7).any (fun k => stepP l r (k + 1)) = (List.range 7).any fun k => decide (setF l ^^^ setF r = 2 ^ (k + 1)) := by
        rw [Bool.eq_iff_iff, List.any_eq_true, List.any_eq_true]
        constructor
        · rintro ⟨k, hk, h⟩
          rw [step_bits l r (k + 1) sl sr (by omega) (by have := List.mem_range.1 hk; omega)] at h
          exact ⟨k, hk, h⟩
        · rintro ⟨k, hk, h⟩
          refine ⟨k, hk, ?_⟩
          rw [step_bits l r (k + 1) sl sr (by omega) (by have := List.mem_range.1 hk; omega)]
          exact h
      have h2 := pop_one ⟨(setF l ^^^ setF r) / 2, by omega⟩
      simp only [show 2 * ((setF l ^^^ setF r) / 2) = setF l ^^^ setF r by omega] at h2
      simp only [if_true, h1, ← h2, ne_eq, Bool.true_and, setF_pos l hl, setF_pos r hr, not_false_eq_true, decide_true]
theorem mayP_symm (l r : List Nat) : mayP l r = mayP r l := by
  unfold mayP
  rw [Nat.xor_comm]
  cases decide (setP l ≠ 0) <;> cases decide (setP r ≠ 0) <;> simp
end Go.Proofs.YtckpnihpobfggaaDoor
