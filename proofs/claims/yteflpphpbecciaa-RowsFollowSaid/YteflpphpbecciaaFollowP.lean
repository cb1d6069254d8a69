/- A leader's log that is followed: plain. -/
import Derived.Test.YteflpphpbecciaaRowsMerges
namespace Go.Proofs.Yteflpphpbecciaa

/-- Two logs agree in their terms up to an index. -/
def Agree (E L : List EE) (m : Nat) : Prop := m ≤ E.length ∧ m ≤ L.length ∧ ∀ i, i < m → (E[i]?).map EE.t = (L[i]?).map EE.t

theorem cp_agree : ∀ (A B : List EE) (i : Nat), i < cp A B → (A[i]?).map EE.t = (B[i]?).map EE.t
  | [], B, i, h => by simp [cp] at h
  | a :: A, [], i, h => by simp [cp] at h
  | a :: A, b :: B, i, h => by
    unfold cp at h
    split at h
    · rename_i ht
      cases i with
      | zero => simp [ht]
      | succ i => simpa using cp_agree A B i (by omega)
    · omega
theorem cp_full : ∀ (A B : List EE), (∀ i, i < B.length → (A[i]?).map EE.t = (B[i]?).map EE.t) → cp A B = B.length
  | A, [], _ => cp_nil A
  | [], b :: B, h => by have := h 0 (by simp); simp at this
  | a :: A, b :: B, h => by
    have h0 := h 0 (by simp)
    simp at h0
    unfold cp
    rw [if_pos h0, cp_full A B (fun i hi => by simpa using h (i + 1) (by simp; omega))]
    rfl

theorem agree_term {E L : List EE} {m : Nat} (h : Agree E L m) : termP 0 0 E m = ((termP 0 0 L m).1, true) := by
  obtain ⟨h1, h2, h3⟩ := h
  unfold termP
  by_cases h0 : m = 0
  · rw [if_pos h0, if_pos h0]
  · rw [if_neg h0, if_neg h0, if_pos ⟨by omega, by omega⟩, if_pos ⟨by omega, by omega⟩]
    have := h3 (m - 0 - 1) (by omega)
    simp only [this]
theorem Agree.less {E L : List EE} {m k : Nat} (h : Agree E L m) (hk : k ≤ m) : Agree E L k := ⟨Nat.le_trans hk h.1, Nat.le_trans hk h.2.1, fun i hi => h.2.2 i (by omega)⟩
theorem piece_len (L : List EE) (m n : Nat) (hn : n ≤ L.length - m) : ((L.drop m).take n).length = n := by simp; omega
theorem piece_at (L : List EE) (m n i : Nat) (hi : i < n) : ((L.drop m).take n)[i]? = L[m + i]? := by
  rw [List.getElem?_take_of_lt hi, List.getElem?_drop]

theorem agree_merge {E L : List EE} {m n : Nat} (h : Agree E L m) (hn : n ≤ L.length - m) :
    ∃ es fr, mergeP 0 0 E m (termP 0 0 L m).1 ((L.drop m).take n) = ⟨0, 0, es, fr, m + n, true⟩ ∧ Agree es L (m + n) ∧ es.length ≤ max E.length (m + n) ∧ ∀ e ∈ es, e ∈ E ∨ e ∈ L := by
  have hl := piece_len L m n hn
  have hmem := mergeP_es 0 0 E m (termP 0 0 L m).1 ((L.drop m).take n)
  have hq : mergeP 0 0 E m (termP 0 0 L m).1 ((L.drop m).take n) = mergeQ 0 0 E m (termP 0 0 L m).1 ((L.drop m).take n) := by unfold mergeP; rw [if_neg (by omega)]
  rw [hq] at hmem ⊢
  have hmem2 : ∀ e ∈ (mergeQ 0 0 E m (termP 0 0 L m).1 ((L.drop m).take n)).es, e ∈ E ∨ e ∈ L := fun e he => (hmem e he).imp id fun h => List.mem_of_mem_drop (List.mem_of_mem_take h)
  have hc := cp_agree (E.drop m) ((L.drop m).take n)
  have hle := cp_le (E.drop m) ((L.drop m).take n)
  unfold mergeQ at hmem2 ⊢
  rw [if_pos (agree_term h), Nat.sub_zero] at hmem2 ⊢
  obtain ⟨h1, h2, h3⟩ := h
  rw [hl] at hmem2 hle ⊢
  generalize cp (E.drop m) ((L.drop m).take n) = c at *
  simp only [List.length_drop] at hle
  have key : ∀ i, i < m + c → (E[i]?).map EE.t = (L[i]?).map EE.t := by
    intro i hi
    by_cases him : i < m
    · exact h3 i him
    · have := hc (i - m) (by omega)
      rw [List.getElem?_drop, piece_at _ _ _ _ (by omega), show m + (i - m) = i by omega] at this
      exact this
  by_cases hcn : c = n
  · rw [if_pos hcn] at hmem2 ⊢
    exact ⟨E, _, rfl, ⟨by omega, by omega, fun i hi => key i (by omega)⟩, by omega, hmem2⟩
  · rw [if_neg hcn] at hmem2 ⊢
    refine ⟨_, _, rfl, ⟨by simp; omega, by omega, fun i hi => ?_⟩, by simp; omega, hmem2⟩
    by_cases hic : i < m + c
    · rw [List.getElem?_append_left (by simp; omega), List.getElem?_take_of_lt hic]
      exact key i hic
    · rw [List.getElem?_append_right (by simp; omega), List.length_take, Nat.min_eq_left (by omega), List.getElem?_drop, piece_at _ _ _ _ (by omega), show m + (c + (i - (m + c))) = i by omega]
theorem agree_again {E L : List EE} {m k : Nat} (h : Agree E L m) (hk : k ≤ m) :
    mergeP 0 0 E k (termP 0 0 L k).1 ((L.drop k).take (m - k)) = ⟨0, 0, E, E.length + 1, m, true⟩ := by
  have hl := piece_len L k (m - k) (by have := h.2.1; omega)
  unfold mergeP
  rw [if_neg (by omega)]
  unfold mergeQ
  rw [if_pos (agree_term (h.less hk)), Nat.sub_zero, cp_full, if_pos rfl, hl]
  · simp; omega
  · intro i hi
    rw [hl] at hi
    rw [List.getElem?_drop, piece_at _ _ _ _ hi]
    exact h.2.2 _ (by omega)
theorem agree_terms {E L : List EE} {m : Nat} (h : Agree E L m) : (E.take m).map EE.t = (L.take m).map EE.t := by
  apply List.ext_getElem?
  intro i
  simp only [List.getElem?_map]
  by_cases hi : i < m
  · rw [List.getElem?_take_of_lt hi, List.getElem?_take_of_lt hi]; exact h.2.2 i hi
  · rw [List.getElem?_eq_none (by simp; omega), List.getElem?_eq_none (by simp; omega)]
theorem agree_start (L mine : List EE) (m : Nat) (hm : m ≤ L.length) (b : Bool) : Agree (L.take m ++ if b then mine.drop m else []) L m := by
  refine ⟨by simp; omega, hm, fun i hi => ?_⟩
  rw [List.getElem?_append_left (by simp; omega), List.getElem?_take_of_lt hi]
end Go.Proofs.Yteflpphpbecciaa
