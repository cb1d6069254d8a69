/- Plain law of BallotWins: no two unlike candidates have majorities in one term. -/
import Derived.Test.YthghhjilbaiahaaConf
namespace Go.Proofs.Ythghhjilbaiahaa

theorem among_disjoint (a b : List Nat) (h : ∀ x, x ∈ a → x ∈ b → False) : ∀ l : List Nat, among a l + among b l ≤ l.length
  | [] => by simp [among]
  | x :: l => by
    have ih := among_disjoint a b h l
    unfold among at ih ⊢
    simp only [List.countP_cons, List.length_cons]
    by_cases ha : x ∈ a
    · have hb : x ∉ b := fun hb => h x ha hb
      simp [ha, hb]; omega
    · by_cases hb : x ∈ b
      · simp [ha, hb]; omega
      · simp [ha, hb]; omega

/-- A voter's hard state: its term and its vote. -/
abbrev HS := Nat → Nat × Nat
/-- One that was asked for: term, from, and who granted. -/
structure Won where
  term : Nat
  who : Nat
  by_ : List Nat

/-- What holds at each turn. -/
structure WInv (hs : HS) (ws : List Won) : Prop where
  someone : ∀ w ∈ ws, w.who ≠ 0
  unlike : ∀ (i k : Nat) (x y : Won), ws[i]? = some x → ws[k]? = some y → x.term = y.term → x.who = y.who → i = k
  apart : ∀ (i k : Nat) (x y : Won), ws[i]? = some x → ws[k]? = some y → x.term = y.term → i ≠ k → ∀ v, v ∈ x.by_ → v ∈ y.by_ → False
  voted : ∀ w ∈ ws, ∀ v ∈ w.by_, w.term ≤ (hs v).1 ∧ ((hs v).1 = w.term → (hs v).2 = w.who)

theorem WInv.nil (hs : HS) : WInv hs [] := ⟨by simp, by simp, by simp, by simp⟩

/-- A voter's state goes on without a grant: its term grows, or the vote stays in its term. -/
theorem WInv.keep {hs : HS} {ws : List Won} (h : WInv hs ws) (v : Nat) (s : Nat × Nat) (h1 : (hs v).1 ≤ s.1) (h2 : (hs v).1 = s.1 → (hs v).2 ≠ 0 → s.2 = (hs v).2) :
    WInv (fun u => if u = v then s else hs u) ws := by
  refine ⟨h.someone, h.unlike, h.apart, fun w hw u hu => ?_⟩
  obtain ⟨g1, g2⟩ := h.voted w hw u hu
  by_cases e : u = v
  · subst e
    simp only [if_true]
    refine ⟨Nat.le_trans g1 h1, fun e2 => ?_⟩
    have e3 : (hs u).1 = w.term := by omega
    rw [← g2 e3]
    exact h2 (by omega) (by rw [g2 e3]; exact h.someone w hw)
  · simp only [if_neg e]; exact ⟨g1, g2⟩

/-- No two quorums. -/
theorem WInv.lone {hs : HS} {ws : List Won} (h : WInv hs ws) {i k : Nat} {x y : Won} (hi : ws[i]? = some x) (hk : ws[k]? = some y) (ht : x.term = y.term) (hne : i ≠ k) (l : List Nat)
    (q1 : l.length / 2 + 1 ≤ among x.by_ l) (q2 : l.length / 2 + 1 ≤ among y.by_ l) : False := by
  have := among_disjoint x.by_ y.by_ (h.apart i k x y hi hk ht hne) l
  omega

/-- One more that was asked for, and as yet without a vote. -/
theorem WInv.push {hs : HS} {ws : List Won} (h : WInv hs ws) (T F : Nat) (hF : F ≠ 0) (hnew : ∀ w ∈ ws, ¬ (w.term = T ∧ w.who = F)) : WInv hs (ws ++ [⟨T, F, []⟩]) := by
  have key : ∀ (i : Nat) (x : Won), (ws ++ [⟨T, F, []⟩])[i]? = some x → ws[i]? = some x ∨ (i = ws.length ∧ x = ⟨T, F, []⟩) := by
    intro i x hx
    by_cases hi : i < ws.length
    · rw [List.getElem?_append_left hi] at hx; exact .inl hx
    · rw [List.getElem?_append_right (by omega)] at hx
      right
      by_cases e : i - ws.length = 0
      · rw [e] at hx; simp at hx; exact ⟨by omega, hx.symm⟩
      · rw [List.getElem?_eq_none (by simp; omega)] at hx; cases hx
  refine ⟨?_, ?_, ?_, ?_⟩
  · intro w hw
    rcases List.mem_append.1 hw with hw | hw
    · exact h.someone w hw
    · simp at hw; subst hw; exact hF
  · intro i k x y hx hy e1 e2
    rcases key i x hx with hx | ⟨rfl, rfl⟩ <;> rcases key k y hy with hy | ⟨rfl, rfl⟩
    · exact h.unlike i k x y hx hy e1 e2
    · exact absurd ⟨e1, e2⟩ (hnew x (List.mem_of_getElem? hx))
    · exact absurd ⟨e1.symm, e2.symm⟩ (hnew y (List.mem_of_getElem? hy))
    · rfl
  · intro i k x y hx hy e1 hne v hv hv2
    rcases key i x hx with hx | ⟨rfl, rfl⟩
    · rcases key k y hy with hy | ⟨rfl, rfl⟩
      · exact h.apart i k x y hx hy e1 hne v hv hv2
      · simp at hv2
    · simp at hv
  · intro w hw v hv
    rcases List.mem_append.1 hw with hw | hw
    · exact h.voted w hw v hv
    · simp at hw; subst hw; simp at hv

/-- A vote for one that was asked for. -/
theorem WInv.vote {hs : HS} {ws : List Won} (h : WInv hs ws) (k v T F : Nat) (b : List Nat) (hk : ws[k]? = some ⟨T, F, b⟩) (h1 : (hs v).1 ≤ T) (h2 : (hs v).1 = T → (hs v).2 = 0 ∨ (hs v).2 = F) :
    WInv (fun u => if u = v then (T, F) else hs u) (ws.set k ⟨T, F, b ++ [v]⟩) := by
  have hkl := (List.getElem?_eq_some_iff.1 hk).1
  have hF : F ≠ 0 := h.someone _ (List.mem_of_getElem? hk)
  have h0 : WInv (fun u => if u = v then (T, F) else hs u) ws := h.keep v (T, F) h1 (fun e e2 => (h2 e).elim (fun e3 => absurd e3 e2) (fun e3 => e3.symm))
  have key : ∀ (i : Nat) (x : Won), (ws.set k ⟨T, F, b ++ [v]⟩)[i]? = some x → (i ≠ k ∧ ws[i]? = some x) ∨ (i = k ∧ x = ⟨T, F, b ++ [v]⟩) := by
    intro i x hx
    rw [List.getElem?_set] at hx
    by_cases e : k = i
    · subst e; rw [if_pos rfl, if_pos hkl] at hx; simp at hx; exact .inr ⟨rfl, hx.symm⟩
    · rw [if_neg e] at hx; exact .inl ⟨fun e2 => e e2.symm, hx⟩
  have other : ∀ (i : Nat) (x : Won), i ≠ k → ws[i]? = some x → x.term = T → v ∈ x.by_ → False := by
    intro i x hne hx ht hv
    obtain ⟨g1, g2⟩ := h.voted x (List.mem_of_getElem? hx) v hv
    have e1 : (hs v).1 = x.term := by omega
    have e2 := g2 e1
    have hx0 := h.someone x (List.mem_of_getElem? hx)
    rcases h2 (by omega) with e3 | e3
    · omega
    · exact hne (h.unlike i k x _ hx hk ht (by show x.who = F; omega))
  refine ⟨?_, ?_, ?_, ?_⟩
  · intro w hw
    obtain ⟨i, hi⟩ := List.getElem?_of_mem hw
    rcases key i w hi with ⟨_, hi⟩ | ⟨_, rfl⟩
    · exact h.someone w (List.mem_of_getElem? hi)
    · exact hF
  · intro i j x y hx hy e1 e2
    rcases key i x hx with ⟨_, gx⟩ | ⟨rfl, rfl⟩ <;> rcases key j y hy with ⟨_, gy⟩ | ⟨rfl, rfl⟩
    · exact h.unlike i j x y gx gy e1 e2
    · exact h.unlike i _ x _ gx hk e1 e2
    · exact h.unlike _ j _ y hk gy e1 e2
    · rfl
  · intro i j x y hx hy e1 hne u hu hu2
    rcases key i x hx with ⟨ni, gx⟩ | ⟨rfl, rfl⟩ <;> rcases key j y hy with ⟨nj, gy⟩ | ⟨rfl, rfl⟩
    · exact h.apart i j x y gx gy e1 hne u hu hu2
    · rcases List.mem_append.1 hu2 with hu2 | hu2
      · exact h.apart i _ x _ gx hk e1 hne u hu hu2
      · simp at hu2; subst hu2; exact other i x ni gx e1 hu
    · rcases List.mem_append.1 hu with hu | hu
      · exact h.apart _ j _ y hk gy e1 hne u hu hu2
      · simp at hu; subst hu; exact other j y nj gy e1.symm hu2
    · exact hne rfl
  · intro w hw u hu
    obtain ⟨i, hi⟩ := List.getElem?_of_mem hw
    rcases key i w hi with ⟨_, hi⟩ | ⟨_, rfl⟩
    · exact h0.voted w (List.mem_of_getElem? hi) u hu
    · rcases List.mem_append.1 hu with hu | hu
      · exact h0.voted ⟨T, F, b⟩ (List.mem_of_getElem? hk) u hu
      · simp at hu; subst hu; simp
end Go.Proofs.Ythghhjilbaiahaa
