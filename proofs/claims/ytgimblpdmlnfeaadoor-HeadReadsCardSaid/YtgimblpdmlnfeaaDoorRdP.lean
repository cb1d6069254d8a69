/- How bytes are read as numbers: plain laws. -/
import Derived.Test.YtgimblpdmlnfeaaDoorNum
namespace Go.Proofs.YtgimblpdmlnfeaaDoor

/-- The bytes of a number that are still to come: the error, the number, the rest. -/
def rdK : Nat → Nat → Nat → List UInt8 → Int × Nat × List UInt8
  | 0, _, acc, l => (0, acc, l)
  | _ + 1, _, _, [] => (2, 0, [])
  | k + 1, i, acc, c :: t => if i = 0 ∧ c.toNat = 0 then (3, 0, t) else rdK k (i + 1) (acc * 256 + c.toNat) t
/-- A number, its length ahead. -/
def rdN : List UInt8 → Int × Nat × List UInt8
  | [] => (2, 0, [])
  | c :: t => if 8 < c.toNat then (3, 0, t) else rdK c.toNat 0 0 t
theorem rdK_ok : ∀ (k i acc : Nat) (l : List UInt8) (v : Nat) (t : List UInt8), rdK k i acc l = (0, v, t) → ∃ bs, l = bs ++ t ∧ bs.length = k ∧ v = acc * 256 ^ k + vl bs ∧ (i = 0 → ∀ c r, bs = c :: r → c.toNat ≠ 0)
  | 0, i, acc, l, v, t, h => by
    simp only [rdK, Prod.mk.injEq, true_and] at h
    exact ⟨[], by simp [h.2], rfl, by simp [vl, h.1], fun _ c r e => by cases e⟩
  | k + 1, i, acc, [], v, t, h => by simp [rdK] at h
  | k + 1, i, acc, c :: l, v, t, h => by
    rw [rdK] at h
    split at h
    · simp at h
    · rename_i hc
      obtain ⟨bs, h1, h2, h3, _⟩ := rdK_ok k (i + 1) _ l v t h
      refine ⟨c :: bs, by rw [h1]; rfl, by rw [List.length_cons, h2], ?_, fun hi d r e => ?_⟩
      · rw [h3, vl, h2, Nat.pow_succ, Nat.add_mul, Nat.mul_assoc, Nat.mul_comm 256 (256 ^ k), Nat.add_assoc]
      · simp only [List.cons.injEq] at e
        rw [← e.1]
        exact fun h0 => hc ⟨hi, h0⟩
theorem rdK_of : ∀ (bs : List UInt8) (i acc : Nat) (t : List UInt8), (i = 0 → ∀ c r, bs = c :: r → c.toNat ≠ 0) → rdK bs.length i acc (bs ++ t) = (0, acc * 256 ^ bs.length + vl bs, t)
  | [], i, acc, t, _ => by simp [rdK, vl]
  | c :: bs, i, acc, t, h => by
    rw [List.length_cons, List.cons_append, rdK, if_neg (fun hc => h hc.1 c bs rfl hc.2), rdK_of bs (i + 1) _ t (fun h => by omega), vl, Nat.pow_succ, Nat.add_mul, Nat.mul_assoc, Nat.mul_comm 256 (256 ^ bs.length), Nat.add_assoc]
theorem rdK_err : ∀ (k i acc : Nat) (l : List UInt8), (rdK k i acc l).1 = 0 ∨ (rdK k i acc l).1 = 2 ∨ (rdK k i acc l).1 = 3
  | 0, _, _, _ => .inl rfl
  | _ + 1, _, _, [] => .inr (.inl rfl)
  | k + 1, i, acc, c :: t => by
    rw [rdK]
    split
    · exact .inr (.inr rfl)
    · exact rdK_err k _ _ t
theorem rdN_err (l : List UInt8) : (rdN l).1 = 0 ∨ (rdN l).1 = 2 ∨ (rdN l).1 = 3 := by
  cases l with
  | nil => exact .inr (.inl rfl)
  | cons c t =>
    rw [rdN]
    split
    · exact .inr (.inr rfl)
    · exact rdK_err _ _ _ _
theorem vl_ge (c : UInt8) (r : List UInt8) (h : c.toNat ≠ 0) : 256 ^ r.length ≤ vl (c :: r) := by
  rw [vl]
  have : 1 * 256 ^ r.length ≤ c.toNat * 256 ^ r.length := Nat.mul_le_mul_right _ (by omega)
  omega
theorem nk_vl (bs : List UInt8) (h8 : bs.length ≤ 8) (h : ∀ c r, bs = c :: r → c.toNat ≠ 0) : nk (vl bs) = bs.length ∧ vl bs < 2 ^ 64 := by
  have hlt := vl_lt bs
  have h64 : vl bs < 2 ^ 64 := by
    have : 256 ^ bs.length ≤ 256 ^ 8 := Nat.pow_le_pow_right (by omega) h8
    have e : (256 : Nat) ^ 8 = 2 ^ 64 := by decide
    omega
  refine ⟨?_, h64⟩
  cases bs with
  | nil => simp [vl, nk_zero]
  | cons c r =>
    have hge := vl_ge c r (h c r rfl)
    have hp : 0 < 256 ^ r.length := Nat.pow_pos (by omega)
    have h1 := lt_nk _ h64
    have h2 := nk_ge _ (by omega) h64
    rw [List.length_cons] at hlt ⊢
    rcases Nat.lt_trichotomy (nk (vl (c :: r))) (r.length + 1) with h3 | h3 | h3
    · have : 256 ^ nk (vl (c :: r)) ≤ 256 ^ r.length := Nat.pow_le_pow_right (by omega) (by omega)
      omega
    · exact h3
    · have : 256 ^ (r.length + 1) ≤ 256 ^ (nk (vl (c :: r)) - 1) := Nat.pow_le_pow_right (by omega) (by omega)
      omega
/-- What is read is the number's own bytes. -/
theorem rdN_ok (l : List UInt8) (v : Nat) (t : List UInt8) (h : rdN l = (0, v, t)) : v < 2 ^ 64 ∧ l = numB v ++ t := by
  cases l with
  | nil => simp [rdN] at h
  | cons c s =>
    rw [rdN] at h
    split at h
    · simp at h
    · rename_i h8
      obtain ⟨bs, h1, h2, h3, h4⟩ := rdK_ok _ _ _ _ _ _ h
      rw [Nat.zero_mul, Nat.zero_add] at h3
      obtain ⟨h5, h6⟩ := nk_vl bs (by omega) (h4 rfl)
      rw [h3]
      refine ⟨h6, ?_⟩
      rw [numB, h5, be_vl, h1, h2]
      simp
/-- A number's bytes are read as it. -/
theorem rdN_numB (v : Nat) (t : List UInt8) (h : v < 2 ^ 64) : rdN (numB v ++ t) = (0, v, t) := by
  have hk := nk_le v h
  have hl : (be (nk v) v).length = nk v := be_length _ _
  have hf : ∀ c r, be (nk v) v = c :: r → c.toNat ≠ 0 := fun c r e h0 => by
    have hv := vl_numB v h
    rw [e, vl, h0, Nat.zero_mul, Nat.zero_add] at hv
    have hr : r.length + 1 = nk v := by rw [← hl, e]; rfl
    have h1 := vl_lt r
    have hpos : 0 < v := by
      rcases Nat.eq_zero_or_pos v with h2 | h2
      · rw [h2, nk_zero] at hr; omega
      · exact h2
    have h2 := nk_ge v hpos h
    rw [← hr, Nat.add_sub_cancel] at h2
    omega
  rw [numB, List.cons_append, rdN, u8_nat _ (by omega), if_neg (by omega)]
  have := rdK_of (be (nk v) v) 0 0 t (fun _ => hf)
  rw [hl, vl_numB v h, Nat.zero_mul, Nat.zero_add] at this
  exact this
/-- The rest is a part of the bytes behind. -/
theorem rdK_suffix : ∀ (k i acc : Nat) (l : List UInt8), ∃ p, l = p ++ (rdK k i acc l).2.2
  | 0, _, _, l => ⟨[], rfl⟩
  | _ + 1, _, _, [] => ⟨[], rfl⟩
  | k + 1, i, acc, c :: t => by
    rw [rdK]
    split
    · exact ⟨[c], rfl⟩
    · obtain ⟨p, hp⟩ := rdK_suffix k (i + 1) (acc * 256 + c.toNat) t
      exact ⟨c :: p, by rw [List.cons_append, ← hp]⟩
end Go.Proofs.YtgimblpdmlnfeaaDoor
