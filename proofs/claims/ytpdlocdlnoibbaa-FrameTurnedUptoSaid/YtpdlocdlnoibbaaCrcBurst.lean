/- Plain law of the bursts: a run of at most 32 turned bits turns the sum. -/
import Derived.Test.YtpdlocdlnoibbaaCrcPlain
namespace Go.Proofs.Ytpdlocdlnoibbaa.Crc

theorem s1_ne {c : Nat} (h : c < 2 ^ 32) (hc : c ≠ 0) : s1 c ≠ 0 := by
  unfold s1
  split
  · intro e
    have h2 : c / 2 ^^^ 2197175160 ^^^ 2197175160 = 0 ^^^ 2197175160 := by rw [e]
    rw [Nat.xor_assoc, Nat.xor_self, Nat.xor_zero, Nat.zero_xor] at h2
    omega
  · omega
theorem sn_ne (n : Nat) : ∀ {c : Nat}, c < 2 ^ 32 → c ≠ 0 → sn n c ≠ 0 := by
  induction n with
  | zero => intro c _ h; exact h
  | succ n ih => intro c h hc; exact ih (s1_lt h) (s1_ne h hc)

/-- A bit that is set in a byte of a text: what it does to the register. -/
theorem st_set : ∀ (l : List UInt8) (s q : Nat) (x d : UInt8), l[q]? = some x → st s (l.set q (x ^^^ d)) = st s l ^^^ sn (8 * (l.length - q)) d.toNat
  | [], _, _, _, _, h => by simp at h
  | y :: l, s, 0, x, d, h => by
    simp only [List.getElem?_cons_zero, Option.some.injEq] at h
    subst h
    rw [List.set_cons_zero]
    show st (stp s (y ^^^ d)) l = st (stp s y) l ^^^ _
    have e : stp s (y ^^^ d) = sn 8 d.toNat ^^^ stp s y := by
      unfold stp; rw [UInt8.toNat_xor, ← Nat.xor_assoc, sn_xor, Nat.xor_comm]
    rw [e, st_xor, ← sn_add, Nat.xor_comm, List.length_cons]
    congr 2; omega
  | y :: l, s, q + 1, x, d, h => by
    simp only [List.getElem?_cons_succ] at h
    rw [List.set_cons_succ]
    show st (stp s y) (l.set q (x ^^^ d)) = st (stp s y) l ^^^ _
    rw [st_set l (stp s y) q x d h, List.length_cons, show l.length + 1 - (q + 1) = l.length - q by omega]

/-- One bit of a byte, from the text's bit p on: as many steps as bits are left. -/
theorem sn_bit (j m : Nat) (h : j ≤ m) : sn m (2 ^ j) = sn (m - j) 1 := by
  have := sn_shift j 1
  rw [Nat.mul_one] at this
  rw [show m = j + (m - j) by omega, sn_add, this]
  congr 1; omega
/-- The bit p = from + i of a text of n bytes: the same as the bit i of a word at `from`. -/
theorem bit_word (n fr i : Nat) (h : fr + i < 8 * n) : sn (8 * (n - (fr + i) / 8)) (2 ^ ((fr + i) % 8)) = sn (8 * n - fr) (2 ^ i) := by
  rw [sn_bit _ _ (by omega), sn_bit _ _ (by omega)]
  congr 1; omega
/-- The word so far, and one bit more. -/
theorem word_step (t i : Nat) : t % 2 ^ (i + 1) = if (t / 2 ^ i) % 2 = 1 then t % 2 ^ i ^^^ 2 ^ i else t % 2 ^ i := by
  have hlt : t % 2 ^ i < 2 ^ i := Nat.mod_lt _ (Nat.two_pow_pos i)
  apply Nat.eq_of_testBit_eq
  intro k
  have hb : t.testBit i = decide ((t / 2 ^ i) % 2 = 1) := by rw [Nat.testBit_eq_decide_div_mod_eq]
  split
  · rename_i h
    rw [Nat.testBit_xor, Nat.testBit_mod_two_pow, Nat.testBit_mod_two_pow, Nat.testBit_two_pow]
    by_cases hk : i = k
    · subst hk; simp [hb, h]
    · by_cases h2 : k < i
      · simp [hk, h2, show k < i + 1 by omega]
      · simp [hk, h2, show ¬ k < i + 1 by omega]
  · rename_i h
    rw [Nat.testBit_mod_two_pow, Nat.testBit_mod_two_pow]
    by_cases hk : i = k
    · subst hk; simp [hb, h]
    · by_cases h2 : k < i
      · simp [h2, show k < i + 1 by omega]
      · simp [h2, show ¬ k < i + 1 by omega]

/-- The copy after i bits: what its register is; and that a copy with a word turned has the sum only if the word is zero. -/
def Turned (b cs : List UInt8) (fr t i : Nat) : Prop := cs.length = b.length ∧ ∀ s, st s cs = st s b ^^^ sn (8 * b.length - fr) (t % 2 ^ i)
theorem Turned.start (b : List UInt8) (fr t : Nat) : Turned b b fr t 0 := ⟨rfl, fun s => by simp [Nat.mod_one, sn_zero]⟩
theorem Turned.skip {b cs : List UInt8} {fr t i : Nat} (h : Turned b cs fr t i) (hb : ¬ (t / 2 ^ i) % 2 = 1) : Turned b cs fr t (i + 1) :=
  ⟨h.1, fun s => by rw [word_step, if_neg hb]; exact h.2 s⟩
theorem Turned.turn {b cs : List UInt8} {fr t i : Nat} (h : Turned b cs fr t i) (hb : (t / 2 ^ i) % 2 = 1) (hp : fr + i < 8 * b.length) {x d : UInt8} (hx : cs[(fr + i) / 8]? = some x) (hd : d.toNat = 2 ^ ((fr + i) % 8)) :
    Turned b (cs.set ((fr + i) / 8) (x ^^^ d)) fr t (i + 1) := by
  refine ⟨by rw [List.length_set]; exact h.1, fun s => ?_⟩
  rw [st_set cs s _ x d hx, hd, h.1, bit_word _ _ _ hp, h.2 s, word_step, if_pos hb, sn_xor, Nat.xor_assoc]
theorem turned_sum {b cs : List UInt8} {fr t i : Nat} (h : Turned b cs fr t i) (hi : i ≤ 32) : (sum cs ≠ sum b) ↔ t % 2 ^ i ≠ 0 := by
  have hlt : t % 2 ^ i < 2 ^ 32 := Nat.lt_of_lt_of_le (Nat.mod_lt _ (Nat.two_pow_pos i)) (Nat.pow_le_pow_right (by omega) hi)
  have e : sum cs = sum b ^^^ sn (8 * b.length - fr) (t % 2 ^ i) := by
    unfold sum more
    rw [h.2, Nat.xor_assoc, Nat.xor_comm (sn _ _), ← Nat.xor_assoc]
  rw [e]
  by_cases h0 : t % 2 ^ i = 0
  · simp [h0, sn_zero]
  · have := sn_ne (8 * b.length - fr) hlt h0
    refine ⟨fun _ => h0, fun _ e2 => this ?_⟩
    have h3 : sum b ^^^ (sum b ^^^ sn (8 * b.length - fr) (t % 2 ^ i)) = 0 := by rw [e2, Nat.xor_self]
    rwa [← Nat.xor_assoc, Nat.xor_self, Nat.zero_xor] at h3
end Go.Proofs.Ytpdlocdlnoibbaa.Crc
