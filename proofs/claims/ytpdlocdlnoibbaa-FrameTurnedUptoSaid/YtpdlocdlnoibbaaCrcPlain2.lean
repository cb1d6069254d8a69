/- A grid holds what a linear map makes of each bit: no program is named here. -/
import Derived.Test.YtpdlocdlnoibbaaCrcPlain
namespace Go.Proofs.Ytpdlocdlnoibbaa.Crc

/-- A map of registers that goes bit by bit. -/
structure Lin (L : Nat → Nat) : Prop where
  xor : ∀ a b, L (a ^^^ b) = L a ^^^ L b
  lt : ∀ a, a < 2 ^ 32 → L a < 2 ^ 32
theorem Lin.zero {L : Nat → Nat} (h : Lin L) : L 0 = 0 := by
  have := h.xor 0 0
  rw [Nat.xor_self] at this
  rw [Nat.xor_self] at this
  exact this
theorem lin_sn (n : Nat) : Lin (sn n) := ⟨sn_xor n, fun _ h => sn_lt n h⟩
/-- One bit more of a register. -/
theorem bit_more (c i : Nat) : c % 2 ^ (i + 1) = if c / 2 ^ i % 2 = 1 then c % 2 ^ i ^^^ 2 ^ i else c % 2 ^ i := by
  have h1 : c % 2 ^ (i + 1) = 2 ^ i * (c / 2 ^ i % 2) + c % 2 ^ i := by
    rw [Nat.pow_succ, Nat.mod_mul]; omega
  have hlt : c % 2 ^ i < 2 ^ i := Nat.mod_lt _ (Nat.two_pow_pos i)
  rw [h1]
  by_cases h : c / 2 ^ i % 2 = 1
  · rw [if_pos h, h]
    have h2 := split_low i (2 ^ i * 1 + c % 2 ^ i)
    rw [Nat.mul_add_div (Nat.two_pow_pos i), Nat.div_eq_of_lt hlt, Nat.mul_add_mod, Nat.mod_eq_of_lt hlt] at h2
    rw [h2, Nat.add_zero, Nat.mul_one, Nat.xor_comm]
  · rw [if_neg h, show c / 2 ^ i % 2 = 0 by omega]; omega
theorem Lin.bit {L : Nat → Nat} (h : Lin L) (c i : Nat) : L (c % 2 ^ (i + 1)) = if c / 2 ^ i % 2 = 1 then L (c % 2 ^ i) ^^^ L (2 ^ i) else L (c % 2 ^ i) := by
  rw [bit_more]; split
  · rw [h.xor]
  · rfl
/-- The grid's cells. -/
def grid (L : Nat → Nat) : List Nat := (List.range 32).map fun i => L (2 ^ i)
end Go.Proofs.Ytpdlocdlnoibbaa.Crc
