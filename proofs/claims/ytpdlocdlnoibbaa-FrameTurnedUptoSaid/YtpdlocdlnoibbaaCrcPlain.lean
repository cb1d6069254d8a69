/- Plain laws of the sums (CRC-32C): no program is named here. -/
import Derived.KernelRfl
namespace Go.Proofs.Ytpdlocdlnoibbaa.Crc

/-- One step of a register. -/
def s1 (c : Nat) : Nat := if c % 2 = 1 then c / 2 ^^^ 2197175160 else c / 2
/-- So many steps. -/
def sn : Nat → Nat → Nat
  | 0, c => c
  | n + 1, c => sn n (s1 c)

theorem s1_xor (a b : Nat) : s1 (a ^^^ b) = s1 a ^^^ s1 b := by
  unfold s1
  have h : (a ^^^ b) % 2 = 1 ↔ ¬(a % 2 = 1 ↔ b % 2 = 1) := Nat.xor_mod_two_eq_one
  by_cases ha : a % 2 = 1 <;> by_cases hb : b % 2 = 1
  · rw [if_neg (by rw [h]; simp [ha, hb]), if_pos ha, if_pos hb, Nat.xor_div_two]
    rw [Nat.xor_assoc, Nat.xor_comm 2197175160, Nat.xor_assoc, Nat.xor_self, Nat.xor_zero]
  · rw [if_pos (by rw [h]; simp [ha, hb]), if_pos ha, if_neg hb, Nat.xor_div_two, Nat.xor_assoc, Nat.xor_assoc, Nat.xor_comm (b / 2)]
  · rw [if_pos (by rw [h]; simp [ha, hb]), if_neg ha, if_pos hb, Nat.xor_div_two, Nat.xor_assoc]
  · rw [if_neg (by rw [h]; simp [ha, hb]), if_neg ha, if_neg hb, Nat.xor_div_two]
theorem sn_xor (n : Nat) : ∀ a b, sn n (a ^^^ b) = sn n a ^^^ sn n b := by
  induction n with
  | zero => intro a b; rfl
  | succ n ih => intro a b; rw [sn, sn, sn, s1_xor, ih]
theorem sn_add (m n c : Nat) : sn (m + n) c = sn n (sn m c) := by
  induction m generalizing c with
  | zero => rw [Nat.zero_add]; rfl
  | succ m ih => rw [Nat.succ_add, sn, sn, ih]
theorem s1_zero : s1 0 = 0 := by decide
theorem sn_zero (n : Nat) : sn n 0 = 0 := by
  induction n with
  | zero => rfl
  | succ n ih => rw [sn, s1_zero, ih]
theorem s1_lt {c : Nat} (h : c < 2 ^ 32) : s1 c < 2 ^ 32 := by
  unfold s1
  split
  · exact Nat.xor_lt_two_pow (by omega) (by decide)
  · omega
theorem sn_lt (n : Nat) : ∀ {c : Nat}, c < 2 ^ 32 → sn n c < 2 ^ 32 := by
  induction n with
  | zero => intro c h; exact h
  | succ n ih => intro c h; exact ih (s1_lt h)
/-- Bits that are shifted out without a turn. -/
theorem sn_shift (n h : Nat) : sn n (2 ^ n * h) = h := by
  induction n generalizing h with
  | zero => simp [sn]
  | succ n ih =>
    rw [sn]
    have e : 2 ^ (n + 1) * h = 2 * (2 ^ n * h) := by rw [Nat.pow_succ, Nat.mul_comm (2 ^ n) 2, Nat.mul_assoc]
    have : s1 (2 ^ (n + 1) * h) = 2 ^ n * h := by
      rw [e]; unfold s1; rw [if_neg (by omega)]; omega
    rw [this, ih]
theorem split_low (n c : Nat) : c = 2 ^ n * (c / 2 ^ n) ^^^ c % 2 ^ n := by
  apply Nat.eq_of_testBit_eq
  intro i
  have hlt : c % 2 ^ n < 2 ^ n := Nat.mod_lt _ (Nat.two_pow_pos n)
  rw [Nat.testBit_xor]
  have h1 : (2 ^ n * (c / 2 ^ n)).testBit i = if i < n then false else (c / 2 ^ n).testBit (i - n) := by
    have := Nat.testBit_two_pow_mul_add (c / 2 ^ n) (Nat.two_pow_pos n) i
    simpa using this
  rw [h1]
  by_cases hi : i < n
  · simp [hi, Nat.testBit_mod_two_pow]
  · simp [hi, Nat.testBit_mod_two_pow, Nat.testBit_div_two_pow, show i - n + n = i by omega]
theorem sn_low (n c : Nat) : sn n c = c / 2 ^ n ^^^ sn n (c % 2 ^ n) := by
  conv => lhs; rw [split_low n c]
  rw [sn_xor, sn_shift]

/-- All bits turned. -/
def full : Nat := 4294967295
/-- A byte comes to a register. -/
def stp (c : Nat) (x : UInt8) : Nat := sn 8 (c ^^^ x.toNat)
def st (c : Nat) (b : List UInt8) : Nat := b.foldl stp c
def more (sum : Nat) (b : List UInt8) : Nat := st (sum ^^^ full) b ^^^ full
def sum (b : List UInt8) : Nat := more 0 b
def join (a b n : Nat) : Nat := sn (8 * n) a ^^^ b

theorem st_xor : ∀ (b : List UInt8) (c d : Nat), st (c ^^^ d) b = sn (8 * b.length) c ^^^ st d b
  | [], c, d => by simp [st, sn]
  | x :: b, c, d => by
    show st (stp (c ^^^ d) x) b = _ ^^^ st (stp d x) b
    have e : stp (c ^^^ d) x = sn 8 c ^^^ stp d x := by unfold stp; rw [Nat.xor_assoc, sn_xor]
    rw [e, st_xor b, ← sn_add, List.length_cons, show 8 + 8 * b.length = 8 * (b.length + 1) by omega]
theorem st_lt : ∀ (b : List UInt8) {c : Nat}, c < 2 ^ 32 → st c b < 2 ^ 32
  | [], _, h => h
  | x :: b, c, h => st_lt b (sn_lt 8 (Nat.xor_lt_two_pow h (Nat.lt_trans x.toNat_lt (by decide))))
theorem full_lt : full < 2 ^ 32 := by decide
theorem more_lt {s : Nat} (h : s < 2 ^ 32) (b : List UInt8) : more s b < 2 ^ 32 := Nat.xor_lt_two_pow (st_lt b (Nat.xor_lt_two_pow h full_lt)) full_lt
theorem sum_lt (b : List UInt8) : sum b < 2 ^ 32 := more_lt (by decide) b
theorem join_lt {a b : Nat} (n : Nat) (ha : a < 2 ^ 32) (hb : b < 2 ^ 32) : join a b n < 2 ^ 32 := Nat.xor_lt_two_pow (sn_lt _ ha) hb
theorem xor_cancel (a b : Nat) : a ^^^ b ^^^ b = a := by rw [Nat.xor_assoc, Nat.xor_self, Nat.xor_zero]
theorem st_append (c : Nat) (a b : List UInt8) : st c (a ++ b) = st (st c a) b := by unfold st; rw [List.foldl_append]
theorem more_append (s : Nat) (a b : List UInt8) : more s (a ++ b) = more (more s a) b := by
  unfold more; rw [st_append, xor_cancel]
theorem more_join (s : Nat) (b : List UInt8) : more s b = join s (sum b) b.length := by
  unfold more join sum more
  rw [Nat.zero_xor, st_xor, Nat.xor_assoc]
theorem sum_append (a b : List UInt8) : sum (a ++ b) = join (sum a) (sum b) b.length := by
  unfold sum; rw [more_append, more_join (more 0 a) b]; rfl
theorem sum_nil : sum [] = 0 := by decide
theorem join_join (a b c n m : Nat) : join (join a b n) c m = join a (join b c m) (n + m) := by
  unfold join
  rw [sn_xor, ← sn_add, show 8 * n + 8 * m = 8 * (n + m) by omega, Nat.xor_assoc]
end Go.Proofs.Ytpdlocdlnoibbaa.Crc
