import Derived.Test.YtdociiogddihfaaBase
import Derived.Lib.Strings
import Derived.Test.YtdociiogddihfaaEdge
import Derived.LoopN
/- Plain laws of a number's bytes: no program is named here. -/
namespace Go.Proofs.Ytdociiogddihfaa
open Go.RowKit

/-- The number that bytes are, the highest first. -/
def vl : List UInt8 → Nat
  | [] => 0
  | c :: l => c.toNat * 256 ^ l.length + vl l
theorem vl_lt : ∀ l : List UInt8, vl l < 256 ^ l.length
  | [] => by simp [vl]
  | c :: l => by
    have := vl_lt l
    have hc : c.toNat < 256 := c.toNat_lt
    simp only [vl, List.length_cons, Nat.pow_succ]
    have : c.toNat * 256 ^ l.length ≤ 255 * 256 ^ l.length := Nat.mul_le_mul_right _ (by omega)
    omega
theorem vl_snoc (l : List UInt8) (c : UInt8) : vl (l ++ [c]) = vl l * 256 + c.toNat := by
  induction l with
  | nil => simp [vl]
  | cons d l ih => simp only [List.cons_append, vl, ih, List.length_append, List.length_singleton, Nat.pow_succ, Nat.add_mul, Nat.mul_assoc]; omega
theorem vl_be (k n : Nat) : vl (be k n) = n % 256 ^ k := by
  induction k generalizing n with
  | zero => simp [be, vl, Nat.mod_one]
  | succ k ih =>
    rw [be, vl_snoc, ih, u8_nat _ (by omega), Nat.pow_succ, Nat.mul_comm (256 ^ k) 256, Nat.mod_mul]
    omega
theorem be_vl (l : List UInt8) : be l.length (vl l) = l := by
  induction h : l.length generalizing l with
  | zero => simp [be, List.eq_nil_of_length_eq_zero h]
  | succ k ih =>
    have hne : l ≠ [] := by intro e; subst e; simp at h
    obtain ⟨l', c, rfl⟩ : ∃ l' c, l = l' ++ [c] := ⟨l.dropLast, l.getLast hne, (List.dropLast_concat_getLast hne).symm⟩
    have hk : l'.length = k := by simpa using h
    rw [be, vl_snoc]
    have hc : c.toNat < 256 := c.toNat_lt
    rw [show (vl l' * 256 + c.toNat) / 256 = vl l' by omega, show (vl l' * 256 + c.toNat) % 256 = c.toNat by omega, ih l' hk]
    simp
theorem lt_nk (n : Nat) (h : n < 2 ^ 64) : n < 256 ^ nk n := by
  induction n using Nat.strongRecOn with
  | _ n ih =>
    by_cases h0 : n = 0
    · subst h0; simp [nk_zero]
    · rw [nk_pos n (by omega) h, Nat.pow_succ]
      have := ih (n / 256) (by omega) (by omega)
      omega
theorem nk_ge (n : Nat) (h0 : 0 < n) (h : n < 2 ^ 64) : 256 ^ (nk n - 1) ≤ n := by
  induction n using Nat.strongRecOn with
  | _ n ih =>
    rw [nk_pos n h0 h]
    by_cases h1 : n / 256 = 0
    · rw [h1, nk_zero]; simp; omega
    · have := ih (n / 256) (by omega) (by omega) (by omega)
      have h2 := nk_pos (n / 256) (by omega) (by omega)
      rw [show nk (n / 256) + 1 - 1 = (nk (n / 256) - 1) + 1 by omega, Nat.pow_succ]
      omega
theorem vl_numB (n : Nat) (h : n < 2 ^ 64) : vl (be (nk n) n) = n := by rw [vl_be, Nat.mod_eq_of_lt (lt_nk n h)]

end Go.Proofs.Ytdociiogddihfaa

/- edge.Put. -/
namespace Go.Proofs.Ytdociiogddihfaa
open Go.RowKit

theorem be8 (x : Nat) : (bv (be 8 x)).toArray = #[.int .u8 ((x : Int) / 72057594037927936 % 256), .int .u8 ((x : Int) / 281474976710656 % 256), .int .u8 ((x : Int) / 1099511627776 % 256), .int .u8 ((x : Int) / 4294967296 % 256),
    .int .u8 ((x : Int) / 16777216 % 256), .int .u8 ((x : Int) / 65536 % 256), .int .u8 ((x : Int) / 256 % 256), .int .u8 ((x : Int) % 256)] := by
  have h : ∀ n : Nat, ((UInt8.ofNat (n % 256)).toNat : Int) = (n : Int) % 256 := fun n => by rw [u8_nat _ (Nat.mod_lt _ (by decide))]; omega
  simp only [be, bv, List.nil_append, List.cons_append, List.map_cons, List.map_nil, h, Nat.div_div_eq_div_mul]
  rfl

set_option maxHeartbeats 2000000 in
theorem Put_any (x : Nat) (w : World) (hx : x < 18446744073709551616) : Calls Try.prog 36 #[.float .f64 x] w fun e w' =>
    e = .returned (.slice (some ⟨w.heap.size, 0, none⟩) 8 8) ∧ w' = w.alloc (.cells (bv (be 8 (canB x))).toArray 5) := by
  have hbits := run_bits
  have hn : ∀ w, Calls Try.prog 28 #[.float .f64 x] w fun e w' => e = .returned (.bool (fnan x)) ∧ w = w' := fun w => IsNaN_any x w hx
  have HN := Lib.hid hn
  clear hn
  have hcb := canB_lt x hx
  have hv : canB x = if fnan x then 9221120237041090560 else x := rfl
  have hmk : ∀ w : World, (Instr.makeSlice 44 (.int .i64 8) (.int .i64 8)).run Try.prog w = .ok (.slice (some ⟨w.heap.size, 0, none⟩) 8 8) (w.alloc (.cells #[.int .u8 0, .int .u8 0, .int .u8 0, .int .u8 0, .int .u8 0, .int .u8 0, .int .u8 0, .int .u8 0] 5)) := fun _ => by kernel_rfl
  generalize canB x = c at *
  cases h : fnan x with
  | true =>
    rw [h] at HN hv
    obtain rfl : c = 9221120237041090560 := hv
    go_enter Try.func36, Try.ntmps36
    go_wp2_with fail
    refine (HN.out _).mono ?_
    rintro e w' ⟨rfl, rfl⟩
    go_wp2_with fail
    refine wp_loop_rounds 9 ?_
    iterate 8 (rw [rounds_succ]; go_wp2_with fail)
    rw [rounds_succ]; go_wp2_with fail
    go_ret
    refine ⟨rfl, ?_⟩
    rw [be8]; rfl
  | false =>
    rw [h] at HN hv
    obtain rfl : c = x := hv
    rw [be8]
    go_enter Try.func36, Try.ntmps36
    go_wp2_with fail
    refine (HN.out _).mono ?_
    rintro e w' ⟨rfl, rfl⟩
    go_wp2_with fail
    refine wp_loop_rounds 9 ?_
    iterate 8 (rw [rounds_succ]; go_wp2_with fail)
    rw [rounds_succ]; go_wp2_with fail
    go_ret
    refine ⟨rfl, ?_⟩
    rw [show (c : Int) / 72057594037927936 % 256 = (c : Int) / 72057594037927936 by omega]

end Go.Proofs.Ytdociiogddihfaa
