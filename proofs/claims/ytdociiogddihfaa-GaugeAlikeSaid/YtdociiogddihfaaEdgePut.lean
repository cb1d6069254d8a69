/- edge.Put. -/
import Derived.Test.YtdociiogddihfaaEdge
import Derived.Test.YtdociiogddihfaaNum
import Derived.LoopN
namespace Go.Proofs.Ytdociiogddihfaa
open Go.RowKit

theorem be8 (x : Nat) : (bv (be 8 x)).toArray = #[.int .u8 ((x : Int) / 72057594037927936 % 256), .int .u8 ((x : Int) / 281474976710656 % 256), .int .u8 ((x : Int) / 1099511627776 % 256), .int .u8 ((x : Int) / 4294967296 % 256),
    .int .u8 ((x : Int) / 16777216 % 256), .int .u8 ((x : Int) / 65536 % 256), .int .u8 ((x : Int) / 256 % 256), .int .u8 ((x : Int) % 256)] := by
  have h : ∀ n : Nat, ((UInt8.ofNat (n % 256)).toNat : Int) = (n : Int) % 256 := fun n => by rw [u8_nat _ (Nat.mod_lt _ (by decide))]; omega
  simp only [be, bv, List.nil_append, List.cons_append, List.map_cons, List.map_nil, h, Nat.div_div_eq_div_mul]
  rfl

set_option maxHeartbeats 2000000 in
theorem Put_any (x : Nat) (w : World) (hx : x < 18446744073709551616) : Calls Try.prog 36 #[.float .f64 x] w fun e w' =>
    e = .returned (.slice (some ⟨w.heap.size, 0, none⟩) 8 8) ∧ w' = w.alloc (.cells (bv (be 8 (canB x))).toArray 5) := by
  have hbits := run_bits
  have hn : ∀ w, Calls Try.prog 28 #[.float .f64 x] w fun e w' => e = .returned (.bool (fnan x)) ∧ w = w' := fun w => IsNaN_any x w hx
  have HN := Lib.hid hn
  clear hn
  have hcb := canB_lt x hx
  have hv : canB x = if fnan x then 9221120237041090560 else x := rfl
  have hmk : ∀ w : World, (Instr.makeSlice 44 (.int .i64 8) (.int .i64 8)).run Try.prog w = .ok (.slice (some ⟨w.heap.size, 0, none⟩) 8 8) (w.alloc (.cells #[.int .u8 0, .int .u8 0, .int .u8 0, .int .u8 0, .int .u8 0, .int .u8 0, .int .u8 0, .int .u8 0] 5)) := fun _ => by kernel_rfl
  generalize canB x = c at *
  cases h : fnan x with
  | true =>
    rw [h] at HN hv
    obtain rfl : c = 9221120237041090560 := hv
    go_enter Try.func36, Try.ntmps36
    go_wp2_with fail
    refine (HN.out _).mono ?_
    rintro e w' ⟨rfl, rfl⟩
    go_wp2_with fail
    refine wp_loop_rounds 9 ?_
    iterate 8 (rw [rounds_succ]; go_wp2_with fail)
    rw [rounds_succ]; go_wp2_with fail
    go_ret
    refine ⟨rfl, ?_⟩
    rw [be8]; rfl
  | false =>
    rw [h] at HN hv
    obtain rfl : c = x := hv
    rw [be8]
    go_enter Try.func36, Try.ntmps36
    go_wp2_with fail
    refine (HN.out _).mono ?_
    rintro e w' ⟨rfl, rfl⟩
    go_wp2_with fail
    refine wp_loop_rounds 9 ?_
    iterate 8 (rw [rounds_succ]; go_wp2_with fail)
    rw [rounds_succ]; go_wp2_with fail
    go_ret
    refine ⟨rfl, ?_⟩
    rw [show (c : Int) / 72057594037927936 % 256 = (c : Int) / 72057594037927936 by omega]

end Go.Proofs.Ytdociiogddihfaa
