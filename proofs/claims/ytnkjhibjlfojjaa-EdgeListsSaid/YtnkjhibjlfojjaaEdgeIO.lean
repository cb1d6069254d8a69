/- Contracts of the package edge: floats as bytes. -/
import Derived.Test.YtnkjhibjlfojjaaEdge2
import Derived.Test.YtnkjhibjlfojjaaNum
import Derived.LoopN
namespace Go.Proofs.Ytnkjhibjlfojjaa
open Go.RowKit

theorem be8 (x : Nat) : (bv (be 8 x)).toArray = #[.int .u8 ((x : Int) / 72057594037927936 % 256), .int .u8 ((x : Int) / 281474976710656 % 256), .int .u8 ((x : Int) / 1099511627776 % 256), .int .u8 ((x : Int) / 4294967296 % 256),
    .int .u8 ((x : Int) / 16777216 % 256), .int .u8 ((x : Int) / 65536 % 256), .int .u8 ((x : Int) / 256 % 256), .int .u8 ((x : Int) % 256)] := by
  have h : ∀ n : Nat, ((UInt8.ofNat (n % 256)).toNat : Int) = (n : Int) % 256 := fun n => by rw [u8_nat _ (Nat.mod_lt _ (by decide))]; omega
  simp only [be, bv, List.nil_append, List.cons_append, List.map_cons, List.map_nil, h, Nat.div_div_eq_div_mul]
  rfl

set_option maxHeartbeats 2000000 in
theorem Put_any (x : Nat) (w : World) (hx : x < 18446744073709551616) : Calls Try.prog 21 #[.float .f64 x] w fun e w' =>
    e = .returned (.slice (some ⟨w.heap.size, 0, none⟩) 8 8) ∧ w' = w.alloc (.cells (bv (be 8 (canB x))).toArray 5) := by
  have hbits := run_bits
  have hn : ∀ w, Calls Try.prog 37 #[.float .f64 x] w fun e w' => e = .returned (.bool (fnan x)) ∧ w = w' := fun w => IsNaN_any x w hx
  have HN := Lib.hid hn
  clear hn
  have hcb := canB_lt x hx
  have hv : canB x = if fnan x then 9221120237041090560 else x := rfl
  have hmk : ∀ w : World, (Instr.makeSlice 34 (.int .i64 8) (.int .i64 8)).run Try.prog w = .ok (.slice (some ⟨w.heap.size, 0, none⟩) 8 8) (w.alloc (.cells #[.int .u8 0, .int .u8 0, .int .u8 0, .int .u8 0, .int .u8 0, .int .u8 0, .int .u8 0, .int .u8 0] 5)) := fun _ => by kernel_rfl
  generalize canB x = c at *
  cases h : fnan x with
  | true =>
    rw [h] at HN hv
    obtain rfl : c = 9221120237041090560 := hv
    go_enter Try.func21, Try.ntmps21
    go_wp2_with fail
    refine (HN.out _).mono ?_
    rintro e w' ⟨rfl, rfl⟩
    go_wp2_with fail
    refine wp_loop_rounds 9 ?_
    iterate 8 (rw [rounds_succ]; go_wp2_with fail)
    rw [rounds_succ]; go_wp2_with fail
    go_ret
    refine ⟨rfl, ?_⟩
    rw [be8]; rfl
  | false =>
    rw [h] at HN hv
    obtain rfl : c = x := hv
    rw [be8]
    go_enter Try.func21, Try.ntmps21
    go_wp2_with fail
    refine (HN.out _).mono ?_
    rintro e w' ⟨rfl, rfl⟩
    go_wp2_with fail
    refine wp_loop_rounds 9 ?_
    iterate 8 (rw [rounds_succ]; go_wp2_with fail)
    rw [rounds_succ]; go_wp2_with fail
    go_ret
    refine ⟨rfl, ?_⟩
    rw [show (c : Int) / 72057594037927936 % 256 = (c : Int) / 72057594037927936 by omega]

theorem Copysign_one (w : World) : Calls Try.prog 35 #[.float .f64 0, .float .f64 13830554455654793216] w fun e w' => e = .returned (.float .f64 9223372036854775808) ∧ w = w' := by
  have hbits := run_bits
  have hfrom := run_frombits
  go_enter Try.func35, Try.ntmps35
  go_wp2_with fail
  go_ret
  exact ⟨rfl, rfl⟩

theorem awake05_any (w : World) : Calls Try.prog 10 #[] w fun e w' => e = .returned (.bool true) ∧ Below w.heap.size w w' := by
  go_enter Try.func10, Try.ntmps10
  go_wp2_with fail
  refine (Copysign_one _).mono ?_
  rintro e w' ⟨rfl, rfl⟩
  go_wp2_with fail
  refine (Order_any _ _ _ (by omega) (by omega)).mono ?_
  rintro e w' ⟨rfl, rfl⟩
  have h1 : ordP 9223372036854775808 0 = -1 := by decide
  rw [h1]
  clear h1
  go_wp2_with fail
  refine (Rank_any _ _ (by omega)).mono ?_
  rintro e w' ⟨rfl, rfl⟩
  have h1 : rankP 4607182418800017408 = 4607182418800017408 := by decide
  rw [h1]
  clear h1
  go_wp2_with fail
  refine (NaN_any _).mono ?_
  rintro e w' ⟨rfl, rfl⟩
  go_wp2_with fail
  refine (Class_any _ _ (by omega)).mono ?_
  rintro e w' ⟨rfl, rfl⟩
  have h1 : classP 9221120237041090561 = 6 := by decide
  rw [h1]
  clear h1
  go_wp2_with fail
  refine (Put_any _ _ (by omega)).mono ?_
  rintro e w' ⟨rfl, rfl⟩
  go_wp2_with fail
  go_ret
  exact ⟨rfl, (Below.refl _ _).alloc (Nat.le_refl _) _⟩
end Go.Proofs.Ytnkjhibjlfojjaa
