/- How many ones: bits.OnesCount64, the reference's; leaf.Right. (printed by gen/leafo.py) -/
import Derived.Test.YtfibhmgjkooemaaDoorLeafI
import Derived.Test.YtfibhmgjkooemaaDoorGrowthP
namespace Go.Proofs.YtfibhmgjkooemaaDoor
open Go.RowKit Sha Ones

theorem and127 (n : Int) : bits .and .i64 n 127 = n % 128 := by
  have hm : (BitVec.ofInt 64 127).toNat = 2 ^ 7 - 1 := by decide
  have key : (BitVec.ofInt 64 n &&& BitVec.ofInt 64 127).toNat = (n % ((2 ^ 64 : Nat) : Int)).toNat % 2 ^ 7 := by
    rw [BitVec.toNat_and, BitVec.toNat_ofInt, hm, Nat.and_two_pow_sub_one_eq_mod]
  show IntKind.i64.wrap ((BitVec.ofInt 64 n &&& BitVec.ofInt 64 127).toNat : Nat) = n % 128
  rw [key, IntKind.wrap_i64]
  omega
set_option maxHeartbeats 4000000 in
theorem OnesCount64_any (x : Nat) (hx : x < 18446744073709551616) (w : World) :
    Calls Tryd.prog 73 #[.int .u64 x] w fun e w' => e = .returned (.int .i64 (pop 64 x)) ∧ Below w.heap.size w w' := by
  obtain ⟨X1, X2, X3, X4, X5, X6, e1, b1, e2, b2, b23, e3, e4, e5, e6, b6, b3, b4, b5, e7⟩ := ones64 x hx
  have a1 : bits .and .u64 ((x : Int) / 2) 6148914691236517205 = ((x / 2 &&& 6148914691236517205 : Nat) : Int) := bits_and_u64_nat (x / 2) 6148914691236517205 (by omega) (by omega)
  have a2 : bits .and .u64 (x : Int) 6148914691236517205 = ((x &&& 6148914691236517205 : Nat) : Int) := bits_and_u64_nat x 6148914691236517205 hx (by omega)
  have a3 : bits .and .u64 ((X1 : Int) / 4) 3689348814741910323 = ((X1 / 4 &&& 3689348814741910323 : Nat) : Int) := bits_and_u64_nat (X1 / 4) 3689348814741910323 (by omega) (by omega)
  have a4 : bits .and .u64 (X1 : Int) 3689348814741910323 = ((X1 &&& 3689348814741910323 : Nat) : Int) := bits_and_u64_nat X1 3689348814741910323 b1 (by omega)
  have a5 : bits .and .u64 ((X2 / 16 + X2 : Nat) : Int) 1085102592571150095 = ((X2 / 16 + X2 &&& 1085102592571150095 : Nat) : Int) := bits_and_u64_nat (X2 / 16 + X2) 1085102592571150095 b23 (by omega)
  generalize (x / 2 &&& 6148914691236517205) = A1 at *
  generalize (x &&& 6148914691236517205) = A2 at *
  generalize (X1 / 4 &&& 3689348814741910323) = A3 at *
  generalize (X1 &&& 3689348814741910323) = A4 at *
  rw [e3] at a5
  have s1 : IntKind.u64.wrap ((A1 : Int) + (A2 : Int)) = (X1 : Int) := (IntWalk.u64_in _ (by omega)).trans (by omega)
  have s2 : IntKind.u64.wrap ((A3 : Int) + (A4 : Int)) = (X2 : Int) := (IntWalk.u64_in _ (by omega)).trans (by omega)
  have s3 : IntKind.u64.wrap ((X2 : Int) / 16 + (X2 : Int)) = ((X2 / 16 + X2 : Nat) : Int) := (IntWalk.u64_in _ (by omega)).trans (by omega)
  have s4 : IntKind.u64.wrap ((X3 : Int) + (X3 : Int) / 256) = (X4 : Int) := (IntWalk.u64_in _ (by omega)).trans (by omega)
  have s5 : IntKind.u64.wrap ((X4 : Int) + (X4 : Int) / 65536) = (X5 : Int) := (IntWalk.u64_in _ (by omega)).trans (by omega)
  have s6 : IntKind.u64.wrap ((X5 : Int) + (X5 : Int) / 4294967296) = (X6 : Int) := (IntWalk.u64_in _ (by omega)).trans (by omega)
  have E7 := Lib.hid e7
  have B6 := Lib.hid b6
  generalize hK : X2 / 16 + X2 = K at *
  clear e1 e2 e3 e4 e5 e6 e7 b1 b2 b23 b3 b4 b5 hx b6 hK
  go_enter Tryd.func73, Tryd.ntmps73
  go_upto_region 7 with fail
  clear a1 a2 a3 a4 a5 s1 s2 s3 s4 s5 s6
  have c1 : IntKind.i64.wrap (X6 : Int) = (X6 : Int) := IntWalk.i64_in _ (by have := B6.out; omega)
  have c2 := and127 (X6 : Int)
  go_wp2_with fail
  go_ret
  refine ⟨congrArg (fun q => Ending.returned (Value.int .i64 q)) ?_, Below.refl _ _⟩
  have := E7.out
  omega

theorem pop_le : ∀ f n : Nat, pop f n ≤ f
  | 0, _ => Nat.le_refl _
  | f + 1, n => by have := pop_le f (n / 2); unfold pop; omega
theorem pop_zero : ∀ f : Nat, pop f 0 = 0
  | 0 => rfl
  | f + 1 => by unfold pop; rw [show (0 : Nat) / 2 = 0 from rfl, pop_zero f]
theorem pop_more : ∀ f n : Nat, n < 2 ^ f → pop (f + 1) n = pop f n
  | 0, n, h => by
    have : n = 0 := by omega
    subst this; rfl
  | f + 1, n, h => by
    have := pop_more f (n / 2) (by rw [Nat.pow_succ] at h; omega)
    rw [pop, this, pop]
theorem pop_step (n : Nat) (h : n < 18446744073709551616) : pop 64 n = n % 2 + pop 64 (n / 2) := by
  have e := pop_more 63 (n / 2) (by omega)
  have e2 : pop (63 + 1) n = n % 2 + pop 63 (n / 2) := by rw [pop]
  exact e2.trans (by rw [← e])

end Go.Proofs.YtfibhmgjkooemaaDoor
