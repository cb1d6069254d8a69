import Derived.Test.YtfibhmgjkooemaaDoorLeafI
import Derived.Test.YtfibhmgjkooemaaDoorGrowthP
import Derived.Test.YtfibhmgjkooemaaDoorShelf
import Derived.Laws.Bits64
/- How many ones: bits.OnesCount64, the reference's; leaf.Right. (printed by gen/leafo.py) -/
namespace Go.Proofs.YtfibhmgjkooemaaDoor
open Go.RowKit Sha Ones

theorem and127 (n : Int) : bits .and .i64 n 127 = n % 128 := by
  have hm : (BitVec.ofInt 64 127).toNat = 2 ^ 7 - 1 := by decide
  have key : (BitVec.ofInt 64 n &&& BitVec.ofInt 64 127).toNat = (n % ((2 ^ 64 : Nat) : Int)).toNat % 2 ^ 7 := by
    rw [BitVec.toNat_and, BitVec.toNat_ofInt, hm, Nat.and_two_pow_sub_one_eq_mod]
  show IntKind.i64.wrap ((BitVec.ofInt 64 n &&& BitVec.ofInt 64 127).toNat : Nat) = n % 128
  rw [key, IntKind.wrap_i64]
  omega
set_option maxHeartbeats 4000000 in
theorem OnesCount64_any (x : Nat) (hx : x < 18446744073709551616) (w : World) :
    Calls Tryd.prog 73 #[.int .u64 x] w fun e w' => e = .returned (.int .i64 (pop 64 x)) ∧ Below w.heap.size w w' := by
  obtain ⟨X1, X2, X3, X4, X5, X6, e1, b1, e2, b2, b23, e3, e4, e5, e6, b6, b3, b4, b5, e7⟩ := ones64 x hx
  have a1 : bits .and .u64 ((x : Int) / 2) 6148914691236517205 = ((x / 2 &&& 6148914691236517205 : Nat) : Int) := bits_and_u64_nat (x / 2) 6148914691236517205 (by omega) (by omega)
  have a2 : bits .and .u64 (x : Int) 6148914691236517205 = ((x &&& 6148914691236517205 : Nat) : Int) := bits_and_u64_nat x 6148914691236517205 hx (by omega)
  have a3 : bits .and .u64 ((X1 : Int) / 4) 3689348814741910323 = ((X1 / 4 &&& 3689348814741910323 : Nat) : Int) := bits_and_u64_nat (X1 / 4) 3689348814741910323 (by omega) (by omega)
  have a4 : bits .and .u64 (X1 : Int) 3689348814741910323 = ((X1 &&& 3689348814741910323 : Nat) : Int) := bits_and_u64_nat X1 3689348814741910323 b1 (by omega)
  have a5 : bits .and .u64 ((X2 / 16 + X2 : Nat) : Int) 1085102592571150095 = ((X2 / 16 + X2 &&& 1085102592571150095 : Nat) : Int) := bits_and_u64_nat (X2 / 16 + X2) 1085102592571150095 b23 (by omega)
  generalize (x / 2 &&& 6148914691236517205) = A1 at *
  generalize (x &&& 6148914691236517205) = A2 at *
  generalize (X1 / 4 &&& 3689348814741910323) = A3 at *
  generalize (X1 &&& 3689348814741910323) = A4 at *
  rw [e3] at a5
  have s1 : IntKind.u64.wrap ((A1 : Int) + (A2 : Int)) = (X1 : Int) := (IntWalk.u64_in _ (by omega)).trans (by omega)
  have s2 : IntKind.u64.wrap ((A3 : Int) + (A4 : Int)) = (X2 : Int) := (IntWalk.u64_in _ (by omega)).trans (by omega)
  have s3 : IntKind.u64.wrap ((X2 : Int) / 16 + (X2 : Int)) = ((X2 / 16 + X2 : Nat) : Int) := (IntWalk.u64_in _ (by omega)).trans (by omega)
  have s4 : IntKind.u64.wrap ((X3 : Int) + (X3 : Int) / 256) = (X4 : Int) := (IntWalk.u64_in _ (by omega)).trans (by omega)
  have s5 : IntKind.u64.wrap ((X4 : Int) + (X4 : Int) / 65536) = (X5 : Int) := (IntWalk.u64_in _ (by omega)).trans (by omega)
  have s6 : IntKind.u64.wrap ((X5 : Int) + (X5 : Int) / 4294967296) = (X6 : Int) := (IntWalk.u64_in _ (by omega)).trans (by omega)
  have E7 := Lib.hid e7
  have B6 := Lib.hid b6
  generalize hK : X2 / 16 + X2 = K at *
  clear e1 e2 e3 e4 e5 e6 e7 b1 b2 b23 b3 b4 b5 hx b6 hK
  go_enter Tryd.func73, Tryd.ntmps73
  go_upto_region 7 with fail
  clear a1 a2 a3 a4 a5 s1 s2 s3 s4 s5 s6
  have c1 : IntKind.i64.wrap (X6 : Int) = (X6 : Int) := IntWalk.i64_in _ (by have := B6.out; omega)
  have c2 := and127 (X6 : Int)
  go_wp2_with fail
  go_ret
  refine ⟨congrArg (fun q => Ending.returned (Value.int .i64 q)) ?_, Below.refl _ _⟩
  have := E7.out
  omega

end Go.Proofs.YtfibhmgjkooemaaDoor

/- Contracts of path.inner, Size and the reference's Split, Size. -/
namespace Go.Proofs.YtfibhmgjkooemaaDoor
open Go.RowKit Sha Root Ones Path

/-- How long a proof is. -/
def sizeN (i n : Nat) : Nat := if i < n then sz 64 i (n - 1) else 0
set_option maxHeartbeats 2000000 in
theorem inner_any (i n : Nat) (w : World) (hi : i < n) (hn : n < 18446744073709551616) :
    Calls Tryd.prog 51 #[.int .u64 i, .int .u64 n] w fun e w' => e = .returned (.tuple #[.int .i64 (Lib.bitLen (i ^^^ (n - 1)) : Nat), .int .i64 (pop 64 (i / 2 ^ Lib.bitLen (i ^^^ (n - 1))) : Nat)]) ∧ Below w.heap.size w w' := by
  have hx : i ^^^ (n - 1) < 2 ^ 64 := Nat.xor_lt_two_pow (by omega) (by omega)
  have hL := Lib.bitLen_le (i ^^^ (n - 1)) 64 (by omega) hx
  have zx : bits .xor .u64 (i : Int) ((n : Int) - 1) = ((i ^^^ (n - 1) : Nat) : Int) := by
    rw [show (n : Int) - 1 = ((n - 1 : Nat) : Int) by omega]
    exact bits_xor_u64_nat i (n - 1) (by omega) (by omega)
  obtain ⟨x, hxe⟩ : ∃ x, x = i ^^^ (n - 1) := ⟨_, rfl⟩
  rw [← hxe] at hx hL zx ⊢
  have zs : IntKind.u64.wrap ((n : Int) - 1) = (n : Int) - 1 := IntWalk.u64_in _ (by omega)
  obtain ⟨L, hLe⟩ : ∃ L, L = Lib.bitLen x := ⟨_, rfl⟩
  have hlen := fun wx => Tryd.bits_Len64 (x : Int) wx (by omega) (by omega)
  rw [Int.toNat_natCast, ← hLe] at hlen
  rw [← hLe] at hL ⊢
  have hdl : i / 2 ^ L < 18446744073709551616 := Nat.lt_of_le_of_lt (Nat.div_le_self _ _) (by omega)
  have hpo := fun wx => OnesCount64_any (i / 2 ^ L) hdl wx
  obtain ⟨d, hd⟩ : ∃ d, d = i / 2 ^ L := ⟨_, rfl⟩
  have zd : (i : Int) / 2 ^ L = (d : Int) := by rw [hd]; simp
  rw [← hd] at hpo ⊢
  have HL := Lib.hid hlen
  have HP := Lib.hid hpo
  clear hlen hpo hd hLe hxe hx hdl
  generalize pop 64 d = po at *
  go_enter Tryd.func51, Tryd.ntmps51
  go_wp2_with fail
  refine (HL.out _).mono ?_
  rintro e w1 ⟨rfl, rfl⟩
  go_wp2_with fail
  refine (HP.out _).mono ?_
  rintro e w2 ⟨rfl, hb2⟩
  go_wp2_with fail
  go_ret2
  exact ⟨rfl, hb2⟩

end Go.Proofs.YtfibhmgjkooemaaDoor
