/- Contracts of the hash's small functions. -/
import Derived.Test.YtdjmebfjanophaaDoorShaP
import Derived.Test.YtdjmebfjanophaaDoorProg
import Derived.Outline
import Derived.Deep.QuietTactic
import Derived.BigQuiet
import Derived.StillTailTactics
namespace Go.Proofs.YtdjmebfjanophaaDoor
open Go.RowKit Sha

theorem or_same' (n P Q : Nat) (h : n < 4294967296) : bits .or .u32 ((n : Int) / (P : Int)) ((n : Int) * (Q : Int) % 4294967296) = ((n / P ||| n * Q % 4294967296 : Nat) : Int) := by
  have h1 : ((n : Int) * (Q : Int) % 4294967296) = ((n * Q % 4294967296 : Nat) : Int) := by rw [Int.natCast_emod, Int.natCast_mul]; rfl
  have h2 : ((n : Int) / (P : Int)) = ((n / P : Nat) : Int) := by rw [Int.natCast_ediv]
  rw [h1, h2, Go.u32_or_nat _ _ (Nat.lt_of_le_of_lt (Nat.div_le_self _ _) h) (by omega)]
theorem or_swap' (n P Q : Nat) (h : n < 4294967296) : bits .or .u32 ((n : Int) * (Q : Int) % 4294967296) ((n : Int) / (P : Int)) = ((n / P ||| n * Q % 4294967296 : Nat) : Int) := by
  have h1 : ((n : Int) * (Q : Int) % 4294967296) = ((n * Q % 4294967296 : Nat) : Int) := by rw [Int.natCast_emod, Int.natCast_mul]; rfl
  have h2 : ((n : Int) / (P : Int)) = ((n / P : Nat) : Int) := by rw [Int.natCast_ediv]
  rw [h1, h2, Go.u32_or_nat _ _ (by omega) (Nat.lt_of_le_of_lt (Nat.div_le_self _ _) h), Nat.or_comm]

theorem rot_any (x : UInt32) (k : Nat) (w : World) (hk : k ∈ [2, 6, 7, 11, 13, 17, 18, 19, 22, 25]) :
    Calls Tryd.prog 83 #[u x, .int .u64 (k : Nat)] w fun e w' => e = .returned (u (rr x k)) ∧ w' = w := by
  unfold u
  simp only [List.mem_cons, List.not_mem_nil, or_false] at hk
  rcases hk with rfl | rfl | rfl | rfl | rfl | rfl | rfl | rfl | rfl | rfl
  all_goals
    go_enter Tryd.func83, Tryd.ntmps83
    go_wp2_with fail
    go_ret
    refine ⟨ret_int ?_, rfl⟩
    rw [rr_nat]; exact or_same' x.toNat _ _ x.toNat_lt

theorem left_any (x : UInt32) (k : Nat) (w : World) (hk : k ∈ [2, 6, 7, 11, 13, 17, 18, 19, 22, 25]) :
    Calls Tryd.prog 81 #[u x, .int .i64 (-(k : Nat))] w fun e w' => e = .returned (u (rr x k)) ∧ w' = w := by
  unfold u
  simp only [List.mem_cons, List.not_mem_nil, or_false] at hk
  have e2 : bits BinOp.and IntKind.u64 (IntKind.u64.wrap (-2)) 31 = 30 := by kernel_rfl
  have e6 : bits BinOp.and IntKind.u64 (IntKind.u64.wrap (-6)) 31 = 26 := by kernel_rfl
  have e7 : bits BinOp.and IntKind.u64 (IntKind.u64.wrap (-7)) 31 = 25 := by kernel_rfl
  have e11 : bits BinOp.and IntKind.u64 (IntKind.u64.wrap (-11)) 31 = 21 := by kernel_rfl
  have e13 : bits BinOp.and IntKind.u64 (IntKind.u64.wrap (-13)) 31 = 19 := by kernel_rfl
  have e17 : bits BinOp.and IntKind.u64 (IntKind.u64.wrap (-17)) 31 = 15 := by kernel_rfl
  have e18 : bits BinOp.and IntKind.u64 (IntKind.u64.wrap (-18)) 31 = 14 := by kernel_rfl
  have e19 : bits BinOp.and IntKind.u64 (IntKind.u64.wrap (-19)) 31 = 13 := by kernel_rfl
  have e22 : bits BinOp.and IntKind.u64 (IntKind.u64.wrap (-22)) 31 = 10 := by kernel_rfl
  have e25 : bits BinOp.and IntKind.u64 (IntKind.u64.wrap (-25)) 31 = 7 := by kernel_rfl
  rcases hk with rfl | rfl | rfl | rfl | rfl | rfl | rfl | rfl | rfl | rfl
  all_goals
    go_enter Tryd.func81, Tryd.ntmps81
    go_wp2_with fail
    go_ret
    refine ⟨ret_int ?_, rfl⟩
    rw [rr_nat]; exact or_swap' x.toNat _ _ x.toNat_lt
end Go.Proofs.YtdjmebfjanophaaDoor
