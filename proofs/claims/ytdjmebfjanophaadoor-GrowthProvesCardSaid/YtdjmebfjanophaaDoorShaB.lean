/- Contracts of the hash's small functions: a word of a block. -/
import Derived.Test.YtdjmebfjanophaaDoorShaA
namespace Go.Proofs.YtdjmebfjanophaaDoor
open Go.RowKit Sha

theorem or4 (a b c d : Nat) (h0 : a < 256) (h1 : b < 256) (h2 : c < 256) (h3 : d < 256) :
    bits .or .u32 (bits .or .u32 (bits .or .u32 ((a : Int) * 16777216) ((b : Int) * 65536)) ((c : Int) * 256)) (d : Int) = ((UInt32.ofNat (a * 16777216 + b * 65536 + c * 256 + d)).toNat : Int) := by
  have e1 : ((a : Int) * 16777216) = ((a * 16777216 : Nat) : Int) := by omega
  have e2 : ((b : Int) * 65536) = ((b * 65536 : Nat) : Int) := by omega
  have e3 : ((c : Int) * 256) = ((c * 256 : Nat) : Int) := by omega
  rw [e1, e2, e3, Go.u32_or_nat _ _ (by omega) (by omega), Go.nat_join 24 _ _ (by omega) (by omega), Go.u32_or_nat _ _ (by omega) (by omega), Go.nat_join 16 _ _ (by omega) (by omega),
    Go.u32_or_nat _ _ (by omega) (by omega), Go.nat_join 8 _ _ (by omega) (by omega), UInt32.toNat_ofNat', Nat.mod_eq_of_lt (by omega)]

set_option maxHeartbeats 1000000 in
theorem word_any (b : Nat) (off n c : Nat) (x0 x1 x2 x3 : UInt8) (w : World) (hn : 4 ≤ n)
    (c0 : w.cell? ⟨b, off, none⟩ = some (.int .u8 x0.toNat)) (c1 : w.cell? ⟨b, off + 1, none⟩ = some (.int .u8 x1.toNat)) (c2 : w.cell? ⟨b, off + 2, none⟩ = some (.int .u8 x2.toNat)) (c3 : w.cell? ⟨b, off + 3, none⟩ = some (.int .u8 x3.toNat)) :
    Calls Tryd.prog 80 #[.slice (some ⟨b, off, none⟩) n c] w fun e w' => e = .returned (u (UInt32.ofNat (x0.toNat * 16777216 + x1.toNat * 65536 + x2.toNat * 256 + x3.toNat))) ∧ ∃ m, w' = w.drewN m := by
  have h0 : (0 : Int) < n := by omega
  have h1 : (1 : Int) < n := by omega
  have h2 : (2 : Int) < n := by omega
  have h3 : (3 : Int) < n := by omega
  have l0 := x0.toNat_lt
  have l1 := x1.toNat_lt
  have l2 := x2.toNat_lt
  have l3 := x3.toNat_lt
  go_enter Tryd.func80, Tryd.ntmps80
  go_wp2_with fail
  go_quiet (fail)
  go_wp2_with fail
  go_ret
  refine ⟨ret_int ?_, _, rfl⟩
  exact or4 _ _ _ _ l0 l1 l2 l3
end Go.Proofs.YtdjmebfjanophaaDoor
