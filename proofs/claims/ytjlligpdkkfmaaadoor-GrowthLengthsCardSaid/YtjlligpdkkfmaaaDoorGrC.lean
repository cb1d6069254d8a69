/- growth.Size. -/
import Derived.Test.YtjlligpdkkfmaaaDoorGrB
import Derived.Test.YtjlligpdkkfmaaaDoorLeafRA
namespace Go.Proofs.YtjlligpdkkfmaaaDoor
open Go.RowKit Sha Root Path Growth

set_option maxHeartbeats 2000000 in
theorem gSize_any (m n : Nat) (w : World) (hm : m < 18446744073709551616) (hn : n < 18446744073709551616) :
    Calls Tryd.prog 31 #[.int .u64 m, .int .u64 n] w fun e w' => e = .returned (.int .i64 ((if m = 0 ∨ n < m then 0 else szG m n true : Nat) : Int)) ∧ Below w.heap.size w w' := by
  by_cases h0 : m = 0
  · rw [if_pos (.inl h0)]
    have y1 : ((m : Int) == 0) = true := by simp; omega
    go_enter Tryd.func31, Tryd.ntmps31
    go_wp2_with fail
    go_ret
    exact ⟨rfl, Below.refl _ _⟩
  have y1 : ((m : Int) == 0) = false := by simp; omega
  by_cases h1 : n < m
  · rw [if_pos (.inr h1)]
    have y2 : (n : Int) < (m : Int) := by omega
    go_enter Tryd.func31, Tryd.ntmps31
    go_wp2_with fail
    go_ret
    exact ⟨rfl, Below.refl _ _⟩
  · rw [if_neg (fun h => h.elim h0 h1)]
    have y2 : ¬ (n : Int) < (m : Int) := by omega
    have ht := turns_any m n w (by omega) (by omega) hn
    have hle := way_length n m n 64 (Nat.le_refl _) (by omega) (by omega) (by omega)
    rw [szG]
    obtain ⟨WY, hWY⟩ : ∃ x, x = way m n := ⟨_, rfl⟩
    rw [← hWY] at ht hle ⊢
    obtain ⟨Lw, hLw⟩ : ∃ x, x = WY.length := ⟨_, rfl⟩
    rw [← hLw] at ht hle ⊢
    have HT := Lib.hid ht
    clear ht hWY hLw
    cases hw : whole m n
    all_goals
      rw [hw] at HT
      clear hw
      go_enter Tryd.func31, Tryd.ntmps31
      go_wp2_with fail
      refine HT.out.mono ?_
      rintro e w1 ⟨va, vc, rfl, ho, hb⟩
      have HB := Lib.hid hb
      clear ho hb
      go_wp2_with fail
      go_ret
      exact ⟨by first | rfl | (simp; rfl) | simp, HB.out⟩
end Go.Proofs.YtjlligpdkkfmaaaDoor
