/- Contracts of the grid and of crc.Join. -/
import Derived.Test.YtpdlocdlnoibbaaCrc2
import Derived.Test.YtpdlocdlnoibbaaCrcPlain2
namespace Go.Proofs.Ytpdlocdlnoibbaa
open Go.RowKit

theorem pow2_lt (i : Nat) (h : i < 32) : 2 ^ i < 4294967296 := Nat.pow_lt_pow_right (by omega) h

set_option maxHeartbeats 800000 in
theorem of_any (L : Nat → Nat) (hL : Crc.Lin L) (g c : Nat) (w : World) (hc : c < 4294967296) (hg : ∀ i, i < 32 → w.cell? ⟨g, i, none⟩ = some (.int .u32 ((L (2 ^ i) : Nat) : Int))) :
    Calls Try.prog 50 #[.pointer (some ⟨g, 0, none⟩), .int .u32 c] w fun e w' => e = .returned (.int .u32 (L c)) ∧ w = w' := by
  go_enter Try.func50, Try.ntmps50
  go_wp2_with fail
  go_loop [1, 4, 5] (fun s1 s4 s5 => ∃ i d o : Nat, i ≤ 32 ∧ d = c / 2 ^ i ∧ o = L (c % 2 ^ i) ∧ s5 = .int .i64 i ∧ s1 = .int .u32 d ∧ s4 = .int .u32 o) (fun s1 _ _ => (intOf s1).toNat)
  case atStart => exact ⟨0, c, 0, by omega, by simp, by simp [Nat.mod_one, hL.zero], rfl, rfl, rfl⟩
  case round =>
    obtain ⟨i, d, o, hi, hd, ho, rfl, rfl, rfl⟩ := hrel
    have hd32 : d < 4294967296 := by rw [hd]; exact Nat.lt_of_le_of_lt (Nat.div_le_self _ _) hc
    by_cases h0 : d = 0
    · have hfin : o = L c := by
        rw [ho, Nat.mod_eq_of_lt]
        rw [h0] at hd
        exact (Nat.div_eq_zero_iff.1 hd.symm).resolve_left (by have := Nat.two_pow_pos i; omega)
      have HF := Lib.hid hfin
      have e0 : ((d : Int) != 0) = false := by simp [h0]
      clear hfin ho hd hg h0
      go_wp2_with fail
      go_ret
      exact ⟨ret_int (by rw [HF.out]), rfl⟩
    · have hi32 : i < 32 := by
        rcases Nat.lt_or_ge i 32 with h | h
        · exact h
        · exfalso; apply h0; rw [hd]
          exact Nat.div_eq_of_lt (Nat.lt_of_lt_of_le hc (Nat.pow_le_pow_right (by omega) h : 2 ^ 32 ≤ 2 ^ i))
      have e0 : ((d : Int) != 0) = true := by simp; omega
      have hcell := hg i hi32
      have hbit := hL.bit c i
      have hd' : d / 2 = c / 2 ^ (i + 1) := by rw [hd, Nat.div_div_eq_div_mul, Nat.pow_succ]
      have hiz : (i : Int) < 32 := by omega
      have hi0 : (0 : Int) ≤ (i : Int) := by omega
      have hTl : L (2 ^ i) < 4294967296 := hL.lt _ (pow2_lt i hi32)
      have hol : o < 4294967296 := by rw [ho]; exact hL.lt _ (Nat.lt_of_le_of_lt (Nat.mod_le _ _) hc)
      have ha := and1 d hd32
      generalize L (2 ^ i) = T at *
      rw [← hd, ← ho] at hbit
      by_cases h1 : d % 2 = 1
      · rw [if_pos h1] at hbit
        have e1 : (bits .and .u32 (d : Int) 1 == 1) = true := by rw [ha, h1]; rfl
        have hx := u32_xor_nat o T hol hTl
        have HB := Lib.hid hbit
        have HD := Lib.hid hd'
        clear hbit hd' hd ho hg ha h1 h0
        go_wp2_with fail
        go_round
        case rel => exact ⟨i + 1, d / 2, o ^^^ T, by omega, HD.out, HB.out.symm, by go_num, rfl, rfl⟩
        case measure => simp [intOf]; simp at e0; omega
      · rw [if_neg h1] at hbit
        have e1 : (bits .and .u32 (d : Int) 1 == 1) = false := by rw [ha, show d % 2 = 0 by omega]; rfl
        have HB := Lib.hid hbit
        have HD := Lib.hid hd'
        clear hbit hd' hd ho hg ha h1 h0
        go_wp2_with fail
        go_round
        case rel => exact ⟨i + 1, d / 2, o, by omega, HD.out, HB.out.symm, by go_num, rfl, rfl⟩
        case measure => simp [intOf]; simp at e0; omega
end Go.Proofs.Ytpdlocdlnoibbaa
