/- Contracts of path.inner, Size and the reference's Split, Size. -/
import Derived.Test.YtfibhmgjkooemaaDoorLeafO
import Derived.Test.YtfibhmgjkooemaaDoorGrowthP
import Derived.Test.YtfibhmgjkooemaaDoorShelf
import Derived.Laws.Bits64
namespace Go.Proofs.YtfibhmgjkooemaaDoor
open Go.RowKit Sha Root Ones Path

/-- How long a proof is. -/
def sizeN (i n : Nat) : Nat := if i < n then sz 64 i (n - 1) else 0
theorem sizeN_le (i n : Nat) : sizeN i n ≤ 64 := by
  unfold sizeN
  split
  · exact sz_le _ _ _
  · omega
set_option maxHeartbeats 2000000 in
theorem inner_any (i n : Nat) (w : World) (hi : i < n) (hn : n < 18446744073709551616) :
    Calls Tryd.prog 51 #[.int .u64 i, .int .u64 n] w fun e w' => e = .returned (.tuple #[.int .i64 (Lib.bitLen (i ^^^ (n - 1)) : Nat), .int .i64 (pop 64 (i / 2 ^ Lib.bitLen (i ^^^ (n - 1))) : Nat)]) ∧ Below w.heap.size w w' := by
  have hx : i ^^^ (n - 1) < 2 ^ 64 := Nat.xor_lt_two_pow (by omega) (by omega)
  have hL := Lib.bitLen_le (i ^^^ (n - 1)) 64 (by omega) hx
  have zx : bits .xor .u64 (i : Int) ((n : Int) - 1) = ((i ^^^ (n - 1) : Nat) : Int) := by
    rw [show (n : Int) - 1 = ((n - 1 : Nat) : Int) by omega]
    exact bits_xor_u64_nat i (n - 1) (by omega) (by omega)
  obtain ⟨x, hxe⟩ : ∃ x, x = i ^^^ (n - 1) := ⟨_, rfl⟩
  rw [← hxe] at hx hL zx ⊢
  have zs : IntKind.u64.wrap ((n : Int) - 1) = (n : Int) - 1 := IntWalk.u64_in _ (by omega)
  obtain ⟨L, hLe⟩ : ∃ L, L = Lib.bitLen x := ⟨_, rfl⟩
  have hlen := fun wx => Tryd.bits_Len64 (x : Int) wx (by omega) (by omega)
  rw [Int.toNat_natCast, ← hLe] at hlen
  rw [← hLe] at hL ⊢
  have hdl : i / 2 ^ L < 18446744073709551616 := Nat.lt_of_le_of_lt (Nat.div_le_self _ _) (by omega)
  have hpo := fun wx => OnesCount64_any (i / 2 ^ L) hdl wx
  obtain ⟨d, hd⟩ : ∃ d, d = i / 2 ^ L := ⟨_, rfl⟩
  have zd : (i : Int) / 2 ^ L = (d : Int) := by rw [hd]; simp
  rw [← hd] at hpo ⊢
  have HL := Lib.hid hlen
  have HP := Lib.hid hpo
  clear hlen hpo hd hLe hxe hx hdl
  generalize pop 64 d = po at *
  go_enter Tryd.func51, Tryd.ntmps51
  go_wp2_with fail
  refine (HL.out _).mono ?_
  rintro e w1 ⟨rfl, rfl⟩
  go_wp2_with fail
  refine (HP.out _).mono ?_
  rintro e w2 ⟨rfl, hb2⟩
  go_wp2_with fail
  go_ret2
  exact ⟨rfl, hb2⟩

set_option maxHeartbeats 2000000 in
theorem pathSize_any (i n : Nat) (w : World) (hi : i < 18446744073709551616) (hn : n < 18446744073709551616) :
    Calls Tryd.prog 17 #[.int .u64 i, .int .u64 n] w fun e w' => e = .returned (.int .i64 (sizeN i n : Nat)) ∧ Below w.heap.size w w' := by
  by_cases hlt : i < n
  · have hin := fun wx => inner_any i n wx hlt hn
    have hs := sz_code i (n - 1) hi
    have hle := sz_le 64 i (n - 1)
    have e : sizeN i n = sz 64 i (n - 1) := if_pos hlt
    rw [e, hs]
    rw [hs] at hle
    generalize Lib.bitLen (i ^^^ (n - 1)) = L at *
    generalize pop 64 (i / 2 ^ L) = po at *
    have HI := Lib.hid hin
    have z1 : ¬ (n : Int) ≤ (i : Int) := by omega
    clear hin hs e
    go_enter Tryd.func17, Tryd.ntmps17
    go_wp2_with fail
    refine (HI.out _).mono ?_
    rintro e w1 ⟨rfl, hb1⟩
    go_wp2_with fail
    go_ret
    exact ⟨by rw [Int.natCast_add]; rfl, hb1⟩
  · have e : sizeN i n = 0 := if_neg hlt
    have z1 : (n : Int) ≤ (i : Int) := by omega
    rw [e]
    go_enter Tryd.func17, Tryd.ntmps17
    go_wp2_with fail
    go_ret
    exact ⟨rfl, Below.refl _ _⟩

set_option maxHeartbeats 2000000 in
theorem Split64_any (n : Nat) (w : World) (h2 : 2 ≤ n) (hn : n < 18446744073709551616) :
    Calls Tryd.prog 67 #[.int .u64 n] w fun e w' => e = .returned (.int .u64 (top n)) ∧ Below w.heap.size w w' := by
  go_enter Tryd.func67, Tryd.ntmps67
  go_wp2_with fail
  go_loopw [3] (fun s3 wr => ∃ K p : Nat, K = 2 ^ p ∧ s3 = .int .u64 K ∧ K < n ∧ Below w.heap.size w wr) (fun s3 _ => n - (intOf s3).toNat)
  case atStart => exact ⟨1, 0, rfl, rfl, by omega, Below.refl _ _⟩
  case round =>
    obtain ⟨K, p, hK, rfl, hKn, hb⟩ := hrel
    have hK1 : 1 ≤ K := by rw [hK]; exact Nat.pow_pos (by omega)
    have zw : IntKind.u64.wrap ((n : Int) - (K : Int)) = (n : Int) - (K : Int) := IntWalk.u64_in _ (by omega)
    have HK := Lib.hid hK
    clear hK
    by_cases hlt : K < n - K
    · have z1 : (K : Int) < (n : Int) - (K : Int) := by omega
      have z2 : IntKind.u64.wrap ((K : Int) * 2) = (K : Int) * 2 := IntWalk.u64_in _ (by omega)
      go_wp2_with fail
      go_roundw
      case rel => exact ⟨K * 2, p + 1, by rw [HK.out, Nat.pow_succ], by go_num, by omega, hb⟩
      case measure => simp [intOf]; omega
    · have z1 : ¬ (K : Int) < (n : Int) - (K : Int) := by omega
      go_wp2_with fail
      go_ret
      refine ⟨congrArg (fun q : Nat => Ending.returned (Value.int .u64 (q : Int))) ?_, hb⟩
      have := HK.out
      rw [this]
      exact (hi_unique (n - 1) p (by omega) (by rw [Nat.pow_succ]; omega)).symm

set_option maxHeartbeats 2000000 in
theorem refSize_any : ∀ (f i n : Nat) (w : World), n ≤ f → i < 18446744073709551616 → n < 18446744073709551616 →
    Calls Tryd.prog 71 #[.int .u64 i, .int .u64 n] w fun e w' => e = .returned (.int .i64 (sizeN i n : Nat)) ∧ Below w.heap.size w w' := by
  intro f
  induction f with
  | zero =>
    intro i n w hf hi hn
    have e : sizeN i n = 0 := if_neg (by omega)
    have z1 : (n : Int) ≤ (i : Int) := by omega
    rw [e]
    go_enter Tryd.func71, Tryd.ntmps71
    go_wp2_with fail
    go_ret
    exact ⟨rfl, Below.refl _ _⟩
  | succ f ih =>
    intro i n w hf hi hn
    by_cases hlt : i < n
    · by_cases h1 : n = 1
      · subst h1
        have e : sizeN i 1 = 0 := by rw [sizeN, if_pos hlt, show i = 0 by omega]; exact sz_zero 64
        rw [e]
        have z1 : ¬ ((1 : Nat) : Int) ≤ (i : Int) := by omega
        go_enter Tryd.func71, Tryd.ntmps71
        go_wp2_with fail
        go_ret
        exact ⟨rfl, Below.refl _ _⟩
      · have hs := sz_top i n (by omega) (by omega) hlt
        have e : sizeN i n = sz 64 i (n - 1) := if_pos hlt
        have hsp := fun wx => Split64_any n wx (by omega) hn
        have ht := top_lt n (by omega)
        have hp := top_pos n
        rw [e, hs]
        have hle := sz_le 64 i (n - 1)
        rw [hs] at hle
        obtain ⟨k, hk⟩ : ∃ k, k = top n := ⟨_, rfl⟩
        rw [← hk] at hsp ht hp hle ⊢
        have z1 : ¬ (n : Int) ≤ (i : Int) := by omega
        have z2 : ((n : Int) == 1) = false := by simp; omega
        have HS := Lib.hid hsp
        by_cases hik : i < k
        · rw [if_pos hik] at hle ⊢
          have hr := fun wx => ih i k wx (by omega) hi (by omega)
          rw [show sizeN i k = sz 64 i (k - 1) from if_pos hik] at hr
          generalize sz 64 i (k - 1) = s at *
          have HR := Lib.hid hr
          have z3 : (i : Int) < (k : Int) := by omega
          clear hsp hr ih hs e hk
          go_enter Tryd.func71, Tryd.ntmps71
          go_wp2_with fail
          refine (HS.out _).mono ?_
          rintro e w1 ⟨rfl, hb1⟩
          go_wp2_with fail
          refine (HR.out _).mono ?_
          rintro e w2 ⟨rfl, hb2⟩
          go_wp2_with fail
          go_ret
          exact ⟨by rw [Int.natCast_add]; rfl, hb1.trans (hb2.mono hb1.size)⟩
        · rw [if_neg hik] at hle ⊢
          have hr := fun wx => ih (i - k) (n - k) wx (by omega) (by omega) (by omega)
          rw [show sizeN (i - k) (n - k) = sz 64 (i - k) (n - k - 1) from if_pos (by omega)] at hr
          generalize sz 64 (i - k) (n - k - 1) = s at *
          have HR := Lib.hid hr
          have z3 : ¬ (i : Int) < (k : Int) := by omega
          have z4 : IntKind.u64.wrap ((i : Int) - (k : Int)) = ((i - k : Nat) : Int) := (IntWalk.u64_in _ (by omega)).trans (by omega)
          have z5 : IntKind.u64.wrap ((n : Int) - (k : Int)) = ((n - k : Nat) : Int) := (IntWalk.u64_in _ (by omega)).trans (by omega)
          clear hsp hr ih hs e hk
          go_enter Tryd.func71, Tryd.ntmps71
          go_wp2_with fail
          refine (HS.out _).mono ?_
          rintro e w1 ⟨rfl, hb1⟩
          go_wp2_with fail
          refine (HR.out _).mono ?_
          rintro e w2 ⟨rfl, hb2⟩
          go_wp2_with fail
          go_ret
          exact ⟨by rw [Int.natCast_add]; rfl, hb1.trans (hb2.mono hb1.size)⟩
    · have e : sizeN i n = 0 := if_neg hlt
      have z1 : (n : Int) ≤ (i : Int) := by omega
      rw [e]
      go_enter Tryd.func71, Tryd.ntmps71
      go_wp2_with fail
      go_ret
      exact ⟨rfl, Below.refl _ _⟩
end Go.Proofs.YtfibhmgjkooemaaDoor
