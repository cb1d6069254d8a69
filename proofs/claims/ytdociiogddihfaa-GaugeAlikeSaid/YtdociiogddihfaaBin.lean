/- Contracts of bin.add, bin.Num, and their kin. -/
import Derived.Test.YtdociiogddihfaaBase
import Derived.Test.YtdociiogddihfaaShelf
import Derived.Test.YtdociiogddihfaaProg
import Derived.Outline
namespace Go.Proofs.Ytdociiogddihfaa
open Go.RowKit

theorem info8 : (Try.prog.info? 5).map (fun i => (i.zero, i.size, i.bytes)) = some (some (.int .u8 0), 1, 1) := by kernel_rfl

set_option maxHeartbeats 400000 in
theorem add_any (B : Nat) (v : Value) (xs : List UInt8) (n : Nat) (w : World) (hn : n < 18446744073709551616) (hB : B ≤ w.heap.size) (hl : xs.length ≤ 140737488355000)
    (hown : w.ownsRow B 5 1 v xs.length (bv xs)) :
    Calls Try.prog 55 #[v, .int .u64 n] w fun e w' => ∃ v', e = .returned v' ∧ w'.ownsRow B 5 1 v' (xs ++ numB n).length (bv (xs ++ numB n)) ∧ Grew w w' v v' := by
  have hk := nk_le n hn
  have hbl := Lib.bitLen_le n 64 (by omega) hn
  have HK : Hid (((Lib.bitLen n : Int) + 7) / 8 = (nk n : Int)) := by unfold Hid nk; omega
  go_enter Try.func55, Try.ntmps55
  go_wp2_with fail
  refine (Try.bits_Len64 _ _ (by omega) (by omega)).mono ?_
  rintro e w' ⟨rfl, rfl⟩
  rw [Int.toNat_natCast]
  go_wp2_with (at_builtin; refine wpList_app Try.underlying44 info8 rfl (by decide) rfl _ _ rfl rfl rfl (hown.alloc _) (Rd.one _ _ _ rfl) (by omega) (by omega) (by simp; omega) ?_)
  intro v1 w1 hown1 hg1 _
  replace hg1 := hg1.alloc
  rw [HK.out] at hown1
  have hw1 := hg1.grown.size
  have hown1 : w1.ownsRow B 5 1 v1 (xs ++ UInt8.ofNat (nk n) :: be (nk n - nk n) (n / 256 ^ nk n)).length (bv (xs ++ UInt8.ofNat (nk n) :: be (nk n - nk n) (n / 256 ^ nk n))) := by
    rw [Nat.sub_self]
    have e : (UInt8.ofNat (nk n)).toNat = nk n := by simp; omega
    simpa [be, bv_append, bv, e] using hown1
  go_wp2_with fail
  go_loopw [0, 6] (fun v' i wr => ∃ j : Nat, j ≤ nk n ∧ i = .int .i64 (8 * (j : Int) - 8) ∧ wr.ownsRow B 5 1 v' (xs ++ UInt8.ofNat (nk n) :: be (nk n - j) (n / 256 ^ j)).length (bv (xs ++ UInt8.ofNat (nk n) :: be (nk n - j) (n / 256 ^ j))) ∧ Grew w' wr v v' ∧ w'.heap.size ≤ wr.heap.size) (fun _ i _ => (intOf i + 8).toNat)
  case atStart => exact ⟨nk n, Nat.le_refl _, by rw [HK.out], hown1, hg1, hw1⟩
  case round =>
    obtain ⟨j, hj, rfl, hownr, hgr, hsz⟩ := hrel
    have hlr : (xs ++ UInt8.ofNat (nk n) :: be (nk n - j) (n / 256 ^ j)).length ≤ xs.length + 9 := by simp [be_length]; omega
    by_cases hj0 : j = 0
    · subst hj0
      go_wp2
      go_ret
      refine ⟨u0, rfl, ?_, hgr⟩
      simpa [numB] using hownr
    · go_wp2_with (at_builtin; refine wpList_app Try.underlying44 info8 rfl (by decide) rfl _ _ rfl rfl rfl (hownr.alloc _) (Rd.one _ _ _ rfl) (by omega) (by omega) (by simp; omega) ?_)
      intro v2 w2 hown2 hg2 _
      obtain ⟨q, rfl⟩ : ∃ q, j = q + 1 := ⟨j - 1, by omega⟩
      have hown3 : w2.ownsRow B 5 1 v2 (xs ++ UInt8.ofNat (nk n) :: be (nk n - q) (n / 256 ^ q)).length (bv (xs ++ UInt8.ofNat (nk n) :: be (nk n - q) (n / 256 ^ q))) := by
        rw [be_step _ _ _ hj]
        have e : (2 : Int) ^ (8 * (q + 1) - 8) = ((256 ^ q : Nat) : Int) := by
          rw [show 8 * (q + 1) - 8 = 8 * q by omega, Int.pow_mul]; simp
        rw [e] at hown2
        have e2 : ((UInt8.ofNat (n / 256 ^ q % 256)).toNat : Int) = (n : Int) / ((256 ^ q : Nat) : Int) % 256 := by
          rw [u8_nat _ (by omega)]; simp
        simp only [List.length_append, List.length_cons, List.length_nil, bv, List.map_cons, List.map_nil, List.map_append, List.append_assoc, List.cons_append, e2, Nat.add_assoc] at hown2 ⊢
        exact hown2
      replace hg2 := hgr.trans hg2.alloc
      have hs3 := hg2.grown.size
      clear hown2
      go_wp2
      go_roundw
      case rel => exact ⟨q, by omega, by congr 1; omega, hown3, hg2, hs3⟩
      case measure => simp [intOf]; omega
end Go.Proofs.Ytdociiogddihfaa
