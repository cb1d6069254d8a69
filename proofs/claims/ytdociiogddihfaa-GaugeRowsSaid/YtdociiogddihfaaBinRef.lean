import Derived.Test.YtdociiogddihfaaBase
import Derived.Test.YtdociiogddihfaaShelf
import Derived.Test.YtdociiogddihfaaProg
import Derived.Outline
/- Contracts of bin.add, bin.Num, and their kin. -/
namespace Go.Proofs.Ytdociiogddihfaa
open Go.RowKit

theorem info8 : (Try.prog.info? 5).map (fun i => (i.zero, i.size, i.bytes)) = some (some (.int .u8 0), 1, 1) := by kernel_rfl

set_option maxHeartbeats 400000 in
theorem add_any (B : Nat) (v : Value) (xs : List UInt8) (n : Nat) (w : World) (hn : n < 18446744073709551616) (hB : B ≤ w.heap.size) (hl : xs.length ≤ 140737488355000)
    (hown : w.ownsRow B 5 1 v xs.length (bv xs)) :
    Calls Try.prog 55 #[v, .int .u64 n] w fun e w' => ∃ v', e = .returned v' ∧ w'.ownsRow B 5 1 v' (xs ++ numB n).length (bv (xs ++ numB n)) ∧ Grew w w' v v' := by
  have hk := nk_le n hn
  have hbl := Lib.bitLen_le n 64 (by omega) hn
  have HK : Hid (((Lib.bitLen n : Int) + 7) / 8 = (nk n : Int)) := by unfold Hid nk; omega
  go_enter Try.func55, Try.ntmps55
  go_wp2_with fail
  refine (Try.bits_Len64 _ _ (by omega) (by omega)).mono ?_
  rintro e w' ⟨rfl, rfl⟩
  rw [Int.toNat_natCast]
  go_wp2_with (at_builtin; refine wpList_app Try.underlying44 info8 rfl (by decide) rfl _ _ rfl rfl rfl (hown.alloc _) (Rd.one _ _ _ rfl) (by omega) (by omega) (by simp; omega) ?_)
  intro v1 w1 hown1 hg1 _
  replace hg1 := hg1.alloc
  rw [HK.out] at hown1
  have hw1 := hg1.grown.size
  have hown1 : w1.ownsRow B 5 1 v1 (xs ++ UInt8.ofNat (nk n) :: be (nk n - nk n) (n / 256 ^ nk n)).length (bv (xs ++ UInt8.ofNat (nk n) :: be (nk n - nk n) (n / 256 ^ nk n))) := by
    rw [Nat.sub_self]
    have e : (UInt8.ofNat (nk n)).toNat = nk n := by simp; omega
    simpa [be, bv_append, bv, e] using hown1
  go_wp2_with fail
  go_loopw [0, 6] (fun v' i wr => ∃ j : Nat, j ≤ nk n ∧ i = .int .i64 (8 * (j : Int) - 8) ∧ wr.ownsRow B 5 1 v' (xs ++ UInt8.ofNat (nk n) :: be (nk n - j) (n / 256 ^ j)).length (bv (xs ++ UInt8.ofNat (nk n) :: be (nk n - j) (n / 256 ^ j))) ∧ Grew w' wr v v' ∧ w'.heap.size ≤ wr.heap.size) (fun _ i _ => (intOf i + 8).toNat)
  case atStart => exact ⟨nk n, Nat.le_refl _, by rw [HK.out], hown1, hg1, hw1⟩
  case round =>
    obtain ⟨j, hj, rfl, hownr, hgr, hsz⟩ := hrel
    have hlr : (xs ++ UInt8.ofNat (nk n) :: be (nk n - j) (n / 256 ^ j)).length ≤ xs.length + 9 := by simp [be_length]; omega
    by_cases hj0 : j = 0
    · subst hj0
      go_wp2
      go_ret
      refine ⟨u0, rfl, ?_, hgr⟩
      simpa [numB] using hownr
    · go_wp2_with (at_builtin; refine wpList_app Try.underlying44 info8 rfl (by decide) rfl _ _ rfl rfl rfl (hownr.alloc _) (Rd.one _ _ _ rfl) (by omega) (by omega) (by simp; omega) ?_)
      intro v2 w2 hown2 hg2 _
      obtain ⟨q, rfl⟩ : ∃ q, j = q + 1 := ⟨j - 1, by omega⟩
      have hown3 : w2.ownsRow B 5 1 v2 (xs ++ UInt8.ofNat (nk n) :: be (nk n - q) (n / 256 ^ q)).length (bv (xs ++ UInt8.ofNat (nk n) :: be (nk n - q) (n / 256 ^ q))) := by
        rw [be_step _ _ _ hj]
        have e : (2 : Int) ^ (8 * (q + 1) - 8) = ((256 ^ q : Nat) : Int) := by
          rw [show 8 * (q + 1) - 8 = 8 * q by omega, Int.pow_mul]; simp
        rw [e] at hown2
        have e2 : ((UInt8.ofNat (n / 256 ^ q % 256)).toNat : Int) = (n : Int) / ((256 ^ q : Nat) : Int) % 256 := by
          rw [u8_nat _ (by omega)]; simp
        simp only [List.length_append, List.length_cons, List.length_nil, bv, List.map_cons, List.map_nil, List.map_append, List.append_assoc, List.cons_append, e2, Nat.add_assoc] at hown2 ⊢
        exact hown2
      replace hg2 := hgr.trans hg2.alloc
      have hs3 := hg2.grown.size
      clear hown2
      go_wp2
      go_roundw
      case rel => exact ⟨q, by omega, by congr 1; omega, hown3, hg2, hs3⟩
      case measure => simp [intOf]; omega
end Go.Proofs.Ytdociiogddihfaa

/- Contracts of the reference's Num and Raw, and of bin.Num, bin.Raw. -/
namespace Go.Proofs.Ytdociiogddihfaa
open Go.RowKit

theorem Num_any (n : Nat) (w : World) (hn : n < 18446744073709551616) :
    Calls Try.prog 35 #[.int .u64 n] w fun e w' => ∃ v', e = .returned v' ∧ Rd w' 1 v' (numB n).length (bv (numB n)) ∧ Below w.heap.size w w' := by
  go_enter Try.func35, Try.ntmps35
  go_wp2_with fail
  refine (add_any w.heap.size (.slice none 0 0) [] n w hn (Nat.le_refl _) (by simp) (by simpa [bv] using World.ownsRow_nil w w.heap.size 5 1)).mono ?_
  rintro e w' ⟨v', rfl, hown, hg⟩
  rw [List.nil_append] at hown
  go_wp2
  go_ret
  exact ⟨v', rfl, own_rd hown (bv_one _), hg.nil⟩

set_option maxHeartbeats 400000 in
theorem refNum_any (n : Nat) (w : World) (hn : n < 18446744073709551616) :
    Calls Try.prog 44 #[.int .u64 n] w fun e w' => ∃ v', e = .returned v' ∧ w'.ownsRow w.heap.size 5 1 v' (numB n).length (bv (numB n)) ∧ Below w.heap.size w w' := by
  have hk := nk_le n hn
  go_enter Try.func44, Try.ntmps44
  go_wp2_with fail
  go_loopw [0, 3] (fun n' v' wr => ∃ (m : Nat) (ls : List UInt8), n' = .int .u64 m ∧ m ≤ n ∧ nk n = nk m + ls.length ∧ be (nk n) n = be (nk m) m ++ ls.reverse ∧ wr.ownsRow w.heap.size 5 1 v' ls.length (bv ls) ∧ Below w.heap.size w wr) (fun n' _ _ => (intOf n').toNat)
  case atStart => exact ⟨n, [], rfl, Nat.le_refl _, rfl, by simp, World.ownsRow_nil _ _ _ _, Below.refl _ _⟩
  case round =>
    obtain ⟨m, ls, rfl, hmn, hkm, hbe, hownr, hbr⟩ := hrel
    have hsz := hbr.size
    by_cases hm0 : m = 0
    · subst hm0
      rw [show ((0 : Nat) : Int) = 0 from rfl]
      have hlen : ls.length = nk n := by have := nk_zero; omega
      have hbe2 : be (nk n) n = ls.reverse := by rw [hbe, nk_zero]; rfl
      clear hbe hkm
      have HL : Hid (ls.length = nk n) := hlen
      have hl8 : ls.length ≤ 8 := by omega
      have HB : Hid (be (nk n) n = ls.reverse) := hbe2
      clear hlen hbe2
      have hrd := own_rd hownr (bv_one _)
      obtain ⟨a3, c3, rfl⟩ := hrd.form
      obtain ⟨wo, rfl⟩ : ∃ wo : World, wo = wr := ⟨_, rfl⟩
      go_wp2_with fail
      go_loopw [4, 5] (fun vo i wx => ∃ j : Nat, j ≤ ls.length ∧ i = .int .i64 ((ls.length : Int) - 1 - (j : Int)) ∧ wx.ownsRow wo.heap.size 5 1 vo (UInt8.ofNat ls.length :: ls.reverse.take j).length (bv (UInt8.ofNat ls.length :: ls.reverse.take j)) ∧ Below wo.heap.size wo wx) (fun _ i _ => (intOf i + 1).toNat)
      case atStart =>
        refine ⟨0, Nat.zero_le _, by simp, ?_, (Below.refl _ _).alloc (Nat.le_refl _) _⟩
        have := own_new wo 5 1 1 wo.heap.size [.int .u8 ls.length] rfl (by omega) (Nat.le_refl _)
        simpa [bv, u8_nat _ (show ls.length < 256 by omega)] using this
      case round =>
        obtain ⟨j, hj, rfl, hox, hbx⟩ := hrel
        have hxsz := hbx.size
        have hrx := hrd.keep hbx
        have hlx : (UInt8.ofNat ls.length :: ls.reverse.take j).length = j + 1 := by simp; omega
        by_cases hjl : j = ls.length
        · subst hjl
          go_wp2
          go_ret
          refine ⟨u4, rfl, ?_, hbr.trans (hbx.mono hsz)⟩
          have e : numB n = UInt8.ofNat ls.length :: ls.reverse.take ls.length := by
            rw [numB, HB.out, List.take_of_length_le (by simp), HL.out]
          rw [e]
          exact own_base hox hsz
        · obtain ⟨b, off, c, hv, hc, hcell⟩ := hrx.at (by omega)
          have hget : ls.reverse[j]? = some (ls[ls.length - 1 - j]'(by omega)) := by rw [List.getElem?_reverse (by omega), List.getElem?_eq_getElem]
          have hld := hcell (ls.length - 1 - j) (.int .u8 (ls[ls.length - 1 - j]'(by omega)).toNat) (by simp [bv, List.getElem?_eq_getElem (show ls.length - 1 - j < ls.length by omega)])
          have htk : ls.reverse.take (j + 1) = ls.reverse.take j ++ [ls[ls.length - 1 - j]'(by omega)] := by rw [List.take_add_one, hget]; rfl
          clear hcell hget hrx hrd hownr
          generalize ls[ls.length - 1 - j]'(by omega) = x at *
          simp only [Value.slice.injEq, true_and] at hv
          obtain ⟨rfl, rfl⟩ := hv
          go_wp2_with (at_builtin; refine wpList_app Try.underlying44 info8 rfl (by decide) rfl _ _ rfl rfl rfl (hox.alloc _) (Rd.one _ _ _ rfl) (by omega) (by omega) (by simp; omega) ?_)
          intro v2 w2 hown2 hg2 _
          have hown3 : w2.ownsRow wo.heap.size 5 1 v2 (UInt8.ofNat ls.length :: ls.reverse.take (j + 1)).length (bv (UInt8.ofNat ls.length :: ls.reverse.take (j + 1))) := by
            rw [htk, ← List.cons_append, bv_append, List.length_append, hlx]; exact hown2
          have hb2 : Below wo.heap.size wr w2 := hg2.alloc.below hxsz (own_block hox)
          go_wp2
          go_roundw
          case rel => exact ⟨j + 1, by omega, by congr 1; omega, hown3, hbx.trans hb2⟩
          case measure => simp [intOf]; omega
    · have h1 := nk_pos m (by omega) (by omega)
      have h2 := be_pos m (by omega) (by omega)
      have hml : ls.length ≤ 8 := by omega
      go_wp2_with (at_builtin; refine wpList_app Try.underlying44 info8 rfl (by decide) rfl _ _ rfl rfl rfl (hownr.alloc _) (Rd.one _ _ _ rfl) (by omega) (by omega) (by simp; omega) ?_)
      intro v2 w2 hown2 hg2 _
      go_wp2
      go_roundw
      case rel =>
        refine ⟨m / 256, ls ++ [UInt8.ofNat (m % 256)], by simp, by omega, by simp; omega, ?_, ?_, ?_⟩
        · rw [hbe, h2]; simp
        · have e : (UInt8.ofNat (m % 256)).toNat = m % 256 := u8_nat _ (by omega)
          simpa [bv, e] using hown2
        · exact hbr.trans (hg2.alloc.below hsz (own_block hownr))
      case measure => simp [intOf]; omega
end Go.Proofs.Ytdociiogddihfaa
