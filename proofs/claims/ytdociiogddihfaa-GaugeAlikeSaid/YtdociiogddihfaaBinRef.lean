/- Contracts of the reference's Num and Raw, and of bin.Num, bin.Raw. -/
import Derived.Test.YtdociiogddihfaaBin
namespace Go.Proofs.Ytdociiogddihfaa
open Go.RowKit

theorem Num_any (n : Nat) (w : World) (hn : n < 18446744073709551616) :
    Calls Try.prog 35 #[.int .u64 n] w fun e w' => ∃ v', e = .returned v' ∧ Rd w' 1 v' (numB n).length (bv (numB n)) ∧ Below w.heap.size w w' := by
  go_enter Try.func35, Try.ntmps35
  go_wp2_with fail
  refine (add_any w.heap.size (.slice none 0 0) [] n w hn (Nat.le_refl _) (by simp) (by simpa [bv] using World.ownsRow_nil w w.heap.size 5 1)).mono ?_
  rintro e w' ⟨v', rfl, hown, hg⟩
  rw [List.nil_append] at hown
  go_wp2
  go_ret
  exact ⟨v', rfl, own_rd hown (bv_one _), hg.nil⟩

set_option maxHeartbeats 400000 in
theorem refNum_any (n : Nat) (w : World) (hn : n < 18446744073709551616) :
    Calls Try.prog 44 #[.int .u64 n] w fun e w' => ∃ v', e = .returned v' ∧ w'.ownsRow w.heap.size 5 1 v' (numB n).length (bv (numB n)) ∧ Below w.heap.size w w' := by
  have hk := nk_le n hn
  go_enter Try.func44, Try.ntmps44
  go_wp2_with fail
  go_loopw [0, 3] (fun n' v' wr => ∃ (m : Nat) (ls : List UInt8), n' = .int .u64 m ∧ m ≤ n ∧ nk n = nk m + ls.length ∧ be (nk n) n = be (nk m) m ++ ls.reverse ∧ wr.ownsRow w.heap.size 5 1 v' ls.length (bv ls) ∧ Below w.heap.size w wr) (fun n' _ _ => (intOf n').toNat)
  case atStart => exact ⟨n, [], rfl, Nat.le_refl _, rfl, by simp, World.ownsRow_nil _ _ _ _, Below.refl _ _⟩
  case round =>
    obtain ⟨m, ls, rfl, hmn, hkm, hbe, hownr, hbr⟩ := hrel
    have hsz := hbr.size
    by_cases hm0 : m = 0
    · subst hm0
      rw [show ((0 : Nat) : Int) = 0 from rfl]
      have hlen : ls.length = nk n := by have := nk_zero; omega
      have hbe2 : be (nk n) n = ls.reverse := by rw [hbe, nk_zero]; rfl
      clear hbe hkm
      have HL : Hid (ls.length = nk n) := hlen
      have hl8 : ls.length ≤ 8 := by omega
      have HB : Hid (be (nk n) n = ls.reverse) := hbe2
      clear hlen hbe2
      have hrd := own_rd hownr (bv_one _)
      obtain ⟨a3, c3, rfl⟩ := hrd.form
      obtain ⟨wo, rfl⟩ : ∃ wo : World, wo = wr := ⟨_, rfl⟩
      go_wp2_with fail
      go_loopw [4, 5] (fun vo i wx => ∃ j : Nat, j ≤ ls.length ∧ i = .int .i64 ((ls.length : Int) - 1 - (j : Int)) ∧ wx.ownsRow wo.heap.size 5 1 vo (UInt8.ofNat ls.length :: ls.reverse.take j).length (bv (UInt8.ofNat ls.length :: ls.reverse.take j)) ∧ Below wo.heap.size wo wx) (fun _ i _ => (intOf i + 1).toNat)
      case atStart =>
        refine ⟨0, Nat.zero_le _, by simp, ?_, (Below.refl _ _).alloc (Nat.le_refl _) _⟩
        have := own_new wo 5 1 1 wo.heap.size [.int .u8 ls.length] rfl (by omega) (Nat.le_refl _)
        simpa [bv, u8_nat _ (show ls.length < 256 by omega)] using this
      case round =>
        obtain ⟨j, hj, rfl, hox, hbx⟩ := hrel
        have hxsz := hbx.size
        have hrx := hrd.keep hbx
        have hlx : (UInt8.ofNat ls.length :: ls.reverse.take j).length = j + 1 := by simp; omega
        by_cases hjl : j = ls.length
        · subst hjl
          go_wp2
          go_ret
          refine ⟨u4, rfl, ?_, hbr.trans (hbx.mono hsz)⟩
          have e : numB n = UInt8.ofNat ls.length :: ls.reverse.take ls.length := by
            rw [numB, HB.out, List.take_of_length_le (by simp), HL.out]
          rw [e]
          exact own_base hox hsz
        · obtain ⟨b, off, c, hv, hc, hcell⟩ := hrx.at (by omega)
          have hget : ls.reverse[j]? = some (ls[ls.length - 1 - j]'(by omega)) := by rw [List.getElem?_reverse (by omega), List.getElem?_eq_getElem]
          have hld := hcell (ls.length - 1 - j) (.int .u8 (ls[ls.length - 1 - j]'(by omega)).toNat) (by simp [bv, List.getElem?_eq_getElem (show ls.length - 1 - j < ls.length by omega)])
          have htk : ls.reverse.take (j + 1) = ls.reverse.take j ++ [ls[ls.length - 1 - j]'(by omega)] := by rw [List.take_add_one, hget]; rfl
          clear hcell hget hrx hrd hownr
          generalize ls[ls.length - 1 - j]'(by omega) = x at *
          simp only [Value.slice.injEq, true_and] at hv
          obtain ⟨rfl, rfl⟩ := hv
          go_wp2_with (at_builtin; refine wpList_app Try.underlying44 info8 rfl (by decide) rfl _ _ rfl rfl rfl (hox.alloc _) (Rd.one _ _ _ rfl) (by omega) (by omega) (by simp; omega) ?_)
          intro v2 w2 hown2 hg2 _
          have hown3 : w2.ownsRow wo.heap.size 5 1 v2 (UInt8.ofNat ls.length :: ls.reverse.take (j + 1)).length (bv (UInt8.ofNat ls.length :: ls.reverse.take (j + 1))) := by
            rw [htk, ← List.cons_append, bv_append, List.length_append, hlx]; exact hown2
          have hb2 : Below wo.heap.size wr w2 := hg2.alloc.below hxsz (own_block hox)
          go_wp2
          go_roundw
          case rel => exact ⟨j + 1, by omega, by congr 1; omega, hown3, hbx.trans hb2⟩
          case measure => simp [intOf]; omega
    · have h1 := nk_pos m (by omega) (by omega)
      have h2 := be_pos m (by omega) (by omega)
      have hml : ls.length ≤ 8 := by omega
      go_wp2_with (at_builtin; refine wpList_app Try.underlying44 info8 rfl (by decide) rfl _ _ rfl rfl rfl (hownr.alloc _) (Rd.one _ _ _ rfl) (by omega) (by omega) (by simp; omega) ?_)
      intro v2 w2 hown2 hg2 _
      go_wp2
      go_roundw
      case rel =>
        refine ⟨m / 256, ls ++ [UInt8.ofNat (m % 256)], by simp, by omega, by simp; omega, ?_, ?_, ?_⟩
        · rw [hbe, h2]; simp
        · have e : (UInt8.ofNat (m % 256)).toNat = m % 256 := u8_nat _ (by omega)
          simpa [bv, e] using hown2
        · exact hbr.trans (hg2.alloc.below hsz (own_block hownr))
      case measure => simp [intOf]; omega
end Go.Proofs.Ytdociiogddihfaa
