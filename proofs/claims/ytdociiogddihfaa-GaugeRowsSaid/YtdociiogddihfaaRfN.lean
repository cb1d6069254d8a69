/- The reference's Reader: Num. -/
import Derived.Test.YtdociiogddihfaaRfA0
namespace Go.Proofs.Ytdociiogddihfaa
open Go.RowKit

/-- What the reference's Num hands back, and what it leaves. -/
def RfNum (w w' : World) (q : Nat) (a : Option Addr) (c : Nat) (B : List UInt8) (pos : Nat) (no : Int) (R : Int × Nat × List UInt8) (e : Ending) : Prop :=
  w.grownBy w' (some q) ∧ if no = 0 then
    (if R.1 = 0 then e = .returned (.tuple #[.int .u64 R.2.1, .int .i64 0]) ∧ ∃ pos', Rfr w' q a c B pos' 0 ∧ B.drop pos' = R.2.2 else e = .returned (.tuple #[.int .u64 0, .int .i64 R.1]) ∧ Rfr w' q a c B pos R.1)
    else e = .returned (.tuple #[.int .u64 0, .int .i64 no]) ∧ Rfr w' q a c B pos no
theorem drop_cons {B t : List UInt8} {x : UInt8} {k : Nat} (h : B.drop k = x :: t) : B[k]? = some x ∧ B.drop (k + 1) = t := by
  refine ⟨?_, ?_⟩
  · have := congrArg (·[0]?) h
    simpa using this
  · have h1 := congrArg List.tail h
    rw [List.tail_drop] at h1
    exact h1
theorem drop_nil_len {B : List UInt8} {k : Nat} (h : B.drop k = []) (hk : k ≤ B.length) : k = B.length := by
  have := congrArg List.length h
  rw [List.length_drop] at this
  simp at this
  omega
set_option maxHeartbeats 4000000 in
theorem rNum_any (w : World) (q : Nat) (a : Option Addr) (c : Nat) (B : List UInt8) (pos : Nat) (no : Int) (h : Rfr w q a c B pos no) (hl : B.length ≤ 140737488355328) :
    Calls Try.prog 41 #[.pointer (some ⟨q, 0, none⟩)] w fun e w' => RfNum w w' q a c B pos no (rdN (B.drop pos)) e := by
  have hc1 := h.cells.2.2.1
  obtain ⟨R, hR⟩ : ∃ R, R = rdN (B.drop pos) := ⟨_, rfl⟩
  rw [← hR]
  by_cases hno : no = 0
  · subst hno
    have hle := h.le
    obtain ⟨D, hD⟩ : ∃ D, D = B.drop pos := ⟨_, rfl⟩
    rw [← hD] at hR
    cases D with
    | nil =>
      have hb := rByte_end w q a c B pos h (drop_nil_len hD.symm hle)
      have HL := Lib.hid hle
      clear h hle hD
      go_enter Try.func41, Try.ntmps41
      go_wp2_with fail
      refine hb.mono ?_
      rintro e w1 ⟨rfl, hr1, hg1⟩
      have HR := Lib.hid (And.intro hr1 hg1)
      clear hr1 hg1 hb
      go_wp2_with fail
      go_ret2
      refine ⟨HR.out.2, ?_⟩
      rw [if_pos rfl, hR, if_neg (by simp [rdN])]
      exact ⟨rfl, HR.out.1⟩
    | cons k t =>
      obtain ⟨hk, ht⟩ := drop_cons hD.symm
      have hb := rByte_good w q a c B pos k h hk hl
      have hkl := (List.getElem?_eq_some_iff.1 hk).1
      obtain ⟨K, hK⟩ : ∃ K, K = k.toNat := ⟨_, rfl⟩
      have hK8 : K < 256 := by rw [hK]; exact k.toNat_lt
      rw [rdN, ← hK] at hR
      rw [← hK] at hb
      have HD := Lib.hid (And.intro ht hkl)
      clear h hD hk ht hle hK hkl
      go_enter Try.func41, Try.ntmps41
      go_wp2_with fail
      refine hb.mono ?_
      rintro e w1 ⟨rfl, hr1, hg1⟩
      by_cases h8 : 8 < K
      · have z1 : (8 : Int) < (K : Int) := by omega
        rw [if_pos h8] at hR
        have hf := rfail_any w1 q a c B (pos + 1) 0 hr1 3 pos (by have := HD.out.2; omega)
        have HG := Lib.hid hg1
        clear hr1 hg1 hb
        go_wp2_with fail
        refine hf.mono ?_
        rintro e w2 ⟨rfl, hr2, hg2⟩
        have HZ := Lib.hid (And.intro hr2 hg2)
        clear hr2 hg2 hf
        go_wp2_with fail
        go_ret2
        refine ⟨grown_trans HG.out HZ.out.2 (fun j hj => .inl hj), ?_⟩
        rw [if_pos rfl, hR, if_neg (by simp)]
        exact ⟨rfl, HZ.out.1⟩
      · have z1 : ¬ (8 : Int) < (K : Int) := by omega
        rw [if_neg h8] at hR
        have HR := Lib.hid hR
        have HZ := Lib.hid (And.intro hr1 hg1)
        have zK : IntKind.i64.wrap (K : Int) = (K : Int) := IntWalk.i64_in _ (by omega)
        clear hr1 hg1 hR hb hc1
        go_wp2_with fail
        go_loopw [7, 8, 9, 10] (fun s7 s8 _ _ wr => ∃ (i acc p2 : Nat) (l' : List UInt8), i ≤ K ∧ s8 = .int .i64 i ∧ s7 = .int .u64 acc ∧ acc < 256 ^ i ∧ Rfr wr q a c B p2 0 ∧ B.drop p2 = l' ∧ w.grownBy wr (some q) ∧ R = rdK (K - i) i acc l') (fun _ s8 _ _ _ => K - (intOf s8).toNat)
        case atStart => exact ⟨0, 0, pos + 1, t, by omega, rfl, rfl, by decide, HZ.out.1, HD.out.1, HZ.out.2, HR.out⟩
        case round =>
          obtain ⟨i, acc, p2, l', hiK, rfl, rfl, hacc, hrd, hdr, hg, hRe⟩ := hrel
          by_cases hlt : i < K
          · have z2 : (i : Int) < (K : Int) := by omega
            obtain ⟨d, hq⟩ : ∃ d, K - i = d + 1 := ⟨K - i - 1, by omega⟩
            rw [hq] at hRe
            cases l' with
            | nil =>
              have h2 := rByte_end wr q a c B p2 hrd (drop_nil_len hdr hrd.le)
              have H2 := Lib.hid (And.intro hg hRe)
              clear hrd hg hRe hdr
              go_wp2_with fail
              refine h2.mono ?_
              rintro e w3 ⟨rfl, hr3, hg3⟩
              have hf := rfail_any w3 q a c B p2 2 hr3 2 pos (by have := HD.out.2; omega)
              have H3 := Lib.hid hg3
              clear hr3 hg3 h2
              go_wp2_with fail
              refine hf.mono ?_
              rintro e w4 ⟨rfl, hr4, hg4⟩
              have H4 := Lib.hid (And.intro hr4 hg4)
              clear hr4 hg4 hf
              go_wp2_with fail
              go_ret2
              refine ⟨grown_trans (grown_trans H2.out.1 H3.out (fun j hj => .inl hj)) H4.out.2 (fun j hj => .inl hj), ?_⟩
              rw [if_pos rfl, H2.out.2, if_neg (by simp [rdK])]
              exact ⟨rfl, H4.out.1⟩
            | cons x l2 =>
              obtain ⟨hx, hdr2⟩ := drop_cons hdr
              have h2 := rByte_good wr q a c B p2 x hrd hx hl
              have H2 := Lib.hid (And.intro hg hRe)
              have HDR := Lib.hid hdr2
              clear hrd hg hRe hdr hx hdr2
              go_wp2_with fail
              refine h2.mono ?_
              rintro e w3 ⟨rfl, hr3, hg3⟩
              have H3 := Lib.hid (And.intro hr3 (grown_trans H2.out.1 hg3 (fun j hj => .inl hj)))
              have hRe := H2.out.2
              rw [rdK] at hRe
              obtain ⟨y, hy⟩ : ∃ y, y = x.toNat := ⟨_, rfl⟩
              have hy8 : y < 256 := by rw [hy]; exact x.toNat_lt
              rw [← hy] at hRe
              by_cases hbad : i = 0 ∧ y = 0
              · obtain ⟨hi0, hy0⟩ := hbad
                have z3 : ((i : Int) == 0) = true := by simp; omega
                have z4 : ((y : Int) == 0) = true := by simp; omega
                rw [if_pos ⟨hi0, hy0⟩] at hRe
                have hf := rfail_any w3 q a c B (p2 + 1) 0 hr3 3 pos (by have := HD.out.2; omega)
                have H4 := Lib.hid hRe
                have HY := Lib.hid hy
                clear hr3 hg3 hRe hy h2
                rw [← HY.out]
                go_wp2_with fail
                refine hf.mono ?_
                rintro e w4 ⟨rfl, hr4, hg4⟩
                have H5 := Lib.hid (And.intro hr4 hg4)
                clear hr4 hg4 hf
                go_wp2_with fail
                go_ret2
                refine ⟨grown_trans H3.out.2 H5.out.2 (fun j hj => .inl hj), ?_⟩
                rw [if_pos rfl, H4.out, if_neg (by simp)]
                exact ⟨rfl, H5.out.1⟩
              · rw [if_neg hbad] at hRe
                have hi7 : i < 8 := by omega
                have hpow : 256 ^ i ≤ 256 ^ 7 := Nat.pow_le_pow_right (by omega) (by omega)
                have e7 : (256 : Nat) ^ 7 = 72057594037927936 := by decide
                have hacc2 : acc * 256 + y < 256 ^ (i + 1) := by rw [Nat.pow_succ]; omega
                have hacc3 : acc < 72057594037927936 := by omega
                have z6 : IntKind.u64.wrap (y : Int) = (y : Int) := IntWalk.u64_in _ (by omega)
                have HW7 : Hid (IntKind.i64.wrap ((i : Int) + 1) = ((i + 1 : Nat) : Int)) := Lib.hid ((IntWalk.i64_in _ (by omega)).trans (by omega))
                have H4 := Lib.hid (And.intro hRe hacc2)
                have HY := Lib.hid hy
                have z5 : IntKind.u64.wrap ((acc : Int) * 256) = (acc : Int) * 256 := IntWalk.u64_in _ (by omega)
                have HW8 : Hid (IntKind.u64.wrap ((acc : Int) * 256 + (y : Int)) = ((acc * 256 + y : Nat) : Int)) := Lib.hid ((IntWalk.u64_in _ (by omega)).trans (by omega))
                clear hr3 hg3 hRe hacc2 hpow e7 hy h2 hacc
                rcases Nat.eq_zero_or_pos i with hi0 | hi0
                · have z3 : ((i : Int) == 0) = true := by simp; omega
                  have z4 : ((y : Int) == 0) = false := by simp; omega
                  rw [← HY.out]
                  go_wp2_with fail
                  go_roundw
                  case rel => exact ⟨i + 1, acc * 256 + y, p2 + 1, l2, by omega, by first | rfl | (rw [HW7.out]) | go_num, by first | rfl | (rw [HW8.out]), H4.out.2, H3.out.1, HDR.out, H3.out.2, by rw [show K - (i + 1) = d by omega]; exact H4.out.1⟩
                  case measure =>
                    simp [intOf]
                    omega
                · have z3 : ((i : Int) == 0) = false := by simp; omega
                  rw [← HY.out]
                  go_wp2_with fail
                  go_roundw
                  case rel => exact ⟨i + 1, acc * 256 + y, p2 + 1, l2, by omega, by first | rfl | (rw [HW7.out]) | go_num, by first | rfl | (rw [HW8.out]), H4.out.2, H3.out.1, HDR.out, H3.out.2, by rw [show K - (i + 1) = d by omega]; exact H4.out.1⟩
                  case measure =>
                    simp [intOf]
                    omega
          · have z2 : ¬ (i : Int) < (K : Int) := by omega
            have H2 := Lib.hid (And.intro hrd (And.intro hdr (And.intro hg hRe)))
            clear hrd hdr hg hRe
            go_wp2_with fail
            go_ret2
            refine ⟨H2.out.2.2.1, ?_⟩
            rw [if_pos rfl, H2.out.2.2.2, show K - i = 0 by omega, rdK, if_pos rfl]
            exact ⟨rfl, _, H2.out.1, H2.out.2.1⟩
  · have hb := rByte_bad w q a c B pos no h hno
    have z1 : (no == 0) = false := by simp [hno]
    clear h hR
    go_enter Try.func41, Try.ntmps41
    go_wp2_with fail
    refine hb.mono ?_
    rintro e w1 ⟨rfl, hr1, hg1⟩
    have HR := Lib.hid (And.intro hr1 hg1)
    clear hr1 hg1 hb
    go_wp2_with fail
    go_ret2
    refine ⟨HR.out.2, ?_⟩
    rw [if_neg hno]
    exact ⟨rfl, HR.out.1⟩
end Go.Proofs.Ytdociiogddihfaa
