/- Contracts of the package edge: bytes as floats; the reference's bytes. -/
import Derived.Test.YtdociiogddihfaaEdgePut
import Derived.Laws.Bits64b
namespace Go.Proofs.Ytdociiogddihfaa
open Go.RowKit

theorem or_shl8 (n c : Nat) (hn : n < 72057594037927936) (hc : c < 256) : bits .or .u64 ((n : Int) * 256) (c : Int) = ((n * 256 + c : Nat) : Int) := by
  have h1 : ((n : Int) * 256) = ((n * 256 : Nat) : Int) := by omega
  rw [h1, bits_or_u64_nat _ _ (by omega) (by omega)]
  have e3 := Nat.two_pow_add_eq_or_of_lt (i := 8) (b := c) (by omega) n
  rw [show n * 256 = 2 ^ 8 * n by omega, ← e3]

/-- What bytes are read as: a float's bits and an error's number. -/
def getP (l : List UInt8) : Nat × Int :=
  if l.length < 8 then (0, 2) else if 8 < l.length then (0, 5) else if fnan (vl l) = false ∨ vl l = 9221120237041090560 then (vl l, 0) else (0, 3)
theorem getP_short (l : List UInt8) (h : l.length < 8) : getP l = (0, 2) := by unfold getP; rw [if_pos h]
theorem getP_long (l : List UInt8) (h : 8 < l.length) : getP l = (0, 5) := by unfold getP; rw [if_neg (by omega), if_pos h]
theorem getP_eight (l : List UInt8) (h : l.length = 8) : getP l = if fnan (vl l) = false ∨ vl l = 9221120237041090560 then (vl l, 0) else (0, 3) := by unfold getP; rw [if_neg (by omega), if_neg (by omega)]
theorem getP_lt (l : List UInt8) : (getP l).1 < 18446744073709551616 := by
  unfold getP
  split
  · decide
  · split
    · decide
    · have := vl_lt l
      split
      · rw [show l.length = 8 by omega] at this; exact this
      · decide
theorem vl_take_lt (l : List UInt8) (k : Nat) (hk : k < 8) : vl (l.take k) < 72057594037927936 := by
  have h := vl_lt (l.take k)
  have h2 : 256 ^ (l.take k).length ≤ 256 ^ 7 := Nat.pow_le_pow_right (by decide) (by simp; omega)
  omega
theorem vl_take_succ (l : List UInt8) (k : Nat) (y : UInt8) (h : l[k]? = some y) : vl (l.take (k + 1)) = vl (l.take k) * 256 + y.toNat := by
  rw [List.take_add_one, h]; exact vl_snoc _ _

set_option maxHeartbeats 1000000 in
theorem Get_any (v : Value) (l : List UInt8) (w : World) (hl : l.length ≤ 140737488355328) (hr : Rd w 1 v l.length (bv l)) :
    Calls Try.prog 40 #[v] w fun e w' => e = .returned (.tuple #[.float .f64 (getP l).1, .int .i64 (getP l).2]) ∧ w = w' := by
  obtain ⟨a, c, rfl⟩ := hr.form
  by_cases h1 : l.length < 8
  · rw [getP_short l h1]
    have h1z : (l.length : Int) < 8 := by omega
    go_enter Try.func40, Try.ntmps40
    go_wp2_with fail
    go_ret2
    exact ⟨rfl, rfl⟩
  · by_cases h2 : 8 < l.length
    · rw [getP_long l h2]
      have h1z : ¬ (l.length : Int) < 8 := by omega
      have h2z : (8 : Int) < (l.length : Int) := by omega
      go_enter Try.func40, Try.ntmps40
      go_wp2_with fail
      go_ret2
      exact ⟨rfl, rfl⟩
    · have h8 : l.length = 8 := by omega
      have hg := getP_eight l h8
      have hvl := vl_lt l
      rw [h8] at hvl hr
      have hfrom := run_frombits
      have HG := Lib.hid hg
      have H8 := Lib.hid h8
      clear hg h1 h2 hl
      rw [h8]
      clear h8
      go_enter Try.func40, Try.ntmps40
      go_wp2_with fail
      go_loop [4, 18] (fun s4 s18 => ∃ k : Nat, k ≤ 8 ∧ s18 = .int .i64 k ∧ s4 = .int .u64 (vl (l.take k))) (fun _ i => 8 - (intOf i).toNat)
      case atStart => exact ⟨0, by omega, rfl, rfl⟩
      case round =>
        obtain ⟨k, hk, rfl, rfl⟩ := hrel
        by_cases hlt : k < 8
        · have hkz : (k : Int) < 8 := by omega
          have hk0 : (0 : Int) ≤ (k : Int) := by omega
          obtain ⟨q, o, c', hv, _, hcell⟩ := hr.at (by omega)
          simp only [Value.slice.injEq, true_and] at hv
          obtain ⟨rfl, rfl⟩ := hv
          obtain ⟨y, hy⟩ : ∃ y, l[k]? = some y := ⟨l[k]'(by have := H8.out; omega), List.getElem?_eq_getElem _⟩
          have hc := hcell k (.int .u8 y.toNat) (by simp [bv, hy])
          have hsn := vl_take_succ l k y hy
          have hlt2 := vl_take_lt l k hlt
          have hyl := y.toNat_lt
          generalize y.toNat = z at *
          generalize vl (l.take k) = m at *
          have ho := or_shl8 m z hlt2 hyl
          have HSN := Lib.hid hsn
          clear hcell hr hy hsn
          go_wp2_with fail
          go_round
          case rel => exact ⟨k + 1, by omega, by go_num, by rw [HSN.out]; go_num⟩
          case measure => simp [intOf]; omega
        · have hkz : ¬ (k : Int) < 8 := by omega
          obtain rfl : k = 8 := by omega
          rw [List.take_of_length_le (by have := H8.out; omega)] at *
          generalize hn : vl l = n at *
          have hn2 : ∀ w, Calls Try.prog 28 #[.float .f64 n] w fun e w' => e = .returned (.bool (fnan n)) ∧ w = w' := fun w => IsNaN_any n w hvl
          have HN := Lib.hid hn2
          clear hn2 hr hn
          cases h3 : fnan n with
          | false =>
            rw [h3] at HG HN
            have HF : Hid (getP l = (n, 0)) := by unfold Hid; rw [HG.out, if_pos (Or.inl rfl)]
            clear HG
            go_wp2_with fail
            refine (HN.out _).mono ?_
            rintro e w' ⟨rfl, rfl⟩
            go_wp2_with fail
            go_ret2
            exact ⟨by rw [HF.out]; rfl, rfl⟩
          | true =>
            rw [h3] at HG HN
            by_cases h4 : n = 9221120237041090560
            · have h5 : ((n : Int) == 9221120237041090560) = true := by simp; omega
              have HF : Hid (getP l = (n, 0)) := by unfold Hid; rw [HG.out, if_pos (Or.inr h4)]
              clear HG
              clear h4
              go_wp2_with fail
              refine (HN.out _).mono ?_
              rintro e w' ⟨rfl, rfl⟩
              go_wp2_with fail
              go_ret2
              exact ⟨by rw [HF.out]; rfl, rfl⟩
            · have h5 : ((n : Int) == 9221120237041090560) = false := by simp; omega
              have HF : Hid (getP l = (0, 3)) := by unfold Hid; rw [HG.out, if_neg (by simp [h4])]
              clear HG
              clear h4
              go_wp2_with fail
              refine (HN.out _).mono ?_
              rintro e w' ⟨rfl, rfl⟩
              go_wp2_with fail
              go_ret2
              exact ⟨by rw [HF.out]; rfl, rfl⟩
end Go.Proofs.Ytdociiogddihfaa
