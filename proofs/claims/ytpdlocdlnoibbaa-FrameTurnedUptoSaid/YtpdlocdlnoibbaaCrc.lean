/- Contracts of crc's functions and their references. -/
import Derived.Test.YtpdlocdlnoibbaaBase
import Derived.Test.YtpdlocdlnoibbaaCrcPlain
import Derived.Test.YtpdlocdlnoibbaaProg
import Derived.Outline
import Derived.Laws.BitsAllLaws
namespace Go.Proofs.Ytpdlocdlnoibbaa
open Go.RowKit

theorem and1 (d : Nat) (hd : d < 4294967296) : bits .and .u32 (d : Int) 1 = ((d % 2 : Nat) : Int) := by
  have := u32_and_nat d 1 hd (by omega)
  rw [Nat.and_one_is_mod] at this
  exact this

set_option maxHeartbeats 400000 in
theorem steps_any (c : Nat) (w : World) (hc : c < 4294967296) :
    Calls Try.prog 54 #[.int .u32 c] w fun e w' => e = .returned (.int .u32 (Crc.sn 8 c)) ∧ w = w' := by
  go_enter Try.func54, Try.ntmps54
  go_wp2_with fail
  go_loop [0, 3] (fun s0 s3 => ∃ k d : Nat, k ≤ 8 ∧ d < 4294967296 ∧ s3 = .int .i64 k ∧ s0 = .int .u32 d ∧ Crc.sn (8 - k) d = Crc.sn 8 c) (fun _ i => 8 - (intOf i).toNat)
  case atStart => exact ⟨0, c, by omega, hc, rfl, rfl, rfl⟩
  case round =>
    obtain ⟨k, d, hk, hd, rfl, rfl, hs⟩ := hrel
    by_cases hlt : k < 8
    · have hltz : (k : Int) < 8 := by omega
      have hs' : Crc.sn (8 - (k + 1)) (Crc.s1 d) = Crc.sn 8 c := by rw [← hs, show 8 - k = (8 - (k + 1)) + 1 by omega]; rfl
      have HS := Lib.hid hs'
      clear hs hs'
      have hl := Crc.s1_lt (c := d) hd
      have ha := and1 d hd
      by_cases h1 : d % 2 = 1
      · have e1 : (bits .and .u32 (d : Int) 1 == 1) = true := by rw [ha, h1]; rfl
        have hx := u32_xor_nat (d / 2) 2197175160 (by omega) (by omega)
        have e2 : Crc.s1 d = d / 2 ^^^ 2197175160 := by unfold Crc.s1; rw [if_pos h1]
        have HX := Lib.hid (show bits .xor .u32 ((d : Int) / 2) 2197175160 = ((Crc.s1 d : Nat) : Int) by rw [e2]; exact hx)
        clear ha h1 hx e2
        go_wp2_with fail
        go_round
        case rel => exact ⟨k + 1, Crc.s1 d, by omega, hl, by go_num, by rw [HX.out], HS.out⟩
        case measure => simp [intOf]; omega
      · have e1 : (bits .and .u32 (d : Int) 1 == 1) = false := by rw [ha, show d % 2 = 0 by omega]; rfl
        have HX := Lib.hid (show Crc.s1 d = d / 2 by unfold Crc.s1; rw [if_neg h1])
        clear ha h1
        go_wp2_with fail
        go_round
        case rel => exact ⟨k + 1, Crc.s1 d, by omega, hl, by go_num, by rw [HX.out]; rfl, HS.out⟩
        case measure => simp [intOf]; omega
    · have hltz : ¬ (k : Int) < 8 := by omega
      have hs' : d = Crc.sn 8 c := by rw [← hs, show 8 - k = 0 by omega]; rfl
      have HS := Lib.hid hs'
      clear hs hs'
      go_wp2_with fail
      go_ret
      exact ⟨ret_int (by rw [← HS.out]), rfl⟩

theorem notU32 (s : Nat) (hs : s < 4294967296) : bits .xor .u32 IntKind.u32.max (s : Int) = ((s ^^^ Crc.full : Nat) : Int) := by
  have h := u32_xor_nat 4294967295 s (by omega) hs
  rw [Nat.xor_comm] at h
  exact h
theorem take_snoc' (l : List UInt8) (k : Nat) (h : k < l.length) : l.take (k + 1) = l.take k ++ [l[k]] := by
  rw [List.take_succ_eq_append_getElem h]
theorem st_snoc (c : Nat) (l : List UInt8) (k : Nat) (h : k < l.length) : Crc.st c (l.take (k + 1)) = Crc.sn 8 (Crc.st c (l.take k) ^^^ l[k].toNat) := by
  rw [take_snoc' l k h, Crc.st_append]; rfl

set_option maxHeartbeats 400000 in
theorem refMore_any (s : Nat) (v : Value) (l : List UInt8) (w : World) (hs : s < 4294967296) (hl : l.length ≤ 140737488355328) (hr : Rd w 1 v l.length (bv l)) :
    Calls Try.prog 53 #[.int .u32 s, v] w fun e w' => e = .returned (.int .u32 (Crc.more s l)) ∧ w = w' := by
  obtain ⟨a, cp, rfl⟩ := hr.form
  go_enter Try.func53, Try.ntmps53
  have hnot := notU32 s hs
  have hc0 : s ^^^ Crc.full < 4294967296 := Nat.xor_lt_two_pow (n := 32) hs Crc.full_lt
  have HM := Lib.hid (show Crc.more s l = Crc.st (s ^^^ Crc.full) l ^^^ Crc.full from rfl)
  go_wp2_with fail
  generalize s ^^^ Crc.full = c0 at *
  go_loop [5, 6] (fun s5 s6 => ∃ k : Nat, k ≤ l.length ∧ s6 = .int .i64 k ∧ s5 = .int .u32 (Crc.st c0 (l.take k))) (fun _ i => l.length - (intOf i).toNat)
  case atStart => exact ⟨0, Nat.zero_le _, rfl, rfl⟩
  case round =>
    obtain ⟨k, hk, rfl, rfl⟩ := hrel
    have hst := Crc.st_lt (l.take k) (c := c0) hc0
    by_cases hlt : k < l.length
    · have hkz : (k : Int) < (l.length : Int) := by omega
      have hk0 : (0 : Int) ≤ (k : Int) := by omega
      have hsn := st_snoc c0 l k hlt
      obtain ⟨b, off, c, hv, hcp, hcell⟩ := hr.at (by omega)
      simp only [Value.slice.injEq, true_and] at hv
      obtain ⟨rfl, rfl⟩ := hv
      have hld := hcell k (.int .u8 l[k].toNat) (by simp [bv, List.getElem?_eq_getElem hlt])
      have hx8 : l[k].toNat < 256 := l[k].toNat_lt
      clear hcell hr
      generalize l[k] = x at *
      generalize hS : Crc.st c0 (l.take k) = S at *
      have hx := u32_xor_nat S x.toNat hst (by omega)
      have hlx : S ^^^ x.toNat < 4294967296 := Nat.xor_lt_two_pow (n := 32) hst (by omega)
      have HSN := Lib.hid hsn
      clear hsn hS
      go_wp2_with fail
      refine (steps_any (S ^^^ x.toNat) _ hlx).mono ?_
      rintro e w' ⟨rfl, rfl⟩
      go_wp2_with fail
      go_round
      case rel => exact ⟨k + 1, by omega, by go_num, by rw [HSN.out]⟩
      case measure => simp [intOf]; omega
    · have hkz : ¬ (k : Int) < (l.length : Int) := by omega
      have hS : Crc.st c0 (l.take k) = Crc.st c0 l := by rw [List.take_of_length_le (by omega)]
      have hnot2 := notU32 (Crc.st c0 (l.take k)) hst
      have HS := Lib.hid hS
      clear hS
      go_wp2_with fail
      go_ret
      exact ⟨ret_int (by rw [HM.out, ← HS.out]), rfl⟩

theorem refSum_any (v : Value) (l : List UInt8) (w : World) (hl : l.length ≤ 140737488355328) (hr : Rd w 1 v l.length (bv l)) :
    Calls Try.prog 47 #[v] w fun e w' => e = .returned (.int .u32 (Crc.sum l)) ∧ w = w' := by
  go_enter Try.func47, Try.ntmps47
  go_wp2_with fail
  refine (refMore_any 0 v l w (by omega) hl hr).mono ?_
  rintro e w' ⟨rfl, rfl⟩
  go_wp2_with fail
  go_ret
  exact ⟨rfl, rfl⟩

/-- The sixteen turns of a nibble, the first k of them laid. -/
def nibAt (k : Nat) : Array Value := ((List.range 16).map fun i => Value.int .u32 (if i < k then (Crc.sn 4 i : Nat) else (0 : Nat) : Nat)).toArray
theorem nibAt_size (k : Nat) : (nibAt k).size = 16 := by simp [nibAt]
theorem nibAt_get (k i : Nat) (h : i < 16) : (nibAt k)[i]? = some (.int .u32 (if i < k then (Crc.sn 4 i : Nat) else (0 : Nat) : Nat)) := by simp [nibAt, h]
theorem nibAt_set (k : Nat) : (nibAt k).setIfInBounds k (.int .u32 (Crc.sn 4 k : Nat)) = nibAt (k + 1) := by
  apply Array.ext_getElem?
  intro i
  by_cases hi : i < 16
  · rw [nibAt_get _ _ hi, Array.getElem?_setIfInBounds]
    by_cases hik : k = i
    · subst hik; simp [nibAt_size, hi]
    · rw [if_neg hik, nibAt_get _ _ hi]
      by_cases h1 : i < k
      · simp [h1, show i < k + 1 by omega]
      · simp [h1, show ¬ i < k + 1 by omega]
  · have h1 : 16 ≤ i := by omega
    rw [Array.getElem?_eq_none (by simp [nibAt_size]; omega), Array.getElem?_eq_none (by simp [nibAt_size]; omega)]
theorem nib_step (d : Nat) (hd : d < 4294967296) : bits .xor .u32 ((d : Int) / 2) (bits .and .u32 2197175160 (-(bits .and .u32 (d : Int) 1) % 4294967296)) = ((Crc.s1 d : Nat) : Int) := by
  rw [and1 d hd]
  by_cases h : d % 2 = 1
  · rw [h]
    have e1 : (-((1 : Nat) : Int) % 4294967296) = ((4294967295 : Nat) : Int) := by decide
    have e2 := u32_and_nat 2197175160 4294967295 (by omega) (by omega)
    have e3 : (2197175160 &&& 4294967295 : Nat) = 2197175160 := by decide
    rw [e3] at e2
    rw [e1, show (2197175160 : Int) = ((2197175160 : Nat) : Int) from rfl, e2]
    have := u32_xor_nat (d / 2) 2197175160 (by omega) (by omega)
    unfold Crc.s1
    rw [if_pos h]
    exact this
  · rw [show d % 2 = 0 by omega]
    have e1 : (-((0 : Nat) : Int) % 4294967296) = ((0 : Nat) : Int) := by decide
    have e2 := u32_and_nat 2197175160 0 (by omega) (by omega)
    rw [e1, show (2197175160 : Int) = ((2197175160 : Nat) : Int) from rfl, e2]
    have := u32_xor_nat (d / 2) 0 (by omega) (by omega)
    unfold Crc.s1
    rw [if_neg h]
    simpa using this
theorem nibAt_zero : nibAt 0 = #[.int .u32 0, .int .u32 0, .int .u32 0, .int .u32 0, .int .u32 0, .int .u32 0, .int .u32 0, .int .u32 0, .int .u32 0, .int .u32 0, .int .u32 0, .int .u32 0, .int .u32 0, .int .u32 0, .int .u32 0, .int .u32 0] := by kernel_rfl
theorem nibAt_all : nibAt 16 = #[.int .u32 0, .int .u32 274646895, .int .u32 549293790, .int .u32 820201905, .int .u32 1098587580, .int .u32 1361435347, .int .u32 1640403810, .int .u32 1905808397, .int .u32 2197175160, .int .u32 2460548119, .int .u32 2722870694, .int .u32 2987750089, .int .u32 3280807620, .int .u32 3553878443, .int .u32 3811616794, .int .u32 4084100981] := by kernel_rfl

set_option maxHeartbeats 800000 in
theorem nibbles_any (w : World) :
    Calls Try.prog 49 #[] w fun e w' => e = .returned (.agg #[.int .u32 0, .int .u32 274646895, .int .u32 549293790, .int .u32 820201905, .int .u32 1098587580, .int .u32 1361435347, .int .u32 1640403810, .int .u32 1905808397, .int .u32 2197175160, .int .u32 2460548119, .int .u32 2722870694, .int .u32 2987750089, .int .u32 3280807620, .int .u32 3553878443, .int .u32 3811616794, .int .u32 4084100981]) ∧ Below w.heap.size w w' := by
  go_enter Try.func49, Try.ntmps49
  go_wp2_with fail
  go_loopw [3] (fun s3 wr => ∃ k : Nat, k ≤ 16 ∧ s3 = .int .i64 k ∧ wr = w.alloc (.cells (nibAt k) 73)) (fun i _ => 16 - (intOf i).toNat)
  case atStart => exact ⟨0, by omega, rfl, by rw [nibAt_zero]⟩
  case round =>
    obtain ⟨k, hk, rfl, rfl⟩ := hrel
    by_cases hlt : k < 16
    · have hkz : (k : Int) < 16 := by omega
      have hk0 : (0 : Int) ≤ (k : Int) := by omega
      have hcell : (w.alloc (.cells (nibAt k) 73)).cell? ⟨w.heap.size, k, none⟩ = some (.int .u32 (0 : Nat)) := by
        rw [World.cell?_alloc_at _ _ _ _ rfl, nibAt_get _ _ hlt]; simp
      go_wp2_with fail
      go_loop [2, 8] (fun s2 s8 => ∃ j d : Nat, j ≤ 4 ∧ d < 4294967296 ∧ s8 = .int .i64 j ∧ s2 = .int .u32 d ∧ Crc.sn (4 - j) d = Crc.sn 4 k) (fun _ i => 4 - (intOf i).toNat)
      case atStart => exact ⟨0, k, by omega, by omega, rfl, rfl, rfl⟩
      case round =>
        obtain ⟨j, d, hj, hd, rfl, rfl, hs⟩ := hrel
        by_cases hjl : j < 4
        · have hjz : (j : Int) < 4 := by omega
          have hs' : Crc.sn (4 - (j + 1)) (Crc.s1 d) = Crc.sn 4 k := by rw [← hs, show 4 - j = (4 - (j + 1)) + 1 by omega]; rfl
          have HS := Lib.hid hs'
          clear hs hs' hcell
          have hl := Crc.s1_lt (c := d) hd
          have HX := Lib.hid (nib_step d hd)
          go_wp2_with fail
          go_round
          case rel => exact ⟨j + 1, Crc.s1 d, by omega, hl, by go_num, by rw [HX.out], HS.out⟩
          case measure => simp [intOf]; omega
        · have hjz : ¬ (j : Int) < 4 := by omega
          have hs' : d = Crc.sn 4 k := by rw [← hs, show 4 - j = 0 by omega]; rfl
          have HS := Lib.hid hs'
          clear hs hs'
          go_wp2_with fail
          go_roundw
          case rel => exact ⟨k + 1, by omega, by go_num, by rw [HS.out, nibAt_set]⟩
          case measure => simp [intOf]; omega
    · have hkz : ¬ (k : Int) < 16 := by omega
      obtain rfl : k = 16 := by omega
      rw [nibAt_all]
      go_wp2_with fail
      exact bodyPost_ret (v := .agg #[.int .u32 0, .int .u32 274646895, .int .u32 549293790, .int .u32 820201905, .int .u32 1098587580, .int .u32 1361435347, .int .u32 1640403810, .int .u32 1905808397, .int .u32 2197175160, .int .u32 2460548119, .int .u32 2722870694, .int .u32 2987750089, .int .u32 3280807620, .int .u32 3553878443, .int .u32 3811616794, .int .u32 4084100981]) (by simp [results, Try.results49, go_sem]) rfl ⟨rfl, (Below.refl _ _).alloc (Nat.le_refl _) _⟩
end Go.Proofs.Ytpdlocdlnoibbaa
