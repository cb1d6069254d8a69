/- frame.One. -/
import Derived.Test.YtpdlocdlnoibbaaFrA
namespace Go.Proofs.Ytpdlocdlnoibbaa
open Go.RowKit

theorem or_byte32 (n : Nat) (c : Nat) (hc : c < 256) (h : n < 16777216) : bits .or .u32 ((n : Int) * 256) (c : Int) = ((n * 256 + c : Nat) : Int) := by
  have h1 := u32_or_nat (n * 256) c (by omega) (by omega)
  have h2 := Nat.two_pow_add_eq_or_of_lt (i := 8) hc n
  rw [show (2 : Nat) ^ 8 = 256 from rfl, Nat.mul_comm] at h2
  rw [← h2] at h1
  have e : ((n * 256 : Nat) : Int) = (n : Int) * 256 := by omega
  rw [← e]; exact h1
/-- What One hands back. -/
def OneD (w w' : World) (R : Int × List UInt8 × Nat) (e : Ending) : Prop :=
  Below w.heap.size w w' ∧ ∃ v, e = .returned (.tuple #[v, .int .i64 R.2.2, .int .i64 R.1]) ∧ Rd w' 1 v R.2.1.length (bv R.2.1) ∧ ∀ j, v.ownBlock = some j → w.heap.size ≤ j ∧ j < w'.heap.size
theorem OneD.nil (w w' : World) (E : Int) (hb : Below w.heap.size w w') : OneD w w' (E, [], 0) (.returned (.tuple #[.slice none 0 0, .int .i64 0, .int .i64 E])) := ⟨hb, _, rfl, Rd.nil _ _, fun j hj => by simp [Value.ownBlock] at hj⟩
set_option maxHeartbeats 4000000 in
set_option maxRecDepth 100000 in
theorem One_any (v : Value) (b : List UInt8) (w : World) (hl : b.length ≤ 140737488350000) (hr : Rd w 1 v b.length (bv b)) :
    Calls Try.prog 29 #[v] w fun e w' => OneD w w' (oneF b) e := by
  rw [← onP_eq]
  obtain ⟨a, c, rfl⟩ := hr.form
  obtain ⟨n, hn⟩ : ∃ n, n = b.length := ⟨_, rfl⟩
  rw [← hn] at hr hl ⊢
  have hr0 := hr
  have HN := Lib.hid hn
  obtain ⟨m9, hm9⟩ : ∃ m9 : Nat, m9 = min n 9 := ⟨_, rfl⟩
  have hmin : min (n : Int) 9 = (m9 : Int) := by omega
  have h99 : (b.take 9).length = m9 := by rw [List.length_take, ← hn]; omega
  have htk := hr.take' m9 (by omega)
  have hbt : (bv b).take m9 = bv (b.take 9) := by
    have e : b.take m9 = b.take 9 := by
      rcases Nat.le_total n 9 with h | h
      · rw [List.take_of_length_le (by omega), List.take_of_length_le (by omega)]
      · rw [show m9 = 9 by omega]
    rw [← e]; simp [bv, List.map_take]
  rw [hbt] at htk
  have hcapn : n ≤ c := by
    obtain ⟨_, _, ⟨hv, _⟩ | ⟨_, _, hv, hc, _⟩⟩ := hr
    · simp only [Value.slice.injEq] at hv; omega
    · simp only [Value.slice.injEq] at hv; omega
  have hcap : m9 ≤ c := by omega
  have hnew := New_any (.slice a m9 c) (b.take 9) w (by rw [h99]; exact htk) (by omega)
  obtain ⟨R, hR⟩ : ∃ R, R = onP b := ⟨_, rfl⟩
  rw [← hR]
  have HR0 := Lib.hid hr0
  unfold onP at hR
  rw [← hn, ← hm9] at hR
  have HRR := Lib.hid hR
  have H9 := Lib.hid (And.intro h99 hm9)
  clear htk hbt hr0 hr hn hm9 h99 hR
  go_enter Try.func29, Try.ntmps29
  go_wp2_with fail
  refine hnew.mono ?_
  rintro e w1 ⟨p, a1, c1, rfl, hp, hrd, hb1⟩
  have hnum := RNum_any w1 p a1 c1 0 _ hrd
  have H1 := Lib.hid (And.intro hp hb1)
  clear hnew hp hrd hb1
  obtain ⟨Q, hQ⟩ : ∃ Q, Q = rdN (b.take 9) := ⟨_, rfl⟩
  have hqs : Q.1 = 0 → Q.2.1 < 2 ^ 64 ∧ b.take 9 = numB Q.2.1 ++ Q.2.2 := fun h => rdN_ok _ _ _ (by rw [← hQ, ← h])
  have hR := HRR.out
  rw [← hQ] at hR
  have HQ := Lib.hid hQ
  clear hQ HRR
  go_wp2_with fail
  refine hnum.mono ?_
  rintro e w2 ⟨hg2, hres⟩
  rw [if_pos rfl, ← HQ.out] at hres
  have hb2 := below_of_grown H1.out.2 H1.out.1 hg2
  by_cases hQ0 : Q.1 = 0
  · rw [if_pos hQ0] at hres
    obtain ⟨rfl, a2, c2, hr2⟩ := hres
    rw [if_neg (fun h => h hQ0)] at hR
    obtain ⟨k, hk⟩ : ∃ k, k = Q.2.1 := ⟨_, rfl⟩
    obtain ⟨T, hT⟩ : ∃ T, T = Q.2.2 := ⟨_, rfl⟩
    have hqq := hqs hQ0
    rw [← hk, ← hT] at hR hqq
    rw [← hk]
    rw [← hT] at hr2
    have htl : T.length ≤ m9 := by have := congrArg List.length hqq.2; rw [H9.out.1, List.length_append] at this; omega
    have hleft := Left_any w2 p a2 c2 0 T hr2
    obtain ⟨d, hd⟩ : ∃ d, d = T.length := ⟨_, rfl⟩
    rw [← hd] at hleft hR htl
    have HB2 := Lib.hid hb2
    have hm9n : m9 ≤ n := by have := H9.out.2; omega
    clear hb2 hr2 hg2 hqs hqq hk hT hQ0 hnum hd
    by_cases h4 : 32768 < k
    · rw [if_pos h4] at hR
      have z4 : (32768 : Int) < (k : Int) := by omega
      have HR := Lib.hid hR
      clear hR
      go_wp2_with fail
      go_ret3
      rw [HR.out]
      exact OneD.nil _ _ _ HB2.out
    · rw [if_neg h4] at hR
      have z4 : ¬ ((32768 : Int) < (k : Int)) := by omega
      obtain ⟨k1, hk1⟩ : ∃ k1, k1 = m9 - d := ⟨_, rfl⟩
      rw [← hk1] at hR
      obtain ⟨kE, hkE⟩ : ∃ kE, kE = k1 + k := ⟨_, rfl⟩
      rw [← hkE] at hR
      have z1 : IntKind.i64.wrap ((m9 : Int) - (d : Int)) = (k1 : Int) := (IntWalk.i64_in _ (by omega)).trans (by omega)
      have z2 : IntKind.i64.wrap (k : Int) = (k : Int) := IntWalk.i64_in _ (by omega)
      have z3 : IntKind.i64.wrap ((k1 : Int) + (k : Int)) = (kE : Int) := (IntWalk.i64_in _ (by omega)).trans (by omega)
      obtain ⟨k4, hk4⟩ : ∃ k4, k4 = kE + 4 := ⟨_, rfl⟩
      have z5 : IntKind.i64.wrap ((kE : Int) + 4) = (k4 : Int) := (IntWalk.i64_in _ (by omega)).trans (by omega)
      rw [← hk4] at hR
      by_cases h2 : n < k4
      · rw [if_pos h2] at hR
        have z6 : (n : Int) < (k4 : Int) := by omega
        have HR := Lib.hid hR
        clear hR hk1 hkE hk4
        go_wp2_with fail
        refine hleft.mono ?_
        rintro e w3 ⟨rfl, rfl⟩
        go_wp2_with fail
        go_ret3
        rw [HR.out]
        exact OneD.nil _ _ _ HB2.out
      · rw [if_neg h2] at hR
        have z6 : ¬ ((n : Int) < (k4 : Int)) := by omega
        have hr2 := HR0.out.keep HB2.out
        obtain ⟨a3, c3, hs3, hr3⟩ := slice_midB (T := b) kE 4 k4 hk4 hr2 HN.out (by omega) (by omega)
        obtain ⟨a4, c4, hs4, hr4⟩ := slice_midB (T := b) k1 k kE hkE hr2 HN.out (by omega) (by omega)
        have hrE := hr2.take' kE (by omega)
        have hbE : (bv b).take kE = bv (b.take kE) := by simp [bv, List.map_take]
        rw [hbE] at hrE
        have hlE : (b.take kE).length = kE := by rw [List.length_take, ← HN.out]; omega
        have hsum := Sum_any (.slice a kE c) (b.take kE) w2 (by omega) (by rw [hlE]; exact hrE)
        obtain ⟨S, hS⟩ : ∃ S, S = Crc.sum (b.take kE) := ⟨_, rfl⟩
        have hSl : S < 4294967296 := by rw [hS]; exact Crc.sum_lt _
        rw [← hS] at hsum hR
        obtain ⟨y, hy⟩ : ∃ y, y = (b.drop kE).take 4 := ⟨_, rfl⟩
        have hyl : y.length = 4 := by rw [hy, List.length_take, List.length_drop, ← HN.out]; omega
        rw [← hy] at hR hr3
        have hclone := fun (w5 : World) (hb5 : Below w2.heap.size w2 w5) => CloneB8_any (.slice a4 k c4) k (bv ((b.drop k1).take k)) w5 (hr4.keep hb5) (by omega)
        have hz4l : ((b.drop k1).take k).length = k := by rw [List.length_take, List.length_drop, ← HN.out]; omega
        have zE0 : kE ≤ c := by omega
        have HR := Lib.hid (And.intro hR (And.intro hz4l hyl))
        obtain ⟨b3, o3, c3', hv3, _, hc3⟩ := hr3.at (by omega)
        simp only [Value.slice.injEq, true_and] at hv3
        obtain ⟨rfl, rfl⟩ := hv3
        have HC3 := Lib.hid hc3
        clear hR hk1 hkE hk4 hr2 hr3 hr4 hrE hbE hlE hS hy hc3 hz4l
        go_wp2_with fail
        refine hleft.mono ?_
        rintro e w3 ⟨rfl, rfl⟩
        go_wp2_with fail
        go_loopw [10, 12, 52] (fun s10 _ s52 wr => (∃ i : Nat, i ≤ 4 ∧ s52 = .int .i64 i ∧ s10 = .int .u32 (vl (y.take i) : Nat)) ∧ wr = w3) (fun _ _ s52 _ => 4 - (intOf s52).toNat)
        case atStart => exact ⟨⟨0, by omega, rfl, by simp [vl]⟩, rfl⟩
        case round =>
          obtain ⟨⟨i, hi, rfl, rfl⟩, rfl⟩ := hrel
          by_cases hi4 : i < 4
          · obtain ⟨x, hx⟩ : ∃ x, y[i]? = some x := ⟨y[i]'(by omega), List.getElem?_eq_getElem _⟩
            have hcx := HC3.out i (.int .u8 x.toNat) (by simp [bv, hx])
            have hvs : vl (y.take (i + 1)) = vl (y.take i) * 256 + x.toNat := by rw [List.take_add_one, hx, Option.toList_some, vl_snoc]
            obtain ⟨A, hA⟩ : ∃ A, A = vl (y.take i) := ⟨_, rfl⟩
            have hA3 : A < 16777216 := by
              have h1 := vl_lt (y.take i)
              rw [← hA] at h1
              have h2 : 256 ^ (y.take i).length ≤ 256 ^ 3 := Nat.pow_le_pow_right (by omega) (by rw [List.length_take]; omega)
              have e3 : (256 : Nat) ^ 3 = 16777216 := by decide
              omega
            have hxl : x.toNat < 256 := x.toNat_lt
            obtain ⟨X, hX⟩ : ∃ X, X = x.toNat := ⟨_, rfl⟩
            rw [← hX] at hcx hxl hvs
            rw [← hA] at hvs ⊢
            have z7 : IntKind.u32.wrap ((A : Int) * 256) = (A : Int) * 256 := by rw [IntKind.wrap_u32]; omega
            have z8 : IntKind.u32.wrap (X : Int) = (X : Int) := by rw [IntKind.wrap_u32]; omega
            have HO : Hid (bits .or .u32 ((A : Int) * 256) (X : Int) = ((A * 256 + X : Nat) : Int)) := Lib.hid (or_byte32 A X hxl hA3)
            have zi : (i : Int) < 4 := by omega
            have zi0 : (0 : Int) ≤ (i : Int) := by omega
            have HW7 : Hid (IntKind.i64.wrap ((i : Int) + 1) = ((i + 1 : Nat) : Int)) := Lib.hid ((IntWalk.i64_in _ (by omega)).trans (by omega))
            have HV := Lib.hid hvs
            clear hvs hA hX hx hsum hclone hs3 hs4 hleft
            go_wp2_with fail
            go_roundw
            case rel => exact ⟨⟨i + 1, by omega, by first | rfl | (rw [HW7.out]) | go_num, by rw [HV.out]; first | rfl | (rw [HO.out])⟩, by first | rfl | trivial⟩
            case measure =>
              simp [intOf]
              omega
          · have zi : ¬ ((i : Int) < 4) := by omega
            obtain rfl : i = 4 := by omega
            rw [List.take_of_length_le (by have := HR.out.2.2; omega)]
            obtain ⟨s, hs⟩ : ∃ s, s = vl y := ⟨_, rfl⟩
            rw [← hs]
            have hR := HR.out.1
            rw [← hs] at hR
            clear hs
            by_cases h3 : S = s
            · rw [if_neg (fun h => h h3)] at hR
              have HR3 := Lib.hid hR
              clear hR
              subst h3
              go_wp2_with fail
              refine hsum.mono ?_
              rintro e w5 ⟨rfl, hb5⟩
              have hcl := hclone w5 hb5
              have hb25 := HB2.out.trans (hb5.mono HB2.out.size)
              go_wp2_with fail
              refine hcl.mono ?_
              rintro e w6 ⟨v6, rfl, ho6, hb6⟩
              have hr6 := own_rd ho6 (bv_one _)
              have hb26 := hb25.trans (hb6.mono hb25.size)
              have HO6 := Lib.hid ho6
              have hz5 := hb25.size
              have HF := Lib.hid (And.intro hr6 hb26)
              clear hcl ho6 hb6 hr6 hb26 hb25 hb5 hclone hsum
              go_wp2_with fail
              go_ret3
              rw [HR3.out]
              refine ⟨HF.out.2, _, rfl, ?_, fun j hj => by have := HO6.out.lt j hj; omega⟩
              show Rd w6 1 _ ((b.drop k1).take k).length _
              rw [HR.out.2.1]; exact HF.out.1
            · rw [if_pos h3] at hR
              have HR3 := Lib.hid hR
              have z9 : ((S : Int) != (s : Int)) = true := by simp; omega
              have z10 : (S != s) = true := by simp; omega
              clear hR
              go_wp2_with fail
              refine hsum.mono ?_
              rintro e w5 ⟨rfl, hb5⟩
              have HB5 := Lib.hid (HB2.out.trans (hb5.mono HB2.out.size))
              clear hb5 hsum hclone
              go_wp2_with fail
              go_ret3
              rw [HR3.out]
              exact OneD.nil _ _ _ HB5.out
  · rw [if_neg hQ0] at hres
    obtain ⟨rfl, hr2⟩ := hres
    rw [if_pos hQ0] at hR
    obtain ⟨z, hz⟩ : ∃ z, z = Q.1 := ⟨_, rfl⟩
    rw [← hz] at hR hQ0 ⊢
    have z1 : (z == 0) = false := by simp [hQ0]
    have HR := Lib.hid (And.intro hR hb2)
    clear hR hb2 hr2 hg2 hz hnum hqs
    go_wp2_with fail
    go_ret3
    rw [HR.out.1]
    exact OneD.nil _ _ _ HR.out.2
end Go.Proofs.Ytpdlocdlnoibbaa
