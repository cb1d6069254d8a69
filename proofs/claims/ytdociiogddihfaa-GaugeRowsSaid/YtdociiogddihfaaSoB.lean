/- slices.rotateCmpFunc. -/
import Derived.Test.YtdociiogddihfaaSoA
namespace Go.Proofs.Ytdociiogddihfaa
open Go.RowKit

set_option maxHeartbeats 8000000 in
set_option maxRecDepth 100000 in
/-- Two pieces side by side change places. -/
theorem rotate_any (P L R S : List Nat) (B a m b nn c : Nat) (cv : Value) (w : World) (ha : P.length = a) (hm : a + L.length = m) (hb : m + R.length = b) (hL : 0 < L.length) (hR : 0 < R.length) (hnn : (P ++ L ++ R ++ S).length = nn) (hbig : nn < 1000000) (hr : SRow w B (P ++ L ++ R ++ S)) :
    Calls Try.prog 68 #[.slice (some ⟨B, 0, none⟩) nn c, .int .i64 a, .int .i64 m, .int .i64 b, cv] w fun e w' => e = .returned (.tuple #[]) ∧ SRow w' B (P ++ R ++ L ++ S) ∧ w.grownBy w' (some B) := by
  simp only [List.length_append] at hnn
  have zi : IntKind.i64.wrap ((m : Int) - (a : Int)) = (L.length : Int) := by rw [IntKind.wrap_i64]; omega
  have zj : IntKind.i64.wrap ((b : Int) - (m : Int)) = (R.length : Int) := by rw [IntKind.wrap_i64]; omega
  have HH := Lib.hid (And.intro ha (And.intro hm (And.intro hb (And.intro hL (And.intro hR hnn)))))
  have HR := Lib.hid hr
  have hmb : m < 1000000 ∧ m ≤ nn := by omega
  obtain ⟨l0, hl0⟩ : ∃ q, q = L.length := ⟨_, rfl⟩
  obtain ⟨r0, hr0⟩ : ∃ q, q = R.length := ⟨_, rfl⟩
  rw [← hl0] at zi
  rw [← hr0] at zj
  have HLR := Lib.hid (And.intro hl0 hr0)
  clear ha hm hb hL hR hnn hr hl0 hr0
  go_enter Try.func68, Try.ntmps68
  go_upto_region 2 with fail
  clear zi zj
  go_loopw [10, 11] (fun s10 s11 wr => ∃ (i j : Nat) (A1 L' R' A2 : List Nat), s10 = .int .i64 i ∧ s11 = .int .i64 j ∧ 0 < i ∧ 0 < j ∧ i ≤ m ∧ m + j ≤ nn ∧ Hid (L'.length = i ∧ R'.length = j ∧ P.length + A1.length + i = m ∧ R ++ L = A1 ++ R' ++ L' ++ A2 ∧ (P ++ A1 ++ L' ++ R' ++ A2 ++ S).length = nn) ∧ Hid (SRow wr B (P ++ A1 ++ L' ++ R' ++ A2 ++ S)) ∧ Hid (w.grownBy wr (some B))) (fun i j _ => (intOf i).toNat + (intOf j).toNat)
  case atStart =>
    have h := HH.out
    have h2 := HLR.out
    refine ⟨l0, r0, [], L, R, [], rfl, rfl, by omega, by omega, by omega, by omega, Lib.hid ⟨by omega, by omega, by simp; omega, by simp, by simp; omega⟩, Lib.hid ?_, Lib.hid (World.grownBy.refl _ _)⟩
    have h3 := HR.out
    simpa using h3
  case round =>
    obtain ⟨i, j, A1, L', R', A2, rfl, rfl, hi, hj, him, hjm, HL, HS, HG⟩ := hrel
    rcases Nat.lt_trichotomy i j with hc | hc | hc
    · -- the right piece is the longer one
      have hz : ((i : Int) == (j : Int)) = false := by simp; omega
      have hz1 : ((i : Int) != (j : Int)) = true := by simp; omega
      have hz2 : ¬ (i : Int) = (j : Int) := by omega
      have hz3 : ¬ (j : Int) < (i : Int) := by omega
      obtain ⟨p, hp⟩ : ∃ p : Nat, p = m - i := ⟨_, rfl⟩
      obtain ⟨q, hq⟩ : ∃ q : Nat, q = m + (j - i) := ⟨_, rfl⟩
      obtain ⟨j', hj'⟩ : ∃ q : Nat, q = j - i := ⟨_, rfl⟩
      have zp : IntKind.i64.wrap ((m : Int) - (i : Int)) = (p : Int) := by rw [IntKind.wrap_i64]; omega
      obtain ⟨s, hs⟩ : ∃ q : Nat, q = m + j := ⟨_, rfl⟩
      have zs : IntKind.i64.wrap ((m : Int) + (j : Int)) = (s : Int) := by rw [IntKind.wrap_i64]; omega
      have zq : IntKind.i64.wrap ((s : Int) - (i : Int)) = (q : Int) := by rw [IntKind.wrap_i64]; omega
      clear hs
      have zj' : IntKind.i64.wrap ((j : Int) - (i : Int)) = (j' : Int) := by rw [IntKind.wrap_i64]; omega
      have h := HL.out
      have hsplit : R' = R'.take (j - i) ++ R'.drop (j - i) := (List.take_append_drop _ _).symm
      have hl1 : (R'.take (j - i)).length = j - i := by rw [List.length_take]; omega
      have hl2 : (R'.drop (j - i)).length = i := by rw [List.length_drop]; omega
      generalize R'.take (j - i) = R1 at hsplit hl1
      generalize R'.drop (j - i) = R2 at hsplit hl2
      subst hsplit
      have hlen := h.2.2.2.2
      simp only [List.length_append] at hlen
      have hc := swapRange_any (P ++ A1) L' R1 R2 (A2 ++ S) B p q i nn c cv wr h.1 hl2 (by rw [List.length_append]; omega) (by omega) (by simp; omega) hbig (by have := HS.out; simpa using this)
      have HC := Lib.hid hc
      have HX := Lib.hid (And.intro hl1 (And.intro hl2 (And.intro hp (And.intro hq hj'))))
      clear hc hl1 hl2 hp hq hj' h hlen
      go_wp2_with fail
      refine HC.out.mono ?_
      rintro e w3 ⟨rfl, hr3, hg3⟩
      have H3 := Lib.hid (And.intro hr3 hg3)
      clear hr3 hg3
      go_wp2_with fail
      go_roundw
      case rel =>
        have h := HL.out
        have hx := HX.out
        have hlen := h.2.2.2.2
        simp only [List.length_append] at hlen
        refine ⟨i, j', A1, R2, R1, L' ++ A2, rfl, by go_num, by omega, by omega, by omega, by omega, Lib.hid ⟨hx.2.1, by omega, by omega, by rw [h.2.2.2.1]; simp, by simp; omega⟩, Lib.hid ?_, Lib.hid (grown_tr HG.out H3.out.2)⟩
        have h3 := H3.out.1
        simpa using h3
      case measure => have hx := HX.out; simp [intOf]; omega
    · -- they are as long as one another: the last one
      have hz : ((i : Int) == (j : Int)) = true := by simp; omega
      have hz1 : ((i : Int) != (j : Int)) = false := by simp; omega
      have hz2 : (i : Int) = (j : Int) := by omega
      obtain ⟨p, hp⟩ : ∃ p : Nat, p = m - i := ⟨_, rfl⟩
      have zp : IntKind.i64.wrap ((m : Int) - (i : Int)) = (p : Int) := by rw [IntKind.wrap_i64]; omega
      have h := HL.out
      have hlen := h.2.2.2.2
      simp only [List.length_append] at hlen
      have hcc := swapRange_any (P ++ A1) L' [] R' (A2 ++ S) B p m i nn c cv wr h.1 (by omega) (by rw [List.length_append]; omega) (by simp; omega) (by simp; omega) hbig (by have := HS.out; simpa using this)
      have HC := Lib.hid hcc
      clear hcc hp h hlen hz2 hc
      go_wp2_with fail
      refine HC.out.mono ?_
      rintro e w3 ⟨rfl, hr3, hg3⟩
      have H3 := Lib.hid (And.intro hr3 hg3)
      clear hr3 hg3
      go_wp2_with fail
      go_end0
      refine ⟨rfl, ?_, grown_tr HG.out H3.out.2⟩
      have h3 := H3.out.1
      have h := HL.out.2.2.2.1
      rw [List.append_assoc P, h]
      simpa using h3
    · -- the left piece is the longer one
      have hz : ((i : Int) == (j : Int)) = false := by simp; omega
      have hz1 : ((i : Int) != (j : Int)) = true := by simp; omega
      have hz2 : ¬ (i : Int) = (j : Int) := by omega
      have hz3 : (j : Int) < (i : Int) := by omega
      obtain ⟨p, hp⟩ : ∃ p : Nat, p = m - i := ⟨_, rfl⟩
      obtain ⟨i', hi'⟩ : ∃ q : Nat, q = i - j := ⟨_, rfl⟩
      have zp : IntKind.i64.wrap ((m : Int) - (i : Int)) = (p : Int) := by rw [IntKind.wrap_i64]; omega
      have zi' : IntKind.i64.wrap ((i : Int) - (j : Int)) = (i' : Int) := by rw [IntKind.wrap_i64]; omega
      have h := HL.out
      have hsplit : L' = L'.take j ++ L'.drop j := (List.take_append_drop _ _).symm
      have hl1 : (L'.take j).length = j := by rw [List.length_take]; omega
      have hl2 : (L'.drop j).length = i - j := by rw [List.length_drop]; omega
      generalize L'.take j = L1 at hsplit hl1
      generalize L'.drop j = L2 at hsplit hl2
      subst hsplit
      have hlen := h.2.2.2.2
      simp only [List.length_append] at hlen
      have hc := swapRange_any (P ++ A1) L1 L2 R' (A2 ++ S) B p m j nn c cv wr hl1 h.2.1 (by rw [List.length_append]; omega) (by omega) (by simp; omega) hbig (by have := HS.out; simpa using this)
      have HC := Lib.hid hc
      have HX := Lib.hid (And.intro hl1 (And.intro hl2 (And.intro hp hi')))
      clear hc hl1 hl2 hp hi' h hlen
      go_wp2_with fail
      refine HC.out.mono ?_
      rintro e w3 ⟨rfl, hr3, hg3⟩
      have H3 := Lib.hid (And.intro hr3 hg3)
      clear hr3 hg3
      go_wp2_with fail
      go_roundw
      case rel =>
        have h := HL.out
        have hx := HX.out
        have hlen := h.2.2.2.2
        simp only [List.length_append] at hlen
        refine ⟨i', j, A1 ++ R', L2, L1, A2, by go_num, rfl, by omega, by omega, by omega, by omega, Lib.hid ⟨by omega, hx.1, by simp; omega, by rw [h.2.2.2.1]; simp, by simp; omega⟩, Lib.hid ?_, Lib.hid (grown_tr HG.out H3.out.2)⟩
        have h3 := H3.out.1
        simpa using h3
      case measure => have hx := HX.out; simp [intOf]; omega
end Go.Proofs.Ytdociiogddihfaa
