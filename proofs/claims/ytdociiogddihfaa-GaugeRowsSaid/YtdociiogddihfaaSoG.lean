/- slices.stableCmpFunc, slices.SortStableFunc. -/
import Derived.Test.YtdociiogddihfaaSoF
namespace Go.Proofs.Ytdociiogddihfaa
open Go.RowKit

theorem symMerge_any (nn c N g B : Nat) (cb : Array Value) (cf : Nat → Nat → Int) (k1 k2 : Nat → Int) (base : World) (eg : ∀ args w, (callFunc g args).run Try.prog w = .ok (.enter g args) w) (hcmp : CmpOk base B N g cb cf k1 k2) (hbig : nn < 1000000) : ∀ F, SymAt F nn c N g cb k1 k2 B base := by
  intro F
  induction F with
  | zero => intro P L R Q a m b w hF _ _ _ hL; omega
  | succ F ih =>
    intro P L R Q a m b w hF ha hm hb hL0 hR0 hL hR hlr hLN hRN hnn hr hw
    by_cases h1 : L.length = 1
    · obtain ⟨x, rfl⟩ := List.length_eq_one_iff.1 h1
      exact symA_any P x R Q B a m b nn c N g cb cf k1 k2 base w eg hcmp ha hm hb hR (fun r hr => hlr x (by simp) r hr) (hLN x (by simp)) hRN hnn hbig hr hw
    · by_cases h2 : R.length = 1
      · obtain ⟨y, rfl⟩ := List.length_eq_one_iff.1 h2
        exact symB_any P L y Q B a m b nn c N g cb cf k1 k2 base w eg hcmp ha hm hb (by omega) hL (fun l hl => hlr l hl y (by simp)) (hRN y (by simp)) hLN hnn hbig hr hw
      · exact symC_any F P L R Q B a m b nn c N g cb cf k1 k2 base w eg hcmp ih hF ha hm hb (by omega) (by omega) hL hR hlr hLN hRN hnn hbig hr hw
theorem range_asc (a n : Nat) : (List.range' a n).Pairwise (· < ·) := List.pairwise_lt_range'

set_option maxHeartbeats 8000000 in
set_option maxRecDepth 100000 in
theorem stable_any (n c g B : Nat) (cb : Array Value) (cf : Nat → Nat → Int) (k1 k2 : Nat → Int) (base w : World) (eg : ∀ args w, (callFunc g args).run Try.prog w = .ok (.enter g args) w) (hcmp : CmpOk base B n g cb cf k1 k2) (hbig : n < 1000000) (hr : SRow w B (List.range' 0 n)) (hw : base.grownBy w (some B)) :
    Calls Try.prog 63 #[.slice (some ⟨B, 0, none⟩) n c, .int .i64 n, .func (.func g) #[] cb] w fun e w' => e = .returned (.tuple #[]) ∧ ∃ xs, SRow w' B xs ∧ Srt k1 k2 xs ∧ xs.Perm (List.range' 0 n) ∧ base.grownBy w' (some B) := by
  have HSY := Lib.hid (symMerge_any n c n g B cb cf k1 k2 base eg hcmp hbig)
  have HIN := Lib.hid (fun (P S0 Q : List Nat) (a b : Nat) (wx : World) => insertion_any P S0 Q B a b n c n g cb cf k1 k2 base wx eg hcmp)
  have HR := Lib.hid hr
  have HW := Lib.hid hw
  clear hr hw hcmp eg
  go_enter Try.func63, Try.ntmps63
  go_upto_region 2 with fail
  go_loopw [7, 8] (fun s7 s8 wr => ∃ (a b : Nat) (D : List Nat), s7 = .int .i64 a ∧ s8 = .int .i64 b ∧ b = a + 20 ∧ a ≤ n ∧ Hid (D.length = a ∧ FB k1 k2 20 D) ∧ Hid (SRow wr B (D ++ List.range' a (n - a))) ∧ Hid (base.grownBy wr (some B))) (fun a _ _ => n - (intOf a).toNat)
  case atStart => exact ⟨0, 20, [], rfl, rfl, rfl, Nat.zero_le _, Lib.hid ⟨rfl, .nil⟩, Lib.hid (by have := HR.out; simpa using this), HW⟩
  case round =>
    clear HR HW
    obtain ⟨a, b, D, rfl, rfl, hb, han, HL, HS, HG⟩ := hrel
    by_cases hlt : b ≤ n
    · have hz : (b : Int) ≤ (n : Int) := by omega
      obtain ⟨b', hb'⟩ : ∃ q, q = b + 20 := ⟨_, rfl⟩
      have zb : IntKind.i64.wrap ((b : Int) + 20) = (b' : Int) := by rw [IntKind.wrap_i64]; omega
      obtain ⟨S0, hS0⟩ : ∃ q, q = List.range' a 20 := ⟨_, rfl⟩
      obtain ⟨S9, hS9⟩ : ∃ q, q = List.range' b (n - b) := ⟨_, rfl⟩
      have hS0l : S0.length = 20 := by rw [hS0, List.length_range']
      have hS9l : S9.length = n - b := by rw [hS9, List.length_range']
      have hrg : List.range' a (n - a) = S0 ++ S9 := by
        rw [hS0, hS9, hb, List.range'_append_1]
        congr 1
        omega
      have hrow := HS.out
      rw [hrg, ← List.append_assoc] at hrow
      have h1 := HIN.out D S0 S9 a b wr HL.out.1 (by omega) (by rw [hS0]; exact range_asc _ _) (fun x hx => by rw [hS0, List.mem_range'_1] at hx; omega) (by rw [List.length_append, List.length_append, HL.out.1]; omega) hbig hrow HG.out
      have HC := Lib.hid h1
      have HB' := Lib.hid (And.intro hb (And.intro hb' (And.intro hS0l (And.intro hS0 hS9))))
      have hb0 : a ≤ b := by omega
      clear h1 hrow hrg hb' hS0 hS9 hS0l hS9l hb
      go_wp2_with fail
      refine HC.out.mono ?_
      rintro e w3 ⟨rfl, hr3⟩
      have H3 := Lib.hid hr3
      clear hr3
      go_wp2_with fail
      go_roundw
      case rel =>
        obtain ⟨S, q1, q2, q3, q4⟩ := H3.out
        have hbb := HB'.out
        have hSl : S.length = 20 := by rw [q1.length_eq]; exact hbb.2.2.1
        refine ⟨b, b', D ++ S, rfl, rfl, by omega, hlt, Lib.hid ⟨by rw [List.length_append, hSl, HL.out.1]; omega, ?_⟩, Lib.hid (by rw [← hbb.2.2.2.2]; exact q3), Lib.hid q4⟩
        exact .snoc HL.out.2 hSl ⟨q2, by rw [hSl, HL.out.1, ← hbb.2.2.2.1]; exact q1⟩
      case measure => have := HB'.out; simp [intOf]; omega
    · have hz : ¬ (b : Int) ≤ (n : Int) := by omega
      have hrow := HS.out
      have h1 := HIN.out D (List.range' a (n - a)) [] a n wr HL.out.1 (by simp; omega) (range_asc _ _) (fun x hx => by rw [List.mem_range'_1] at hx; omega) (by have := HL.out.1; simp; omega) hbig (by simpa using hrow) HG.out
      have HC := Lib.hid h1
      have HB' := Lib.hid (And.intro hb han)
      clear h1 hrow hb
      go_wp2_with fail
      refine HC.out.mono ?_
      rintro e w3 ⟨rfl, hr3⟩
      have H3 : Hid (∃ xs, SRow w3 B xs ∧ xs.length = n ∧ RB k1 k2 20 0 xs ∧ base.grownBy w3 (some B)) := Lib.hid (by
        obtain ⟨S, q1, q2, q3, q4⟩ := hr3
        have hSl : S.length = n - a := by rw [q1.length_eq]; simp
        have hbb := HB'.out
        refine ⟨D ++ S, by simpa using q3, by rw [List.length_append, hSl, HL.out.1]; omega, HL.out.2.rb (.last (by omega) ⟨q2, by rw [hSl, HL.out.1]; exact q1⟩), q4⟩)
      clear hr3 HL HS HG HB' HC hlt hz han
      go_upto_region 7 with fail
      go_loopw [6] (fun s6 wr => ∃ (bs : Nat) (xs : List Nat), s6 = .int .i64 bs ∧ 20 ≤ bs ∧ bs < 2000000 ∧ Hid (SRow wr B xs ∧ xs.length = n ∧ RB k1 k2 bs 0 xs) ∧ Hid (base.grownBy wr (some B))) (fun s _ => n - (intOf s).toNat)
      case atStart =>
        obtain ⟨xs, q1, q2, q3, q4⟩ := H3.out
        exact ⟨20, xs, rfl, Nat.le_refl _, by omega, Lib.hid ⟨q1, q2, q3⟩, Lib.hid q4⟩
      case round =>
        clear H3
        obtain ⟨bs, xs, rfl, hbs, hbs2, HX, HG⟩ := hrel
        by_cases hlt : bs < n
        · have hz : (bs : Int) < (n : Int) := by omega
          obtain ⟨b2, hb2⟩ : ∃ q, q = 2 * bs := ⟨_, rfl⟩
          have zb2 : IntKind.i64.wrap (2 * (bs : Int)) = (b2 : Int) := by rw [IntKind.wrap_i64]; omega
          have zb3 : IntKind.i64.wrap ((bs : Int) * 2) = (b2 : Int) := by rw [IntKind.wrap_i64]; omega
          have HB2 := Lib.hid hb2
          have hb2b : b2 < 2000000 ∧ bs < b2 := by omega
          clear hb2
          go_upto_region 9 with fail
          go_loopw [7, 8] (fun s7 s8 wr => ∃ (a b : Nat) (D E : List Nat), s7 = .int .i64 a ∧ s8 = .int .i64 b ∧ b = a + b2 ∧ a ≤ n ∧ Hid (D.length = a ∧ FB k1 k2 b2 D ∧ RB k1 k2 bs a E ∧ D.length + E.length = n) ∧ Hid (SRow wr B (D ++ E)) ∧ Hid (base.grownBy wr (some B))) (fun a _ _ => n - (intOf a).toNat)
          case atStart => exact ⟨0, b2, [], xs, rfl, rfl, by omega, Nat.zero_le _, Lib.hid ⟨rfl, .nil, HX.out.2.2, by simpa using HX.out.2.1⟩, Lib.hid (by simpa using HX.out.1), HG⟩
          case round =>
            clear HX HG
            obtain ⟨a, b, D, E, rfl, rfl, hb, han, HL, HS, HG⟩ := hrel
            by_cases hlt2 : b ≤ n
            · have hz2 : (b : Int) ≤ (n : Int) := by omega
              have h := HL.out
              have hbb := HB2.out
              obtain ⟨L, E1, hE, hLl, hLs, hE1⟩ := h.2.2.1.take (by omega)
              subst hE
              have hlen := h.2.2.2
              simp only [List.length_append] at hlen
              obtain ⟨R, T, hE2, hRl, hRs, hT⟩ := hE1.take (by omega)
              subst hE2
              simp only [List.length_append] at hlen
              obtain ⟨m, hm⟩ : ∃ q, q = a + bs := ⟨_, rfl⟩
              obtain ⟨b', hb'⟩ : ∃ q, q = b + b2 := ⟨_, rfl⟩
              have zm : IntKind.i64.wrap ((a : Int) + (bs : Int)) = (m : Int) := by rw [IntKind.wrap_i64]; omega
              have zb' : IntKind.i64.wrap ((b : Int) + (b2 : Int)) = (b' : Int) := by rw [IntKind.wrap_i64]; omega
              have hLs' : Seg k1 k2 a L := hLs
              have hRs' : Seg k1 k2 (a + L.length) R := by rw [hLl]; exact hRs
              have hcall := HSY.out (L.length + R.length) D L R T a m b wr (Nat.le_refl _) h.1 (by omega) (by omega) (by omega) (by omega) hLs.1 hRs.1 (seg_below hLs' hRs') (fun x hx => by have := hLs.mem x hx; omega) (fun x hx => by have := hRs.mem x hx; omega) (by simp; omega) (by have := HS.out; simpa using this) HG.out
              have HC := Lib.hid hcall
              have HP := Lib.hid (And.intro hLs' (And.intro hRs' (And.intro hLl (And.intro hRl (And.intro hT (And.intro hb (And.intro hb' (And.intro hlen h.1))))))))
              have HF := Lib.hid h.2.1
              clear hcall hLs' hRs' hLs hRs hLl hRl hT hb hb' hlen h hm hbb hE1 HL HS HG
              go_wp2_with fail
              refine HC.out.mono ?_
              rintro e w3 ⟨rfl, hr3⟩
              have H3 := Lib.hid hr3
              clear hr3
              go_wp2_with fail
              go_roundw
              case rel =>
                obtain ⟨M, q1, q2, q3, q4⟩ := H3.out
                obtain ⟨p1, p2, p3, p4, p5, p6, p7, p8, p9⟩ := HP.out
                have hm := seg_merge p1 p2 q2 q1
                have hbb := HB2.out
                refine ⟨b, b', D ++ M, T, rfl, rfl, by omega, hlt2, Lib.hid ⟨by rw [List.length_append, hm.2, p9]; omega, .snoc HF.out (by omega) (by rw [p9]; exact hm.1), by rw [show b = a + bs + bs by omega]; exact p5, by rw [List.length_append, hm.2]; omega⟩, Lib.hid q3, Lib.hid q4⟩
              case measure => have := HP.out; have := HB2.out; simp [intOf]; omega
            · have hz2 : ¬ (b : Int) ≤ (n : Int) := by omega
              obtain ⟨m, hm⟩ : ∃ q, q = a + bs := ⟨_, rfl⟩
              have zm : IntKind.i64.wrap ((a : Int) + (bs : Int)) = (m : Int) := by rw [IntKind.wrap_i64]; omega
              by_cases hmn : m < n
              · have hz3 : (m : Int) < (n : Int) := by omega
                have h := HL.out
                have hbb := HB2.out
                obtain ⟨L, R, hE, hLl, hLs, hE1⟩ := h.2.2.1.take (by omega)
                subst hE
                have hlen := h.2.2.2
                simp only [List.length_append] at hlen
                have hRs := hE1.short (by omega)
                have hRs' : Seg k1 k2 (a + L.length) R := by rw [hLl]; exact hRs
                have hcall := HSY.out (L.length + R.length) D L R [] a m n wr (Nat.le_refl _) h.1 (by omega) (by omega) (by omega) (by omega) hLs.1 hRs.1 (seg_below hLs hRs') (fun x hx => by have := hLs.mem x hx; omega) (fun x hx => by have := hRs.mem x hx; omega) (by simp; omega) (by have := HS.out; simpa using this) HG.out
                have HC := Lib.hid hcall
                have HP := Lib.hid (And.intro hLs (And.intro hRs' (And.intro hb (And.intro hlen h.1))))
                have HF := Lib.hid h.2.1
                clear hcall hLs hRs hRs' hLl hb hlen h hm hbb hE1 HL HS HG
                go_wp2_with fail
                refine HC.out.mono ?_
                rintro e w3 ⟨rfl, hr3⟩
                have H3 := Lib.hid hr3
                clear hr3
                go_wp2_with fail
                go_roundw
                case rel =>
                  obtain ⟨M, q1, q2, q3, q4⟩ := H3.out
                  obtain ⟨p1, p2, p6, p8, p9⟩ := HP.out
                  have hm := seg_merge p1 p2 q2 q1
                  exact ⟨b2, D ++ M, rfl, by omega, by omega, Lib.hid ⟨by simpa using q3, by rw [List.length_append, hm.2]; omega, HF.out.rb (.last (by rw [hm.2]; omega) (by rw [p9]; exact hm.1))⟩, Lib.hid q4⟩
                case measure => have := HB2.out; simp [intOf]; omega
              · have hz3 : ¬ (m : Int) < (n : Int) := by omega
                have HM := Lib.hid (And.intro hb hm)
                clear hb hm
                go_wp2_with fail
                go_roundw
                case rel =>
                  have h := HL.out
                  have hmm := HM.out
                  have hs := h.2.2.1.short (by omega)
                  exact ⟨b2, D ++ E, rfl, by omega, by omega, Lib.hid ⟨HS.out, by rw [List.length_append]; exact h.2.2.2, h.2.1.rb (.last (by omega) (by rw [h.1]; exact hs))⟩, HG⟩
                case measure => have := HB2.out; simp [intOf]; omega
        · have hz : ¬ (bs : Int) < (n : Int) := by omega
          go_wp2_with fail
          go_end0
          have h := HX.out
          have hs := h.2.2.short (by omega)
          exact ⟨rfl, xs, h.1, hs.1, by have := hs.2; rwa [h.2.1] at this, HG.out⟩

theorem sortStable_any (n c g B : Nat) (cb : Array Value) (cf : Nat → Nat → Int) (k1 k2 : Nat → Int) (base w : World) (eg : ∀ args w, (callFunc g args).run Try.prog w = .ok (.enter g args) w) (hcmp : CmpOk base B n g cb cf k1 k2) (hbig : n < 1000000) (hr : SRow w B (List.range' 0 n)) (hw : base.grownBy w (some B)) :
    Calls Try.prog 46 #[.slice (some ⟨B, 0, none⟩) n c, .func (.func g) #[] cb] w fun e w' => e = .returned (.tuple #[]) ∧ ∃ xs, SRow w' B xs ∧ Srt k1 k2 xs ∧ xs.Perm (List.range' 0 n) ∧ base.grownBy w' (some B) := by
  have HC := Lib.hid (stable_any n c g B cb cf k1 k2 base w eg hcmp hbig hr hw)
  clear hr hw hcmp eg
  go_enter Try.func46, Try.ntmps46
  go_wp2_with fail
  refine HC.out.mono ?_
  rintro e w3 ⟨rfl, hr3⟩
  have H3 := Lib.hid hr3
  clear hr3
  go_wp2_with fail
  go_end0
  exact ⟨rfl, H3.out⟩
end Go.Proofs.Ytdociiogddihfaa
