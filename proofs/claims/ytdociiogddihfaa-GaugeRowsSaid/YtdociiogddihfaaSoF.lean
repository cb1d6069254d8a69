/- slices.symMergeCmpFunc: the search. (printed by gen/soe.py) -/
import Derived.Test.YtdociiogddihfaaSoE
namespace Go.Proofs.Ytdociiogddihfaa
open Go.RowKit

/-- What each operation hands on. -/
def sm35F (B nn c h p ph y l g : Nat) (cb : Array Value) (cf : Nat → Nat → Int) (tv : Bool) : Nat → Value → World → Prop
  | 0, v, _ => v = .func (.func g) #[] cb
  | 1, v, _ => v = .slice (some ⟨B, 0, none⟩) nn c
  | 2, v, _ => v = .int .i64 p
  | 3, v, _ => v = .int .i64 h
  | 4, v, _ => v = .int .i64 ph
  | 5, v, _ => v = .pointer (some ⟨B, ph, none⟩)
  | 6, v, _ => v = .int .i64 y
  | 7, v, _ => v = .slice (some ⟨B, 0, none⟩) nn c
  | 8, v, _ => v = .int .i64 h
  | 9, v, _ => v = .pointer (some ⟨B, h, none⟩)
  | 10, v, _ => v = .int .i64 l
  | 11, v, _ => v = .int .i64 (cf y l)
  | 12, v, _ => v = .bool tv
  | 13, v, _ => v = .bool (!tv)
  | _, _, _ => True

set_option maxHeartbeats 8000000 in
set_option maxRecDepth 100000 in
theorem symC_any (F : Nat) (P L R Q : List Nat) (B a m b nn c N g : Nat) (cb : Array Value) (cf : Nat → Nat → Int) (k1 k2 : Nat → Int) (base w : World) (eg : ∀ args w, (callFunc g args).run Try.prog w = .ok (.enter g args) w) (hcmp : CmpOk base B N g cb cf k1 k2) (hIH : SymAt F nn c N g cb k1 k2 B base) (hF : L.length + R.length ≤ F + 1) (ha : P.length = a) (hm : a + L.length = m) (hb : m + R.length = b) (hL1 : 1 < L.length) (hR1 : 1 < R.length) (hL : Srt k1 k2 L) (hR : Srt k1 k2 R) (hlr : ∀ l ∈ L, ∀ r ∈ R, l < r) (hLN : ∀ l ∈ L, l < N) (hRN : ∀ r ∈ R, r < N) (hnn : (P ++ (L ++ R) ++ Q).length = nn) (hbig : nn < 1000000) (hr : SRow w B (P ++ (L ++ R) ++ Q)) (hw : base.grownBy w (some B)) :
    Calls Try.prog 67 #[.slice (some ⟨B, 0, none⟩) nn c, .int .i64 a, .int .i64 m, .int .i64 b, .func (.func g) #[] cb] w fun e w' => e = .returned (.tuple #[]) ∧ ∃ M, M.Perm (L ++ R) ∧ Srt k1 k2 M ∧ SRow w' B (P ++ M ++ Q) ∧ base.grownBy w' (some B) := by
  simp only [List.length_append] at hnn
  have hbd : a < 1000000 ∧ b < 1000000 ∧ m < b ∧ b ≤ nn ∧ a < m := by omega
  obtain ⟨la, hla⟩ : ∃ q, q = L.length := ⟨_, rfl⟩
  obtain ⟨lb, hlb⟩ : ∃ q, q = R.length := ⟨_, rfl⟩
  have zi : IntKind.i64.wrap ((m : Int) - (a : Int)) = (la : Int) := by rw [IntKind.wrap_i64]; omega
  have zi2 : ((la : Int) == 1) = false := by simp; omega
  have zi3 : ¬ (la : Int) = 1 := by omega
  have zb : IntKind.i64.wrap ((b : Int) - (m : Int)) = (lb : Int) := by rw [IntKind.wrap_i64]; omega
  have zb2 : ((lb : Int) == 1) = false := by simp; omega
  have zb3 : ¬ (lb : Int) = 1 := by omega
  obtain ⟨s, hs⟩ : ∃ s, s = a + b := ⟨_, rfl⟩
  obtain ⟨mid, hmid⟩ : ∃ s', s' = s / 2 := ⟨_, rfl⟩
  have hmb : a < mid ∧ mid < b := by omega
  have HZ := Lib.hid (mid_half hs hmid (by omega))
  have HZ3 := Lib.hid HZ.out.2.2
  have HMID := Lib.hid (show mid + mid ≤ a + b ∧ a + b ≤ mid + mid + 1 by omega)
  have HH := Lib.hid (And.intro ha (And.intro hm (And.intro hb (And.intro hL (And.intro hR (And.intro hlr (And.intro hLN (And.intro hRN (And.intro hF hnn)))))))))
  have HRW := Lib.hid hr
  have HW := Lib.hid hw
  have HCMP := Lib.hid hcmp
  have HI := Lib.hid hIH
  clear ha hm hb hnn hL hR hlr hLN hRN hr hw hcmp hla hlb hL1 hR1 hF hIH hs hmid
  go_enter Try.func67, Try.ntmps67
  have z1 := HZ.out.1
  have z2 := HZ.out.2.1
  go_upto_region 25 with fail
  rw [HZ3.out]
  clear z1 z2 HZ HZ3 zi zi2 zi3 zb zb2 zb3
  obtain ⟨n, hn⟩ : ∃ q, q = mid + m := ⟨_, rfl⟩
  have zn : IntKind.i64.wrap ((mid : Int) + (m : Int)) = (n : Int) := by rw [IntKind.wrap_i64]; omega
  have HN := Lib.hid hn
  have hnb : n < 2000000 ∧ m < n := by omega
  clear hn
  go_upto_if 140 with fail
  clear zn
  go_cut [20, 21] (fun s20 s21 wz => wz = w ∧ ∃ s0 r0 : Nat, s20 = .int .i64 s0 ∧ s21 = .int .i64 r0 ∧ a ≤ s0 ∧ s0 ≤ r0 ∧ r0 ≤ m ∧ r0 ≤ mid ∧ m + r0 ≤ n ∧ n ≤ b + s0 ∧ (s0 = a ∨ n = b + s0) ∧ (r0 = m ∨ n = m + r0))
  case first =>
    by_cases hmm : mid < m
    · have hz : (mid : Int) < (m : Int) := by omega
      obtain ⟨s0, hs0⟩ : ∃ q, q = n - b := ⟨_, rfl⟩
      have hn := HN.out
      have hmd := HMID.out
      have zs : IntKind.i64.wrap ((n : Int) - (b : Int)) = (s0 : Int) := by rw [IntKind.wrap_i64]; omega
      have HS0 := Lib.hid (show a ≤ s0 ∧ s0 ≤ mid ∧ n = b + s0 by omega)
      have HQ := Lib.hid (And.intro hbd (And.intro hmb hnb))
      clear hn hmd hs0 hbd hmb hnb
      go_wp2_with fail
      go_meet
      have hbd := HQ.out
      exact ⟨rfl, s0, mid, rfl, rfl, HS0.out.1, HS0.out.2.1, by omega, Nat.le_refl _, by have := HN.out; omega, by have := HS0.out; omega, .inr HS0.out.2.2, .inr (by have := HN.out; omega)⟩
    · have hz : ¬ (mid : Int) < (m : Int) := by omega
      go_wp2_with fail
      go_meet
      exact ⟨rfl, a, m, rfl, rfl, Nat.le_refl _, by omega, Nat.le_refl _, by omega, by have := HN.out; omega, by have := HN.out; have := HMID.out; omega, .inl rfl, .inl rfl⟩
  case rest =>
    obtain ⟨rfl, s0, r0, rfl, rfl, h1, h2, h3, h4, h5, h6, h7, h8⟩ := hcut
    have HB := Lib.hid (And.intro h7 h8)
    clear h7 h8
    obtain ⟨p, hp⟩ : ∃ q, q + 1 = n := ⟨n - 1, by omega⟩
    have zp : IntKind.i64.wrap ((n : Int) - 1) = (p : Int) := by rw [IntKind.wrap_i64]; omega
    have HP := Lib.hid hp
    clear hp
    go_upto_region 33 with fail
    clear zp
    go_loopw [20, 21] (fun s20 s21 wr => ∃ (i j : Nat), s20 = .int .i64 i ∧ s21 = .int .i64 j ∧ s0 ≤ i ∧ i ≤ j ∧ j ≤ r0 ∧ Hid ((i = s0 ∨ ∃ l y, L[i - 1 - a]? = some l ∧ R[n - i - m]? = some y ∧ kl k1 k2 y l = false) ∧ (j = r0 ∨ ∃ l y, L[j - a]? = some l ∧ R[p - j - m]? = some y ∧ kl k1 k2 y l = true)) ∧ Hid (SRow wr B (P ++ (L ++ R) ++ Q)) ∧ Hid (base.grownBy wr (some B))) (fun i j _ => (intOf j).toNat - (intOf i).toNat)
    case atStart => exact ⟨s0, r0, rfl, rfl, Nat.le_refl _, by omega, Nat.le_refl _, Lib.hid ⟨.inl rfl, .inl rfl⟩, HRW, HW⟩
    case round =>
      clear HRW HW
      obtain ⟨i, j, rfl, rfl, hmi, hij, hjb, HL, HS, HG⟩ := hrel
      by_cases hlt : i < j
      · have hz : (i : Int) < (j : Int) := by omega
        obtain ⟨s, hs⟩ : ∃ s, s = i + j := ⟨_, rfl⟩
        obtain ⟨h, hh⟩ : ∃ s', s' = s / 2 := ⟨_, rfl⟩
        have hih : i ≤ h ∧ h < j := by omega
        have HZ := Lib.hid (mid_half hs hh (by omega))
        have HZ3 := Lib.hid HZ.out.2.2
        obtain ⟨ph, hph⟩ : ∃ q, q = p - h := ⟨_, rfl⟩
        have hpp := HP.out
        have hphb : m ≤ ph ∧ ph < b := by omega
        have zph : IntKind.i64.wrap ((p : Int) - (h : Int)) = (ph : Int) := by rw [IntKind.wrap_i64]; omega
        obtain ⟨l, hll⟩ : ∃ q, L[h - a]? = some q := ⟨_, List.getElem?_eq_getElem (by have := HH.out.2.1; omega)⟩
        obtain ⟨y, hyy⟩ : ∃ q, R[ph - m]? = some q := ⟨_, List.getElem?_eq_getElem (by have := HH.out.2.2.1; omega)⟩
        have hrow := HS.out
        have HC2 := Lib.hid (hrow.cell (i := h) (x := l) (get_mid (i := h - a) HH.out.1 (by omega) (by rw [List.getElem?_append_left (List.getElem?_eq_some_iff.1 hll).1]; exact hll)))
        have HC1 := Lib.hid (hrow.cell (i := ph) (x := y) (get_mid (i := L.length + (ph - m)) HH.out.1 (by have := HH.out.2.1; omega) (by rw [List.getElem?_append_right (by omega), show L.length + (ph - m) - L.length = ph - m by omega]; exact hyy)))
        have hlN := HH.out.2.2.2.2.2.2.1 l (List.mem_of_getElem? hll)
        have hyN := HH.out.2.2.2.2.2.2.2.1 y (List.mem_of_getElem? hyy)
        have HCM := Lib.hid (HCMP.out.on HG.out hyN hlN)
        obtain ⟨tv, htv⟩ : ∃ q, q = kl k1 k2 y l := ⟨_, rfl⟩
        have HTV := Lib.hid ((HCMP.out.says HG.out hyN hlN).trans htv.symm)
        have HTL := Lib.hid htv
        have HRR := Lib.hid (And.intro hll (And.intro hyy hph))
        have HROW := Lib.hid hrow
        have pj0 : (0 : Int) ≤ (h : Int) := by omega
        have pj1 : (h : Int) < (nn : Int) := by omega
        have pp0 : (0 : Int) ≤ (ph : Int) := by omega
        have pp1 : (ph : Int) < (nn : Int) := by omega
        clear hs hh htv hll hyy hrow hlN hyN hph hpp
        have z1 := HZ.out.1
        have z2 := HZ.out.2.1
        go_upto_region 35 with fail
        rw [HZ3.out]
        clear z1 z2 HZ HZ3
        refine wp_region_steps [some 158, some 159, some 160, some 161, some 162, some 163, some 164, some 165, some 166, some 167, some 168, some 169, some 170, some 171] [] (sm35F B nn c h p ph y l g cb cf tv) (fun _ wx wy => Below wx.heap.size wx wy) (fun wx => Below wr.heap.size wr wx) (by kernel_rfl) (by kernel_rfl) rfl (by kernel_rfl) (Below.refl _ _).drew (fun _ wx => Below.refl _ _) (fun _ wx wy h k => h.trans (k.mono h.size)) ?hF ?hstep ?hend
        case hF =>
          exact ⟨fun _ _ _ _ _ _ h => h, ⟨fun _ _ _ _ _ _ h => h, ⟨fun _ _ _ _ _ _ h => h, ⟨fun _ _ _ _ _ _ h => h, ⟨fun _ _ _ _ _ _ h => h, ⟨fun _ _ _ _ _ _ h => h, ⟨fun _ _ _ _ _ _ h => h, ⟨fun _ _ _ _ _ _ h => h, ⟨fun _ _ _ _ _ _ h => h, ⟨fun _ _ _ _ _ _ h => h, ⟨fun _ _ _ _ _ _ h => h, ⟨fun _ _ _ _ _ _ h => h, ⟨fun _ _ _ _ _ _ h => h, ⟨fun _ _ _ _ _ _ h => h, trivial⟩⟩⟩⟩⟩⟩⟩⟩⟩⟩⟩⟩⟩⟩
        case hstep =>
          refine ⟨fun r wx hG hs hq hf => ?_, ?_⟩
          · have e4 : r 4 = .func (.func g) #[] cb := hs 4 rfl
            refine (if_pos rfl).symm ▸ ?_
            clear hs hq hf
            unfold gives
            go_simp
            exact ⟨Below.refl _ _, rfl⟩
          refine ⟨fun r wx hG hs hq hf => ?_, ?_⟩
          · have e0 : r 0 = .slice (some ⟨B, 0, none⟩) nn c := hs 0 rfl
            refine (if_pos rfl).symm ▸ ?_
            clear hs hq hf
            unfold gives
            go_simp
            exact ⟨Below.refl _ _, rfl⟩
          refine ⟨fun r wx hG hs hq hf => ?_, ?_⟩
          · have e22 : r 22 = .int .i64 p := hs 22 rfl
            refine (if_pos rfl).symm ▸ ?_
            clear hs hq hf
            unfold gives
            go_simp
            exact ⟨Below.refl _ _, rfl⟩
          refine ⟨fun r wx hG hs hq hf => ?_, ?_⟩
          · have e23 : r 23 = .int .i64 h := hs 23 rfl
            refine (if_pos rfl).symm ▸ ?_
            clear hs hq hf
            unfold gives
            go_simp
            exact ⟨Below.refl _ _, rfl⟩
          refine ⟨fun r wx hG hs hq hf => ?_, ?_⟩
          · have h2 : r 160 = .int .i64 p := hf.1
            have h3 : r 161 = .int .i64 h := hf.2.1
            refine (if_pos rfl).symm ▸ ?_
            clear hs hq hf
            unfold gives
            go_simp
            exact ⟨Below.refl _ _, rfl⟩
          refine ⟨fun r wx hG hs hq hf => ?_, ?_⟩
          · have h1 : r 159 = .slice (some ⟨B, 0, none⟩) nn c := hf.1
            have h4 : r 162 = .int .i64 ph := hf.2.1
            refine (if_pos rfl).symm ▸ ?_
            clear hs hq hf
            unfold gives
            go_simp
            exact ⟨Below.refl _ _, rfl⟩
          refine ⟨fun r wx hG hs hq hf => ?_, ?_⟩
          · have h5 : r 163 = .pointer (some ⟨B, ph, none⟩) := hf.1
            refine (if_pos rfl).symm ▸ ?_
            clear hs hq hf
            unfold gives
            have hc := (hG.cell (World.block_lt_of_cell? wr _ HC1.out)).trans HC1.out
            go_simp
            exact ⟨Below.refl _ _, rfl⟩
          refine ⟨fun r wx hG hs hq hf => ?_, ?_⟩
          · have e0 : r 0 = .slice (some ⟨B, 0, none⟩) nn c := hs 0 rfl
            refine (if_pos rfl).symm ▸ ?_
            clear hs hq hf
            unfold gives
            go_simp
            exact ⟨Below.refl _ _, rfl⟩
          refine ⟨fun r wx hG hs hq hf => ?_, ?_⟩
          · have e23 : r 23 = .int .i64 h := hs 23 rfl
            refine (if_pos rfl).symm ▸ ?_
            clear hs hq hf
            unfold gives
            go_simp
            exact ⟨Below.refl _ _, rfl⟩
          refine ⟨fun r wx hG hs hq hf => ?_, ?_⟩
          · have h7 : r 165 = .slice (some ⟨B, 0, none⟩) nn c := hf.1
            have h8 : r 166 = .int .i64 h := hf.2.1
            refine (if_pos rfl).symm ▸ ?_
            clear hs hq hf
            unfold gives
            go_simp
            exact ⟨Below.refl _ _, rfl⟩
          refine ⟨fun r wx hG hs hq hf => ?_, ?_⟩
          · have h9 : r 167 = .pointer (some ⟨B, h, none⟩) := hf.1
            refine (if_pos rfl).symm ▸ ?_
            clear hs hq hf
            unfold gives
            have hc := (hG.cell (World.block_lt_of_cell? wr _ HC2.out)).trans HC2.out
            go_simp
            exact ⟨Below.refl _ _, rfl⟩
          refine ⟨fun r wx hG hs hq hf => ?_, ?_⟩
          · have h0 : r 158 = .func (.func g) #[] cb := hf.1
            have h6 : r 164 = .int .i64 y := hf.2.1
            have h10 : r 168 = .int .i64 l := hf.2.2.1
            refine (if_pos rfl).symm ▸ ?_
            clear hs hq hf
            unfold gives
            go_simp
            refine (HCM.out wx hG).mono ?_
            rintro e wy ⟨rfl, hb1⟩
            exact ⟨_, rfl, hb1, rfl⟩
          refine ⟨fun r wx hG hs hq hf => ?_, ?_⟩
          · have h11 : r 169 = .int .i64 (cf y l) := hf.1
            refine (if_pos rfl).symm ▸ ?_
            clear hs hq hf
            unfold gives
            go_simp
            exact ⟨Below.refl _ _, congrArg Value.bool HTV.out⟩
          refine ⟨fun r wx hG hs hq hf => ?_, ?_⟩
          · have h12 : r 170 = .bool tv := hf.1
            refine (if_pos rfl).symm ▸ ?_
            clear hs hq hf
            unfold gives
            go_simp
            exact ⟨Below.refl _ _, rfl⟩
          exact trivial
        case hend =>
          intro u wz hG hfin
          have z13 : u 13 = .bool (!tv) := hfin 13 (by decide) (by kernel_rfl)
          clear hfin
          simp only [fill]
          go_simp
          have HGZ := Lib.hid (grown_below HG.out hG)
          have HRZ := Lib.hid (HROW.out.keep hG)
          clear hG
          obtain ⟨hp, hhp⟩ : ∃ q, q = h + 1 := ⟨_, rfl⟩
          have zhp : IntKind.i64.wrap ((h : Int) + 1) = (hp : Int) := by rw [IntKind.wrap_i64]; omega
          have HHP := Lib.hid hhp
          clear hhp
          cases tv with
          | false =>
            go_wp2_with fail
            go_roundw
            case rel => exact ⟨hp, j, rfl, rfl, by have := HHP.out; omega, by have := HHP.out; omega, hjb, Lib.hid ⟨.inr ⟨l, y, by rw [show hp - 1 - a = h - a by have := HHP.out; omega]; exact HRR.out.1, by rw [show n - hp - m = ph - m by have := HHP.out; have := HP.out; have := HRR.out.2.2; omega]; exact HRR.out.2.1, HTL.out.symm⟩, HL.out.2⟩, HRZ, HGZ⟩
            case measure => have := HHP.out; simp [intOf]; omega
          | true =>
            go_wp2_with fail
            go_roundw
            case rel => exact ⟨i, h, rfl, rfl, hmi, by omega, by omega, Lib.hid ⟨HL.out.1, .inr ⟨l, y, HRR.out.1, by rw [← HRR.out.2.2]; exact HRR.out.2.1, HTL.out.symm⟩⟩, HRZ, HGZ⟩
            case measure => simp [intOf]; omega
      · obtain rfl : i = j := by omega
        have hz : ¬ (i : Int) < (i : Int) := by omega
        obtain ⟨e, he⟩ : ∃ q, q = n - i := ⟨_, rfl⟩
        have hpp := HP.out
        have hn := HN.out
        have hmd := HMID.out
        have hlm := HH.out.2.1
        have hlb := HH.out.2.2.1
        have heb : m ≤ e ∧ e ≤ b ∧ e + i = n := by omega
        have zee : IntKind.i64.wrap ((n : Int) - (i : Int)) = (e : Int) := by rw [IntKind.wrap_i64]; omega
        have hs1 : L = L.take (i - a) ++ L.drop (i - a) := (List.take_append_drop _ _).symm
        have hs2 : R = R.take (e - m) ++ R.drop (e - m) := (List.take_append_drop _ _).symm
        have l1 : (L.take (i - a)).length = i - a := by rw [List.length_take]; omega
        have l2 : (L.drop (i - a)).length = m - i := by rw [List.length_drop]; omega
        have l3 : (R.take (e - m)).length = e - m := by rw [List.length_take]; omega
        have l4 : (R.drop (e - m)).length = b - e := by rw [List.length_drop]; omega
        have hx1 : ∀ x y, (L.take (i - a)).getLast? = some x → (R.drop (e - m)).head? = some y → tl k1 k2 x y := fun x y hx hy => by
          have hpos : 0 < i - a := by
            rcases Nat.eq_zero_or_pos (i - a) with h0 | h0
            · rw [h0] at hx; simp at hx
            · exact h0
          have g1 := take_last hpos (by omega) hx
          have g2 := drop_head hy
          have g3 := (List.getElem?_eq_some_iff.1 g2).1
          rcases HL.out.1 with h9 | ⟨l, y', h9, h10, h11⟩
          · rcases HB.out.1 with hb1 | hb1 <;> omega
          · rw [show i - 1 - a = i - a - 1 by omega, g1] at h9
            rw [show n - i - m = e - m by omega, g2] at h10
            cases h9; cases h10
            exact tl_of_not h11 (HH.out.2.2.2.2.2.1 x (List.mem_of_getElem? g1) y (List.mem_of_getElem? g2))
        have hx2 : ∀ x y, (R.take (e - m)).getLast? = some x → (L.drop (i - a)).head? = some y → tl k1 k2 x y := fun x y hx hy => by
          have hpos : 0 < e - m := by
            rcases Nat.eq_zero_or_pos (e - m) with h0 | h0
            · rw [h0] at hx; simp at hx
            · exact h0
          have g1 := take_last hpos (by omega) hx
          have g2 := drop_head hy
          have g3 := (List.getElem?_eq_some_iff.1 g2).1
          rcases HL.out.2 with h9 | ⟨l, y', h9, h10, h11⟩
          · rcases HB.out.2 with hb1 | hb1 <;> omega
          · rw [g2] at h9
            rw [show p - i - m = e - m - 1 by omega, g1] at h10
            cases h9; cases h10
            exact kl_tl h11
        have hrow := HS.out
        have hsl := HH.out.2.2.2.1
        have hsr := HH.out.2.2.2.2.1
        have hall := And.intro HH.out.2.2.2.2.2.1 (And.intro HH.out.2.2.2.2.2.2.1 HH.out.2.2.2.2.2.2.2.1)
        have hlen := HH.out.2.2.2.2.2.2.2.2
        have hPa := HH.out.1
        obtain ⟨L1, hL1⟩ : ∃ q, q = L.take (i - a) := ⟨_, rfl⟩
        obtain ⟨L2, hL2⟩ : ∃ q, q = L.drop (i - a) := ⟨_, rfl⟩
        obtain ⟨R1, hR1⟩ : ∃ q, q = R.take (e - m) := ⟨_, rfl⟩
        obtain ⟨R2, hR2⟩ : ∃ q, q = R.drop (e - m) := ⟨_, rfl⟩
        rw [← hL1, ← hL2] at hs1
        rw [← hR1, ← hR2] at hs2
        rw [← hL1, ← hR2] at hx1
        rw [← hR1, ← hL2] at hx2
        rw [← hL1] at l1
        rw [← hL2] at l2
        rw [← hR1] at l3
        rw [← hR2] at l4
        clear hL1 hL2 hR1 hR2 HL HS HH
        subst hs1 hs2
        simp only [List.length_append] at hlen hlm hlb
        have HT := Lib.hid (symTail P L1 L2 R1 R2 Q F B a m b mid i e nn c N g cb k1 k2 base wr HI.out hbig hPa (by omega) (by omega) (by omega) (by omega) (by omega) hsl hsr hall.1 hall.2.1 hall.2.2 hlen.1 hlen.2 hx1 hx2 hrow HG.out ⟨by omega, by omega, by omega, by omega, by omega⟩)
        clear hx1 hx2 l1 l2 l3 l4 hsl hsr hall hlen hPa hrow heb hn hmd hpp hlm hlb he hbd hmb hnb h1 h2 h3 h4 h5 h6 hmi hij hjb hlt
        go_upto_region 38 with fail
        iterate 40 (first | (with_reducible refine HT.out ?_ ?_) | go_step | skip)
        · rfl
        · rfl
end Go.Proofs.Ytdociiogddihfaa
