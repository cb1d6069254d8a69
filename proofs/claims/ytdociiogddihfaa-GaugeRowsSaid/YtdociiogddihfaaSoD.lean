/- slices.symMergeCmpFunc where one of the two pieces is one element. (printed by gen/sod.py) -/
import Derived.Test.YtdociiogddihfaaSoC
namespace Go.Proofs.Ytdociiogddihfaa
open Go.RowKit

/-- The middle of two, as the program reckons it. -/
theorem mid_half {i j s h : Nat} (hs : s = i + j) (hh : h = s / 2) (hb : s < 4000000) :
    IntKind.i64.wrap ((i : Int) + (j : Int)) = (s : Int) ∧ IntKind.u64.wrap (s : Int) = (s : Int) ∧ wrap64 ((s : Int) / 2) = (h : Int) := by
  refine ⟨by rw [IntKind.wrap_i64]; omega, IntWalk.u64_in _ (by omega), ?_⟩
  rw [IntWalk.wrap64_in _ (by omega)]; omega
theorem take_last {l : List Nat} {k x : Nat} (hk : 0 < k) (hkl : k ≤ l.length) (h : (l.take k).getLast? = some x) : l[k - 1]? = some x := by
  rw [List.getLast?_eq_getElem?, List.length_take, Nat.min_eq_left hkl, List.getElem?_take_of_lt (by omega)] at h
  exact h
theorem drop_head {l : List Nat} {k x : Nat} (h : (l.drop k).head? = some x) : l[k]? = some x := by
  rw [head_get, List.getElem?_drop] at h
  exact h
theorem get_mid {P L Q : List Nat} {a i k x : Nat} (ha : P.length = a) (hk : k = a + i) (h : L[i]? = some x) : (P ++ L ++ Q)[k]? = some x := by
  have hi := (List.getElem?_eq_some_iff.1 h).1
  rw [hk, List.append_assoc, List.getElem?_append_right (by omega), show a + i - P.length = i by omega, List.getElem?_append_left hi]
  exact h
/-- What each operation hands on. -/
def sm5F (B nn c h a q1 x g : Nat) (cb : Array Value) (cf : Nat → Nat → Int) (tv : Bool) : Nat → Value → World → Prop
  | 0, v, _ => v = .func (.func g) #[] cb
  | 1, v, _ => v = .slice (some ⟨B, 0, none⟩) nn c
  | 2, v, _ => v = .int .i64 h
  | 3, v, _ => v = .pointer (some ⟨B, h, none⟩)
  | 4, v, _ => v = .int .i64 q1
  | 5, v, _ => v = .slice (some ⟨B, 0, none⟩) nn c
  | 6, v, _ => v = .int .i64 a
  | 7, v, _ => v = .pointer (some ⟨B, a, none⟩)
  | 8, v, _ => v = .int .i64 x
  | 9, v, _ => v = .int .i64 (cf q1 x)
  | 10, v, _ => v = .bool tv
  | _, _, _ => True

/-- What each operation hands on. -/
def sm17F (B nn c h m y l g : Nat) (cb : Array Value) (cf : Nat → Nat → Int) (tv : Bool) : Nat → Value → World → Prop
  | 0, v, _ => v = .func (.func g) #[] cb
  | 1, v, _ => v = .slice (some ⟨B, 0, none⟩) nn c
  | 2, v, _ => v = .int .i64 m
  | 3, v, _ => v = .pointer (some ⟨B, m, none⟩)
  | 4, v, _ => v = .int .i64 y
  | 5, v, _ => v = .slice (some ⟨B, 0, none⟩) nn c
  | 6, v, _ => v = .int .i64 h
  | 7, v, _ => v = .pointer (some ⟨B, h, none⟩)
  | 8, v, _ => v = .int .i64 l
  | 9, v, _ => v = .int .i64 (cf y l)
  | 10, v, _ => v = .bool tv
  | 11, v, _ => v = .bool (!tv)
  | _, _, _ => True

set_option maxHeartbeats 8000000 in
set_option maxRecDepth 100000 in
theorem symA_any (P : List Nat) (x : Nat) (R Q : List Nat) (B a m b nn c N g : Nat) (cb : Array Value) (cf : Nat → Nat → Int) (k1 k2 : Nat → Int) (base w : World) (eg : ∀ args w, (callFunc g args).run Try.prog w = .ok (.enter g args) w) (hcmp : CmpOk base B N g cb cf k1 k2) (ha : P.length = a) (hm : a + 1 = m) (hb : m + R.length = b) (hR : Srt k1 k2 R) (hlr : ∀ r ∈ R, x < r) (hxN : x < N) (hN : ∀ r ∈ R, r < N) (hnn : (P ++ (x :: R) ++ Q).length = nn) (hbig : nn < 1000000) (hr : SRow w B (P ++ (x :: R) ++ Q)) (hw : base.grownBy w (some B)) :
    Calls Try.prog 67 #[.slice (some ⟨B, 0, none⟩) nn c, .int .i64 a, .int .i64 m, .int .i64 b, .func (.func g) #[] cb] w fun e w' => e = .returned (.tuple #[]) ∧ ∃ M, M.Perm (x :: R) ∧ Srt k1 k2 M ∧ SRow w' B (P ++ M ++ Q) ∧ base.grownBy w' (some B) := by
  simp only [List.length_append, List.length_cons] at hnn
  have hbd : a < 1000000 ∧ b < 1000000 ∧ m ≤ b ∧ b ≤ nn ∧ a < m := by omega
  have zi : IntKind.i64.wrap ((m : Int) - (a : Int)) = 1 := by rw [IntKind.wrap_i64]; omega
  have HH := Lib.hid (And.intro ha (And.intro hm (And.intro hb (And.intro hR (And.intro hlr (And.intro hxN hN))))))
  have HR := Lib.hid hr
  have HW := Lib.hid hw
  have HCMP := Lib.hid hcmp
  clear ha hm hb hnn hR hlr hxN hN hr hw hcmp
  go_enter Try.func67, Try.ntmps67
  go_upto_region 3 with fail
  clear zi
  go_loopw [10, 11] (fun s10 s11 wr => ∃ (i j : Nat), s10 = .int .i64 i ∧ s11 = .int .i64 j ∧ m ≤ i ∧ i ≤ j ∧ j ≤ b ∧ Hid ((i = m ∨ ∃ r, R[i - 1 - m]? = some r ∧ kl k1 k2 r x = true) ∧ (j = b ∨ ∃ r, R[j - m]? = some r ∧ kl k1 k2 r x = false)) ∧ Hid (SRow wr B (P ++ (x :: R) ++ Q)) ∧ Hid (base.grownBy wr (some B))) (fun i j _ => (intOf j).toNat - (intOf i).toNat)
  case atStart => exact ⟨m, b, rfl, rfl, Nat.le_refl _, by omega, Nat.le_refl _, Lib.hid ⟨.inl rfl, .inl rfl⟩, HR, HW⟩
  case round =>
    clear HR HW
    obtain ⟨i, j, rfl, rfl, hmi, hij, hjb, HL, HS, HG⟩ := hrel
    by_cases hlt : i < j
    · have hz : (i : Int) < (j : Int) := by omega
      obtain ⟨s, hs⟩ : ∃ s, s = i + j := ⟨_, rfl⟩
      obtain ⟨h, hh⟩ : ∃ s', s' = s / 2 := ⟨_, rfl⟩
      have hih : i ≤ h ∧ h < j := by omega
      have HZ := Lib.hid (mid_half hs hh (by omega))
      have HZ3 := Lib.hid HZ.out.2.2
      obtain ⟨q1, hrr⟩ : ∃ r, R[h - m]? = some r := ⟨_, List.getElem?_eq_getElem (by have := HH.out.2.2.1; omega)⟩
      have hrow := HS.out
      have HC1 := Lib.hid (hrow.cell (i := h) (x := q1) (get_mid (i := h - m + 1) HH.out.1 (by have := HH.out.2.1; omega) (by rw [List.getElem?_cons_succ]; exact hrr)))
      have HC2 := Lib.hid (hrow.cell (i := a) (x := x) (get_mid (i := 0) HH.out.1 (by omega) (by simp)))
      have hrN := HH.out.2.2.2.2.2.2 q1 (List.mem_of_getElem? hrr)
      have HCM := Lib.hid (HCMP.out.on HG.out hrN HH.out.2.2.2.2.2.1)
      obtain ⟨tv, htv⟩ : ∃ q, q = kl k1 k2 q1 x := ⟨_, rfl⟩
      have HTV := Lib.hid ((HCMP.out.says HG.out hrN HH.out.2.2.2.2.2.1).trans htv.symm)
      have HTL := Lib.hid htv
      have HRR := Lib.hid hrr
      have HROW := Lib.hid hrow
      have pj0 : (0 : Int) ≤ (h : Int) := by omega
      have pj1 : (h : Int) < (nn : Int) := by omega
      have pp0 : (0 : Int) ≤ (a : Int) := by omega
      have pp1 : (a : Int) < (nn : Int) := by omega
      clear hs hh htv hrr hrow hrN
      have z1 := HZ.out.1
      have z2 := HZ.out.2.1
      go_upto_region 5 with fail
      rw [HZ3.out]
      clear z1 z2 HZ HZ3
      refine wp_region_steps [some 40, some 41, some 42, some 43, some 44, some 45, some 46, some 47, some 48, some 49, some 50] [] (sm5F B nn c h a q1 x g cb cf tv) (fun _ wx wy => Below wx.heap.size wx wy) (fun wx => Below wr.heap.size wr wx) (by kernel_rfl) (by kernel_rfl) rfl (by kernel_rfl) (Below.refl _ _).drew (fun _ wx => Below.refl _ _) (fun _ wx wy h k => h.trans (k.mono h.size)) ?hF ?hstep ?hend
      case hF =>
        exact ⟨fun _ _ _ _ _ _ h => h, ⟨fun _ _ _ _ _ _ h => h, ⟨fun _ _ _ _ _ _ h => h, ⟨fun _ _ _ _ _ _ h => h, ⟨fun _ _ _ _ _ _ h => h, ⟨fun _ _ _ _ _ _ h => h, ⟨fun _ _ _ _ _ _ h => h, ⟨fun _ _ _ _ _ _ h => h, ⟨fun _ _ _ _ _ _ h => h, ⟨fun _ _ _ _ _ _ h => h, ⟨fun _ _ _ _ _ _ h => h, trivial⟩⟩⟩⟩⟩⟩⟩⟩⟩⟩⟩
      case hstep =>
        refine ⟨fun r wx hG hs hq hf => ?_, ?_⟩
        · have e4 : r 4 = .func (.func g) #[] cb := hs 4 rfl
          refine (if_pos rfl).symm ▸ ?_
          clear hs hq hf
          unfold gives
          go_simp
          exact ⟨Below.refl _ _, rfl⟩
        refine ⟨fun r wx hG hs hq hf => ?_, ?_⟩
        · have e0 : r 0 = .slice (some ⟨B, 0, none⟩) nn c := hs 0 rfl
          refine (if_pos rfl).symm ▸ ?_
          clear hs hq hf
          unfold gives
          go_simp
          exact ⟨Below.refl _ _, rfl⟩
        refine ⟨fun r wx hG hs hq hf => ?_, ?_⟩
        · have e12 : r 12 = .int .i64 h := hs 12 rfl
          refine (if_pos rfl).symm ▸ ?_
          clear hs hq hf
          unfold gives
          go_simp
          exact ⟨Below.refl _ _, rfl⟩
        refine ⟨fun r wx hG hs hq hf => ?_, ?_⟩
        · have h1 : r 41 = .slice (some ⟨B, 0, none⟩) nn c := hf.1
          have h2 : r 42 = .int .i64 h := hf.2.1
          refine (if_pos rfl).symm ▸ ?_
          clear hs hq hf
          unfold gives
          go_simp
          exact ⟨Below.refl _ _, rfl⟩
        refine ⟨fun r wx hG hs hq hf => ?_, ?_⟩
        · have h3 : r 43 = .pointer (some ⟨B, h, none⟩) := hf.1
          refine (if_pos rfl).symm ▸ ?_
          clear hs hq hf
          unfold gives
          have hc := (hG.cell (World.block_lt_of_cell? wr _ HC1.out)).trans HC1.out
          go_simp
          exact ⟨Below.refl _ _, rfl⟩
        refine ⟨fun r wx hG hs hq hf => ?_, ?_⟩
        · have e0 : r 0 = .slice (some ⟨B, 0, none⟩) nn c := hs 0 rfl
          refine (if_pos rfl).symm ▸ ?_
          clear hs hq hf
          unfold gives
          go_simp
          exact ⟨Below.refl _ _, rfl⟩
        refine ⟨fun r wx hG hs hq hf => ?_, ?_⟩
        · have e1 : r 1 = .int .i64 a := hs 1 rfl
          refine (if_pos rfl).symm ▸ ?_
          clear hs hq hf
          unfold gives
          go_simp
          exact ⟨Below.refl _ _, rfl⟩
        refine ⟨fun r wx hG hs hq hf => ?_, ?_⟩
        · have h5 : r 45 = .slice (some ⟨B, 0, none⟩) nn c := hf.1
          have h6 : r 46 = .int .i64 a := hf.2.1
          refine (if_pos rfl).symm ▸ ?_
          clear hs hq hf
          unfold gives
          go_simp
          exact ⟨Below.refl _ _, rfl⟩
        refine ⟨fun r wx hG hs hq hf => ?_, ?_⟩
        · have h7 : r 47 = .pointer (some ⟨B, a, none⟩) := hf.1
          refine (if_pos rfl).symm ▸ ?_
          clear hs hq hf
          unfold gives
          have hc := (hG.cell (World.block_lt_of_cell? wr _ HC2.out)).trans HC2.out
          go_simp
          exact ⟨Below.refl _ _, rfl⟩
        refine ⟨fun r wx hG hs hq hf => ?_, ?_⟩
        · have h0 : r 40 = .func (.func g) #[] cb := hf.1
          have h4 : r 44 = .int .i64 q1 := hf.2.1
          have h8 : r 48 = .int .i64 x := hf.2.2.1
          refine (if_pos rfl).symm ▸ ?_
          clear hs hq hf
          unfold gives
          go_simp
          refine (HCM.out wx hG).mono ?_
          rintro e wy ⟨rfl, hb1⟩
          exact ⟨_, rfl, hb1, rfl⟩
        refine ⟨fun r wx hG hs hq hf => ?_, ?_⟩
        · have h9 : r 49 = .int .i64 (cf q1 x) := hf.1
          refine (if_pos rfl).symm ▸ ?_
          clear hs hq hf
          unfold gives
          go_simp
          exact ⟨Below.refl _ _, congrArg Value.bool HTV.out⟩
        exact trivial
      case hend =>
        intro u wz hG hfin
        have z10 : u 10 = .bool tv := hfin 10 (by decide) (by kernel_rfl)
        clear hfin
        simp only [fill]
        go_simp
        have HGZ := Lib.hid (grown_below HG.out hG)
        have HRZ := Lib.hid (HROW.out.keep hG)
        clear hG
        obtain ⟨hp, hhp⟩ : ∃ q, q = h + 1 := ⟨_, rfl⟩
        have zhp : IntKind.i64.wrap ((h : Int) + 1) = (hp : Int) := by rw [IntKind.wrap_i64]; omega
        have HHP := Lib.hid hhp
        clear hhp
        cases tv with
        | true =>
          go_wp2_with fail
          go_roundw
          case rel => exact ⟨hp, j, rfl, rfl, by have := HHP.out; omega, by have := HHP.out; omega, hjb, Lib.hid ⟨.inr ⟨q1, by rw [show hp - 1 - m = h - m by have := HHP.out; omega]; exact HRR.out, HTL.out.symm⟩, HL.out.2⟩, HRZ, HGZ⟩
          case measure => have := HHP.out; simp [intOf]; omega
        | false =>
          go_wp2_with fail
          go_roundw
          case rel => exact ⟨i, h, rfl, rfl, hmi, by omega, by omega, Lib.hid ⟨HL.out.1, .inr ⟨q1, HRR.out, HTL.out.symm⟩⟩, HRZ, HGZ⟩
          case measure => simp [intOf]; omega
    · obtain rfl : i = j := by omega
      have hz : ¬ (i : Int) < (i : Int) := by omega
      have hil : i - m ≤ R.length := by have := HH.out.2.2.1; omega
      have hsplit : R = R.take (i - m) ++ R.drop (i - m) := (List.take_append_drop _ _).symm
      have hl1 : (R.take (i - m)).length = i - m := by rw [List.length_take]; omega
      have hput : Srt k1 k2 (R.take (i - m) ++ x :: R.drop (i - m)) := by
        refine srt_put (by rw [← hsplit]; exact HH.out.2.2.2.1) (fun q hq => ?_) (fun q hq => ?_)
        · have hpos : 0 < i - m := by
            rcases Nat.eq_zero_or_pos (i - m) with h0 | h0
            · rw [h0] at hq; simp at hq
            · exact h0
          have h2 := take_last hpos hil hq
          rcases HL.out.1 with h3 | ⟨q', h3, h4⟩
          · omega
          · rw [show i - 1 - m = i - m - 1 by omega, h2] at h3
            cases h3; exact kl_tl h4
        · have h2 := drop_head hq
          rcases HL.out.2 with h3 | ⟨q', h3, h4⟩
          · have := (List.getElem?_eq_some_iff.1 h2).1; have := HH.out.2.2.1; omega
          · rw [h2] at h3
            cases h3; exact tl_of_not h4 (HH.out.2.2.2.2.1 q (List.mem_of_getElem? h2))
      have hrow := HS.out
      rw [hsplit] at hrow
      have hpm : (R.take (i - m) ++ x :: R.drop (i - m)).Perm (x :: R) := by
        refine List.perm_middle.trans ?_
        rw [← hsplit]
      obtain ⟨R1, hR1⟩ : ∃ q, q = R.take (i - m) := ⟨_, rfl⟩
      obtain ⟨R2, hR2⟩ : ∃ q, q = R.drop (i - m) := ⟨_, rfl⟩
      rw [← hR1, ← hR2] at hrow hput hpm
      rw [← hR1] at hl1
      obtain ⟨k0, hk0⟩ : ∃ k, k + 1 = i := ⟨i - 1, by omega⟩
      have zk0 : IntKind.i64.wrap ((i : Int) - 1) = (k0 : Int) := by rw [IntKind.wrap_i64]; omega
      have HRW := Lib.hid hrow
      have HP := Lib.hid (And.intro hput hpm)
      have HK := Lib.hid (And.intro hl1 hk0)
      have hk1 : a ≤ k0 ∧ k0 < nn := by omega
      clear hrow hput hpm hsplit hl1 hR1 hR2 hk0 HS HL
      go_upto_region 9 with fail
      go_loopw [13] (fun s13 wr => ∃ (k : Nat) (U V : List Nat), s13 = .int .i64 k ∧ a ≤ k ∧ k ≤ k0 ∧ Hid (R1 = U ++ V ∧ a + U.length = k) ∧ Hid (SRow wr B (P ++ (U ++ x :: (V ++ R2)) ++ Q)) ∧ Hid (base.grownBy wr (some B))) (fun k _ => k0 - (intOf k).toNat)
      case atStart => exact ⟨a, [], R1, rfl, Nat.le_refl _, by omega, Lib.hid ⟨rfl, by simp⟩, Lib.hid (by have := HRW.out; simpa using this), HG⟩
      case round =>
        clear HRW HG
        obtain ⟨k, U, V, rfl, hak, hkk, HL, HS, HG⟩ := hrel
        by_cases hlt2 : k < k0
        · have hz2 : (k : Int) < (k0 : Int) := by omega
          obtain ⟨s, V', hV⟩ : ∃ s t, V = s :: t := by
            cases V with
            | nil =>
              exfalso
              have h1 := HL.out.1; have h2 := HL.out.2; have h3 := HK.out
              rw [h1] at h3
              simp at h3
              have := HH.out.2.1
              omega
            | cons s t => exact ⟨s, t, rfl⟩
          subst hV
          have hrow := HS.out
          have hxs : P ++ (U ++ x :: (s :: V' ++ R2)) ++ Q = (P ++ U) ++ x :: s :: (V' ++ R2 ++ Q) := by simp
          rw [hxs] at hrow
          have hlen : (P ++ U).length = k := by rw [List.length_append, HH.out.1]; exact HL.out.2
          obtain ⟨kp, hkp⟩ : ∃ q, q = k + 1 := ⟨_, rfl⟩
          have g1 : ((P ++ U) ++ x :: s :: (V' ++ R2 ++ Q))[k]? = some x := by rw [← hlen]; exact get_app _ _ _
          have g2 : ((P ++ U) ++ x :: s :: (V' ++ R2 ++ Q))[kp]? = some s := by
            have := get_app ((P ++ U) ++ [x]) (V' ++ R2 ++ Q) s
            rw [List.length_append, List.length_singleton, hlen, ← hkp] at this
            simpa using this
          have hsw := hrow.swap g1 g2
          have hadj := swap_adj' (P ++ U) (V' ++ R2 ++ Q) x s
          rw [hlen, ← hkp] at hadj
          rw [hadj] at hsw
          have c1 := hrow.cell g1
          have c2 := hrow.cell g2
          have f1 := hrow.free k
          have f2 := hrow.free kp
          obtain ⟨y3, c3⟩ := hrow.cell2 (i := k) g2 s
          have HSW := Lib.hid hsw
          have zkp : IntKind.i64.wrap ((k : Int) + 1) = (kp : Int) := by rw [IntKind.wrap_i64]; omega
          have p0 : (0 : Int) ≤ (k : Int) := by omega
          have p1 : (k : Int) < (nn : Int) := by omega
          have q0 : (0 : Int) ≤ (kp : Int) := by omega
          have q1 : (kp : Int) < (nn : Int) := by omega
          have HKP := Lib.hid hkp
          clear hsw hrow hadj g1 g2 hlen hkp hxs
          go_upto_region 11 with fail
          have mixed : Try.prog.follows .mixedOrders = true := by kernel_rfl
          go_big_region_o
          clear c1 c2 c3 f1 f2
          generalize ((wr.setCell ⟨B, k, none⟩ (.int .i64 s)).setCell ⟨B, kp, none⟩ (.int .i64 x)).drew = w3 at HSW ⊢
          go_wp2_with fail
          go_roundw
          case rel =>
            refine ⟨kp, U ++ [s], V', rfl, by have := HKP.out; omega, by have := HKP.out; omega, Lib.hid ⟨by rw [HL.out.1]; simp, by have := HKP.out; have := HL.out.2; simp; omega⟩, Lib.hid ?_, Lib.hid (grown_tr HG.out HSW.out.2)⟩
            have h := HSW.out.1
            simpa using h
          case measure => have := HKP.out; simp [intOf]; omega
        · have hz2 : ¬ (k : Int) < (k0 : Int) := by omega
          go_wp2_with fail
          refine bodyPost_ret (results_none Try.results67 _ _ _) rfl ?_
          have hV : V = [] := by
            have h1 := HL.out.1; have h2 := HL.out.2; have h3 := HK.out
            rw [h1] at h3
            simp at h3
            have := HH.out.2.1
            exact List.eq_nil_of_length_eq_zero (by omega)
          subst hV
          have h1 := HL.out.1
          rw [List.append_nil] at h1
          subst h1
          exact ⟨rfl, _, HP.out.2, HP.out.1, by have := HS.out; simpa using this, HG.out⟩

set_option maxHeartbeats 8000000 in
set_option maxRecDepth 100000 in
theorem symB_any (P L : List Nat) (y : Nat) (Q : List Nat) (B a m b nn c N g : Nat) (cb : Array Value) (cf : Nat → Nat → Int) (k1 k2 : Nat → Int) (base w : World) (eg : ∀ args w, (callFunc g args).run Try.prog w = .ok (.enter g args) w) (hcmp : CmpOk base B N g cb cf k1 k2) (ha : P.length = a) (hm : a + L.length = m) (hb : m + 1 = b) (hL1 : 1 < L.length) (hL : Srt k1 k2 L) (hlr : ∀ l ∈ L, l < y) (hyN : y < N) (hN : ∀ r ∈ L, r < N) (hnn : (P ++ (L ++ [y]) ++ Q).length = nn) (hbig : nn < 1000000) (hr : SRow w B (P ++ (L ++ [y]) ++ Q)) (hw : base.grownBy w (some B)) :
    Calls Try.prog 67 #[.slice (some ⟨B, 0, none⟩) nn c, .int .i64 a, .int .i64 m, .int .i64 b, .func (.func g) #[] cb] w fun e w' => e = .returned (.tuple #[]) ∧ ∃ M, M.Perm (L ++ [y]) ∧ Srt k1 k2 M ∧ SRow w' B (P ++ M ++ Q) ∧ base.grownBy w' (some B) := by
  simp only [List.length_append, List.length_cons, List.length_nil] at hnn
  have hbd : a < 1000000 ∧ b < 1000000 ∧ m < b ∧ b ≤ nn ∧ a < m := by omega
  obtain ⟨la, hla⟩ : ∃ q, q = L.length := ⟨_, rfl⟩
  have zi : IntKind.i64.wrap ((m : Int) - (a : Int)) = (la : Int) := by rw [IntKind.wrap_i64]; omega
  have zi2 : ((la : Int) == 1) = false := by simp; omega
  have zi3 : ¬ (la : Int) = 1 := by omega
  have zb : IntKind.i64.wrap ((b : Int) - (m : Int)) = 1 := by rw [IntKind.wrap_i64]; omega
  have HH := Lib.hid (And.intro ha (And.intro hm (And.intro hb (And.intro hL (And.intro hlr (And.intro hyN hN))))))
  have HR := Lib.hid hr
  have HW := Lib.hid hw
  have HCMP := Lib.hid hcmp
  clear ha hm hb hnn hL hlr hyN hN hr hw hcmp hla hL1
  go_enter Try.func67, Try.ntmps67
  go_upto_region 15 with fail
  clear zi zi2 zi3 zb
  go_loopw [14, 15] (fun s14 s15 wr => ∃ (i j : Nat), s14 = .int .i64 i ∧ s15 = .int .i64 j ∧ a ≤ i ∧ i ≤ j ∧ j ≤ m ∧ Hid ((i = a ∨ ∃ r, L[i - 1 - a]? = some r ∧ kl k1 k2 y r = false) ∧ (j = m ∨ ∃ r, L[j - a]? = some r ∧ kl k1 k2 y r = true)) ∧ Hid (SRow wr B (P ++ (L ++ [y]) ++ Q)) ∧ Hid (base.grownBy wr (some B))) (fun i j _ => (intOf j).toNat - (intOf i).toNat)
  case atStart => exact ⟨a, m, rfl, rfl, Nat.le_refl _, by omega, Nat.le_refl _, Lib.hid ⟨.inl rfl, .inl rfl⟩, HR, HW⟩
  case round =>
    clear HR HW
    obtain ⟨i, j, rfl, rfl, hmi, hij, hjb, HL, HS, HG⟩ := hrel
    by_cases hlt : i < j
    · have hz : (i : Int) < (j : Int) := by omega
      obtain ⟨s, hs⟩ : ∃ s, s = i + j := ⟨_, rfl⟩
      obtain ⟨h, hh⟩ : ∃ s', s' = s / 2 := ⟨_, rfl⟩
      have hih : i ≤ h ∧ h < j := by omega
      have HZ := Lib.hid (mid_half hs hh (by omega))
      have HZ3 := Lib.hid HZ.out.2.2
      obtain ⟨l, hrr⟩ : ∃ r, L[h - a]? = some r := ⟨_, List.getElem?_eq_getElem (by have := HH.out.2.1; omega)⟩
      have hrow := HS.out
      have HC2 := Lib.hid (hrow.cell (i := h) (x := l) (get_mid (i := h - a) HH.out.1 (by omega) (by rw [List.getElem?_append_left (List.getElem?_eq_some_iff.1 hrr).1]; exact hrr)))
      have HC1 := Lib.hid (hrow.cell (i := m) (x := y) (get_mid (i := L.length) HH.out.1 (by have := HH.out.2.1; omega) (by simp)))
      have hrN := HH.out.2.2.2.2.2.2 l (List.mem_of_getElem? hrr)
      have HCM := Lib.hid (HCMP.out.on HG.out HH.out.2.2.2.2.2.1 hrN)
      obtain ⟨tv, htv⟩ : ∃ q, q = kl k1 k2 y l := ⟨_, rfl⟩
      have HTV := Lib.hid ((HCMP.out.says HG.out HH.out.2.2.2.2.2.1 hrN).trans htv.symm)
      have HTL := Lib.hid htv
      have HRR := Lib.hid hrr
      have HROW := Lib.hid hrow
      have pj0 : (0 : Int) ≤ (h : Int) := by omega
      have pj1 : (h : Int) < (nn : Int) := by omega
      have pp0 : (0 : Int) ≤ (m : Int) := by omega
      have pp1 : (m : Int) < (nn : Int) := by omega
      clear hs hh htv hrr hrow hrN
      have z1 := HZ.out.1
      have z2 := HZ.out.2.1
      go_upto_region 17 with fail
      rw [HZ3.out]
      clear z1 z2 HZ HZ3
      refine wp_region_steps [some 92, some 93, some 94, some 95, some 96, some 97, some 98, some 99, some 100, some 101, some 102, some 103] [] (sm17F B nn c h m y l g cb cf tv) (fun _ wx wy => Below wx.heap.size wx wy) (fun wx => Below wr.heap.size wr wx) (by kernel_rfl) (by kernel_rfl) rfl (by kernel_rfl) (Below.refl _ _).drew (fun _ wx => Below.refl _ _) (fun _ wx wy h k => h.trans (k.mono h.size)) ?hF ?hstep ?hend
      case hF =>
        exact ⟨fun _ _ _ _ _ _ h => h, ⟨fun _ _ _ _ _ _ h => h, ⟨fun _ _ _ _ _ _ h => h, ⟨fun _ _ _ _ _ _ h => h, ⟨fun _ _ _ _ _ _ h => h, ⟨fun _ _ _ _ _ _ h => h, ⟨fun _ _ _ _ _ _ h => h, ⟨fun _ _ _ _ _ _ h => h, ⟨fun _ _ _ _ _ _ h => h, ⟨fun _ _ _ _ _ _ h => h, ⟨fun _ _ _ _ _ _ h => h, ⟨fun _ _ _ _ _ _ h => h, trivial⟩⟩⟩⟩⟩⟩⟩⟩⟩⟩⟩⟩
      case hstep =>
        refine ⟨fun r wx hG hs hq hf => ?_, ?_⟩
        · have e4 : r 4 = .func (.func g) #[] cb := hs 4 rfl
          refine (if_pos rfl).symm ▸ ?_
          clear hs hq hf
          unfold gives
          go_simp
          exact ⟨Below.refl _ _, rfl⟩
        refine ⟨fun r wx hG hs hq hf => ?_, ?_⟩
        · have e0 : r 0 = .slice (some ⟨B, 0, none⟩) nn c := hs 0 rfl
          refine (if_pos rfl).symm ▸ ?_
          clear hs hq hf
          unfold gives
          go_simp
          exact ⟨Below.refl _ _, rfl⟩
        refine ⟨fun r wx hG hs hq hf => ?_, ?_⟩
        · have e2 : r 2 = .int .i64 m := hs 2 rfl
          refine (if_pos rfl).symm ▸ ?_
          clear hs hq hf
          unfold gives
          go_simp
          exact ⟨Below.refl _ _, rfl⟩
        refine ⟨fun r wx hG hs hq hf => ?_, ?_⟩
        · have h1 : r 93 = .slice (some ⟨B, 0, none⟩) nn c := hf.1
          have h2 : r 94 = .int .i64 m := hf.2.1
          refine (if_pos rfl).symm ▸ ?_
          clear hs hq hf
          unfold gives
          go_simp
          exact ⟨Below.refl _ _, rfl⟩
        refine ⟨fun r wx hG hs hq hf => ?_, ?_⟩
        · have h3 : r 95 = .pointer (some ⟨B, m, none⟩) := hf.1
          refine (if_pos rfl).symm ▸ ?_
          clear hs hq hf
          unfold gives
          have hc := (hG.cell (World.block_lt_of_cell? wr _ HC1.out)).trans HC1.out
          go_simp
          exact ⟨Below.refl _ _, rfl⟩
        refine ⟨fun r wx hG hs hq hf => ?_, ?_⟩
        · have e0 : r 0 = .slice (some ⟨B, 0, none⟩) nn c := hs 0 rfl
          refine (if_pos rfl).symm ▸ ?_
          clear hs hq hf
          unfold gives
          go_simp
          exact ⟨Below.refl _ _, rfl⟩
        refine ⟨fun r wx hG hs hq hf => ?_, ?_⟩
        · have e16 : r 16 = .int .i64 h := hs 16 rfl
          refine (if_pos rfl).symm ▸ ?_
          clear hs hq hf
          unfold gives
          go_simp
          exact ⟨Below.refl _ _, rfl⟩
        refine ⟨fun r wx hG hs hq hf => ?_, ?_⟩
        · have h5 : r 97 = .slice (some ⟨B, 0, none⟩) nn c := hf.1
          have h6 : r 98 = .int .i64 h := hf.2.1
          refine (if_pos rfl).symm ▸ ?_
          clear hs hq hf
          unfold gives
          go_simp
          exact ⟨Below.refl _ _, rfl⟩
        refine ⟨fun r wx hG hs hq hf => ?_, ?_⟩
        · have h7 : r 99 = .pointer (some ⟨B, h, none⟩) := hf.1
          refine (if_pos rfl).symm ▸ ?_
          clear hs hq hf
          unfold gives
          have hc := (hG.cell (World.block_lt_of_cell? wr _ HC2.out)).trans HC2.out
          go_simp
          exact ⟨Below.refl _ _, rfl⟩
        refine ⟨fun r wx hG hs hq hf => ?_, ?_⟩
        · have h0 : r 92 = .func (.func g) #[] cb := hf.1
          have h4 : r 96 = .int .i64 y := hf.2.1
          have h8 : r 100 = .int .i64 l := hf.2.2.1
          refine (if_pos rfl).symm ▸ ?_
          clear hs hq hf
          unfold gives
          go_simp
          refine (HCM.out wx hG).mono ?_
          rintro e wy ⟨rfl, hb1⟩
          exact ⟨_, rfl, hb1, rfl⟩
        refine ⟨fun r wx hG hs hq hf => ?_, ?_⟩
        · have h9 : r 101 = .int .i64 (cf y l) := hf.1
          refine (if_pos rfl).symm ▸ ?_
          clear hs hq hf
          unfold gives
          go_simp
          exact ⟨Below.refl _ _, congrArg Value.bool HTV.out⟩
        refine ⟨fun r wx hG hs hq hf => ?_, ?_⟩
        · have h10 : r 102 = .bool tv := hf.1
          refine (if_pos rfl).symm ▸ ?_
          clear hs hq hf
          unfold gives
          go_simp
          exact ⟨Below.refl _ _, rfl⟩
        exact trivial
      case hend =>
        intro u wz hG hfin
        have z11 : u 11 = .bool (!tv) := hfin 11 (by decide) (by kernel_rfl)
        clear hfin
        simp only [fill]
        go_simp
        have HGZ := Lib.hid (grown_below HG.out hG)
        have HRZ := Lib.hid (HROW.out.keep hG)
        clear hG
        obtain ⟨hp, hhp⟩ : ∃ q, q = h + 1 := ⟨_, rfl⟩
        have zhp : IntKind.i64.wrap ((h : Int) + 1) = (hp : Int) := by rw [IntKind.wrap_i64]; omega
        have HHP := Lib.hid hhp
        clear hhp
        cases tv with
        | false =>
          go_wp2_with fail
          go_roundw
          case rel => exact ⟨hp, j, rfl, rfl, by have := HHP.out; omega, by have := HHP.out; omega, hjb, Lib.hid ⟨.inr ⟨l, by rw [show hp - 1 - a = h - a by have := HHP.out; omega]; exact HRR.out, HTL.out.symm⟩, HL.out.2⟩, HRZ, HGZ⟩
          case measure => have := HHP.out; simp [intOf]; omega
        | true =>
          go_wp2_with fail
          go_roundw
          case rel => exact ⟨i, h, rfl, rfl, hmi, by omega, by omega, Lib.hid ⟨HL.out.1, .inr ⟨l, HRR.out, HTL.out.symm⟩⟩, HRZ, HGZ⟩
          case measure => simp [intOf]; omega
    · obtain rfl : i = j := by omega
      have hz : ¬ (i : Int) < (i : Int) := by omega
      have hil : i - a ≤ L.length := by have := HH.out.2.1; omega
      have hsplit : L = L.take (i - a) ++ L.drop (i - a) := (List.take_append_drop _ _).symm
      have hl1 : (L.take (i - a)).length = i - a := by rw [List.length_take]; omega
      have hput : Srt k1 k2 (L.take (i - a) ++ y :: L.drop (i - a)) := by
        refine srt_put (by rw [← hsplit]; exact HH.out.2.2.2.1) (fun q hq => ?_) (fun q hq => ?_)
        · have hpos : 0 < i - a := by
            rcases Nat.eq_zero_or_pos (i - a) with h0 | h0
            · rw [h0] at hq; simp at hq
            · exact h0
          have h2 := take_last hpos hil hq
          rcases HL.out.1 with h3 | ⟨q', h3, h4⟩
          · omega
          · rw [show i - 1 - a = i - a - 1 by omega, h2] at h3
            cases h3; exact tl_of_not h4 (HH.out.2.2.2.2.1 q (List.mem_of_getElem? h2))
        · have h2 := drop_head hq
          rcases HL.out.2 with h3 | ⟨q', h3, h4⟩
          · have := (List.getElem?_eq_some_iff.1 h2).1; have := HH.out.2.1; omega
          · rw [h2] at h3
            cases h3; exact kl_tl h4
      have hrow := HS.out
      rw [hsplit] at hrow
      have hpm : (L.take (i - a) ++ y :: L.drop (i - a)).Perm (L ++ [y]) := by
        refine List.perm_middle.trans ?_
        rw [← hsplit]
        exact List.perm_append_comm (l₁ := [y])
      have hl2 : (L.drop (i - a)).length = m - i := by rw [List.length_drop]; have := HH.out.2.1; omega
      obtain ⟨R1, hR1⟩ : ∃ q, q = L.take (i - a) := ⟨_, rfl⟩
      obtain ⟨R2, hR2⟩ : ∃ q, q = L.drop (i - a) := ⟨_, rfl⟩
      rw [← hR1, ← hR2] at hrow hput hpm
      rw [← hR1] at hl1
      rw [← hR2] at hl2
      have HRW := Lib.hid hrow
      have HP := Lib.hid (And.intro hput hpm)
      have HK := Lib.hid (And.intro hl1 hl2)
      clear hrow hput hpm hsplit hl1 hl2 hR1 hR2 HS HL
      go_upto_region 21 with fail
      go_loopw [17] (fun s17 wr => ∃ (k : Nat) (U V : List Nat), s17 = .int .i64 k ∧ i ≤ k ∧ k ≤ m ∧ Hid (R2 = U ++ V ∧ i + U.length = k) ∧ Hid (SRow wr B (P ++ (R1 ++ (U ++ y :: V)) ++ Q)) ∧ Hid (base.grownBy wr (some B))) (fun k _ => (intOf k).toNat)
      case atStart => exact ⟨m, R2, [], rfl, by omega, Nat.le_refl _, Lib.hid ⟨by simp, by have := HK.out.2; omega⟩, Lib.hid (by have := HRW.out; simpa using this), HG⟩
      case round =>
        clear HRW HG
        obtain ⟨k, U, V, rfl, hak, hkk, HL, HS, HG⟩ := hrel
        by_cases hlt2 : i < k
        · have hz2 : (i : Int) < (k : Int) := by omega
          obtain ⟨U', s, hU⟩ : ∃ t s, U = t ++ [s] := by
            have h2 := HL.out.2
            have hne : U ≠ [] := by rintro rfl; simp at h2; omega
            exact ⟨U.dropLast, U.getLast hne, (List.dropLast_concat_getLast hne).symm⟩
          subst hU
          have hrow := HS.out
          have hxs : P ++ (R1 ++ ((U' ++ [s]) ++ y :: V)) ++ Q = (P ++ R1 ++ U') ++ s :: y :: (V ++ Q) := by simp
          rw [hxs] at hrow
          obtain ⟨kp, hkp⟩ : ∃ q, q = (P ++ R1 ++ U').length := ⟨_, rfl⟩
          have hkk2 : k = kp + 1 := by
            have h2 := HL.out.2
            rw [hkp]
            simp only [List.length_append, List.length_singleton] at h2 ⊢
            have := HH.out.1
            have := HK.out.1
            omega
          have g1 : ((P ++ R1 ++ U') ++ s :: y :: (V ++ Q))[kp]? = some s := by rw [hkp]; exact get_app _ _ _
          have g2 : ((P ++ R1 ++ U') ++ s :: y :: (V ++ Q))[k]? = some y := by
            have := get_app ((P ++ R1 ++ U') ++ [s]) (V ++ Q) y
            rw [List.length_append, List.length_singleton, ← hkp, ← hkk2] at this
            simpa using this
          have hsw := hrow.swap g2 g1
          have hadj := swap_adj (P ++ R1 ++ U') (V ++ Q) s y
          rw [← hkp, ← hkk2] at hadj
          rw [hadj] at hsw
          have c1 := hrow.cell g1
          have c2 := hrow.cell g2
          have f1 := hrow.free k
          have f2 := hrow.free kp
          obtain ⟨y3, c3⟩ := hrow.cell2 (i := k) g1 s
          have HSW := Lib.hid hsw
          have zkp : IntKind.i64.wrap ((k : Int) - 1) = (kp : Int) := by rw [IntKind.wrap_i64]; omega
          have p0 : (0 : Int) ≤ (k : Int) := by omega
          have p1 : (k : Int) < (nn : Int) := by omega
          have q0 : (0 : Int) ≤ (kp : Int) := by omega
          have q1 : (kp : Int) < (nn : Int) := by omega
          have HKP := Lib.hid hkk2
          clear hsw hrow hadj g1 g2 hkp hxs hkk2
          go_upto_region 23 with fail
          have mixed : Try.prog.follows .mixedOrders = true := by kernel_rfl
          go_big_region_o
          clear c1 c2 c3 f1 f2
          generalize ((wr.setCell ⟨B, k, none⟩ (.int .i64 s)).setCell ⟨B, kp, none⟩ (.int .i64 y)).drew = w3 at HSW ⊢
          go_wp2_with fail
          go_roundw
          case rel =>
            refine ⟨kp, U', s :: V, rfl, by have := HKP.out; omega, by have := HKP.out; omega, Lib.hid ⟨by rw [HL.out.1]; simp, by have h1 := HKP.out; have h2 := HL.out.2; simp at h2; omega⟩, Lib.hid ?_, Lib.hid (grown_tr HG.out HSW.out.2)⟩
            have h := HSW.out.1
            simpa using h
          case measure => have := HKP.out; simp [intOf]; omega
        · have hz2 : ¬ (i : Int) < (k : Int) := by omega
          go_wp2_with fail
          refine bodyPost_ret (results_none Try.results67 _ _ _) rfl ?_
          have hU : U = [] := List.eq_nil_of_length_eq_zero (by have := HL.out.2; omega)
          subst hU
          have h1 := HL.out.1
          rw [List.nil_append] at h1
          subst h1
          exact ⟨rfl, _, HP.out.2, HP.out.1, by have := HS.out; simpa using this, HG.out⟩
end Go.Proofs.Ytdociiogddihfaa
