/- The contract of the reference's Merge. -/
import Derived.Test.YteflpphpbecciaaMergeM
namespace Go.Proofs.Yteflpphpbecciaa
open Go.RowKit

/-- How an operation may change the world: number 8 appends, number 12 stores the answer. -/
def rmK (P B2 : Nat) (j : Nat) (wx wy : World) : Prop := if j = 8 then Below B2 wx wy else if j = 12 then (wy = wx ∨ ∃ x y z, wy = mset P x y z wx) else Below wx.heap.size wx wy
theorem rmk_refl (P B2 j : Nat) (w : World) : rmK P B2 j w w := by
  unfold rmK; split
  · exact Below.refl _ _
  · split
    · exact .inl rfl
    · exact Below.refl _ _
theorem rmk_app {P B2 : Nat} {wx wy : World} (h : Below B2 wx wy) : rmK P B2 8 wx wy := by unfold rmK; rw [if_pos rfl]; exact h
theorem rmk_set (P B2 : Nat) (x y z : Value) (w : World) : rmK P B2 12 w (mset P x y z w) := by unfold rmK; rw [if_neg (by decide), if_pos rfl]; exact .inr ⟨x, y, z, rfl⟩
theorem rmK_below {P B2 j : Nat} {wx wy : World} (h8 : j ≠ 8) (h12 : j ≠ 12) (h : rmK P B2 j wx wy) : Below wx.heap.size wx wy := by
  unfold rmK at h; rw [if_neg h8, if_neg h12] at h; exact h
theorem MW.keepB {w : World} {A P b bt B : Nat} {v : Value} {wx wy : World} (h : MW w A P b bt v wx) (k : Below B wx wy) (hA : A < B) (hP : P < B) (hw : w.heap.size ≤ B) : MW w A P b bt v wy := by
  obtain ⟨h1, h2, h3, e0, e1, e2, ⟨x, y, z, c0, c1, c2⟩, f0, f1, f2, f3⟩ := h
  have hz := k.size
  have g : ∀ (C o : Nat) (u : Value), C < B → wx.cell? ⟨C, o, none⟩ = some u → wy.cell? ⟨C, o, none⟩ = some u := fun C o u hB hu => (k.cell (p := ⟨C, o, none⟩) hB).trans hu
  have f : ∀ (C o : Nat), C < B → wx.frozen? ⟨C, o, none⟩ = false → wy.frozen? ⟨C, o, none⟩ = false := fun C o hB hu => (k.frozen (p := ⟨C, o, none⟩) hB).trans hu
  exact ⟨h1.trans (k.mono hw), by omega, by omega, g _ _ _ hA e0, g _ _ _ hA e1, g _ _ _ hA e2, ⟨x, y, z, g _ _ _ hP c0, g _ _ _ hP c1, g _ _ _ hP c2⟩, f _ _ hP f0, f _ _ hP f1, f _ _ hP f2, f _ _ hA f3⟩
theorem rmK_mw {w : World} {b bt B2 j : Nat} {v : Value} {wx wy : World} (hAB : w.heap.size < B2) (hPB : w.heap.size + 1 < B2) (h : MW w w.heap.size (w.heap.size + 1) b bt v wx ∧ B2 ≤ wx.heap.size) (k : rmK (w.heap.size + 1) B2 j wx wy) :
    MW w w.heap.size (w.heap.size + 1) b bt v wy ∧ B2 ≤ wy.heap.size := by
  unfold rmK at k; split at k
  · exact ⟨h.1.keepB k hAB hPB (by omega), Nat.le_trans h.2 k.size⟩
  · split at k
    · rcases k with rfl | ⟨x, y, z, rfl⟩
      · exact h
      · exact ⟨h.1.set (by omega) (by omega) x y z, by simpa [mset] using h.2⟩
    · exact ⟨h.1.keep k, Nat.le_trans h.2 k.size⟩
theorem rmK_own {P B2 j : Nat} {wx wy : World} {e : TypeId} {v : Value} {n : Nat} {xs : List Value} (hP : P < B2) (hj : j ≠ 8) (k : rmK P B2 j wx wy) (h : wx.ownsRow B2 e 6 v n xs) : wy.ownsRow B2 e 6 v n xs := by
  unfold rmK at k; rw [if_neg hj] at k; split at k
  · rcases k with rfl | ⟨x, y, z, rfl⟩
    · exact h
    · exact ownsRow_setCell_below (a := ⟨P, 2, none⟩) (ownsRow_setCell_below (a := ⟨P, 1, none⟩) (ownsRow_setCell_below (a := ⟨P, 0, none⟩) h hP _) hP _) hP _
  · exact own_keep h k

/-- What each operation hands on. -/
def mrF (A P B2 b bt n j r1 : Nat) (es ls : List EE) (vk : Value) (q4 o4 rr c4 F E : Nat) : Nat → Value → World → Prop
  | 0, v, _ => v = .pointer (some ⟨A, 0, none⟩)
  | 1, v, _ => v = .int .u64 b
  | 2, v, _ => v = .pointer (some ⟨A, 1, none⟩)
  | 3, v, _ => v = .int .u64 bt
  | 4, v, _ => v = vk
  | 5, v, _ => v = .slice (some ⟨q4, o4, none⟩) rr c4
  | 6, v, _ => v = .int .i64 j
  | 7, v, _ => v = .slice (some ⟨q4, o4 + j * 6, none⟩) r1 (c4 - j)
  | 8, v, w => ∃ a9 c9, v = .slice a9 (n + j + r1) c9 ∧ w.ownsRow B2 31 6 (.slice a9 (n + j + r1) c9) (n + j + r1) (ecells (es.take (n + j)) ++ ecells (ls.drop j))
  | 9, v, w => ∃ a9 c9, v = .agg #[.int .u64 b, .int .u64 bt, .slice a9 (n + j + r1) c9] ∧ w.ownsRow B2 31 6 (.slice a9 (n + j + r1) c9) (n + j + r1) (ecells (es.take (n + j)) ++ ecells (ls.drop j))
  | 10, v, _ => v = .int .u64 F
  | 11, v, _ => v = .int .u64 E
  | 12, v, w => ∃ a9 c9, w.cell? ⟨P, 0, none⟩ = some (.int .u64 b) ∧ w.cell? ⟨P, 1, none⟩ = some (.int .u64 bt) ∧ w.cell? ⟨P, 2, none⟩ = some (.slice a9 (n + j + r1) c9) ∧ w.ownsRow B2 31 6 (.slice a9 (n + j + r1) c9) (n + j + r1) (ecells (es.take (n + j)) ++ ecells (ls.drop j))
  | 13, v, w => v = .int .u64 F ∧ ∃ a9 c9, w.cell? ⟨P, 0, none⟩ = some (.int .u64 b) ∧ w.cell? ⟨P, 1, none⟩ = some (.int .u64 bt) ∧ w.cell? ⟨P, 2, none⟩ = some (.slice a9 (n + j + r1) c9) ∧ w.ownsRow B2 31 6 (.slice a9 (n + j + r1) c9) (n + j + r1) (ecells (es.take (n + j)) ++ ecells (ls.drop j))
  | 14, v, _ => v = .int .u64 E
  | 15, v, _ => v = .bool true
  | _, _, _ => True

set_option maxHeartbeats 8000000 in
set_option maxRecDepth 100000 in
theorem RMerge_any (b bt : Nat) (v : Value) (es : List EE) (i t : Nat) (lv : Value) (ls : List EE) (w : World) (hb : b ≤ 4611686018427387904) (hi64 : i < 18446744073709551616) (hr : Rd w 6 v es.length (ecells es))
    (hlr : Rd w 6 lv ls.length (ecells ls)) (hsum : (es.length + ls.length) * 80 ≤ 140737488355328) :
    Calls Try.prog 10 #[.agg #[.int .u64 b, .int .u64 bt, v], .int .u64 i, .int .u64 t, lv] w fun e w' =>
      ∃ v', e = .returned (.tuple #[.agg #[.int .u64 (mergeP b bt es i t ls).b, .int .u64 (mergeP b bt es i t ls).bt, v'], .int .u64 (mergeP b bt es i t ls).fr, .int .u64 (mergeP b bt es i t ls).end_, .bool (mergeP b bt es i t ls).ok]) ∧
        Rd w' 6 v' (mergeP b bt es i t ls).es.length (ecells (mergeP b bt es i t ls).es) ∧ Below w.heap.size w w' := by
  by_cases hA : i < b ∧ ls.length ≤ b - i
  · obtain ⟨h1, h2⟩ := hA
    have hm : mergeP b bt es i t ls = ⟨b, bt, es, b + es.length + 1, b, true⟩ := by unfold mergeP; rw [if_pos h1, if_pos h2]
    rw [hm]
    refine (mergeA_r b bt v es i t lv ls w hb (by omega) hr (by omega) hlr h1 h2).mono ?_
    rintro e w' ⟨rfl, hb1⟩
    exact ⟨v, rfl, hr.keep hb1, hb1⟩
  · obtain ⟨a, c, rfl⟩ := hr.form
    obtain ⟨la, lc, rfl⟩ := hlr.form
    have hl : es.length ≤ 140737488355328 := by omega
    generalize hM : mergeP b bt es i t ls = M
    have HM := Lib.hid hM
    clear hM
    have HA := Lib.hid hA
    clear hA
    go_enter Try.func10, Try.ntmps10
    go_upto_if 23 with fail
    go_cut [1, 2, 3] (fun s1 s2 s3 wz => ∃ (i' t' : Nat) (a3 : Option Addr) (c3 : Nat) (ls' : List EE), s1 = .int .u64 i' ∧ s2 = .int .u64 t' ∧ s3 = .slice a3 ls'.length c3 ∧ Rd w 6 (.slice a3 ls'.length c3) ls'.length (ecells ls') ∧ b ≤ i' ∧ i' < 18446744073709551616 ∧ ls'.length ≤ ls.length ∧
      mergeP b bt es i t ls = mergeQ b bt es i' t' ls' ∧ MW w w.heap.size (w.heap.size + 1) b bt (.slice a es.length c) wz)
    case first =>
      have hA := HA.out
      by_cases h1 : i < b
      · have hk : b - i < ls.length := by omega
        have hz1 : (i : Int) < (b : Int) := by omega
        have hw1 : IntKind.u64.wrap ((b : Int) - (i : Int)) = ((b - i : Nat) : Int) := by rw [IntWalk.u64_in _ (by omega)]; omega
        have hz2 : ¬ (ls.length : Int) ≤ ((b - i : Nat) : Int) := by omega
        have hmq : mergeP b bt es i t ls = mergeQ b bt es b bt (ls.drop (b - i)) := by unfold mergeP; rw [if_pos h1, if_neg (by omega)]
        have HMQ := Lib.hid hmq
        obtain ⟨q, o, rfl, hlc, hsub⟩ := rd_sub hlr (b - i) (by omega) (by omega)
        rw [← ecells_drop] at hsub
        have hdl : (ls.drop (b - i)).length = ls.length - (b - i) := by simp
        rw [← hdl] at hsub
        have HDL := Lib.hid hdl
        have HSUB := Lib.hid hsub
        clear hmq hA hsub hdl
        generalize b - i = d at *
        have hd0 : (0 : Int) ≤ (d : Int) := by omega
        have hd1 : (d : Int) ≤ (ls.length : Int) := by omega
        have hd2 : (d : Int) ≤ (lc : Int) := by omega
        go_wp2_with fail
        go_meet
        have hmw := (mw_start w b bt (.slice a es.length c) (.int .u64 0) (.int .u64 0) (.slice none 0 0) 25)
        have hle : (ls.drop d).length ≤ ls.length := by simp
        refine ⟨b, bt, some ⟨q, o + d * 6, none⟩, lc - d, ls.drop d, rfl, rfl, by rw [HDL.out], HSUB.out, Nat.le_refl _, by omega, hle, HMQ.out, hmw⟩
      · have hz1 : ¬ (i : Int) < (b : Int) := by omega
        have hmq : mergeP b bt es i t ls = mergeQ b bt es i t ls := by unfold mergeP; rw [if_neg h1]
        have HMQ := Lib.hid hmq
        clear hmq hA
        go_wp2_with fail
        go_meet
        exact ⟨i, t, la, lc, ls, rfl, rfl, rfl, hlr, by omega, hi64, Nat.le_refl _, HMQ.out, mw_start w b bt _ _ _ _ _⟩
    case rest =>
      obtain ⟨i', t', a3, c3, ls', rfl, rfl, rfl, hr3, hge, hi', hlen, hmq, hMW⟩ := hcut
      have hM2 : mergeQ b bt es i' t' ls' = M := by rw [← hmq]; exact HM.out
      have HM2 := Lib.hid hM2
      clear hmq hM2 HM HA hlr
      have hT := RTerm_any b bt (.slice a es.length c) es i' wc hb hi' (by omega) (hr.keep hMW.1)
      have htp := @termP_true b bt es i'
      generalize hTT : termP b bt es i' = T at *
      have HTT := Lib.hid hTT
      have HT := Lib.hid hT
      have HTP := Lib.hid htp
      clear hTT hT htp
      obtain ⟨tt, tok⟩ := T
      have hMW0 := Lib.hid hMW
      obtain ⟨m1, m2, m3, e0, e1, e2, ⟨x0, x1, x2, c0, c1, c2⟩, f0, f1, f2, f3⟩ := hMW
      go_wp2_with fail
      refine HT.out.mono ?_
      rintro e w1 ⟨rfl, hb1⟩
      have hMW1 := hMW0.out.keep hb1
      clear e0 e1 e2 c0 c1 c2 f0 f1 f2 f3 m1 m2 m3 hb1 HT
      by_cases hok : (tt, tok) = (t', true)
      · simp only [Prod.mk.injEq] at hok
        obtain ⟨rfl, rfl⟩ := hok
        obtain ⟨hb2, hb3⟩ := HTP.out rfl
        have hl0 := hl
        obtain ⟨n, hn⟩ : ∃ n, n = i' - b := ⟨_, rfl⟩
        have hQ : mergeQ b bt es i' tt ls' = if cp (es.drop n) ls' = ls'.length then ⟨b, bt, es, b + es.length + 1, i' + ls'.length, true⟩
            else ⟨b, bt, es.take (n + cp (es.drop n) ls') ++ ls'.drop (cp (es.drop n) ls'), i' + 1 + cp (es.drop n) ls', i' + ls'.length, true⟩ := by
          unfold mergeQ; rw [HTT.out, if_pos rfl, ← hn]
        rw [HM2.out] at hQ
        have hw1 : IntKind.u64.wrap ((i' : Int) - (b : Int)) = (n : Int) := by rw [IntWalk.u64_in _ (by omega)]; omega
        obtain ⟨E, hE⟩ : ∃ E, E = i' + ls'.length := ⟨_, rfl⟩
        have hw2 : IntKind.u64.wrap ((i' : Int) + (ls'.length : Int)) = (E : Int) := by rw [IntWalk.u64_in _ (by omega)]; omega
        rw [← hE] at hQ
        have HE := Lib.hid hE
        have HQ := Lib.hid hQ
        have hnl : n ≤ es.length := by omega
        have hin : i' = b + n := by omega
        have HIN := Lib.hid hin
        clear hE hQ HM2 HTT HTP hMW0 hn hin
        have HMW := Lib.hid hMW1
        obtain ⟨m1, m2, m3, e0, e1, e2, ⟨x0, x1, x2, c0, c1, c2⟩, f0, f1, f2, f3⟩ := hMW1
        go_wp2_with fail
        clear e0 e1 e2 c0 c1 c2 f0 f1 f2 f3 m1 m2 m3 hw1
        have hloop : ∀ j, j < ls'.length → IntKind.u64.wrap ((i' : Int) + 1) = (i' : Int) + 1 ∧ IntKind.u64.wrap ((i' : Int) + 1 + (j : Int)) = ((i' + 1 + j : Nat) : Int) := fun j hj => ⟨IntWalk.u64_in _ (by omega), by rw [IntWalk.u64_in _ (by omega)]; omega⟩
        have HLOOP := Lib.hid hloop
        clear hloop
        go_loopw [15] (fun s15 wr => ∃ j : Nat, j ≤ ls'.length ∧ s15 = .int .i64 j ∧ cp (es.drop n) ls' = j + cp (es.drop (n + j)) (ls'.drop j) ∧ MW w w.heap.size (w.heap.size + 1) b bt (.slice a es.length c) wr) (fun s15 _ => ls'.length - (intOf s15).toNat)
        case atStart => exact ⟨0, by omega, rfl, by simp, HMW.out⟩
        case round =>
          clear HMW
          obtain ⟨j, hj, rfl, hcp, hMW⟩ := hrel
          have HMW := Lib.hid hMW
          obtain ⟨m1, m2, m3, e0, e1, e2, ⟨x0, x1, x2, c0, c1, c2⟩, f0, f1, f2, f3⟩ := hMW
          by_cases h1 : j < ls'.length
          · have hz1 : (j : Int) < (ls'.length : Int) := by omega
            have hj0 : (0 : Int) ≤ (j : Int) := by omega
            obtain ⟨hw3, hw4⟩ := HLOOP.out j h1
            obtain ⟨F, hF⟩ : ∃ F, F = i' + 1 + j := ⟨_, rfl⟩
            rw [← hF] at hw4
            have HHF := Lib.hid hF
            clear hF
            obtain ⟨l, hl⟩ : ∃ l, ls'[j]? = some l := ⟨ls'[j], List.getElem?_eq_getElem h1⟩
            obtain ⟨q4, o4, c5, hv4, hc45, hq4, k0, _⟩ := ent_at hr3 j l hl
            simp only [Value.slice.injEq, true_and] at hv4
            obtain ⟨rfl, rfl⟩ := hv4
            have hT := RTerm_any b bt (.slice a es.length c) es F wr hb (by have := HHF.out; omega) hl0 (hr.keep HMW.out.1)
            have hwsz := HMW.out.1.size
            have kk := fun (wx : World) (hx : Below w.heap.size w wx) => (hx.cell (p := ⟨q4, o4 + j * 6, none⟩) hq4).trans k0
            have KK := Lib.hid kk
            clear kk k0
            by_cases h2 : n + j < es.length
            · obtain ⟨ee, he⟩ : ∃ ee, es[n + j]? = some ee := ⟨es[n + j], List.getElem?_eq_getElem h2⟩
              have hTv : termP b bt es F = (ee.t, true) := by
                have := HIN.out
                rw [HHF.out]
                unfold termP
                rw [if_neg (by omega), if_pos (by omega), show i' + 1 + j - b - 1 = n + j by omega, he]; rfl
              rw [hTv] at hT
              have HT2 := Lib.hid hT
              by_cases h3 : ee.t = l.t
              · have hst := cp_step es ls' n j hcp ee l he hl h3
                have hz3 : ((ee.t : Int) != (l.t : Int)) = false := by simp; omega
                have HST := Lib.hid hst
                clear hst hT hTv hcp he hl h3 h2
                go_wp2_with fail
                refine HT2.out.mono ?_
                rintro e w2 ⟨rfl, hb2⟩
                have k0 := KK.out w2 (HMW.out.keep hb2).1
                have HM3 := Lib.hid (HMW.out.keep hb2)
                clear e0 e1 e2 c0 c1 c2 f0 f1 f2 f3 m1 m2 m3 hb2 HMW HT2
                go_wp2_with fail
                go_roundw
                case rel => exact ⟨j + 1, by omega, by go_num, HST.out, HM3.out⟩
                case measure => simp [intOf]; omega
              · have hst := cp_stop es ls' n j hcp (.inr (.inr ⟨ee, l, he, hl, h3⟩))
                have hz3 : ((ee.t : Int) != (l.t : Int)) = true := by simp; omega
                have hMv : M = ⟨b, bt, es.take (n + j) ++ ls'.drop j, i' + 1 + j, E, true⟩ := by rw [HQ.out, hst, if_neg (by omega)]
                have hnj : n + j ≤ es.length := by have := (cp_le (es.drop n) ls').1; rw [hst] at this; simp at this; omega
                have HMV := Lib.hid hMv
                obtain ⟨_, _, ho4, _, hsubw⟩ := rd_sub hr3 j hj (by omega)
                simp only [Option.some.injEq, Addr.mk.injEq, and_true] at ho4
                obtain ⟨rfl, rfl⟩ := ho4
                rw [← ecells_drop] at hsubw
                obtain ⟨r1, hr1⟩ : ∃ r1, r1 = ls'.length - j := ⟨_, rfl⟩
                rw [← hr1] at hsubw
                have htk := (hr.takeN (n + j) hnj)
                rw [← ecells_take] at htk
                have hcap := hr.cap
                have hw5 : IntKind.u64.wrap ((F : Int) - (b : Int)) = (n : Int) + (j : Int) + 1 := by have := HIN.out; have := HHF.out; rw [IntWalk.u64_in _ (by omega)]; omega
                have hw6 : IntKind.u64.wrap ((n : Int) + (j : Int) + 1 - 1) = (n : Int) + (j : Int) := by rw [IntWalk.u64_in _ (by omega)]; omega
                have hMvF : M = ⟨b, bt, es.take (n + j) ++ ls'.drop j, F, E, true⟩ := by rw [hMv, HHF.out]
                have HMV := Lib.hid hMvF
                have hnej : ((j : Int) == (ls'.length : Int)) = false := by simp; omega
                have hle1 : ((n : Int) + (j : Int)) ≤ (es.length : Int) := by omega
                have hle2 : ((n : Int) + (j : Int)) ≤ (c : Int) := by omega
                have hnj0 : (0 : Int) ≤ (n : Int) + (j : Int) := by omega
                clear hMv hMvF hst hT hTv hcp hl HQ he h3 h2
                have hone : ∀ u ∈ ecells (es.take (n + j)) ++ ecells (ls'.drop j), u.oneCell' = true := by
                  intro u hu
                  rcases List.mem_append.1 hu with hu | hu
                  · exact htk.2.1 u hu
                  · exact hsubw.2.1 u hu
                have hl2 : n + j + r1 = (es.take (n + j) ++ ls'.drop j).length := by simp; omega
                have HL2 := Lib.hid hl2
                have HR1 := Lib.hid hr1
                have HONE := Lib.hid hone
                clear hl2 hr1 hone
                go_wp2_with fail
                refine HT2.out.mono ?_
                rintro e w2 ⟨rfl, hb2⟩
                have k0 := KK.out w2 (HMW.out.keep hb2).1
                have hMW2 := HMW.out.keep hb2
                have HM2 := Lib.hid hMW2
                obtain ⟨B2, hB2⟩ : ∃ B2, B2 = w2.heap.size := ⟨_, rfl⟩
                have hAB : w.heap.size < B2 := by rw [hB2]; exact hMW2.2.1
                have hPB : w.heap.size + 1 < B2 := by rw [hB2]; exact hMW2.2.2.1
                have HB2 := Lib.hid hB2
                have hbal : Below w2.heap.size w2 (w2.alloc (.cells #[] 31)) := (Below.refl _ _).alloc (Nat.le_refl _) _
                have hemp := own_new w2 31 6 0 B2 [] (by simp) (by omega) (by rw [hB2]; exact Nat.le_refl _)
                have htk2 : Rd (w2.alloc (.cells #[] 31)) 6 (.slice a (n + j) c) (n + j) (ecells (es.take (n + j))) := (htk.keep hMW2.1).alloc _
                have hBz : B2 ≤ (w2.alloc (.cells #[] 31)).heap.size := by rw [hB2]; exact hbal.size
                clear e0 e1 e2 c0 c1 c2 f0 f1 f2 f3 m1 m2 m3 hb2 hB2 HT2 HMW hMW2
                obtain ⟨m1, m2, m3, e0, e1, e2, ⟨x0, x1, x2, c0, c1, c2⟩, f0, f1, f2, f3⟩ := HM2.out
                go_wp2_with (at_builtin; refine wpList_app Try.underlying23 infoEnt rfl (by decide) rfl _ _ rfl rfl rfl hemp htk2 (by omega) (by omega) hBz ?_)
                intro v5 w5 hown5 hg5 _
                obtain ⟨ak, ck, rfl⟩ := own_form hown5
                have hMW5 := (HM2.out.keep hbal).keepB (hg5.below hBz (own_block hemp)) hAB hPB (by omega)
                have hB5 : B2 ≤ w5.heap.size := Nat.le_trans hBz hg5.grown.size
                have hone := HONE.out
                clear e0 e1 e2 c0 c1 c2 f0 f1 f2 f3 m1 m2 m3 HM2 hemp htk2 hBz hbal hg5 HONE
                obtain ⟨m1, m2, m3, e0, e1, e2, ⟨x0, x1, x2, c0, c1, c2⟩, f0, f1, f2, f3⟩ := Lib.hid hMW5 |>.out
                go_wp2_with fail
                refine wp_region_until [some 118, some 119, some 120, some 121, some 122, some 123, some 124, some 125, some 126, some 127, some 128, some 129, none, some 9, some 10, some 11] [] 8 (fun wx => wx.ownsRow B2 31 6 (.slice ak (n + j) ck) (n + j) (ecells (es.take (n + j)))) [4, 5, 6, 7, 8] (mrF w.heap.size (w.heap.size + 1) B2 b bt n j r1 es ls' (.slice ak (n + j) ck) q4 o4 ls'.length c3 F E) (rmK (w.heap.size + 1) B2) (fun wx => MW w w.heap.size (w.heap.size + 1) b bt (.slice a es.length c) wx ∧ B2 ≤ wx.heap.size) (by kernel_rfl) (by kernel_rfl) rfl (by kernel_rfl) (by kernel_rfl) ⟨hMW5.drew, hB5⟩ hown5.drew (fun j hj wx wy k h => rmK_own hPB hj k h) (rmk_refl _ _) (fun j wx wy h k => rmK_mw hAB hPB h k) ?hF ?hstep ?hend
                case hF =>
                  exact ⟨fun _ _ _ _ _ _ h => h, ⟨fun _ _ _ _ _ _ h => h, ⟨fun _ _ _ _ _ _ h => h, ⟨fun _ _ _ _ _ _ h => h, ⟨fun _ _ _ _ _ _ h => h, ⟨fun _ _ _ _ _ _ h => h, ⟨fun _ _ _ _ _ _ h => h, ⟨fun _ _ _ _ _ _ h => h, ⟨fun j hg _ _ _ k h => by
                      have kb := rmK_below (fun e => by subst e; exact absurd hg (by rw [show goneB _ 8 8 = true by kernel_rfl]; simp)) (fun e => by subst e; exact absurd hg (by rw [show goneB _ 8 12 = true by kernel_rfl]; simp)) k
                      obtain ⟨a9, c9, h1, ho⟩ := h
                      exact ⟨a9, c9, h1, own_keep ho kb⟩, ⟨fun j hg _ _ _ k h => by
                      have kb := rmK_below (fun e => by subst e; exact absurd hg (by rw [show goneB _ 9 8 = true by kernel_rfl]; simp)) (fun e => by subst e; exact absurd hg (by rw [show goneB _ 9 12 = true by kernel_rfl]; simp)) k
                      obtain ⟨a9, c9, h1, ho⟩ := h
                      exact ⟨a9, c9, h1, own_keep ho kb⟩, ⟨fun _ _ _ _ _ _ h => h, ⟨fun _ _ _ _ _ _ h => h, ⟨fun j hg _ _ _ k h => by
                      have kb := rmK_below (fun e => by subst e; exact absurd hg (by rw [show goneB _ 12 8 = true by kernel_rfl]; simp)) (fun e => by subst e; exact absurd hg (by rw [show goneB _ 12 12 = true by kernel_rfl]; simp)) k
                      obtain ⟨a9, c9, h0, h1, h2, ho⟩ := h
                      exact ⟨a9, c9, (kb.cell (World.block_lt_of_cell? _ _ h0)).trans h0, (kb.cell (World.block_lt_of_cell? _ _ h1)).trans h1, (kb.cell (World.block_lt_of_cell? _ _ h2)).trans h2, own_keep ho kb⟩, ⟨fun j hg _ _ _ k h => by
                      have kb := rmK_below (fun e => by subst e; exact absurd hg (by rw [show goneB _ 13 8 = true by kernel_rfl]; simp)) (fun e => by subst e; exact absurd hg (by rw [show goneB _ 13 12 = true by kernel_rfl]; simp)) k
                      obtain ⟨hv, a9, c9, h0, h1, h2, ho⟩ := h
                      exact ⟨hv, a9, c9, (kb.cell (World.block_lt_of_cell? _ _ h0)).trans h0, (kb.cell (World.block_lt_of_cell? _ _ h1)).trans h1, (kb.cell (World.block_lt_of_cell? _ _ h2)).trans h2, own_keep ho kb⟩, ⟨fun _ _ _ _ _ _ h => h, ⟨fun _ _ _ _ _ _ h => h, trivial⟩⟩⟩⟩⟩⟩⟩⟩⟩⟩⟩⟩⟩⟩⟩⟩
                case hstep =>
                  -- operation 0: Op.fieldAddr 25 (tmp 4) 0
                  refine ⟨fun r wx hG hs hq hf => ?_, ?_⟩
                  · have e4 : r 4 = .pointer (some ⟨w.heap.size, 0, none⟩) := hs 4 rfl
                    refine (if_pos rfl).symm ▸ ?_
                    clear hs hq hf
                    unfold gives
                    go_simp
                    exact ⟨rmk_refl _ _ _ _, rfl⟩
                  -- operation 1: Op.load 22 (tmp 118)
                  refine ⟨fun r wx hG hs hq hf => ?_, ?_⟩
                  · have h0 : r 118 = .pointer (some ⟨w.heap.size, 0, none⟩) := hf.1
                    refine (if_pos rfl).symm ▸ ?_
                    clear hs hq hf
                    unfold gives
                    obtain ⟨m1, m2, m3, e0, e1, e2, m7, m8, m9⟩ := hG.1
                    go_simp
                    exact ⟨rmk_refl _ _ _ _, rfl⟩
                  -- operation 2: Op.fieldAddr 25 (tmp 4) 1
                  refine ⟨fun r wx hG hs hq hf => ?_, ?_⟩
                  · have e4 : r 4 = .pointer (some ⟨w.heap.size, 0, none⟩) := hs 4 rfl
                    refine (if_pos rfl).symm ▸ ?_
                    clear hs hq hf
                    unfold gives
                    go_simp
                    exact ⟨rmk_refl _ _ _ _, rfl⟩
                  -- operation 3: Op.load 22 (tmp 120)
                  refine ⟨fun r wx hG hs hq hf => ?_, ?_⟩
                  · have h2 : r 120 = .pointer (some ⟨w.heap.size, 1, none⟩) := hf.1
                    refine (if_pos rfl).symm ▸ ?_
                    clear hs hq hf
                    unfold gives
                    obtain ⟨m1, m2, m3, e0, e1, e2, m7, m8, m9⟩ := hG.1
                    go_simp
                    exact ⟨rmk_refl _ _ _ _, rfl⟩
                  -- operation 4: Op.move (tmp 19)
                  refine ⟨fun r wx hG hs hq hf => ?_, ?_⟩
                  · have hQ := hq rfl
                    have e19 : r 19 = .slice ak (n + j) ck := hs 19 rfl
                    refine (if_pos rfl).symm ▸ ?_
                    clear hs hq hf
                    unfold gives
                    go_simp
                    exact ⟨rmk_refl _ _ _ _, rfl⟩
                  -- operation 5: Op.move (tmp 3)
                  refine ⟨fun r wx hG hs hq hf => ?_, ?_⟩
                  · have hQ := hq rfl
                    have e3 : r 3 = .slice (some ⟨q4, o4, none⟩) ls'.length c3 := hs 3 rfl
                    refine (if_pos rfl).symm ▸ ?_
                    clear hs hq hf
                    unfold gives
                    go_simp
                    exact ⟨rmk_refl _ _ _ _, rfl⟩
                  -- operation 6: Op.move (tmp 15)
                  refine ⟨fun r wx hG hs hq hf => ?_, ?_⟩
                  · have hQ := hq rfl
                    have e15 : r 15 = .int .i64 j := hs 15 rfl
                    refine (if_pos rfl).symm ▸ ?_
                    clear hs hq hf
                    unfold gives
                    go_simp
                    exact ⟨rmk_refl _ _ _ _, rfl⟩
                  -- operation 7: Op.slice 23 (tmp 123) (some (tmp 124)) none none
                  refine ⟨fun r wx hG hs hq hf => ?_, ?_⟩
                  · have hQ := hq rfl
                    have h5 : r 123 = .slice (some ⟨q4, o4, none⟩) ls'.length c3 := hf.1
                    have h6 : r 124 = .int .i64 j := hf.2.1
                    refine (if_pos rfl).symm ▸ ?_
                    clear hs hq hf
                    unfold gives
                    have z1 : (0 : Int) ≤ (j : Int) := by omega
                    have z2 : (j : Int) ≤ (ls'.length : Int) := by omega
                    have z3 : (j : Int) ≤ (c3 : Int) := by omega
                    have z4 : ¬ c3 = j := by omega
                    have z5 : ls'.length - j = r1 := by have := HR1.out; omega
                    go_simp
                    exact ⟨rmk_refl _ _ _ _, rfl⟩
                  -- operation 8: Op.call ( callee := Callee.builtin Builtin.append, args := #[tmp 122, tmp 125], argTypes := #[23, 23] )
                  refine ⟨fun r wx hG hs hq hf => ?_, ?_⟩
                  · have hQ := hq rfl
                    have h4 : r 122 = .slice ak (n + j) ck := hf.1
                    have h7 : r 125 = .slice (some ⟨q4, o4 + j * 6, none⟩) r1 (c3 - j) := hf.2.1
                    refine (if_pos rfl).symm ▸ ?_
                    clear hs hq hf
                    unfold gives
                    refine gives_app (n := n + j) (m := r1) Try.underlying23 infoEnt rfl (by decide) _ _ rfl h4 h7 hQ (hsubw.keep hG.1.1) (by have := HR1.out; omega) (by have := HR1.out; omega) hG.2 ?_
                    intro v' wy ho hg _
                    obtain ⟨a9, c9, rfl⟩ := own_form ho
                    exact ⟨rmk_app (hg.below hG.2 (own_block hQ)), a9, c9, rfl, ho⟩
                  -- operation 9: Op.build 25 #[(0, tmp 119), (1, tmp 121), (2, tmp 126)]
                  refine ⟨fun r wx hG hs hq hf => ?_, ?_⟩
                  · have h1 : r 119 = .int .u64 b := hf.1
                    have h3 : r 121 = .int .u64 bt := hf.2.1
                    have h8 : ∃ a9 c9, (r 126) = .slice a9 (n + j + r1) c9 ∧ wx.ownsRow B2 31 6 (.slice a9 (n + j + r1) c9) (n + j + r1) (ecells (es.take (n + j)) ++ ecells (ls'.drop j)) := hf.2.2.1
                    refine (if_pos rfl).symm ▸ ?_
                    clear hs hq hf
                    unfold gives
                    obtain ⟨a9, c9, h8, ho⟩ := h8
                    go_simp
                    exact ⟨rmk_refl _ _ _ _, a9, c9, rfl, ho⟩
                  -- operation 10: Op.move (tmp 18)
                  refine ⟨fun r wx hG hs hq hf => ?_, ?_⟩
                  · have e18 : r 18 = .int .u64 F := hs 18 rfl
                    refine (if_pos rfl).symm ▸ ?_
                    clear hs hq hf
                    unfold gives
                    go_simp
                    exact ⟨rmk_refl _ _ _ _, rfl⟩
                  -- operation 11: Op.move (tmp 14)
                  refine ⟨fun r wx hG hs hq hf => ?_, ?_⟩
                  · have e14 : r 14 = .int .u64 E := hs 14 rfl
                    refine (if_pos rfl).symm ▸ ?_
                    clear hs hq hf
                    unfold gives
                    go_simp
                    exact ⟨rmk_refl _ _ _ _, rfl⟩
                  -- operation 12: Op.store 25 (tmp 8) (tmp 127)
                  refine ⟨fun r wx hG hs hq hf => ?_, ?_⟩
                  · have e8 : r 8 = .pointer (some ⟨w.heap.size + 1, 0, none⟩) := hs 8 rfl
                    have h9 : ∃ a9 c9, (r 127) = .agg #[.int .u64 b, .int .u64 bt, .slice a9 (n + j + r1) c9] ∧ wx.ownsRow B2 31 6 (.slice a9 (n + j + r1) c9) (n + j + r1) (ecells (es.take (n + j)) ++ ecells (ls'.drop j)) := hf.1
                    have h8 : ∃ a9 c9, (r 126) = .slice a9 (n + j + r1) c9 ∧ wx.ownsRow B2 31 6 (.slice a9 (n + j + r1) c9) (n + j + r1) (ecells (es.take (n + j)) ++ ecells (ls'.drop j)) := hf.2.1
                    refine (if_pos rfl).symm ▸ ?_
                    clear hs hq hf
                    unfold gives
                    obtain ⟨a9, c9, h9, ho⟩ := h9
                    have hM := hG.1
                    obtain ⟨m1, m2, m3, e0, e1, e2, ⟨x0, x1, x2, c0, c1, c2⟩, f0, f1, f2, f3⟩ := hM
                    go_simp
                    obtain ⟨g0, g1, g2⟩ := mset_cells (x := .int .u64 b) (y := .int .u64 bt) (z := .slice a9 (n + j + r1) c9) c0 c1 c2
                    exact ⟨rmk_set _ _ _ _ _ _, a9, c9, g0, g1, g2, ownsRow_setCell_below (a := ⟨w.heap.size + 1, 2, none⟩) (ownsRow_setCell_below (a := ⟨w.heap.size + 1, 1, none⟩) (ownsRow_setCell_below (a := ⟨w.heap.size + 1, 0, none⟩) ho hPB _) hPB _) hPB _⟩
                  -- operation 13: Op.assign (tmp 128)
                  refine ⟨fun r wx hG hs hq hf => ?_, ?_⟩
                  · have h10 : r 128 = .int .u64 F := hf.1
                    have h12 : ∃ a9 c9, wx.cell? ⟨w.heap.size + 1, 0, none⟩ = some (.int .u64 b) ∧ wx.cell? ⟨w.heap.size + 1, 1, none⟩ = some (.int .u64 bt) ∧ wx.cell? ⟨w.heap.size + 1, 2, none⟩ = some (.slice a9 (n + j + r1) c9) ∧ wx.ownsRow B2 31 6 (.slice a9 (n + j + r1) c9) (n + j + r1) (ecells (es.take (n + j)) ++ ecells (ls'.drop j)) := hf.2.1
                    refine (if_pos rfl).symm ▸ ?_
                    clear hs hq hf
                    unfold gives
                    go_simp
                    exact ⟨rmk_refl _ _ _ _, rfl, h12⟩
                  -- operation 14: Op.assign (tmp 129)
                  refine ⟨fun r wx hG hs hq hf => ?_, ?_⟩
                  · have h11 : r 129 = .int .u64 E := hf.1
                    have h13 : (r 9) = .int .u64 F ∧ ∃ a9 c9, wx.cell? ⟨w.heap.size + 1, 0, none⟩ = some (.int .u64 b) ∧ wx.cell? ⟨w.heap.size + 1, 1, none⟩ = some (.int .u64 bt) ∧ wx.cell? ⟨w.heap.size + 1, 2, none⟩ = some (.slice a9 (n + j + r1) c9) ∧ wx.ownsRow B2 31 6 (.slice a9 (n + j + r1) c9) (n + j + r1) (ecells (es.take (n + j)) ++ ecells (ls'.drop j)) := hf.2.1
                    refine (if_pos rfl).symm ▸ ?_
                    clear hs hq hf
                    unfold gives
                    go_simp
                    exact ⟨rmk_refl _ _ _ _, rfl⟩
                  -- operation 15: Op.assign (const (Value.bool true))
                  refine ⟨fun r wx hG hs hq hf => ?_, ?_⟩
                  · refine (if_pos rfl).symm ▸ ?_
                    clear hs hq hf
                    unfold gives
                    go_simp
                    exact ⟨rmk_refl _ _ _ _, rfl⟩
                  exact trivial
                case hend =>
                  intro u wz hG hfin
                  have z13 : (u 13) = .int .u64 F ∧ ∃ a9 c9, wz.cell? ⟨w.heap.size + 1, 0, none⟩ = some (.int .u64 b) ∧ wz.cell? ⟨w.heap.size + 1, 1, none⟩ = some (.int .u64 bt) ∧ wz.cell? ⟨w.heap.size + 1, 2, none⟩ = some (.slice a9 (n + j + r1) c9) ∧ wz.ownsRow B2 31 6 (.slice a9 (n + j + r1) c9) (n + j + r1) (ecells (es.take (n + j)) ++ ecells (ls'.drop j)) := hfin 13 (by decide) (by kernel_rfl)
                  have z14 : u 14 = .int .u64 E := hfin 14 (by decide) (by kernel_rfl)
                  have z15 : u 15 = .bool true := hfin 15 (by decide) (by kernel_rfl)
                  clear hfin
                  simp only [fill]
                  obtain ⟨z13, a9, c9, d0, d1, d2, ho⟩ := z13
                  have hbl := hG.1.1
                  have hrd := own_rd ho hone
                  clear hG ho
                  go_simp
                  go_wp2_with fail
                  refine bodyPost_ret (v := .tuple #[.agg #[.int .u64 b, .int .u64 bt, .slice a9 (n + j + r1) c9], .int .u64 F, .int .u64 E, .bool true]) (by simp [results, Try.results10, go_sem, d0, d1, d2]) rfl ⟨.slice a9 (n + j + r1) c9, by rw [HMV.out], by rw [HMV.out]; show Rd _ 6 _ (es.take (n + j) ++ ls'.drop j).length (ecells (es.take (n + j) ++ ls'.drop j)); rw [← HL2.out, ecells_append]; exact hrd, hbl⟩
            · have hst := cp_stop es ls' n j hcp (.inr (.inl (by omega)))
              have hTv : termP b bt es F = (0, false) := by
                have := HIN.out
                rw [HHF.out]
                unfold termP
                rw [if_neg (by omega), if_neg (by omega)]
              rw [hTv] at hT
              have HT2 := Lib.hid hT
              have hMv : M = ⟨b, bt, es.take (n + j) ++ ls'.drop j, i' + 1 + j, E, true⟩ := by rw [HQ.out, hst, if_neg (by omega)]
              have hnj : n + j ≤ es.length := by have := (cp_le (es.drop n) ls').1; rw [hst] at this; simp at this; omega
              have HMV := Lib.hid hMv
              obtain ⟨_, _, ho4, _, hsubw⟩ := rd_sub hr3 j hj (by omega)
              simp only [Option.some.injEq, Addr.mk.injEq, and_true] at ho4
              obtain ⟨rfl, rfl⟩ := ho4
              rw [← ecells_drop] at hsubw
              obtain ⟨r1, hr1⟩ : ∃ r1, r1 = ls'.length - j := ⟨_, rfl⟩
              rw [← hr1] at hsubw
              have htk := (hr.takeN (n + j) hnj)
              rw [← ecells_take] at htk
              have hcap := hr.cap
              have hw5 : IntKind.u64.wrap ((F : Int) - (b : Int)) = (n : Int) + (j : Int) + 1 := by have := HIN.out; have := HHF.out; rw [IntWalk.u64_in _ (by omega)]; omega
              have hw6 : IntKind.u64.wrap ((n : Int) + (j : Int) + 1 - 1) = (n : Int) + (j : Int) := by rw [IntWalk.u64_in _ (by omega)]; omega
              have hMvF : M = ⟨b, bt, es.take (n + j) ++ ls'.drop j, F, E, true⟩ := by rw [hMv, HHF.out]
              have HMV := Lib.hid hMvF
              have hnej : ((j : Int) == (ls'.length : Int)) = false := by simp; omega
              have hle1 : ((n : Int) + (j : Int)) ≤ (es.length : Int) := by omega
              have hle2 : ((n : Int) + (j : Int)) ≤ (c : Int) := by omega
              have hnj0 : (0 : Int) ≤ (n : Int) + (j : Int) := by omega
              clear hMv hMvF hst hT hTv hcp hl HQ h2
              have hone : ∀ u ∈ ecells (es.take (n + j)) ++ ecells (ls'.drop j), u.oneCell' = true := by
                intro u hu
                rcases List.mem_append.1 hu with hu | hu
                · exact htk.2.1 u hu
                · exact hsubw.2.1 u hu
              have hl2 : n + j + r1 = (es.take (n + j) ++ ls'.drop j).length := by simp; omega
              have HL2 := Lib.hid hl2
              have HR1 := Lib.hid hr1
              have HONE := Lib.hid hone
              clear hl2 hr1 hone
              go_wp2_with fail
              refine HT2.out.mono ?_
              rintro e w2 ⟨rfl, hb2⟩
              have k0 := KK.out w2 (HMW.out.keep hb2).1
              have hMW2 := HMW.out.keep hb2
              have HM2 := Lib.hid hMW2
              obtain ⟨B2, hB2⟩ : ∃ B2, B2 = w2.heap.size := ⟨_, rfl⟩
              have hAB : w.heap.size < B2 := by rw [hB2]; exact hMW2.2.1
              have hPB : w.heap.size + 1 < B2 := by rw [hB2]; exact hMW2.2.2.1
              have HB2 := Lib.hid hB2
              have hbal : Below w2.heap.size w2 (w2.alloc (.cells #[] 31)) := (Below.refl _ _).alloc (Nat.le_refl _) _
              have hemp := own_new w2 31 6 0 B2 [] (by simp) (by omega) (by rw [hB2]; exact Nat.le_refl _)
              have htk2 : Rd (w2.alloc (.cells #[] 31)) 6 (.slice a (n + j) c) (n + j) (ecells (es.take (n + j))) := (htk.keep hMW2.1).alloc _
              have hBz : B2 ≤ (w2.alloc (.cells #[] 31)).heap.size := by rw [hB2]; exact hbal.size
              clear e0 e1 e2 c0 c1 c2 f0 f1 f2 f3 m1 m2 m3 hb2 hB2 HT2 HMW hMW2
              obtain ⟨m1, m2, m3, e0, e1, e2, ⟨x0, x1, x2, c0, c1, c2⟩, f0, f1, f2, f3⟩ := HM2.out
              go_wp2_with (at_builtin; refine wpList_app Try.underlying23 infoEnt rfl (by decide) rfl _ _ rfl rfl rfl hemp htk2 (by omega) (by omega) hBz ?_)
              intro v5 w5 hown5 hg5 _
              obtain ⟨ak, ck, rfl⟩ := own_form hown5
              have hMW5 := (HM2.out.keep hbal).keepB (hg5.below hBz (own_block hemp)) hAB hPB (by omega)
              have hB5 : B2 ≤ w5.heap.size := Nat.le_trans hBz hg5.grown.size
              have hone := HONE.out
              clear e0 e1 e2 c0 c1 c2 f0 f1 f2 f3 m1 m2 m3 HM2 hemp htk2 hBz hbal hg5 HONE
              obtain ⟨m1, m2, m3, e0, e1, e2, ⟨x0, x1, x2, c0, c1, c2⟩, f0, f1, f2, f3⟩ := Lib.hid hMW5 |>.out
              go_wp2_with fail
              refine wp_region_until [some 118, some 119, some 120, some 121, some 122, some 123, some 124, some 125, some 126, some 127, some 128, some 129, none, some 9, some 10, some 11] [] 8 (fun wx => wx.ownsRow B2 31 6 (.slice ak (n + j) ck) (n + j) (ecells (es.take (n + j)))) [4, 5, 6, 7, 8] (mrF w.heap.size (w.heap.size + 1) B2 b bt n j r1 es ls' (.slice ak (n + j) ck) q4 o4 ls'.length c3 F E) (rmK (w.heap.size + 1) B2) (fun wx => MW w w.heap.size (w.heap.size + 1) b bt (.slice a es.length c) wx ∧ B2 ≤ wx.heap.size) (by kernel_rfl) (by kernel_rfl) rfl (by kernel_rfl) (by kernel_rfl) ⟨hMW5.drew, hB5⟩ hown5.drew (fun j hj wx wy k h => rmK_own hPB hj k h) (rmk_refl _ _) (fun j wx wy h k => rmK_mw hAB hPB h k) ?hF ?hstep ?hend
              case hF =>
                exact ⟨fun _ _ _ _ _ _ h => h, ⟨fun _ _ _ _ _ _ h => h, ⟨fun _ _ _ _ _ _ h => h, ⟨fun _ _ _ _ _ _ h => h, ⟨fun _ _ _ _ _ _ h => h, ⟨fun _ _ _ _ _ _ h => h, ⟨fun _ _ _ _ _ _ h => h, ⟨fun _ _ _ _ _ _ h => h, ⟨fun j hg _ _ _ k h => by
                    have kb := rmK_below (fun e => by subst e; exact absurd hg (by rw [show goneB _ 8 8 = true by kernel_rfl]; simp)) (fun e => by subst e; exact absurd hg (by rw [show goneB _ 8 12 = true by kernel_rfl]; simp)) k
                    obtain ⟨a9, c9, h1, ho⟩ := h
                    exact ⟨a9, c9, h1, own_keep ho kb⟩, ⟨fun j hg _ _ _ k h => by
                    have kb := rmK_below (fun e => by subst e; exact absurd hg (by rw [show goneB _ 9 8 = true by kernel_rfl]; simp)) (fun e => by subst e; exact absurd hg (by rw [show goneB _ 9 12 = true by kernel_rfl]; simp)) k
                    obtain ⟨a9, c9, h1, ho⟩ := h
                    exact ⟨a9, c9, h1, own_keep ho kb⟩, ⟨fun _ _ _ _ _ _ h => h, ⟨fun _ _ _ _ _ _ h => h, ⟨fun j hg _ _ _ k h => by
                    have kb := rmK_below (fun e => by subst e; exact absurd hg (by rw [show goneB _ 12 8 = true by kernel_rfl]; simp)) (fun e => by subst e; exact absurd hg (by rw [show goneB _ 12 12 = true by kernel_rfl]; simp)) k
                    obtain ⟨a9, c9, h0, h1, h2, ho⟩ := h
                    exact ⟨a9, c9, (kb.cell (World.block_lt_of_cell? _ _ h0)).trans h0, (kb.cell (World.block_lt_of_cell? _ _ h1)).trans h1, (kb.cell (World.block_lt_of_cell? _ _ h2)).trans h2, own_keep ho kb⟩, ⟨fun j hg _ _ _ k h => by
                    have kb := rmK_below (fun e => by subst e; exact absurd hg (by rw [show goneB _ 13 8 = true by kernel_rfl]; simp)) (fun e => by subst e; exact absurd hg (by rw [show goneB _ 13 12 = true by kernel_rfl]; simp)) k
                    obtain ⟨hv, a9, c9, h0, h1, h2, ho⟩ := h
                    exact ⟨hv, a9, c9, (kb.cell (World.block_lt_of_cell? _ _ h0)).trans h0, (kb.cell (World.block_lt_of_cell? _ _ h1)).trans h1, (kb.cell (World.block_lt_of_cell? _ _ h2)).trans h2, own_keep ho kb⟩, ⟨fun _ _ _ _ _ _ h => h, ⟨fun _ _ _ _ _ _ h => h, trivial⟩⟩⟩⟩⟩⟩⟩⟩⟩⟩⟩⟩⟩⟩⟩⟩
              case hstep =>
                -- operation 0: Op.fieldAddr 25 (tmp 4) 0
                refine ⟨fun r wx hG hs hq hf => ?_, ?_⟩
                · have e4 : r 4 = .pointer (some ⟨w.heap.size, 0, none⟩) := hs 4 rfl
                  refine (if_pos rfl).symm ▸ ?_
                  clear hs hq hf
                  unfold gives
                  go_simp
                  exact ⟨rmk_refl _ _ _ _, rfl⟩
                -- operation 1: Op.load 22 (tmp 118)
                refine ⟨fun r wx hG hs hq hf => ?_, ?_⟩
                · have h0 : r 118 = .pointer (some ⟨w.heap.size, 0, none⟩) := hf.1
                  refine (if_pos rfl).symm ▸ ?_
                  clear hs hq hf
                  unfold gives
                  obtain ⟨m1, m2, m3, e0, e1, e2, m7, m8, m9⟩ := hG.1
                  go_simp
                  exact ⟨rmk_refl _ _ _ _, rfl⟩
                -- operation 2: Op.fieldAddr 25 (tmp 4) 1
                refine ⟨fun r wx hG hs hq hf => ?_, ?_⟩
                · have e4 : r 4 = .pointer (some ⟨w.heap.size, 0, none⟩) := hs 4 rfl
                  refine (if_pos rfl).symm ▸ ?_
                  clear hs hq hf
                  unfold gives
                  go_simp
                  exact ⟨rmk_refl _ _ _ _, rfl⟩
                -- operation 3: Op.load 22 (tmp 120)
                refine ⟨fun r wx hG hs hq hf => ?_, ?_⟩
                · have h2 : r 120 = .pointer (some ⟨w.heap.size, 1, none⟩) := hf.1
                  refine (if_pos rfl).symm ▸ ?_
                  clear hs hq hf
                  unfold gives
                  obtain ⟨m1, m2, m3, e0, e1, e2, m7, m8, m9⟩ := hG.1
                  go_simp
                  exact ⟨rmk_refl _ _ _ _, rfl⟩
                -- operation 4: Op.move (tmp 19)
                refine ⟨fun r wx hG hs hq hf => ?_, ?_⟩
                · have hQ := hq rfl
                  have e19 : r 19 = .slice ak (n + j) ck := hs 19 rfl
                  refine (if_pos rfl).symm ▸ ?_
                  clear hs hq hf
                  unfold gives
                  go_simp
                  exact ⟨rmk_refl _ _ _ _, rfl⟩
                -- operation 5: Op.move (tmp 3)
                refine ⟨fun r wx hG hs hq hf => ?_, ?_⟩
                · have hQ := hq rfl
                  have e3 : r 3 = .slice (some ⟨q4, o4, none⟩) ls'.length c3 := hs 3 rfl
                  refine (if_pos rfl).symm ▸ ?_
                  clear hs hq hf
                  unfold gives
                  go_simp
                  exact ⟨rmk_refl _ _ _ _, rfl⟩
                -- operation 6: Op.move (tmp 15)
                refine ⟨fun r wx hG hs hq hf => ?_, ?_⟩
                · have hQ := hq rfl
                  have e15 : r 15 = .int .i64 j := hs 15 rfl
                  refine (if_pos rfl).symm ▸ ?_
                  clear hs hq hf
                  unfold gives
                  go_simp
                  exact ⟨rmk_refl _ _ _ _, rfl⟩
                -- operation 7: Op.slice 23 (tmp 123) (some (tmp 124)) none none
                refine ⟨fun r wx hG hs hq hf => ?_, ?_⟩
                · have hQ := hq rfl
                  have h5 : r 123 = .slice (some ⟨q4, o4, none⟩) ls'.length c3 := hf.1
                  have h6 : r 124 = .int .i64 j := hf.2.1
                  refine (if_pos rfl).symm ▸ ?_
                  clear hs hq hf
                  unfold gives
                  have z1 : (0 : Int) ≤ (j : Int) := by omega
                  have z2 : (j : Int) ≤ (ls'.length : Int) := by omega
                  have z3 : (j : Int) ≤ (c3 : Int) := by omega
                  have z4 : ¬ c3 = j := by omega
                  have z5 : ls'.length - j = r1 := by have := HR1.out; omega
                  go_simp
                  exact ⟨rmk_refl _ _ _ _, rfl⟩
                -- operation 8: Op.call ( callee := Callee.builtin Builtin.append, args := #[tmp 122, tmp 125], argTypes := #[23, 23] )
                refine ⟨fun r wx hG hs hq hf => ?_, ?_⟩
                · have hQ := hq rfl
                  have h4 : r 122 = .slice ak (n + j) ck := hf.1
                  have h7 : r 125 = .slice (some ⟨q4, o4 + j * 6, none⟩) r1 (c3 - j) := hf.2.1
                  refine (if_pos rfl).symm ▸ ?_
                  clear hs hq hf
                  unfold gives
                  refine gives_app (n := n + j) (m := r1) Try.underlying23 infoEnt rfl (by decide) _ _ rfl h4 h7 hQ (hsubw.keep hG.1.1) (by have := HR1.out; omega) (by have := HR1.out; omega) hG.2 ?_
                  intro v' wy ho hg _
                  obtain ⟨a9, c9, rfl⟩ := own_form ho
                  exact ⟨rmk_app (hg.below hG.2 (own_block hQ)), a9, c9, rfl, ho⟩
                -- operation 9: Op.build 25 #[(0, tmp 119), (1, tmp 121), (2, tmp 126)]
                refine ⟨fun r wx hG hs hq hf => ?_, ?_⟩
                · have h1 : r 119 = .int .u64 b := hf.1
                  have h3 : r 121 = .int .u64 bt := hf.2.1
                  have h8 : ∃ a9 c9, (r 126) = .slice a9 (n + j + r1) c9 ∧ wx.ownsRow B2 31 6 (.slice a9 (n + j + r1) c9) (n + j + r1) (ecells (es.take (n + j)) ++ ecells (ls'.drop j)) := hf.2.2.1
                  refine (if_pos rfl).symm ▸ ?_
                  clear hs hq hf
                  unfold gives
                  obtain ⟨a9, c9, h8, ho⟩ := h8
                  go_simp
                  exact ⟨rmk_refl _ _ _ _, a9, c9, rfl, ho⟩
                -- operation 10: Op.move (tmp 18)
                refine ⟨fun r wx hG hs hq hf => ?_, ?_⟩
                · have e18 : r 18 = .int .u64 F := hs 18 rfl
                  refine (if_pos rfl).symm ▸ ?_
                  clear hs hq hf
                  unfold gives
                  go_simp
                  exact ⟨rmk_refl _ _ _ _, rfl⟩
                -- operation 11: Op.move (tmp 14)
                refine ⟨fun r wx hG hs hq hf => ?_, ?_⟩
                · have e14 : r 14 = .int .u64 E := hs 14 rfl
                  refine (if_pos rfl).symm ▸ ?_
                  clear hs hq hf
                  unfold gives
                  go_simp
                  exact ⟨rmk_refl _ _ _ _, rfl⟩
                -- operation 12: Op.store 25 (tmp 8) (tmp 127)
                refine ⟨fun r wx hG hs hq hf => ?_, ?_⟩
                · have e8 : r 8 = .pointer (some ⟨w.heap.size + 1, 0, none⟩) := hs 8 rfl
                  have h9 : ∃ a9 c9, (r 127) = .agg #[.int .u64 b, .int .u64 bt, .slice a9 (n + j + r1) c9] ∧ wx.ownsRow B2 31 6 (.slice a9 (n + j + r1) c9) (n + j + r1) (ecells (es.take (n + j)) ++ ecells (ls'.drop j)) := hf.1
                  have h8 : ∃ a9 c9, (r 126) = .slice a9 (n + j + r1) c9 ∧ wx.ownsRow B2 31 6 (.slice a9 (n + j + r1) c9) (n + j + r1) (ecells (es.take (n + j)) ++ ecells (ls'.drop j)) := hf.2.1
                  refine (if_pos rfl).symm ▸ ?_
                  clear hs hq hf
                  unfold gives
                  obtain ⟨a9, c9, h9, ho⟩ := h9
                  have hM := hG.1
                  obtain ⟨m1, m2, m3, e0, e1, e2, ⟨x0, x1, x2, c0, c1, c2⟩, f0, f1, f2, f3⟩ := hM
                  go_simp
                  obtain ⟨g0, g1, g2⟩ := mset_cells (x := .int .u64 b) (y := .int .u64 bt) (z := .slice a9 (n + j + r1) c9) c0 c1 c2
                  exact ⟨rmk_set _ _ _ _ _ _, a9, c9, g0, g1, g2, ownsRow_setCell_below (a := ⟨w.heap.size + 1, 2, none⟩) (ownsRow_setCell_below (a := ⟨w.heap.size + 1, 1, none⟩) (ownsRow_setCell_below (a := ⟨w.heap.size + 1, 0, none⟩) ho hPB _) hPB _) hPB _⟩
                -- operation 13: Op.assign (tmp 128)
                refine ⟨fun r wx hG hs hq hf => ?_, ?_⟩
                · have h10 : r 128 = .int .u64 F := hf.1
                  have h12 : ∃ a9 c9, wx.cell? ⟨w.heap.size + 1, 0, none⟩ = some (.int .u64 b) ∧ wx.cell? ⟨w.heap.size + 1, 1, none⟩ = some (.int .u64 bt) ∧ wx.cell? ⟨w.heap.size + 1, 2, none⟩ = some (.slice a9 (n + j + r1) c9) ∧ wx.ownsRow B2 31 6 (.slice a9 (n + j + r1) c9) (n + j + r1) (ecells (es.take (n + j)) ++ ecells (ls'.drop j)) := hf.2.1
                  refine (if_pos rfl).symm ▸ ?_
                  clear hs hq hf
                  unfold gives
                  go_simp
                  exact ⟨rmk_refl _ _ _ _, rfl, h12⟩
                -- operation 14: Op.assign (tmp 129)
                refine ⟨fun r wx hG hs hq hf => ?_, ?_⟩
                · have h11 : r 129 = .int .u64 E := hf.1
                  have h13 : (r 9) = .int .u64 F ∧ ∃ a9 c9, wx.cell? ⟨w.heap.size + 1, 0, none⟩ = some (.int .u64 b) ∧ wx.cell? ⟨w.heap.size + 1, 1, none⟩ = some (.int .u64 bt) ∧ wx.cell? ⟨w.heap.size + 1, 2, none⟩ = some (.slice a9 (n + j + r1) c9) ∧ wx.ownsRow B2 31 6 (.slice a9 (n + j + r1) c9) (n + j + r1) (ecells (es.take (n + j)) ++ ecells (ls'.drop j)) := hf.2.1
                  refine (if_pos rfl).symm ▸ ?_
                  clear hs hq hf
                  unfold gives
                  go_simp
                  exact ⟨rmk_refl _ _ _ _, rfl⟩
                -- operation 15: Op.assign (const (Value.bool true))
                refine ⟨fun r wx hG hs hq hf => ?_, ?_⟩
                · refine (if_pos rfl).symm ▸ ?_
                  clear hs hq hf
                  unfold gives
                  go_simp
                  exact ⟨rmk_refl _ _ _ _, rfl⟩
                exact trivial
              case hend =>
                intro u wz hG hfin
                have z13 : (u 13) = .int .u64 F ∧ ∃ a9 c9, wz.cell? ⟨w.heap.size + 1, 0, none⟩ = some (.int .u64 b) ∧ wz.cell? ⟨w.heap.size + 1, 1, none⟩ = some (.int .u64 bt) ∧ wz.cell? ⟨w.heap.size + 1, 2, none⟩ = some (.slice a9 (n + j + r1) c9) ∧ wz.ownsRow B2 31 6 (.slice a9 (n + j + r1) c9) (n + j + r1) (ecells (es.take (n + j)) ++ ecells (ls'.drop j)) := hfin 13 (by decide) (by kernel_rfl)
                have z14 : u 14 = .int .u64 E := hfin 14 (by decide) (by kernel_rfl)
                have z15 : u 15 = .bool true := hfin 15 (by decide) (by kernel_rfl)
                clear hfin
                simp only [fill]
                obtain ⟨z13, a9, c9, d0, d1, d2, ho⟩ := z13
                have hbl := hG.1.1
                have hrd := own_rd ho hone
                clear hG ho
                go_simp
                go_wp2_with fail
                refine bodyPost_ret (v := .tuple #[.agg #[.int .u64 b, .int .u64 bt, .slice a9 (n + j + r1) c9], .int .u64 F, .int .u64 E, .bool true]) (by simp [results, Try.results10, go_sem, d0, d1, d2]) rfl ⟨.slice a9 (n + j + r1) c9, by rw [HMV.out], by rw [HMV.out]; show Rd _ 6 _ (es.take (n + j) ++ ls'.drop j).length (ecells (es.take (n + j) ++ ls'.drop j)); rw [← HL2.out, ecells_append]; exact hrd, hbl⟩
          · have hst := cp_stop es ls' n j hcp (.inl (by omega))
            obtain rfl : j = ls'.length := by omega
            have hMv : M = ⟨b, bt, es, b + es.length + 1, E, true⟩ := by rw [HQ.out, hst, if_pos (by omega)]
            have HMV := Lib.hid hMv
            have hz1 : ¬ (ls'.length : Int) < (ls'.length : Int) := by omega
            clear hst hMv hcp HQ
            go_wp2_with fail
            obtain ⟨w2, hw2⟩ : ∃ x : World, x = wr := ⟨_, rfl⟩
            have hMW := HMW.out
            rw [← hw2] at hMW ⊢
            clear e0 e1 e2 c0 c1 c2 f0 f1 f2 f3 m1 m2 m3 hw2
            refine wp_region_steps [some 98, some 99, some 100, some 101, some 102, none, some 9, some 10, some 11] [] (mrB (w.heap.size + 1) b bt es a c E) (mK 5 (w.heap.size + 1) b bt (.slice a es.length c)) (fun wx => MW w w.heap.size (w.heap.size + 1) b bt (.slice a es.length c) wx) (by kernel_rfl) (by kernel_rfl) rfl (by kernel_rfl) hMW.drew (mk_refl _ _ _ _ _) (fun j wx wy h k => MW.step h k) ?hF ?hstep ?hend
            case hF =>
              exact ⟨fun _ _ _ _ _ _ h => h, ⟨fun _ _ _ _ _ _ h => h, ⟨fun _ _ _ _ _ _ h => h, ⟨fun _ _ _ _ _ _ h => h, ⟨fun _ _ _ _ _ _ h => h, ⟨fun j hg _ _ _ k h => mcells_keep (fun e => by subst e; exact absurd hg (by rw [show goneB _ 5 5 = true by kernel_rfl]; simp)) k h, ⟨fun j hg _ _ _ k h => ⟨h.1, mcells_keep (fun e => by subst e; exact absurd hg (by rw [show goneB _ 6 5 = true by kernel_rfl]; simp)) k h.2⟩, ⟨fun _ _ _ _ _ _ h => h, ⟨fun _ _ _ _ _ _ h => h, trivial⟩⟩⟩⟩⟩⟩⟩⟩⟩
            case hstep =>
              -- operation 0: Op.load 25 (tmp 4)
              refine ⟨fun r wx hG hs hq hf => ?_, ?_⟩
              · have e4 : r 4 = .pointer (some ⟨w.heap.size, 0, none⟩) := hs 4 rfl
                refine (if_pos rfl).symm ▸ ?_
                clear hs hq hf
                unfold gives
                obtain ⟨m1, m2, m3, e0, e1, e2, m7, m8, m9⟩ := hG
                go_simp
                exact ⟨mk_refl _ _ _ _ _ _ _, rfl⟩
              -- operation 1: Op.load 25 (tmp 4)
              refine ⟨fun r wx hG hs hq hf => ?_, ?_⟩
              · have e4 : r 4 = .pointer (some ⟨w.heap.size, 0, none⟩) := hs 4 rfl
                refine (if_pos rfl).symm ▸ ?_
                clear hs hq hf
                unfold gives
                obtain ⟨m1, m2, m3, e0, e1, e2, m7, m8, m9⟩ := hG
                go_simp
                exact ⟨mk_refl _ _ _ _ _ _ _, rfl⟩
              -- operation 2: Op.call ( callee := Callee.value (func 18), args := #[tmp 99], argTypes := #[25] )
              refine ⟨fun r wx hG hs hq hf => ?_, ?_⟩
              · have h1 : r 99 = .agg #[.int .u64 b, .int .u64 bt, .slice a es.length c] := hf.1
                refine (if_pos rfl).symm ▸ ?_
                clear hs hq hf
                unfold gives
                have hM := hG
                obtain ⟨m1, m2, m3, e0, e1, e2, m7, m8, m9⟩ := hG
                go_simp
                refine (RLast_any b bt es.length c a wx hb hl).mono ?_
                rintro e wy ⟨rfl, hb1⟩
                exact ⟨_, rfl, hb1, rfl⟩
              -- operation 3: Op.binOp BinOp.add 22 (tmp 100) (const (Value.int IntKind.u64 1)) 22
              refine ⟨fun r wx hG hs hq hf => ?_, ?_⟩
              · have h2 : r 100 = .int .u64 ((b + es.length : Nat) : Int) := hf.1
                refine (if_pos rfl).symm ▸ ?_
                clear hs hq hf
                unfold gives
                have hw : IntKind.u64.wrap ((b : Int) + (es.length : Int) + 1) = (b : Int) + (es.length : Int) + 1 := IntWalk.u64_in _ (by omega)
                go_simp
                exact ⟨mk_refl _ _ _ _ _ _ _, congrArg (Value.int .u64) (by omega)⟩
              -- operation 4: Op.move (tmp 14)
              refine ⟨fun r wx hG hs hq hf => ?_, ?_⟩
              · have e14 : r 14 = .int .u64 (E : Nat) := hs 14 rfl
                refine (if_pos rfl).symm ▸ ?_
                clear hs hq hf
                unfold gives
                go_simp
                exact ⟨mk_refl _ _ _ _ _ _ _, rfl⟩
              -- operation 5: Op.store 25 (tmp 8) (tmp 98)
              refine ⟨fun r wx hG hs hq hf => ?_, ?_⟩
              · have e8 : r 8 = .pointer (some ⟨w.heap.size + 1, 0, none⟩) := hs 8 rfl
                have h0 : r 98 = .agg #[.int .u64 b, .int .u64 bt, .slice a es.length c] := hf.1
                refine (if_pos rfl).symm ▸ ?_
                clear hs hq hf
                unfold gives
                have hM := hG
                obtain ⟨m1, m2, m3, e0, e1, e2, ⟨x0, x1, x2, c0, c1, c2⟩, f0, m9⟩ := hG
                have f1 := m9.1
                have f2 := m9.2.1
                go_simp
                exact ⟨mk_set _ _ _ _ _ _, mset_cells c0 c1 c2⟩
              -- operation 6: Op.assign (tmp 101)
              refine ⟨fun r wx hG hs hq hf => ?_, ?_⟩
              · have h3 : r 101 = .int .u64 ((b + es.length + 1 : Nat) : Int) := hf.1
                have h5 : wx.cell? ⟨w.heap.size + 1, 0, none⟩ = some (.int .u64 b) ∧ wx.cell? ⟨w.heap.size + 1, 1, none⟩ = some (.int .u64 bt) ∧ wx.cell? ⟨w.heap.size + 1, 2, none⟩ = some (.slice a es.length c) := hf.2.1
                refine (if_pos rfl).symm ▸ ?_
                clear hs hq hf
                unfold gives
                go_simp
                exact ⟨mk_refl _ _ _ _ _ _ _, rfl, h5⟩
              -- operation 7: Op.assign (tmp 102)
              refine ⟨fun r wx hG hs hq hf => ?_, ?_⟩
              · have h4 : r 102 = .int .u64 E := hf.1
                have h6 : (r 9) = .int .u64 ((b + es.length + 1 : Nat) : Int) ∧ wx.cell? ⟨w.heap.size + 1, 0, none⟩ = some (.int .u64 b) ∧ wx.cell? ⟨w.heap.size + 1, 1, none⟩ = some (.int .u64 bt) ∧ wx.cell? ⟨w.heap.size + 1, 2, none⟩ = some (.slice a es.length c) := hf.2.1
                refine (if_pos rfl).symm ▸ ?_
                clear hs hq hf
                unfold gives
                go_simp
                exact ⟨mk_refl _ _ _ _ _ _ _, rfl⟩
              -- operation 8: Op.assign (const (Value.bool true))
              refine ⟨fun r wx hG hs hq hf => ?_, ?_⟩
              · refine (if_pos rfl).symm ▸ ?_
                clear hs hq hf
                unfold gives
                go_simp
                exact ⟨mk_refl _ _ _ _ _ _ _, rfl⟩
              exact trivial
            case hend =>
              intro u wz hG hfin
              have z6 : (u 6) = .int .u64 ((b + es.length + 1 : Nat) : Int) ∧ wz.cell? ⟨w.heap.size + 1, 0, none⟩ = some (.int .u64 b) ∧ wz.cell? ⟨w.heap.size + 1, 1, none⟩ = some (.int .u64 bt) ∧ wz.cell? ⟨w.heap.size + 1, 2, none⟩ = some (.slice a es.length c) := hfin 6 (by decide) (by kernel_rfl)
              have z7 : u 7 = .int .u64 E := hfin 7 (by decide) (by kernel_rfl)
              have z8 : u 8 = .bool true := hfin 8 (by decide) (by kernel_rfl)
              clear hfin
              simp only [fill]
              obtain ⟨z6, d0, d1, d2⟩ := z6
              have hbl := hG.1
              clear hG
              go_simp
              go_wp2_with fail
              exact bodyPost_ret (v := .tuple #[.agg #[.int .u64 b, .int .u64 bt, .slice a es.length c], .int .u64 ((b + es.length + 1 : Nat) : Int), .int .u64 E, .bool true]) (by simp [results, Try.results10, go_sem, d0, d1, d2]) rfl ⟨.slice a es.length c, by rw [HMV.out], by rw [HMV.out]; exact hr.keep hbl, hbl⟩
      · have hz : mergeQ b bt es i' t' ls' = ⟨0, 0, [], 0, 0, false⟩ := by unfold mergeQ; rw [HTT.out, if_neg hok]
        have hMz : M = ⟨0, 0, [], 0, 0, false⟩ := by rw [← HM2.out]; exact hz
        have HMZ := Lib.hid hMz
        have hno : tok = false ∨ (tok = true ∧ ((tt : Int) != (t' : Int)) = true) := by
          cases tok
          · exact .inl rfl
          · right; refine ⟨rfl, ?_⟩
            simp only [Prod.mk.injEq, and_true] at hok
            simp; omega
        obtain ⟨m1, m2, m3, e0, e1, e2, ⟨x0, x1, x2, c0, c1, c2⟩, f0, f1, f2, f3⟩ := hMW1
        obtain ⟨g0, g1, g2⟩ := mset_cells (x := .int .u64 0) (y := .int .u64 0) (z := .slice none 0 0) c0 c1 c2
        unfold mset at g0 g1 g2
        have hbl : Below w.heap.size w (mset (w.heap.size + 1) (.int .u64 0) (.int .u64 0) (.slice none 0 0) w1) :=
          ((m1.setCell (p := ⟨w.heap.size + 1, 0, none⟩) (by show w.heap.size ≤ w.heap.size + 1; omega) _).setCell (p := ⟨w.heap.size + 1, 1, none⟩) (by show w.heap.size ≤ w.heap.size + 1; omega) _).setCell (p := ⟨w.heap.size + 1, 2, none⟩) (by show w.heap.size ≤ w.heap.size + 1; omega) _
        clear hz hMz hok HM2 HTT HTP hMW0 hr3
        rcases hno with rfl | ⟨rfl, hno⟩
        all_goals
          go_wp2_with fail
          refine bodyPost_ret (v := .tuple #[.agg #[.int .u64 0, .int .u64 0, .slice none 0 0], .int .u64 0, .int .u64 0, .bool false]) (by simp [results, Try.results10, go_sem, g0, g1, g2]) rfl ⟨.slice none 0 0, by rw [HMZ.out]; rfl, by rw [HMZ.out]; exact Rd.nil _ _, hbl⟩
end Go.Proofs.Yteflpphpbecciaa
