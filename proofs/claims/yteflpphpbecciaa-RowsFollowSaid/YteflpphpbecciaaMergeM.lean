/- The contract of rows.Merge. -/
import Derived.Test.YteflpphpbecciaaMergeW
import Derived.Deep.QuietTactic
import Derived.BigQuiet
import Derived.Deep.DeepCutAuto
namespace Go.Proofs.Yteflpphpbecciaa
open Go.RowKit

theorem rd_if {w : World} {q o n c : Nat} {xs : List Value} (h : Rd w 6 (.slice (some ⟨q, o + 1 * 6, none⟩) n (c - 1)) n xs) (h0 : c = 1 → n = 0) :
    ∃ ad, (if c = 1 then some (⟨q, o, none⟩ : Addr) else some ⟨q, o + 6, none⟩) = ad ∧ Rd w 6 (.slice ad n (c - 1)) n xs := by
  refine ⟨_, rfl, ?_⟩
  by_cases hc : c = 1
  · rw [if_pos hc]
    obtain rfl := h0 hc
    obtain rfl : xs = [] := List.eq_nil_of_length_eq_zero (by simpa using h.1)
    exact ⟨by simp, by simp, .inr ⟨_, _, rfl, by omega, by simp⟩⟩
  · rw [if_neg hc]; exact h
theorem below_drewN {B : Nat} {w w' : World} (h : Below B w w') (n : Nat) : Below B w (w'.drewN n) := ⟨h.os, h.tape, h.output, h.size, h.block⟩
theorem rd_sub {w : World} {a : Option Addr} {n c : Nat} {xs : List Value} (h : Rd w 6 (.slice a n c) n xs) (k : Nat) (hk : k ≤ n) (h0 : 0 < n) : ∃ q o, a = some ⟨q, o, none⟩ ∧ n ≤ c ∧ Rd w 6 (.slice (some ⟨q, o + k * 6, none⟩) (n - k) (c - k)) (n - k) (xs.drop (k * 6)) := by
  obtain ⟨q, o, c', hv, hc, _⟩ := h.atN (by omega) (by omega)
  simp only [Value.slice.injEq, true_and] at hv
  obtain ⟨rfl, rfl⟩ := hv
  exact ⟨q, o, rfl, hc, h.sub k (by omega)⟩

set_option maxHeartbeats 8000000 in
set_option maxRecDepth 100000 in
theorem Merge_any (b bt : Nat) (v : Value) (es : List EE) (i t : Nat) (lv : Value) (ls : List EE) (w : World) (hb : b ≤ 4611686018427387904) (hi64 : i < 18446744073709551616) (hr : Rd w 6 v es.length (ecells es))
    (hlr : Rd w 6 lv ls.length (ecells ls)) (hsum : (es.length + ls.length) * 80 ≤ 140737488355328) :
    Calls Try.prog 9 #[.agg #[.int .u64 b, .int .u64 bt, v], .int .u64 i, .int .u64 t, lv] w fun e w' =>
      ∃ v', e = .returned (.tuple #[.agg #[.int .u64 (mergeP b bt es i t ls).b, .int .u64 (mergeP b bt es i t ls).bt, v'], .int .u64 (mergeP b bt es i t ls).fr, .int .u64 (mergeP b bt es i t ls).end_, .bool (mergeP b bt es i t ls).ok]) ∧
        Rd w' 6 v' (mergeP b bt es i t ls).es.length (ecells (mergeP b bt es i t ls).es) ∧ Below w.heap.size w w' := by
  by_cases hA : i < b ∧ ls.length ≤ b - i
  · obtain ⟨h1, h2⟩ := hA
    have hm : mergeP b bt es i t ls = ⟨b, bt, es, b + es.length + 1, b, true⟩ := by unfold mergeP; rw [if_pos h1, if_pos h2]
    rw [hm]
    refine (mergeA_p b bt v es i t lv ls w hb (by omega) hr (by omega) hlr h1 h2).mono ?_
    rintro e w' ⟨rfl, hb1⟩
    exact ⟨v, rfl, hr.keep hb1, hb1⟩
  · obtain ⟨a, c, rfl⟩ := hr.form
    obtain ⟨la, lc, rfl⟩ := hlr.form
    have hl : es.length ≤ 140737488355328 := by omega
    generalize hM : mergeP b bt es i t ls = M
    have HM := Lib.hid hM
    clear hM
    have HA := Lib.hid hA
    clear hA
    go_enter Try.func9, Try.ntmps9
    go_upto_if 21 with fail
    go_cut [1, 2, 3] (fun s1 s2 s3 wz => ∃ (i' t' : Nat) (a3 : Option Addr) (c3 : Nat) (ls' : List EE), s1 = .int .u64 i' ∧ s2 = .int .u64 t' ∧ s3 = .slice a3 ls'.length c3 ∧ Rd wz 6 (.slice a3 ls'.length c3) ls'.length (ecells ls') ∧ b ≤ i' ∧ i' < 18446744073709551616 ∧ ls'.length ≤ ls.length ∧
      mergeP b bt es i t ls = mergeQ b bt es i' t' ls' ∧ MW w w.heap.size (w.heap.size + 1) b bt (.slice a es.length c) wz)
    case first =>
      have hA := HA.out
      by_cases h1 : i < b
      · have hk : b - i < ls.length := by omega
        have hz1 : (i : Int) < (b : Int) := by omega
        have hw1 : IntKind.u64.wrap ((b : Int) - (i : Int)) = ((b - i : Nat) : Int) := by rw [IntWalk.u64_in _ (by omega)]; omega
        have hz2 : ¬ (ls.length : Int) ≤ ((b - i : Nat) : Int) := by omega
        have hmq : mergeP b bt es i t ls = mergeQ b bt es b bt (ls.drop (b - i)) := by unfold mergeP; rw [if_pos h1, if_neg (by omega)]
        have HMQ := Lib.hid hmq
        obtain ⟨q, o, rfl, hlc, hsub⟩ := rd_sub hlr (b - i) (by omega) (by omega)
        rw [← ecells_drop] at hsub
        have hdl : (ls.drop (b - i)).length = ls.length - (b - i) := by simp
        rw [← hdl] at hsub
        have HDL := Lib.hid hdl
        have HSUB := Lib.hid hsub
        clear hmq hA hsub hdl
        generalize b - i = d at *
        have hd0 : (0 : Int) ≤ (d : Int) := by omega
        have hd1 : (d : Int) ≤ (ls.length : Int) := by omega
        have hd2 : (d : Int) ≤ (lc : Int) := by omega
        go_wp2_with fail
        go_quiet (fail)
        go_wp2_with fail
        go_meet
        have hmw := (mw_start w b bt (.slice a es.length c) (.int .u64 0) (.int .u64 0) (.slice none 0 0) 25).keep (below_drewN (Below.refl _ _) nq)
        have hle : (ls.drop d).length ≤ ls.length := by simp
        refine ⟨b, bt, some ⟨q, o + d * 6, none⟩, lc - d, ls.drop d, rfl, rfl, by rw [HDL.out], HSUB.out.keep hmw.1, Nat.le_refl _, by omega, hle, HMQ.out, hmw⟩
      · have hz1 : ¬ (i : Int) < (b : Int) := by omega
        have hmq : mergeP b bt es i t ls = mergeQ b bt es i t ls := by unfold mergeP; rw [if_neg h1]
        have HMQ := Lib.hid hmq
        clear hmq hA
        go_wp2_with fail
        go_meet
        exact ⟨i, t, la, lc, ls, rfl, rfl, rfl, hlr.keep (mw_start w b bt _ _ _ _ _).1, by omega, hi64, Nat.le_refl _, HMQ.out, mw_start w b bt _ _ _ _ _⟩
    case rest =>
      obtain ⟨i', t', a3, c3, ls', rfl, rfl, rfl, hr3, hge, hi', hlen, hmq, hMW⟩ := hcut
      have hM2 : mergeQ b bt es i' t' ls' = M := by rw [← hmq]; exact HM.out
      have HM2 := Lib.hid hM2
      clear hmq hM2 HM HA hlr
      have hT := Term_any b bt (.slice a es.length c) es i' wc hb hi' (by omega) (hr.keep hMW.1)
      have htp := @termP_true b bt es i'
      generalize hTT : termP b bt es i' = T at *
      have HTT := Lib.hid hTT
      have HT := Lib.hid hT
      have HTP := Lib.hid htp
      clear hTT hT htp
      obtain ⟨tt, tok⟩ := T
      have hMW0 := Lib.hid hMW
      obtain ⟨m1, m2, m3, e0, e1, e2, ⟨x0, x1, x2, c0, c1, c2⟩, f0, f1, f2, f3⟩ := hMW
      go_wp2_with fail
      refine HT.out.mono ?_
      rintro e w1 ⟨rfl, hb1⟩
      have hMW1 := hMW0.out.keep hb1
      replace hr3 := hr3.keep hb1
      clear e0 e1 e2 c0 c1 c2 f0 f1 f2 f3 m1 m2 m3 hb1 HT
      by_cases hok : (tt, tok) = (t', true)
      · simp only [Prod.mk.injEq] at hok
        obtain ⟨rfl, rfl⟩ := hok
        obtain ⟨hb2, hb3⟩ := HTP.out rfl
        obtain ⟨n, hn⟩ : ∃ n, n = i' - b := ⟨_, rfl⟩
        have hQ : mergeQ b bt es i' tt ls' = if cp (es.drop n) ls' = ls'.length then ⟨b, bt, es, b + es.length + 1, i' + ls'.length, true⟩
            else ⟨b, bt, es.take (n + cp (es.drop n) ls') ++ ls'.drop (cp (es.drop n) ls'), i' + 1 + cp (es.drop n) ls', i' + ls'.length, true⟩ := by
          unfold mergeQ; rw [HTT.out, if_pos rfl, ← hn]
        rw [HM2.out] at hQ
        have hw1 : IntKind.u64.wrap ((i' : Int) - (b : Int)) = (n : Int) := by rw [IntWalk.u64_in _ (by omega)]; omega
        obtain ⟨E, hE⟩ : ∃ E, E = i' + ls'.length := ⟨_, rfl⟩
        have hw2 : IntKind.u64.wrap ((i' : Int) + (ls'.length : Int)) = (E : Int) := by rw [IntWalk.u64_in _ (by omega)]; omega
        rw [← hE] at hQ
        have HE := Lib.hid hE
        have HQ := Lib.hid hQ
        have hnl : n ≤ es.length := by omega
        have hin : i' = b + n := by omega
        have HIN := Lib.hid hin
        clear hE hQ HM2 HTT HTP hMW0 hn hin hge
        have HMW := Lib.hid hMW1
        obtain ⟨m1, m2, m3, e0, e1, e2, ⟨x0, x1, x2, c0, c1, c2⟩, f0, f1, f2, f3⟩ := hMW1
        go_wp2_with fail
        clear e0 e1 e2 c0 c1 c2 f0 f1 f2 f3 m1 m2 m3
        go_loopw [3, 15] (fun s3 s15 wr => ∃ (j : Nat) (a4 : Option Addr) (c4 : Nat), j ≤ ls'.length ∧ s15 = .int .i64 ((n : Int) + (j : Int)) ∧ s3 = .slice a4 (ls'.length - j) c4 ∧ Rd wr 6 (.slice a4 (ls'.length - j) c4) (ls'.length - j) (ecells (ls'.drop j)) ∧
          cp (es.drop n) ls' = j + cp (es.drop (n + j)) (ls'.drop j) ∧ MW w w.heap.size (w.heap.size + 1) b bt (.slice a es.length c) wr) (fun _ s15 _ => n + ls'.length - (intOf s15).toNat)
        case atStart => exact ⟨0, a3, c3, by omega, by simp, by simp, by simpa using hr3, by simp, HMW.out⟩
        case round =>
          clear HMW hr3
          obtain ⟨j, a4, c4, hj, rfl, rfl, hrj, hcp, hMW⟩ := hrel
          have HMW := Lib.hid hMW
          have hre := hr.keep hMW.1
          obtain ⟨m1, m2, m3, e0, e1, e2, ⟨x0, x1, x2, c0, c1, c2⟩, f0, f1, f2, f3⟩ := hMW
          have hdl : (ls'.drop j).length = ls'.length - j := by simp
          rw [← hdl] at hrj
          by_cases h1 : j < ls'.length
          · have hpos : (0 : Int) < ((ls'.length - j : Nat) : Int) := by omega
            obtain ⟨l, hl⟩ : ∃ l, ls'[j]? = some l := ⟨ls'[j], List.getElem?_eq_getElem h1⟩
            have hl0 : (ls'.drop j)[0]? = some l := by rw [List.getElem?_drop]; simpa using hl
            obtain ⟨q4, o4, c5, hv4, hc45, hq4, k0, _⟩ := ent_at hrj 0 l hl0
            obtain ⟨q5, o5, hv5, _, hsub⟩ := rd_sub hrj 1 (by omega) (by omega)
            rw [hdl] at hv4 hsub hc45
            simp only [Value.slice.injEq, true_and] at hv4
            obtain ⟨rfl, rfl⟩ := hv4
            simp only [Option.some.injEq, Addr.mk.injEq, and_true] at hv5
            obtain ⟨rfl, rfl⟩ := hv5
            simp only [Nat.zero_mul, Nat.add_zero] at k0
            by_cases h2 : n + j < es.length
            · have hz2 : ((n : Int) + (j : Int)) < (es.length : Int) := by omega
              obtain ⟨ee, he⟩ : ∃ ee, es[n + j]? = some ee := ⟨es[n + j], List.getElem?_eq_getElem h2⟩
              obtain ⟨q, o, c6, hv, _, hq, d0, _⟩ := ent_at hre (n + j) ee he
              simp only [Value.slice.injEq, true_and] at hv
              obtain ⟨rfl, rfl⟩ := hv
              by_cases h3 : ee.t = l.t
              · have hst := cp_step es ls' n j hcp ee l he hl h3
                have hz3 : ((ee.t : Int) == (l.t : Int)) = true := by simp; omega
                have hdd : (ls'.drop j).drop 1 = ls'.drop (j + 1) := by rw [List.drop_drop]
                rw [← ecells_drop, hdd] at hsub
                have hlen1 : ls'.length - (j + 1) = ls'.length - j - 1 := by omega
                rw [← hlen1] at hsub
                have HSUB := Lib.hid hsub
                have HST := Lib.hid hst
                have HL1 := Lib.hid hlen1
                have hi0 : (0 : Int) ≤ (n : Int) + (j : Int) := by omega
                have hwj : IntKind.i64.wrap ((n : Int) + (j : Int) + 1) = (n : Int) + (j : Int) + 1 := IntWalk.i64_in _ (by omega)
                clear hst hsub hdd hlen1 hcp he hl hl0 hrj hre hdl h3
                generalize hr1 : ls'.length - j = r1 at *
                have HR1 := Lib.hid hr1
                clear hr1
                have hr1 : 0 < r1 := by omega
                go_wp2_with fail
                go_quiet (fail)
                have hk1 := below_drewN (Below.refl wr.heap.size wr) nq
                go_wp2_with fail
                go_quiet (fail)
                have hk2 := below_drewN hk1 nq
                go_wp2_with fail
                go_roundw
                case rel =>
                  obtain ⟨ad, had, hsb⟩ := rd_if (HSUB.out.keep hk2) (by intro _; have := HR1.out; omega)
                  rw [had]
                  exact ⟨j + 1, ad, c4 - 1, by omega, by congr 1 <;> omega, by rw [HL1.out], hsb, HST.out, HMW.out.keep hk2⟩
                case measure => simp [intOf]; omega
              · have hst := cp_stop es ls' n j hcp (.inr (.inr ⟨ee, l, he, hl, h3⟩))
                have hz3 : ((ee.t : Int) == (l.t : Int)) = false := by simp; omega
                have hMv : M = ⟨b, bt, es.take (n + j) ++ ls'.drop j, i' + 1 + j, E, true⟩ := by rw [HQ.out, hst, if_neg (by omega)]
                have hnj : n + j ≤ es.length := by have := (cp_le (es.drop n) ls').1; rw [hst] at this; simp at this; omega
                have HMV := Lib.hid hMv
                have hi0 : (0 : Int) ≤ (n : Int) + (j : Int) := by omega
                have htk := (hre.takeN (n + j) hnj)
                rw [← ecells_take] at htk
                have hcap := hre.cap
                rw [hdl] at hrj
                have hw5 : IntKind.u64.wrap ((b : Int) + 1) = (b : Int) + 1 := IntWalk.u64_in _ (by omega)
                have hw6 : IntKind.u64.wrap ((b : Int) + 1 + ((n : Int) + (j : Int))) = (b : Int) + 1 + ((n : Int) + (j : Int)) := IntWalk.u64_in _ (by omega)
                have hz4 : decide (n + j < es.length) = true := by simp; omega
                have hz5 : decide ((n : Int) + (j : Int) < (es.length : Int)) = true := by simp; omega
                clear hst hMv hcp HQ hsub
                clear he hl hl0 h3
                generalize hr1 : ls'.length - j = r1 at *
                have HR1 := Lib.hid hr1
                have hr1p : 0 < r1 := by omega
                have hrz : ((r1 : Int) == 0) = false := by simp; omega
                have hle1 : ((n : Int) + (j : Int)) ≤ (es.length : Int) := by omega
                have hle2 : ((n : Int) + (j : Int)) ≤ (c : Int) := by omega
                clear hr1
                go_wp2_with fail
                go_quiet (fail)
                have hk1 := below_drewN (Below.refl wr.heap.size wr) nq
                obtain ⟨w2, hw2⟩ : ∃ x : World, x = wr.drewN nq := ⟨_, rfl⟩
                have hMW := HMW.out.keep hk1
                replace hrj := hrj.keep hk1
                replace htk := htk.keep hk1
                rw [← hw2] at hMW hrj htk ⊢
                have HMW2 := Lib.hid hMW
                clear e0 e1 e2 c0 c1 c2 f0 f1 f2 f3 m1 m2 m3 hk1 hw2 hre 
                obtain ⟨m1, m2, m3, e0, e1, e2, ⟨x0, x1, x2, c0, c1, c2⟩, f0, f1, f2, f3⟩ := hMW
                have hB2 : Below w2.heap.size w2 (w2.alloc (.cells #[.slice (some ⟨q, o, none⟩) (n + j) c, .slice (some ⟨q4, o4, none⟩) r1 c4] 23)) := (Below.refl _ _).alloc (Nat.le_refl _) _
                have hcon := ConcatEnt_any (.slice (some ⟨w2.heap.size, 0, none⟩) 2 2) [(.slice (some ⟨q, o, none⟩) (n + j) c, n + j, ecells (es.take (n + j))), (.slice (some ⟨q4, o4, none⟩) r1 c4, r1, ecells (ls'.drop j))] (w2.alloc (.cells #[.slice (some ⟨q, o, none⟩) (n + j) c, .slice (some ⟨q4, o4, none⟩) r1 c4] 23)) (Rd.arr w2 _ _ _ rfl rfl)
                  (by intro p hp; simp only [List.mem_cons, List.not_mem_nil, or_false] at hp; rcases hp with rfl | rfl; exact htk.keep hB2; exact hrj.keep hB2) (by simp [sumNEnt]; have := HR1.out; omega) (by simp)
                have HC := Lib.hid hcon
                clear hcon
                go_wp2_with fail
                refine HC.out.mono ?_
                rintro e w3 ⟨v3, rfl, hown3, hb3⟩
                have hMW3 := (HMW2.out.keep hB2).keep hb3
                have hP : w.heap.size + 1 < (w2.alloc (.cells #[.slice (some ⟨q, o, none⟩) (n + j) c, .slice (some ⟨q4, o4, none⟩) r1 c4] 23)).heap.size := by have := HMW2.out.2.2.1; simp; omega
                have hone : ∀ u ∈ ecells (es.take (n + j) ++ ls'.drop j), u.oneCell' = true := by
                  rw [ecells_append]
                  intro u hu
                  rcases List.mem_append.1 hu with hu | hu
                  · exact htk.2.1 u hu
                  · exact hrj.2.1 u hu
                simp only [sumNEnt, List.map_cons, List.map_nil, List.sum_cons, List.sum_nil, List.flatMap_cons, List.flatMap_nil, List.append_nil, Nat.add_zero] at hown3
                rw [← ecells_append] at hown3
                have hl2 : n + j + r1 = (es.take (n + j) ++ ls'.drop j).length := by simp; have := HR1.out; omega
                have HL2 := Lib.hid hl2
                obtain ⟨a3', c3', rfl⟩ := own_form hown3
                have own4 := ownsRow_setCell_below (a := ⟨w.heap.size + 1, 2, none⟩) (ownsRow_setCell_below (a := ⟨w.heap.size + 1, 1, none⟩) (ownsRow_setCell_below (a := ⟨w.heap.size + 1, 0, none⟩) (ownsRow_setCell_below (a := ⟨w.heap.size, 2, none⟩) hown3 (Nat.lt_trans (Nat.lt_succ_self _) hP) (.slice a3' (n + j + r1) c3')) hP (.int .u64 b)) hP (.int .u64 bt)) hP (.slice a3' (n + j + r1) c3')
                have HRD := Lib.hid (own_rd own4 hone)
                clear e0 e1 e2 c0 c1 c2 f0 f1 f2 f3 m1 m2 m3 HMW2 HC hown3 htk hrj hB2 hb3 hP hone hl2 own4
                obtain ⟨m1, m2, m3, e0, e1, e2, ⟨x0, x1, x2, c0, c1, c2⟩, f0, f1, f2, f3⟩ := hMW3
                have c0' := (World.cell?_setCell_other w3 ⟨w.heap.size, 2, none⟩ ⟨w.heap.size + 1, 0, none⟩ (.slice a3' (n + j + r1) c3') (by simp)).trans c0
                have c1' := (World.cell?_setCell_other w3 ⟨w.heap.size, 2, none⟩ ⟨w.heap.size + 1, 1, none⟩ (.slice a3' (n + j + r1) c3') (by simp)).trans c1
                have c2' := (World.cell?_setCell_other w3 ⟨w.heap.size, 2, none⟩ ⟨w.heap.size + 1, 2, none⟩ (.slice a3' (n + j + r1) c3') (by simp)).trans c2
                obtain ⟨g0, g1, g2⟩ := mset_cells (x := .int .u64 b) (y := .int .u64 bt) (z := .slice a3' (n + j + r1) c3') c0' c1' c2'
                unfold mset at g0 g1 g2
                have hbl : Below w.heap.size w (mset (w.heap.size + 1) (.int .u64 b) (.int .u64 bt) (.slice a3' (n + j + r1) c3') (w3.setCell ⟨w.heap.size, 2, none⟩ (.slice a3' (n + j + r1) c3'))) :=
                  (((m1.setCell (p := ⟨w.heap.size, 2, none⟩) (by show w.heap.size ≤ w.heap.size; omega) _).setCell (p := ⟨w.heap.size + 1, 0, none⟩) (by show w.heap.size ≤ w.heap.size + 1; omega) _).setCell (p := ⟨w.heap.size + 1, 1, none⟩) (by show w.heap.size ≤ w.heap.size + 1; omega) _).setCell (p := ⟨w.heap.size + 1, 2, none⟩) (by show w.heap.size ≤ w.heap.size + 1; omega) _
                have hrd4 : Rd (mset (w.heap.size + 1) (.int .u64 b) (.int .u64 bt) (.slice a3' (n + j + r1) c3') (w3.setCell ⟨w.heap.size, 2, none⟩ (.slice a3' (n + j + r1) c3'))) 6 (.slice a3' (n + j + r1) c3') (n + j + r1) (ecells (es.take (n + j) ++ ls'.drop j)) := HRD.out
                go_wp2_with fail
                refine bodyPost_ret (v := .tuple #[.agg #[.int .u64 b, .int .u64 bt, .slice a3' (n + j + r1) c3'], .int .u64 ((i' + 1 + j : Nat) : Int), .int .u64 E, .bool true]) (by simp [results, Try.results9, go_sem, g0, g1, g2]; have := HIN.out; omega) rfl ⟨.slice a3' (n + j + r1) c3', by rw [HMV.out], by rw [HMV.out]; show Rd _ 6 _ (es.take (n + j) ++ ls'.drop j).length _; rw [← HL2.out]; exact hrd4, hbl⟩
            · have hst := cp_stop es ls' n j hcp (.inr (.inl (by omega)))
              have hz2 : ¬ ((n : Int) + (j : Int)) < (es.length : Int) := by omega
              have hMv : M = ⟨b, bt, es.take (n + j) ++ ls'.drop j, i' + 1 + j, E, true⟩ := by rw [HQ.out, hst, if_neg (by omega)]
              have hnj : n + j ≤ es.length := by have := (cp_le (es.drop n) ls').1; rw [hst] at this; simp at this; omega
              have HMV := Lib.hid hMv
              have hi0 : (0 : Int) ≤ (n : Int) + (j : Int) := by omega
              have htk := (hre.takeN (n + j) hnj)
              rw [← ecells_take] at htk
              have hcap := hre.cap
              rw [hdl] at hrj
              have hw5 : IntKind.u64.wrap ((b : Int) + 1) = (b : Int) + 1 := IntWalk.u64_in _ (by omega)
              have hw6 : IntKind.u64.wrap ((b : Int) + 1 + ((n : Int) + (j : Int))) = (b : Int) + 1 + ((n : Int) + (j : Int)) := IntWalk.u64_in _ (by omega)
              have hz4 : decide (n + j < es.length) = false := by simp; omega
              have hz5 : decide ((n : Int) + (j : Int) < (es.length : Int)) = false := by simp; omega
              clear hst hMv hcp HQ hsub
              clear hl hl0
              generalize hr1 : ls'.length - j = r1 at *
              have HR1 := Lib.hid hr1
              have hr1p : 0 < r1 := by omega
              have hrz : ((r1 : Int) == 0) = false := by simp; omega
              have hle1 : ((n : Int) + (j : Int)) ≤ (es.length : Int) := by omega
              have hle2 : ((n : Int) + (j : Int)) ≤ (c : Int) := by omega
              clear hr1
              go_wp2_with fail
              go_quiet (fail)
              have hk1 := below_drewN (Below.refl wr.heap.size wr) nq
              obtain ⟨w2, hw2⟩ : ∃ x : World, x = wr.drewN nq := ⟨_, rfl⟩
              have hMW := HMW.out.keep hk1
              replace hrj := hrj.keep hk1
              replace htk := htk.keep hk1
              rw [← hw2] at hMW hrj htk ⊢
              have HMW2 := Lib.hid hMW
              clear e0 e1 e2 c0 c1 c2 f0 f1 f2 f3 m1 m2 m3 hk1 hw2 hre 
              obtain ⟨m1, m2, m3, e0, e1, e2, ⟨x0, x1, x2, c0, c1, c2⟩, f0, f1, f2, f3⟩ := hMW
              have hB2 : Below w2.heap.size w2 (w2.alloc (.cells #[.slice a (n + j) c, .slice (some ⟨q4, o4, none⟩) r1 c4] 23)) := (Below.refl _ _).alloc (Nat.le_refl _) _
              have hcon := ConcatEnt_any (.slice (some ⟨w2.heap.size, 0, none⟩) 2 2) [(.slice a (n + j) c, n + j, ecells (es.take (n + j))), (.slice (some ⟨q4, o4, none⟩) r1 c4, r1, ecells (ls'.drop j))] (w2.alloc (.cells #[.slice a (n + j) c, .slice (some ⟨q4, o4, none⟩) r1 c4] 23)) (Rd.arr w2 _ _ _ rfl rfl)
                (by intro p hp; simp only [List.mem_cons, List.not_mem_nil, or_false] at hp; rcases hp with rfl | rfl; exact htk.keep hB2; exact hrj.keep hB2) (by simp [sumNEnt]; have := HR1.out; omega) (by simp)
              have HC := Lib.hid hcon
              clear hcon
              go_wp2_with fail
              refine HC.out.mono ?_
              rintro e w3 ⟨v3, rfl, hown3, hb3⟩
              have hMW3 := (HMW2.out.keep hB2).keep hb3
              have hP : w.heap.size + 1 < (w2.alloc (.cells #[.slice a (n + j) c, .slice (some ⟨q4, o4, none⟩) r1 c4] 23)).heap.size := by have := HMW2.out.2.2.1; simp; omega
              have hone : ∀ u ∈ ecells (es.take (n + j) ++ ls'.drop j), u.oneCell' = true := by
                rw [ecells_append]
                intro u hu
                rcases List.mem_append.1 hu with hu | hu
                · exact htk.2.1 u hu
                · exact hrj.2.1 u hu
              simp only [sumNEnt, List.map_cons, List.map_nil, List.sum_cons, List.sum_nil, List.flatMap_cons, List.flatMap_nil, List.append_nil, Nat.add_zero] at hown3
              rw [← ecells_append] at hown3
              have hl2 : n + j + r1 = (es.take (n + j) ++ ls'.drop j).length := by simp; have := HR1.out; omega
              have HL2 := Lib.hid hl2
              obtain ⟨a3', c3', rfl⟩ := own_form hown3
              have own4 := ownsRow_setCell_below (a := ⟨w.heap.size + 1, 2, none⟩) (ownsRow_setCell_below (a := ⟨w.heap.size + 1, 1, none⟩) (ownsRow_setCell_below (a := ⟨w.heap.size + 1, 0, none⟩) (ownsRow_setCell_below (a := ⟨w.heap.size, 2, none⟩) hown3 (Nat.lt_trans (Nat.lt_succ_self _) hP) (.slice a3' (n + j + r1) c3')) hP (.int .u64 b)) hP (.int .u64 bt)) hP (.slice a3' (n + j + r1) c3')
              have HRD := Lib.hid (own_rd own4 hone)
              clear e0 e1 e2 c0 c1 c2 f0 f1 f2 f3 m1 m2 m3 HMW2 HC hown3 htk hrj hB2 hb3 hP hone hl2 own4
              obtain ⟨m1, m2, m3, e0, e1, e2, ⟨x0, x1, x2, c0, c1, c2⟩, f0, f1, f2, f3⟩ := hMW3
              have c0' := (World.cell?_setCell_other w3 ⟨w.heap.size, 2, none⟩ ⟨w.heap.size + 1, 0, none⟩ (.slice a3' (n + j + r1) c3') (by simp)).trans c0
              have c1' := (World.cell?_setCell_other w3 ⟨w.heap.size, 2, none⟩ ⟨w.heap.size + 1, 1, none⟩ (.slice a3' (n + j + r1) c3') (by simp)).trans c1
              have c2' := (World.cell?_setCell_other w3 ⟨w.heap.size, 2, none⟩ ⟨w.heap.size + 1, 2, none⟩ (.slice a3' (n + j + r1) c3') (by simp)).trans c2
              obtain ⟨g0, g1, g2⟩ := mset_cells (x := .int .u64 b) (y := .int .u64 bt) (z := .slice a3' (n + j + r1) c3') c0' c1' c2'
              unfold mset at g0 g1 g2
              have hbl : Below w.heap.size w (mset (w.heap.size + 1) (.int .u64 b) (.int .u64 bt) (.slice a3' (n + j + r1) c3') (w3.setCell ⟨w.heap.size, 2, none⟩ (.slice a3' (n + j + r1) c3'))) :=
                (((m1.setCell (p := ⟨w.heap.size, 2, none⟩) (by show w.heap.size ≤ w.heap.size; omega) _).setCell (p := ⟨w.heap.size + 1, 0, none⟩) (by show w.heap.size ≤ w.heap.size + 1; omega) _).setCell (p := ⟨w.heap.size + 1, 1, none⟩) (by show w.heap.size ≤ w.heap.size + 1; omega) _).setCell (p := ⟨w.heap.size + 1, 2, none⟩) (by show w.heap.size ≤ w.heap.size + 1; omega) _
              have hrd4 : Rd (mset (w.heap.size + 1) (.int .u64 b) (.int .u64 bt) (.slice a3' (n + j + r1) c3') (w3.setCell ⟨w.heap.size, 2, none⟩ (.slice a3' (n + j + r1) c3'))) 6 (.slice a3' (n + j + r1) c3') (n + j + r1) (ecells (es.take (n + j) ++ ls'.drop j)) := HRD.out
              go_wp2_with fail
              refine bodyPost_ret (v := .tuple #[.agg #[.int .u64 b, .int .u64 bt, .slice a3' (n + j + r1) c3'], .int .u64 ((i' + 1 + j : Nat) : Int), .int .u64 E, .bool true]) (by simp [results, Try.results9, go_sem, g0, g1, g2]; have := HIN.out; omega) rfl ⟨.slice a3' (n + j + r1) c3', by rw [HMV.out], by rw [HMV.out]; show Rd _ 6 _ (es.take (n + j) ++ ls'.drop j).length _; rw [← HL2.out]; exact hrd4, hbl⟩
          · have hst := cp_stop es ls' n j hcp (.inl (by omega))
            have hMv : M = ⟨b, bt, es, b + es.length + 1, E, true⟩ := by rw [HQ.out, hst, if_pos (by omega)]
            have HMV := Lib.hid hMv
            have hr0 : ls'.length - j = 0 := by omega
            rw [hr0]
            clear hst hMv hcp hrj hre hdl HQ hr0
            go_wp2_with fail
            go_quiet (fail)
            have hk1 := below_drewN (Below.refl wr.heap.size wr) nq
            go_wp2_with fail
            obtain ⟨w2, hw2⟩ : ∃ x : World, x = wr.drewN nq := ⟨_, rfl⟩
            have hMW := HMW.out.keep hk1
            rw [← hw2] at hMW ⊢
            clear e0 e1 e2 c0 c1 c2 f0 f1 f2 f3 m1 m2 m3 hk1 hw2
            refine wp_region_steps [some 98, some 99, some 100, some 101, some 102, none, some 9, some 10, some 11] [] (mgB (w.heap.size + 1) b bt es a c E) (mK 5 (w.heap.size + 1) b bt (.slice a es.length c)) (fun wx => MW w w.heap.size (w.heap.size + 1) b bt (.slice a es.length c) wx) (by kernel_rfl) (by kernel_rfl) rfl (by kernel_rfl) hMW.drew (mk_refl _ _ _ _ _) (fun j wx wy h k => MW.step h k) ?hF ?hstep ?hend
            case hF =>
              exact ⟨fun _ _ _ _ _ _ h => h, ⟨fun _ _ _ _ _ _ h => h, ⟨fun _ _ _ _ _ _ h => h, ⟨fun _ _ _ _ _ _ h => h, ⟨fun _ _ _ _ _ _ h => h, ⟨fun j hg _ _ _ k h => mcells_keep (fun e => by subst e; exact absurd hg (by rw [show goneB _ 5 5 = true by kernel_rfl]; simp)) k h, ⟨fun j hg _ _ _ k h => ⟨h.1, mcells_keep (fun e => by subst e; exact absurd hg (by rw [show goneB _ 6 5 = true by kernel_rfl]; simp)) k h.2⟩, ⟨fun _ _ _ _ _ _ h => h, ⟨fun _ _ _ _ _ _ h => h, trivial⟩⟩⟩⟩⟩⟩⟩⟩⟩
            case hstep =>
              -- operation 0: Op.load 25 (tmp 4)
              refine ⟨fun r wx hG hs hq hf => ?_, ?_⟩
              · have e4 : r 4 = .pointer (some ⟨w.heap.size, 0, none⟩) := hs 4 rfl
                refine (if_pos rfl).symm ▸ ?_
                clear hs hq hf
                unfold gives
                obtain ⟨m1, m2, m3, e0, e1, e2, m7, m8, m9⟩ := hG
                go_simp
                exact ⟨mk_refl _ _ _ _ _ _ _, rfl⟩
              -- operation 1: Op.load 25 (tmp 4)
              refine ⟨fun r wx hG hs hq hf => ?_, ?_⟩
              · have e4 : r 4 = .pointer (some ⟨w.heap.size, 0, none⟩) := hs 4 rfl
                refine (if_pos rfl).symm ▸ ?_
                clear hs hq hf
                unfold gives
                obtain ⟨m1, m2, m3, e0, e1, e2, m7, m8, m9⟩ := hG
                go_simp
                exact ⟨mk_refl _ _ _ _ _ _ _, rfl⟩
              -- operation 2: Op.call ( callee := Callee.value (func 14), args := #[tmp 99], argTypes := #[25] )
              refine ⟨fun r wx hG hs hq hf => ?_, ?_⟩
              · have h1 : r 99 = .agg #[.int .u64 b, .int .u64 bt, .slice a es.length c] := hf.1
                refine (if_pos rfl).symm ▸ ?_
                clear hs hq hf
                unfold gives
                have hM := hG
                obtain ⟨m1, m2, m3, e0, e1, e2, m7, m8, m9⟩ := hG
                go_simp
                refine (Last_any b bt es.length c a wx hb hl).mono ?_
                rintro e wy ⟨rfl, hb1⟩
                exact ⟨_, rfl, hb1, rfl⟩
              -- operation 3: Op.binOp BinOp.add 22 (tmp 100) (const (Value.int IntKind.u64 1)) 22
              refine ⟨fun r wx hG hs hq hf => ?_, ?_⟩
              · have h2 : r 100 = .int .u64 ((b + es.length : Nat) : Int) := hf.1
                refine (if_pos rfl).symm ▸ ?_
                clear hs hq hf
                unfold gives
                have hw : IntKind.u64.wrap ((b : Int) + (es.length : Int) + 1) = (b : Int) + (es.length : Int) + 1 := IntWalk.u64_in _ (by omega)
                go_simp
                exact ⟨mk_refl _ _ _ _ _ _ _, congrArg (Value.int .u64) (by omega)⟩
              -- operation 4: Op.move (tmp 16)
              refine ⟨fun r wx hG hs hq hf => ?_, ?_⟩
              · have e16 : r 16 = .int .u64 (E : Nat) := hs 16 rfl
                refine (if_pos rfl).symm ▸ ?_
                clear hs hq hf
                unfold gives
                go_simp
                exact ⟨mk_refl _ _ _ _ _ _ _, rfl⟩
              -- operation 5: Op.store 25 (tmp 8) (tmp 98)
              refine ⟨fun r wx hG hs hq hf => ?_, ?_⟩
              · have e8 : r 8 = .pointer (some ⟨w.heap.size + 1, 0, none⟩) := hs 8 rfl
                have h0 : r 98 = .agg #[.int .u64 b, .int .u64 bt, .slice a es.length c] := hf.1
                refine (if_pos rfl).symm ▸ ?_
                clear hs hq hf
                unfold gives
                have hM := hG
                obtain ⟨m1, m2, m3, e0, e1, e2, ⟨x0, x1, x2, c0, c1, c2⟩, f0, m9⟩ := hG
                have f1 := m9.1
                have f2 := m9.2.1
                go_simp
                exact ⟨mk_set _ _ _ _ _ _, mset_cells c0 c1 c2⟩
              -- operation 6: Op.assign (tmp 101)
              refine ⟨fun r wx hG hs hq hf => ?_, ?_⟩
              · have h3 : r 101 = .int .u64 ((b + es.length + 1 : Nat) : Int) := hf.1
                have h5 : wx.cell? ⟨w.heap.size + 1, 0, none⟩ = some (.int .u64 b) ∧ wx.cell? ⟨w.heap.size + 1, 1, none⟩ = some (.int .u64 bt) ∧ wx.cell? ⟨w.heap.size + 1, 2, none⟩ = some (.slice a es.length c) := hf.2.1
                refine (if_pos rfl).symm ▸ ?_
                clear hs hq hf
                unfold gives
                go_simp
                exact ⟨mk_refl _ _ _ _ _ _ _, rfl, h5⟩
              -- operation 7: Op.assign (tmp 102)
              refine ⟨fun r wx hG hs hq hf => ?_, ?_⟩
              · have h4 : r 102 = .int .u64 E := hf.1
                have h6 : (r 9) = .int .u64 ((b + es.length + 1 : Nat) : Int) ∧ wx.cell? ⟨w.heap.size + 1, 0, none⟩ = some (.int .u64 b) ∧ wx.cell? ⟨w.heap.size + 1, 1, none⟩ = some (.int .u64 bt) ∧ wx.cell? ⟨w.heap.size + 1, 2, none⟩ = some (.slice a es.length c) := hf.2.1
                refine (if_pos rfl).symm ▸ ?_
                clear hs hq hf
                unfold gives
                go_simp
                exact ⟨mk_refl _ _ _ _ _ _ _, rfl⟩
              -- operation 8: Op.assign (const (Value.bool true))
              refine ⟨fun r wx hG hs hq hf => ?_, ?_⟩
              · refine (if_pos rfl).symm ▸ ?_
                clear hs hq hf
                unfold gives
                go_simp
                exact ⟨mk_refl _ _ _ _ _ _ _, rfl⟩
              exact trivial
            case hend =>
              intro u wz hG hfin
              have z6 : (u 6) = .int .u64 ((b + es.length + 1 : Nat) : Int) ∧ wz.cell? ⟨w.heap.size + 1, 0, none⟩ = some (.int .u64 b) ∧ wz.cell? ⟨w.heap.size + 1, 1, none⟩ = some (.int .u64 bt) ∧ wz.cell? ⟨w.heap.size + 1, 2, none⟩ = some (.slice a es.length c) := hfin 6 (by decide) (by kernel_rfl)
              have z7 : u 7 = .int .u64 E := hfin 7 (by decide) (by kernel_rfl)
              have z8 : u 8 = .bool true := hfin 8 (by decide) (by kernel_rfl)
              clear hfin
              simp only [fill]
              obtain ⟨z6, d0, d1, d2⟩ := z6
              have hbl := hG.1
              clear hG
              go_simp
              go_wp2_with fail
              exact bodyPost_ret (v := .tuple #[.agg #[.int .u64 b, .int .u64 bt, .slice a es.length c], .int .u64 ((b + es.length + 1 : Nat) : Int), .int .u64 E, .bool true]) (by simp [results, Try.results9, go_sem, d0, d1, d2]) rfl ⟨.slice a es.length c, by rw [HMV.out], by rw [HMV.out]; exact hr.keep hbl, hbl⟩
      · have hz : mergeQ b bt es i' t' ls' = ⟨0, 0, [], 0, 0, false⟩ := by unfold mergeQ; rw [HTT.out, if_neg hok]
        have hMz : M = ⟨0, 0, [], 0, 0, false⟩ := by rw [← HM2.out]; exact hz
        have HMZ := Lib.hid hMz
        have hno : tok = false ∨ (tok = true ∧ ((tt : Int) != (t' : Int)) = true) := by
          cases tok
          · exact .inl rfl
          · right; refine ⟨rfl, ?_⟩
            simp only [Prod.mk.injEq, and_true] at hok
            simp; omega
        obtain ⟨m1, m2, m3, e0, e1, e2, ⟨x0, x1, x2, c0, c1, c2⟩, f0, f1, f2, f3⟩ := hMW1
        obtain ⟨g0, g1, g2⟩ := mset_cells (x := .int .u64 0) (y := .int .u64 0) (z := .slice none 0 0) c0 c1 c2
        unfold mset at g0 g1 g2
        have hbl : Below w.heap.size w (mset (w.heap.size + 1) (.int .u64 0) (.int .u64 0) (.slice none 0 0) w1) :=
          ((m1.setCell (p := ⟨w.heap.size + 1, 0, none⟩) (by show w.heap.size ≤ w.heap.size + 1; omega) _).setCell (p := ⟨w.heap.size + 1, 1, none⟩) (by show w.heap.size ≤ w.heap.size + 1; omega) _).setCell (p := ⟨w.heap.size + 1, 2, none⟩) (by show w.heap.size ≤ w.heap.size + 1; omega) _
        clear hz hMz hok HM2 HTT HTP hMW0 hr3
        rcases hno with rfl | ⟨rfl, hno⟩
        all_goals
          go_wp2_with fail
          refine bodyPost_ret (v := .tuple #[.agg #[.int .u64 0, .int .u64 0, .slice none 0 0], .int .u64 0, .int .u64 0, .bool false]) (by simp [results, Try.results9, go_sem, g0, g1, g2]) rfl ⟨.slice none 0 0, by rw [HMZ.out]; rfl, by rw [HMZ.out]; exact Rd.nil _ _, hbl⟩
end Go.Proofs.Yteflpphpbecciaa
