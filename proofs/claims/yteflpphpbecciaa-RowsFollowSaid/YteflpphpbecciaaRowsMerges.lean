/- The law RowsMerges: its walk. -/
import Derived.Test.YteflpphpbecciaaCopied
import Derived.Test.YteflpphpbecciaaRowsLaw
namespace Go.Proofs.Yteflpphpbecciaa
open Go.RowKit

theorem mergeQ_es (b bt : Nat) (es : List EE) (i t : Nat) (ls : List EE) : ∀ e ∈ (mergeQ b bt es i t ls).es, e ∈ es ∨ e ∈ ls := by
  unfold mergeQ
  split
  · split
    · intro e he; exact .inl he
    · intro e he
      rcases List.mem_append.1 he with he | he
      · exact .inl (List.mem_of_mem_take he)
      · exact .inr (List.mem_of_mem_drop he)
  · intro e he; cases he
theorem mergeP_es (b bt : Nat) (es : List EE) (i t : Nat) (ls : List EE) : ∀ e ∈ (mergeP b bt es i t ls).es, e ∈ es ∨ e ∈ ls := by
  unfold mergeP
  split
  · split
    · intro e he; exact .inl he
    · intro e he
      rcases mergeQ_es _ _ _ _ _ _ e he with h | h
      · exact .inl h
      · exact .inr (List.mem_of_mem_drop h)
  · exact mergeQ_es _ _ _ _ _ _
theorem mergeQ_len (b bt : Nat) (es : List EE) (i t : Nat) (ls : List EE) : (mergeQ b bt es i t ls).es.length ≤ es.length + ls.length := by
  unfold mergeQ
  split
  · split
    · simp
    · simp; omega
  · simp
theorem mergeP_len (b bt : Nat) (es : List EE) (i t : Nat) (ls : List EE) : (mergeP b bt es i t ls).es.length ≤ es.length + ls.length := by
  unfold mergeP
  split
  · split
    · simp
    · have := mergeQ_len b bt es b bt (ls.drop (b - i)); simp at this; omega
  · exact mergeQ_len _ _ _ _ _ _

set_option maxHeartbeats 4000000 in
theorem rowsMerges_walk (b bt : Nat) (v : Value) (es : List EE) (i t : Nat) (lv : Value) (ls : List EE) (w : World) (hi64 : i < 18446744073709551616) (hr : Rd w 6 v es.length (ecells es)) (hlr : Rd w 6 lv ls.length (ecells ls))
    (hok : ESok w es) (hokl : ESok w ls) (hsum : es.length + ls.length ≤ 2100000) :
    Calls Try.prog 3 #[.agg #[.int .u64 b, .int .u64 bt, v], .int .u64 i, .int .u64 t, lv] w fun e w' => e = .returned (.bool true) ∧ Below w.heap.size w w' := by
  obtain ⟨a, c, rfl⟩ := hr.form
  obtain ⟨la, lc, rfl⟩ := hlr.form
  have hb0 : Below w.heap.size w (w.alloc (.cells #[.int .u64 b, .int .u64 bt, .slice a es.length c] 25)) := (Below.refl _ _).alloc (Nat.le_refl _) _
  have hC0 := C3.new w (.int .u64 b) (.int .u64 bt) (.slice a es.length c) 25
  go_enter Try.func3, Try.ntmps3
  go_wp2_with fail
  refine (awake21_any _).mono ?_
  rintro e w1 ⟨rfl, hb1⟩
  have hbl := hb0.trans (hb1.mono hb0.size)
  replace hC0 := hC0.keep hb1
  have HC0 := Lib.hid hC0
  obtain ⟨z0, p0, p1, p2⟩ := hC0
  clear hb0 hb1
  by_cases h1 : b ≤ 4611686018427387904
  · have x1 : decide ((4611686018427387904 : Int) < (b : Int)) = false := by simp; omega
    have HB1 := Lib.hid hbl
    have hcp := copied_any b bt (.slice a es.length c) es w1 (hr.keep hbl) (by omega)
    have HCP := Lib.hid hcp
    clear hcp hbl
    go_wp2_with fail
    refine HCP.out.mono ?_
    rintro e w2 ⟨v2, rfl, hr2, hb2⟩
    have HB2 := Lib.hid (HB1.out.trans (hb2.mono HB1.out.size))
    have HC2 := Lib.hid (HC0.out.keep hb2)
    clear z0 p0 p1 p2 HCP HC0 hb2
    -- the list, with one entry behind
    have hba : Below w2.heap.size w2 (w2.alloc (.cells #[.int .u64 b, .int .u64 bt, v2] 25)) := (Below.refl _ _).alloc (Nat.le_refl _) _
    have hC9 := C3.new w2 (.int .u64 b) (.int .u64 bt) v2 25
    obtain ⟨a2, c2, rfl⟩ := hr2.form
    go_upto_region 6 with fail
    obtain ⟨w3, hw3⟩ : ∃ x : World, x = w2.alloc (.cells #[.int .u64 b, .int .u64 bt, .slice a2 es.length c2] 25) := ⟨_, rfl⟩
    rw [← hw3] at hba hC9 ⊢
    have HB3 := Lib.hid (HB2.out.trans (hba.mono HB2.out.size))
    have HC3 := Lib.hid (HC2.out.keep hba)
    have HC9 := Lib.hid hC9
    have HR3 := Lib.hid (hr2.keep hba)
    obtain ⟨B3, hB3⟩ : ∃ B3, B3 = w3.heap.size := ⟨_, rfl⟩
    have hemp := own_new w3 31 6 0 B3 [] (by simp) (by omega) (by rw [hB3]; exact Nat.le_refl _)
    have hal : Below w3.heap.size w3 (w3.alloc (.cells #[] 31)) := (Below.refl _ _).alloc (Nat.le_refl _) _
    have hrd : Rd (w3.alloc (.cells #[] 31)) 6 (.slice la ls.length lc) ls.length (ecells ls) := (hlr.keep HB3.out).alloc _
    have hBz : B3 ≤ (w3.alloc (.cells #[] 31)).heap.size := by rw [hB3]; exact hal.size
    have HBE := Lib.hid hB3
    clear hba hC9 hr2 HB2 HC2 hw3 hB3
    go_wp2_with (at_builtin; refine wpList_app (o := ⟨some 28, _, _, _, _, _⟩) Try.underlying23 infoEnt rfl (by decide) rfl _ _ rfl rfl rfl hemp hrd (by omega) (by omega) hBz ?_)
    intro v4 w4 hown4 hg4 _
    obtain ⟨a4, c4, rfl⟩ := own_form hown4
    have hbw4 : Below w3.heap.size w3 w4 := hal.trans (hg4.below (hal.size) (fun k hk => by simp [Value.ownBlock] at hk; omega))
    have hz4 : B3 ≤ w4.heap.size := Nat.le_trans hBz hg4.grown.size
    have hal4 : Below w4.heap.size w4 (w4.alloc (.cells (ecells ([77].map e0)).toArray 31)) := (Below.refl _ _).alloc (Nat.le_refl _) _
    have hrd4 := Rd.new w4 31 6 1 (ecells ([77].map e0)) rfl (by omega) (e0_one _)
    have hown4' := own_keep hown4 hal4
    have hz4' : B3 ≤ (w4.alloc (.cells (ecells ([77].map e0)).toArray 31)).heap.size := Nat.le_trans hz4 hal4.size
    clear hemp hrd hBz hal hg4
    go_wp2_with (at_builtin; refine wpList_app (o := ⟨some 31, _, _, _, _, _⟩) Try.underlying23 infoEnt rfl (by decide) rfl _ _ rfl rfl rfl hown4' hrd4 (by omega) (by omega) hz4' ?_)
    intro v5 w5 hown5 hg5 _
    obtain ⟨a5, c5, rfl⟩ := own_form hown5
    have hbw5 : Below w3.heap.size w3 w5 := by
      have h1 := hg5.below hz4' (own_block hown4')
      rw [HBE.out] at h1
      exact (hbw4.trans (hal4.mono hbw4.size)).trans h1
    have hone5 : ∀ u ∈ ecells ls ++ ecells ([77].map e0), u.oneCell' = true := by
      intro u hu
      rcases List.mem_append.1 hu with hu | hu
      · exact hlr.2.1 u hu
      · exact e0_one _ u hu
    have hin := own_rd hown5 hone5
    clear hone5
    have HOWN := Lib.hid hown5
    have HIN := Lib.hid hin
    have hcap := hin.cap
    have HB5 := Lib.hid (HB3.out.trans (hbw5.mono HB3.out.size))
    have HC5 := Lib.hid (HC3.out.keep hbw5)
    have HC95 := Lib.hid (HC9.out.keep hbw5)
    have HR5 := Lib.hid (HR3.out.keep hbw5)
    clear hown4 hrd4 hown4' hal4 hz4 hz4' hg5 hown5 hin HB3 HC3 HC9 HR3 hbw4 hbw5
    obtain ⟨k0, k1, k2, k3⟩ := HC95.out
    have hz1 : (ls.length : Int) ≤ (c5 : Int) := by omega
    go_wp2_with fail
    clear k0 k1 k2 k3
    have hins : Rd w5 6 (.slice a5 ls.length c5) ls.length (ecells ls) := by
      have := HIN.out.takeN ls.length (by omega)
      rw [← ecells_length, List.take_left] at this
      exact this
    have HINS := Lib.hid hins
    have hmg := Merge_any b bt (.slice a2 es.length c2) es i t (.slice a5 ls.length c5) ls w5 h1 hi64 HR5.out hins (by omega)
    have hes := mergeP_es b bt es i t ls
    have hml := mergeP_len b bt es i t ls
    obtain ⟨M, hM⟩ : ∃ M, M = mergeP b bt es i t ls := ⟨_, rfl⟩
    rw [← hM] at hmg hes hml
    have HMG := Lib.hid hmg
    have HES := Lib.hid hes
    have HM := Lib.hid hM
    clear hmg hes hM hins
    refine HMG.out.mono ?_
    rintro e w6 ⟨v6, rfl, hr6, hb6⟩
    have HB6 := Lib.hid (HB5.out.trans (hb6.mono HB5.out.size))
    have HC6 := Lib.hid (HC5.out.keep hb6)
    have HC96 := Lib.hid (HC95.out.keep hb6)
    have HR6 := Lib.hid (HR5.out.keep hb6)
    have HIN6 := Lib.hid (HIN.out.keep hb6)
    have HIS6 := Lib.hid (HINS.out.keep hb6)
    obtain ⟨a6, c6, rfl⟩ := hr6.form
    clear HB5 HC5 HC95 HR5 HIN HINS HOWN hb6 HMG
    go_upto_region 8 with fail
    obtain ⟨w7, hw7⟩ : ∃ x : World, x = w6.alloc (.cells #[.int .u64 M.b, .int .u64 M.bt, .slice a6 M.es.length c6] 25) := ⟨_, rfl⟩
    have hba : Below w6.heap.size w6 (w6.alloc (.cells #[.int .u64 M.b, .int .u64 M.bt, .slice a6 M.es.length c6] 25)) := (Below.refl _ _).alloc (Nat.le_refl _) _
    have hC11 := C3.new w6 (.int .u64 M.b) (.int .u64 M.bt) (.slice a6 M.es.length c6) 25
    rw [← hw7] at hba hC11 ⊢
    have HB7 := Lib.hid (HB6.out.trans (hba.mono HB6.out.size))
    have HC7 := Lib.hid (HC6.out.keep hba)
    have HC97 := Lib.hid (HC96.out.keep hba)
    have HC11 := Lib.hid hC11
    have HR7 := Lib.hid (HR6.out.keep hba)
    have HIN7 := Lib.hid (HIN6.out.keep hba)
    have HIS7 := Lib.hid (HIS6.out.keep hba)
    have HM7 := Lib.hid (hr6.keep hba)
    have hrm := RMerge_any b bt (.slice a es.length c) es i t (.slice la ls.length lc) ls w7 h1 hi64 (hr.keep HB7.out) (hlr.keep HB7.out) (by omega)
    rw [← HM.out] at hrm
    have HRM := Lib.hid hrm
    obtain ⟨z0, p0, p1, p2⟩ := HC7.out
    clear hba hC11 hrm hw7 hr6 HB6 HC6 HC96 HR6 HIN6 HIS6
    go_wp2_with fail
    refine HRM.out.mono ?_
    rintro e w8 ⟨v8, rfl, hr8, hb8⟩
    obtain ⟨a8, c8, rfl⟩ := hr8.form
    have HB8 := Lib.hid (HB7.out.trans (hb8.mono HB7.out.size))
    have HC8 := Lib.hid (HC7.out.keep hb8)
    have HC98 := Lib.hid (HC97.out.keep hb8)
    have HC18 := Lib.hid (HC11.out.keep hb8)
    have HR8 := Lib.hid (HR7.out.keep hb8)
    have HIN8 := Lib.hid (HIN7.out.keep hb8)
    have HIS8 := Lib.hid (HIS7.out.keep hb8)
    have HM8 := Lib.hid (HM7.out.keep hb8)
    clear z0 p0 p1 p2 HB7 HC7 HC97 HC11 HR7 HIN7 HIS7 HM7 HRM hb8
    go_upto_region 9 with fail
    obtain ⟨w9, hw9⟩ : ∃ x : World, x = w8.alloc (.cells #[.int .u64 M.b, .int .u64 M.bt, .slice a8 M.es.length c8] 25) := ⟨_, rfl⟩
    have hba : Below w8.heap.size w8 (w8.alloc (.cells #[.int .u64 M.b, .int .u64 M.bt, .slice a8 M.es.length c8] 25)) := (Below.refl _ _).alloc (Nat.le_refl _) _
    have hC15 := C3.new w8 (.int .u64 M.b) (.int .u64 M.bt) (.slice a8 M.es.length c8) 25
    rw [← hw9] at hba hC15 ⊢
    have HB9 := Lib.hid (HB8.out.trans (hba.mono HB8.out.size))
    have HC9' := Lib.hid (HC8.out.keep hba)
    have HC99 := Lib.hid (HC98.out.keep hba)
    have HC19 := Lib.hid (HC18.out.keep hba)
    have HC15 := Lib.hid hC15
    have HR9 := Lib.hid (HR8.out.keep hba)
    have HIN9 := Lib.hid (HIN8.out.keep hba)
    have HIS9 := Lib.hid (HIS8.out.keep hba)
    have hmok : ESok w9 M.es := fun e he => (HES.out e he).elim (fun h => (hok e h).keep HB9.out) (fun h => (hokl e h).keep HB9.out)
    have hsl := SameLog_self M.b M.bt (.slice a6 M.es.length c6) (.slice a8 M.es.length c8) M.es w9 (by omega) (HM8.out.keep hba) (hr8.keep hba) hmok
    have HSL := Lib.hid hsl
    clear hba hC15 hw9 hr8 hmok hsl HB8 HC8 HC98 HC18 HR8 HIN8 HIS8 HM8
    obtain ⟨y0, q0, q1, q2⟩ := HC19.out
    obtain ⟨z0, p0, p1, p2⟩ := HC15.out
    go_wp2_with fail
    refine HSL.out.mono ?_
    rintro e w10 ⟨rfl, hb10⟩
    have HB10 := Lib.hid (HB9.out.trans (hb10.mono HB9.out.size))
    have HIN10 := Lib.hid (HIN9.out.keep hb10)
    have HIS10 := Lib.hid (HIS9.out.keep hb10)
    have hsl := SameLog_self b bt (.slice a2 es.length c2) (.slice a es.length c) es w10 (by omega) (HR9.out.keep hb10) (hr.keep HB10.out) (hok.keep HB10.out)
    have HSL2 := Lib.hid hsl
    have HC20 := Lib.hid (HC9'.out.keep hb10)
    have HC21 := Lib.hid (HC99.out.keep hb10)
    clear y0 q0 q1 q2 z0 p0 p1 p2 HB9 HC9' HC99 HC19 HC15 HR9 HIN9 HIS9 HSL hsl hb10
    obtain ⟨y0, q0, q1, q2⟩ := HC20.out
    obtain ⟨z0, p0, p1, p2⟩ := HC21.out
    go_wp2_with fail
    refine HSL2.out.mono ?_
    rintro e w11 ⟨rfl, hb11⟩
    have HB11 := Lib.hid (HB10.out.trans (hb11.mono HB10.out.size))
    have HIN11 := Lib.hid (HIN10.out.keep hb11)
    have hsl := SameList_self (.slice a5 ls.length c5) (.slice la ls.length lc) ls w11 (by omega) (HIS10.out.keep hb11) (hlr.keep HB11.out) (hokl.keep HB11.out)
    have HSL3 := Lib.hid hsl
    clear y0 q0 q1 q2 z0 p0 p1 p2 HB10 HIN10 HIS10 HC20 HC21 HSL2 hsl hb11
    go_wp2_with fail
    refine HSL3.out.mono ?_
    rintro e w12 ⟨rfl, hb12⟩
    have HB12 := Lib.hid (HB11.out.trans (hb12.mono HB11.out.size))
    have hin := HIN11.out.keep hb12
    obtain ⟨q, o, c', hv, _, hcell⟩ := hin.atN (by omega) (by omega)
    simp only [Value.slice.injEq, true_and] at hv
    obtain ⟨rfl, rfl⟩ := hv
    have k0 := hcell (ls.length * 6) (.int .u64 77) (by rw [← ecells_length, List.getElem?_append_right (Nat.le_refl _), Nat.sub_self]; rfl)
    have hz2 : IntKind.i64.wrap ((ls.length : Int) + 1) = (ls.length : Int) + 1 := IntWalk.i64_in _ (by omega)
    clear hcell hin HIN11 HB11 HSL3 hb12 hr hlr hok hokl
    go_wp2_with fail
    go_ret
    exact ⟨rfl, HB12.out⟩
  · have x1 : decide ((4611686018427387904 : Int) < (b : Int)) = true := by simp; omega
    clear hr hlr hok hokl
    go_wp2_with fail
    go_ret
    exact ⟨rfl, hbl⟩
end Go.Proofs.Yteflpphpbecciaa
