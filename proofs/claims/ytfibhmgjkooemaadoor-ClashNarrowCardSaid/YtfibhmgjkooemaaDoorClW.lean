/- ClashNarrow: the law, the walk. (printed by gen/clw.py) -/
import Derived.Test.YtfibhmgjkooemaaDoorClR
import Derived.Test.YtfibhmgjkooemaaDoorClG
namespace Go.Proofs.YtfibhmgjkooemaaDoor
open Go.RowKit Sha Root Path Clash

theorem infoHbN : (Tryd.prog.info? 35).map (fun i => (i.zero, i.size, i.bytes)) = some (some (.agg (Array.replicate 32 (.int .u8 0))), 32, 32) := by kernel_rfl
theorem cl_z : ∀ (f a b : Nat) (h : List UInt8) (ps : List (List UInt8)), h = zs 32 → cl (nodeH 0) f a b h ps = zs 32
  | 0, _, _, h, ps, e => by rw [cl]; exact fold_z ps h e
  | _ + 1, _, _, _, [], e => e
  | f + 1, a, b, h, p :: r, e => by
    rw [cl]
    split
    · exact fold_z (p :: r) h e
    · refine cl_z f _ _ _ r ?_
      split <;> exact hw0 _
where fold_z : ∀ (ps : List (List UInt8)) (h : List UInt8), h = zs 32 → ps.foldl (fun h p => nodeH 0 p h) h = zs 32
  | [], _, e => e
  | p :: r, h, _ => fold_z r _ (hw0 _)
/-- Where no bit of a hash is kept, any proof of the right length shows any text. -/
theorem narrow_ans (l : List (List UInt8)) (i : Nat) (x one : List UInt8) (L : Nat) (hi : i < l.length) (hL : L = sizeN i l.length) :
    ansP 0 l i x (List.replicate L one) = if x = l[i]?.getD [] then (8, [], []) else (0, (pathF (hw 0) l.length l i (List.replicate L one) x).1, (pathF (hw 0) l.length l i (List.replicate L one) x).2) := by
  have h1 : climbE i l.length (List.replicate L one).length = 0 := by
    rw [List.length_replicate, climbE, if_neg (by omega), if_neg (by omega), if_neg (by omega)]
  have h2 : climbH 0 (leafH 0 x) i l.length (List.replicate L one) = rt (hw 0) l := by
    rw [climbH, if_pos h1, cl_z _ _ _ (leafH 0 x) _ (hw0 _), rt_tx _ l (by omega), hw0]
  rw [ansP, if_neg (by rw [h1]; simp), if_neg (by rw [h2]; simp)]
theorem rep_next (k : Nat) (h : List UInt8) : (List.replicate (k + 1) h).flatMap bv = (List.replicate k h).flatMap bv ++ bv h := by
  rw [List.replicate_succ', List.flatMap_append]; simp

/-- What each operation hands on. -/
def n11yF (tb tf tc n j xn xc yn yc : Nat) (xa ya : Option Addr) (x y : List UInt8) : Nat → Value → World → Prop
  | 0, v, _ => v = .slice xa xn xc
  | 1, v, _ => v = .string ⟨x.toArray⟩
  | 2, v, _ => v = .slice (some ⟨tb, tf, none⟩) n tc
  | 3, v, _ => v = .int .u64 j
  | 4, v, _ => v = .pointer (some ⟨tb, tf + j, none⟩)
  | 5, v, _ => v = .slice ya yn yc
  | 6, v, _ => v = .string ⟨y.toArray⟩
  | 7, v, _ => v = .bool true
  | _, _, _ => True
/-- What each operation hands on. -/
def n11nF (tb tf tc n j xn xc yn yc : Nat) (xa ya : Option Addr) (x y : List UInt8) : Nat → Value → World → Prop
  | 0, v, _ => v = .slice xa xn xc
  | 1, v, _ => v = .string ⟨x.toArray⟩
  | 2, v, _ => v = .slice (some ⟨tb, tf, none⟩) n tc
  | 3, v, _ => v = .int .u64 j
  | 4, v, _ => v = .pointer (some ⟨tb, tf + j, none⟩)
  | 5, v, _ => v = .slice ya yn yc
  | 6, v, _ => v = .string ⟨y.toArray⟩
  | 7, v, _ => v = .bool false
  | _, _, _ => True

set_option maxHeartbeats 8000000 in
set_option maxRecDepth 100000 in
theorem clashNarrow_walk (l : List (List UInt8)) (i : Nat) (x one : List UInt8) (v : Value) (xa : Option Addr) (xc : Nat) (w : World) (hl : l.length * 24 ≤ 140737488351232) (hm : i < 18446744073709551616) (hxl : x.length ≤ 140737488351232) (ho : one.length = 32) (hv : Txw w v l) (hx : Rd w 1 (.slice xa x.length xc) x.length (bv x)) (hT : TabsR w) :
    Calls Tryd.prog 6 #[v, .int .u64 i, .slice xa x.length xc, .agg (bv one).toArray] w fun e w' => e = .returned (.bool true) ∧ Below w.heap.size w w' := by
  obtain ⟨va, vc, rfl⟩ := hv.form
  have HAW := Lib.hid (fun wx (hb : Below w.heap.size w wx) => awake17_any wx (hT.toTabs.keepB hb))
  have HFA := Lib.hid (fun wx (hb : Below w.heap.size w wx) => few_any l (.slice va l.length vc) wx hl (hv.keep hb))
  have HTT := Lib.hid hT
  have HMO := Lib.hid (And.intro hm ho)
  have HVX := Lib.hid (And.intro hv hx)
  obtain ⟨n, hn⟩ : ∃ n, n = l.length := ⟨_, rfl⟩
  obtain ⟨xn, hxn⟩ : ∃ n, n = x.length := ⟨_, rfl⟩
  rw [← hn] at HFA ⊢
  rw [← hxn] at hxl ⊢
  have HN := Lib.hid (And.intro hn hxn)
  obtain ⟨w0, hw0⟩ : ∃ x : World, x = w.alloc (.cells (bv one).toArray 35) := ⟨_, rfl⟩
  have hB0 : Below w.heap.size w w0 := by rw [hw0]; exact (Below.refl _ _).alloc (Nat.le_refl _) _
  have hr0 : w0.heap[w.heap.size]? = some (.cells (bv one).toArray 35 (0, 0)) := by rw [hw0]; exact heap_alloc_new _ _
  have HW0 := Lib.hid hw0
  have H0 := Lib.hid hB0
  have HR0 := Lib.hid hr0
  clear hv hx hT hn hxn hw0 hB0 hr0 hm ho hl
  go_enter Tryd.func6, Tryd.ntmps6
  go_upto_region 1 with fail
  rw [show w.alloc (.cells (bv one).toArray 35) = w0 from HW0.out.symm]
  go_wp2_with fail
  refine (HAW.out _ H0.out).mono ?_
  rintro e w1 ⟨rfl, hb1⟩
  have HR1 := Lib.hid ((hb1.block _ (Array.getElem?_eq_some_iff.1 HR0.out).1).trans HR0.out)
  have H1 := Lib.hid (H0.out.trans (hb1.mono H0.out.size))
  clear hb1
  go_wp2_with fail
  refine (HFA.out _ H1.out).mono ?_
  rintro e w2 ⟨rfl, hb2⟩
  have HR2 := Lib.hid ((hb2.block _ (Array.getElem?_eq_some_iff.1 HR1.out).1).trans HR1.out)
  have H3 := Lib.hid (H1.out.trans (hb2.mono H1.out.size))
  clear hb2
  cases hfa : fewB l with
  | false =>
    clear hfa
    go_wp2_with fail
    refine (HAW.out _ H3.out).mono ?_
    rintro e w9 ⟨rfl, hb9⟩
    have H9 := Lib.hid (H3.out.trans (hb9.mono H3.out.size))
    clear hb9
    go_wp2_with fail
    go_ret
    exact ⟨rfl, H9.out⟩
  | true =>
    have HFA2 := Lib.hid (few_small l hfa)
    clear hfa
    by_cases hT4 : 4000 < xn
    · have y0 : (4000 : Int) < (xn : Int) := by omega
      go_wp2_with fail
      refine (HAW.out _ H3.out).mono ?_
      rintro e w9 ⟨rfl, hb9⟩
      have H9 := Lib.hid (H3.out.trans (hb9.mono H3.out.size))
      clear hb9
      go_wp2_with fail
      go_ret
      exact ⟨rfl, H9.out⟩
    · have y0 : ¬ (4000 : Int) < (xn : Int) := by omega
      by_cases hn2 : n < 2
      · have y1 : (n : Int) < (2 : Int) := by omega
        go_wp2_with fail
        refine (HAW.out _ H3.out).mono ?_
        rintro e w9 ⟨rfl, hb9⟩
        have H9 := Lib.hid (H3.out.trans (hb9.mono H3.out.size))
        clear hb9
        go_wp2_with fail
        go_ret
        exact ⟨rfl, H9.out⟩
      · have y1 : ¬ (n : Int) < (2 : Int) := by omega
        have hn80 : n ≤ 80 := by rw [HN.out.1]; exact HFA2.out.1
        have z3 : IntKind.u64.wrap (n : Int) = (n : Int) := IntWalk.u64_in _ (by omega)
        have z2 : ¬ (n : Int) = 0 := by omega
        have z2b : ((n : Int) == 0) = false := by simp; omega
        obtain ⟨j, hje⟩ : ∃ j, j = i % n := ⟨_, rfl⟩
        have hjn : j < n := by rw [hje]; exact Nat.mod_lt _ (by omega)
        have z4 : (i : Int) % (n : Int) = (j : Int) := by rw [hje]; simp
        have z4b : Int.tmod (i : Int) (n : Int) = (j : Int) := by rw [hje]; rfl
        have z5 : IntKind.u64.wrap (j : Int) = (j : Int) := IntWalk.u64_in _ (by omega)
        have hsz := fun wx => pathSize_any j n wx (by omega) (by omega)
        have hans := fun L h => narrow_ans l j x one L (by rw [← HN.out.1]; exact hjn) h
        rw [← HN.out.1] at hans
        have hs64 := sizeN_le j n
        obtain ⟨L, hL⟩ : ∃ q, q = sizeN j n := ⟨_, rfl⟩
        have HAN := Lib.hid (hans L hL)
        rw [← hL] at hsz hs64
        have HSZ := Lib.hid hsz
        have HJE := Lib.hid hje
        clear hje hsz hans hL
        go_wp2_with fail
        go_loopw [10, 11] (fun s10 s11 wr => ∃ (k : Nat) (pa : Option Addr) (pc : Nat), s10 = .slice pa k pc ∧ s11 = .int .i64 (k : Nat) ∧ k ≤ L ∧ Hid (wr.ownsRow w2.heap.size 35 32 (.slice pa k pc) k ((List.replicate k one).flatMap bv) ∧ Below w2.heap.size w2 wr)) (fun _ s11 _ => L - (intOf s11).toNat)
        case atStart => exact ⟨0, none, 0, rfl, rfl, Nat.zero_le _, Lib.hid ⟨World.ownsRow_nil _ _ _ _, Below.refl _ _⟩⟩
        case round =>
          obtain ⟨k, pa, pc, rfl, rfl, hkL, HI⟩ := hrel
          go_wp2_with fail
          refine (HSZ.out _).mono ?_
          rintro e w5 ⟨rfl, hb5⟩
          have HR5 := Lib.hid (((HI.out.2.trans (hb5.mono HI.out.2.size)).block _ (Array.getElem?_eq_some_iff.1 HR2.out).1).trans HR2.out)
          have HI5 := Lib.hid (And.intro (own_keep HI.out.1 hb5) (HI.out.2.trans (hb5.mono HI.out.2.size)))
          clear hb5
          by_cases hkl : k < L
          · have y2 : (k : Int) < (L : Int) := by omega
            have zk : IntKind.i64.wrap ((k : Int) + 1) = ((k + 1 : Nat) : Int) := (IntWalk.i64_in _ (by omega)).trans (by omega)
            go_wp2_with (first
              | (with_reducible show wpList _ _ _ (⟨some 46, _, _, _, _, _⟩ :: _) _ _; refine wpList_load_row rfl _ _ rfl w.heap.size rfl _ _ (0, 0) _ HR5.out Tryd.underlying35 rfl (hInfo _ HMO.out.2) ?_)
              | (with_reducible show wpList _ _ _ (⟨some 47, _, _, _, _, _⟩ :: _) _ _; refine wpList_build1 rfl 36 35 _ rfl (bv one) rfl Tryd.underlying36 infoHbN (by rw [bv_length]; exact HMO.out.2) (by decide) (by decide) ?_)
              | (at_builtin; refine wpList_app (o := ⟨some 48, _, _, _, _, _⟩) Tryd.underlying36 infoHbN rfl (by decide) rfl _ _ rfl rfl rfl (own_keep HI5.out.1 ((Below.refl _ _).alloc (Nat.le_refl _) _)) (Rd.row _ 35 32 (bv one) (by rw [bv_length]; exact HMO.out.2) (bv_one one)) (by omega) (by omega) (by have := HI5.out.2.size; simp; omega) ?_; intro v5 w6 how5 hg5 _))
            replace hg5 := hg5.alloc
            have hb6 := HI5.out.2.trans (hg5.below HI5.out.2.size (own_block HI5.out.1))
            obtain ⟨pa5, pc5, rfl⟩ := own_form how5
            have H5 := Lib.hid (And.intro how5 hb6)
            clear how5 hg5 hb6
            go_wp2_with fail
            go_roundw
            case rel =>
              refine ⟨k + 1, pa5, pc5, rfl, by first | rfl | go_num, by omega, Lib.hid ⟨?_, H5.out.2⟩⟩
              rw [rep_next]; exact H5.out.1
            case measure => simp [intOf]; omega
          · have y2 : ¬ (k : Int) < (L : Int) := by omega
            have eL : L = k := by omega
            subst eL
            have hB5 := H3.out.trans (HI5.out.2.mono H3.out.size)
            have hcl := cPath_any 0 l j x (List.replicate L one) (.slice va l.length vc) (.slice xa x.length xc) pa pc w5 (by omega) (by rw [← HN.out.1]; omega) (fun t h => Nat.le_trans (HFA2.out.2 t h) (by omega)) (by omega) (by rw [← HN.out.2]; omega) (fun p hp => by rw [List.eq_of_mem_replicate hp]; exact HMO.out.2) (by rw [List.length_replicate]; omega) (HVX.out.1.keep hB5) (HVX.out.2.keep hB5) (by rw [List.length_replicate]; exact own_rd HI5.out.1 (fun u hu => by obtain ⟨t, _, ht⟩ := List.mem_flatMap.1 hu; exact bv_one t u ht)) (HTT.out.toTabs.keepB hB5)
            rw [← HN.out.1, ← HN.out.2, List.length_replicate] at hcl
            have hac := ansP_tells 0 l j x (List.replicate L one) (by rw [← HN.out.1]; omega) (fun p hp => by rw [List.eq_of_mem_replicate hp]; exact HMO.out.2)
            have hln := ansP_len 0 l j x (List.replicate L one) (by rw [← HN.out.1]; omega) (fun t h => Nat.le_trans (HFA2.out.2 t h) (by omega)) (by rw [← HN.out.2]; omega) (fun p hp => by rw [List.eq_of_mem_replicate hp]; exact HMO.out.2)
            have han := HAN.out
            obtain ⟨AN, hAN⟩ : ∃ q, q = ansP 0 l j x (List.replicate L one) := ⟨_, rfl⟩
            rw [← hAN] at hcl hac hln han
            obtain ⟨PF, hPF⟩ : ∃ q, q = pathF (hw 0) n l j (List.replicate L one) x := ⟨_, rfl⟩
            rw [← hPF] at han
            obtain ⟨tb, tf, tc, hvs, hvc, hvat⟩ := HVX.out.1.at (by rw [← HN.out.1]; omega)
            simp only [Value.slice.injEq] at hvs
            obtain ⟨rfl, -, htc⟩ := hvs
            have htc2 := htc.symm
            subst htc2
            obtain ⟨y, hy⟩ : ∃ q, q = l[j]?.getD [] := ⟨_, rfl⟩
            rw [← hy] at han
            have hys : l[j]? = some y := by rw [hy, List.getElem?_eq_getElem (by rw [← HN.out.1]; exact hjn)]; rfl
            obtain ⟨ya, yc, hcy, hry⟩ := hvat j y hys
            obtain ⟨yn, hyn⟩ : ∃ q, q = y.length := ⟨_, rfl⟩
            rw [← hyn] at hcy
            have HYC := Lib.hid (And.intro hcy (show Rd w 1 (.slice ya yn yc) y.length (bv y) by rw [hyn]; exact hry))
            obtain ⟨E, X, Y⟩ := AN
            have HCL := Lib.hid hcl
            have HCB0 := Lib.hid (show (E == 0) = clB 0 X Y from hac)
            have HLN := Lib.hid (show X.length ≤ 4001 ∧ Y.length ≤ 4001 from hln)
            have HAE := Lib.hid han
            have HB5 := Lib.hid hB5
            clear hcl hac hln han hAN hPF hvc hvat hy hys hcy hry hyn hB5 hkl hkL
            go_wp2_with fail
            refine HCL.out.mono ?_
            rintro e w6 ⟨x1, d1, x2, d2, he, hx1, hx2, hb6⟩
            have he : e = .returned (.tuple #[.agg #[.slice x1 X.length d1, .slice x2 Y.length d2], .int .i64 E]) := he
            have hx1 : Rd w6 1 (.slice x1 X.length d1) X.length (bv X) := hx1
            have hx2 : Rd w6 1 (.slice x2 Y.length d2) Y.length (bv Y) := hx2
            subst he
            obtain ⟨w7, hw7⟩ : ∃ x : World, x = w6.alloc (.cells #[.slice x1 X.length d1, .slice x2 Y.length d2] 27) := ⟨_, rfl⟩
            have hb7 : Below w6.heap.size w6 w7 := by rw [hw7]; exact (Below.refl _ _).alloc (Nat.le_refl _) _
            have hr7 : w7.heap[w6.heap.size]? = some (.cells #[.slice x1 X.length d1, .slice x2 Y.length d2] 27 (0, 0)) := by rw [hw7]; exact heap_alloc_new _ _
            have hB7 := HB5.out.trans ((hb6.trans (hb7.mono hb6.size)).mono HB5.out.size)
            have H7 := Lib.hid hB7
            have HR7 := Lib.hid hr7
            have HRX := Lib.hid (And.intro (hx1.keep hb7) (hx2.keep hb7))
            have HW7 := Lib.hid hw7
            have HXY := Lib.hid (show Rd w7 1 (.slice xa xn xc) x.length (bv x) ∧ Rd w7 1 (.slice ya yn yc) y.length (bv y) by
              constructor
              · have := HVX.out.2.keep hB7; rwa [← HN.out.2] at this ⊢
              · exact HYC.out.2.keep hB7)
            have hcy7 := (hB7.cell (p := ⟨tb, tf + j, none⟩) (World.block_lt_of_cell? w _ HYC.out.1)).trans HYC.out.1
            have HC := Lib.hid (fun wx (hb : Below w7.heap.size w7 wx) => (hb.cell (p := ⟨tb, tf + j, none⟩) (World.block_lt_of_cell? w7 _ hcy7)).trans hcy7)
            clear hx1 hx2 hb6 hb7 hr7 hw7 hB7 hcy7
            by_cases hqm : x = y
            · have HQX := Lib.hid (show (x == y) = true from beq_iff_eq.2 hqm)
              have hE : E = 8 := by have := HAE.out; rw [if_pos hqm] at this; exact congrArg (·.1) this
              subst hE
              clear hqm
              go_upto_region 11 with fail
              rw [show w6.alloc (.cells #[.slice x1 X.length d1, .slice x2 Y.length d2] 27) = w7 from HW7.out.symm]
              refine wp_region_steps [some 57, some 58, some 59, some 60, some 61, some 62, some 63, some 64] [] (n11yF tb tf tc n j xn xc yn yc xa ya x y) (fun _ wx wy => Below wx.heap.size wx wy) (fun wx => Below w7.heap.size w7 wx) (by kernel_rfl) (by kernel_rfl) rfl (by kernel_rfl) (Below.refl _ _).drew (fun _ wx => Below.refl _ _) (fun _ wx wy h k => h.trans (k.mono h.size)) ?hF ?hstep ?hend
              case hF =>
                exact ⟨fun _ _ _ _ _ _ h => h, ⟨fun _ _ _ _ _ _ h => h, ⟨fun _ _ _ _ _ _ h => h, ⟨fun _ _ _ _ _ _ h => h, ⟨fun _ _ _ _ _ _ h => h, ⟨fun _ _ _ _ _ _ h => h, ⟨fun _ _ _ _ _ _ h => h, ⟨fun _ _ _ _ _ _ h => h, trivial⟩⟩⟩⟩⟩⟩⟩⟩
              case hstep =>
                refine ⟨fun r wx hG hs hq hf => ?_, ?_⟩
                · have e2 : r 2 = .slice xa xn xc := hs 2 rfl
                  refine (if_pos rfl).symm ▸ ?_
                  clear hs hq hf
                  unfold gives
                  go_simp
                  exact ⟨Below.refl _ _, rfl⟩
                refine ⟨fun r wx hG hs hq hf => ?_, ?_⟩
                · have h0 : r 57 = .slice xa xn xc := hf.1
                  refine (if_pos rfl).symm ▸ ?_
                  clear hs hq hf
                  unfold gives
                  have hs := string_of_bytes (P := Tryd.prog) (w := wx) Tryd.underlying25 Tryd.underlying5 Tryd.underlying9 (HXY.out.1.keep hG)
                  go_simp
                  exact ⟨Below.refl _ _, rfl⟩
                refine ⟨fun r wx hG hs hq hf => ?_, ?_⟩
                · have e0 : r 0 = .slice (some ⟨tb, tf, none⟩) n tc := hs 0 rfl
                  refine (if_pos rfl).symm ▸ ?_
                  clear hs hq hf
                  unfold gives
                  go_simp
                  exact ⟨Below.refl _ _, rfl⟩
                refine ⟨fun r wx hG hs hq hf => ?_, ?_⟩
                · have e1 : r 1 = .int .u64 j := hs 1 rfl
                  refine (if_pos rfl).symm ▸ ?_
                  clear hs hq hf
                  unfold gives
                  go_simp
                  exact ⟨Below.refl _ _, rfl⟩
                refine ⟨fun r wx hG hs hq hf => ?_, ?_⟩
                · have h2 : r 59 = .slice (some ⟨tb, tf, none⟩) n tc := hf.1
                  have h3 : r 60 = .int .u64 j := hf.2.1
                  refine (if_pos rfl).symm ▸ ?_
                  clear hs hq hf
                  unfold gives
                  have y1 : (0 : Int) ≤ (j : Int) := by omega
                  have y2 : (j : Int) < (n : Int) := by omega
                  go_simp
                  exact ⟨Below.refl _ _, rfl⟩
                refine ⟨fun r wx hG hs hq hf => ?_, ?_⟩
                · have h4 : r 61 = .pointer (some ⟨tb, tf + j, none⟩) := hf.1
                  refine (if_pos rfl).symm ▸ ?_
                  clear hs hq hf
                  unfold gives
                  have hcl := HC.out wx hG
                  go_simp
                  exact ⟨Below.refl _ _, rfl⟩
                refine ⟨fun r wx hG hs hq hf => ?_, ?_⟩
                · have h5 : r 62 = .slice ya yn yc := hf.1
                  refine (if_pos rfl).symm ▸ ?_
                  clear hs hq hf
                  unfold gives
                  have hs := string_of_bytes (P := Tryd.prog) (w := wx) Tryd.underlying25 Tryd.underlying5 Tryd.underlying9 (HXY.out.2.keep hG)
                  go_simp
                  exact ⟨Below.refl _ _, rfl⟩
                refine ⟨fun r wx hG hs hq hf => ?_, ?_⟩
                · have h1 : r 58 = .string ⟨x.toArray⟩ := hf.1
                  have h6 : r 63 = .string ⟨y.toArray⟩ := hf.2.1
                  refine (if_pos rfl).symm ▸ ?_
                  clear hs hq hf
                  unfold gives
                  have hqb := HQX.out
                  go_simp
                  exact ⟨Below.refl _ _, by first | rfl | simp [n11yF]⟩
                exact trivial
              case hend =>
                intro u wz hG hfin
                have z7 : u 7 = .bool true := hfin 7 (by decide) (by kernel_rfl)
                clear hfin
                simp only [fill]
                have H8 := Lib.hid (H7.out.trans (hG.mono H7.out.size))
                clear hG
                go_simp
                go_wp2_with fail
                go_ret
                exact ⟨rfl, H8.out⟩
            · have HQX := Lib.hid (show (x == y) = false from beq_eq_false_iff_ne.2 hqm)
              have hE : E = 0 := by have := HAE.out; rw [if_neg hqm] at this; exact congrArg (·.1) this
              subst hE
              have HCB := Lib.hid (show clB 0 X Y = true from HCB0.out.symm.trans (by simp))
              clear hqm
              go_upto_region 11 with fail
              rw [show w6.alloc (.cells #[.slice x1 X.length d1, .slice x2 Y.length d2] 27) = w7 from HW7.out.symm]
              refine wp_region_steps [some 57, some 58, some 59, some 60, some 61, some 62, some 63, some 64] [] (n11nF tb tf tc n j xn xc yn yc xa ya x y) (fun _ wx wy => Below wx.heap.size wx wy) (fun wx => Below w7.heap.size w7 wx) (by kernel_rfl) (by kernel_rfl) rfl (by kernel_rfl) (Below.refl _ _).drew (fun _ wx => Below.refl _ _) (fun _ wx wy h k => h.trans (k.mono h.size)) ?hF ?hstep ?hend
              case hF =>
                exact ⟨fun _ _ _ _ _ _ h => h, ⟨fun _ _ _ _ _ _ h => h, ⟨fun _ _ _ _ _ _ h => h, ⟨fun _ _ _ _ _ _ h => h, ⟨fun _ _ _ _ _ _ h => h, ⟨fun _ _ _ _ _ _ h => h, ⟨fun _ _ _ _ _ _ h => h, ⟨fun _ _ _ _ _ _ h => h, trivial⟩⟩⟩⟩⟩⟩⟩⟩
              case hstep =>
                refine ⟨fun r wx hG hs hq hf => ?_, ?_⟩
                · have e2 : r 2 = .slice xa xn xc := hs 2 rfl
                  refine (if_pos rfl).symm ▸ ?_
                  clear hs hq hf
                  unfold gives
                  go_simp
                  exact ⟨Below.refl _ _, rfl⟩
                refine ⟨fun r wx hG hs hq hf => ?_, ?_⟩
                · have h0 : r 57 = .slice xa xn xc := hf.1
                  refine (if_pos rfl).symm ▸ ?_
                  clear hs hq hf
                  unfold gives
                  have hs := string_of_bytes (P := Tryd.prog) (w := wx) Tryd.underlying25 Tryd.underlying5 Tryd.underlying9 (HXY.out.1.keep hG)
                  go_simp
                  exact ⟨Below.refl _ _, rfl⟩
                refine ⟨fun r wx hG hs hq hf => ?_, ?_⟩
                · have e0 : r 0 = .slice (some ⟨tb, tf, none⟩) n tc := hs 0 rfl
                  refine (if_pos rfl).symm ▸ ?_
                  clear hs hq hf
                  unfold gives
                  go_simp
                  exact ⟨Below.refl _ _, rfl⟩
                refine ⟨fun r wx hG hs hq hf => ?_, ?_⟩
                · have e1 : r 1 = .int .u64 j := hs 1 rfl
                  refine (if_pos rfl).symm ▸ ?_
                  clear hs hq hf
                  unfold gives
                  go_simp
                  exact ⟨Below.refl _ _, rfl⟩
                refine ⟨fun r wx hG hs hq hf => ?_, ?_⟩
                · have h2 : r 59 = .slice (some ⟨tb, tf, none⟩) n tc := hf.1
                  have h3 : r 60 = .int .u64 j := hf.2.1
                  refine (if_pos rfl).symm ▸ ?_
                  clear hs hq hf
                  unfold gives
                  have y1 : (0 : Int) ≤ (j : Int) := by omega
                  have y2 : (j : Int) < (n : Int) := by omega
                  go_simp
                  exact ⟨Below.refl _ _, rfl⟩
                refine ⟨fun r wx hG hs hq hf => ?_, ?_⟩
                · have h4 : r 61 = .pointer (some ⟨tb, tf + j, none⟩) := hf.1
                  refine (if_pos rfl).symm ▸ ?_
                  clear hs hq hf
                  unfold gives
                  have hcl := HC.out wx hG
                  go_simp
                  exact ⟨Below.refl _ _, rfl⟩
                refine ⟨fun r wx hG hs hq hf => ?_, ?_⟩
                · have h5 : r 62 = .slice ya yn yc := hf.1
                  refine (if_pos rfl).symm ▸ ?_
                  clear hs hq hf
                  unfold gives
                  have hs := string_of_bytes (P := Tryd.prog) (w := wx) Tryd.underlying25 Tryd.underlying5 Tryd.underlying9 (HXY.out.2.keep hG)
                  go_simp
                  exact ⟨Below.refl _ _, rfl⟩
                refine ⟨fun r wx hG hs hq hf => ?_, ?_⟩
                · have h1 : r 58 = .string ⟨x.toArray⟩ := hf.1
                  have h6 : r 63 = .string ⟨y.toArray⟩ := hf.2.1
                  refine (if_pos rfl).symm ▸ ?_
                  clear hs hq hf
                  unfold gives
                  have hqb := HQX.out
                  go_simp
                  exact ⟨Below.refl _ _, by first | rfl | simp [n11nF]⟩
                exact trivial
              case hend =>
                intro u wz hG hfin
                have z7 : u 7 = .bool false := hfin 7 (by decide) (by kernel_rfl)
                clear hfin
                simp only [fill]
                have H8 := Lib.hid (H7.out.trans (hG.mono H7.out.size))
                have HR8 := Lib.hid ((hG.block _ (Array.getElem?_eq_some_iff.1 HR7.out).1).trans HR7.out)
                have HX8 := Lib.hid (And.intro (HRX.out.1.keep hG) (HRX.out.2.keep hG))
                clear hG
                obtain ⟨w8, hw8⟩ : ∃ q, q = wz := ⟨_, rfl⟩
                subst hw8
                go_simp
                have q0 : w8.cell? ⟨w6.heap.size, 0, none⟩ = some (.slice x1 X.length d1) := cell_of_rowp HR8.out rfl
                have q1 : w8.cell? ⟨w6.heap.size, 1, none⟩ = some (.slice x2 Y.length d2) := cell_of_rowp HR8.out rfl
                have HCS := Lib.hid (clash_any 0 X Y x1 x2 d1 d2 w8 (by omega) (by have : X.length ≤ 4001 := HLN.out.1; omega) (by have : Y.length ≤ 4001 := HLN.out.2; omega) HX8.out.1 HX8.out.2 (HTT.out.keepB H8.out))
                go_wp2_with fail
                refine HCS.out.mono ?_
                rintro e w9 ⟨rfl, hb9⟩
                rw [show clB 0 X Y = true from HCB.out]
                have H9 := Lib.hid (H8.out.trans (hb9.mono H8.out.size))
                clear hb9
                go_wp2_with fail
                go_ret
                exact ⟨rfl, H9.out⟩
end Go.Proofs.YtfibhmgjkooemaaDoor
