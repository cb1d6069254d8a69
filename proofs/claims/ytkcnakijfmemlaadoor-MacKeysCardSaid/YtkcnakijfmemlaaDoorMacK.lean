/- The law MacKeys. (printed by gen/mackeys.py) -/
import Derived.Test.YtkcnakijfmemlaaDoorMacL
namespace Go.Proofs.YtkcnakijfmemlaaDoor
open Go.ChangeShapes Go.WideShapes Go.ChangeAt Go.RowKit Sha

theorem hkey_id (l : List UInt8) (h : l.length ≤ 64) : hkey l = l := by unfold hkey; rw [if_neg (by omega)]
theorem macB_hkey (key text : List UInt8) : macB (hkey key) text = macB key text := by rw [macB, macB, hkey_id _ (hkey_le key)]
theorem pad64_zs (l : List UInt8) (n : Nat) (h : l.length + n ≤ 64) : pad64 (l ++ zs n) = pad64 l := by
  unfold pad64
  rw [List.append_assoc]
  congr 1
  simp only [zs, List.length_append, List.length_replicate]
  rw [List.replicate_append_replicate]
  congr 1; omega
theorem macB_zs (l text : List UInt8) (n : Nat) (h : l.length + n ≤ 64) : macB (l ++ zs n) text = macB l text := by
  rw [macB, macB, hkey_id _ (by simp [zs]; omega), hkey_id l (by omega), pad64_zs _ _ h]
theorem zs_one (l : List UInt8) (n : Nat) : bv (l ++ zs n) ++ [Value.int .u8 0] = bv (l ++ zs (n + 1)) := by
  rw [← zs_snoc]; simp [bv]
/-- What each operation hands on. -/
def mk8F (a1 : Option Addr) (tn c1 : Nat) (ak : Option Addr) (kn ck : Nat) (o : Array Value) : Nat → Value → World → Prop
  | 0, v, _ => v = .slice ak kn ck
  | 1, v, _ => v = .slice a1 tn c1
  | 2, v, _ => v = .agg o
  | 3, v, _ => v = .agg o
  | 4, v, _ => v = .bool false
  | _, _, _ => True
/-- What each operation hands on. -/
def mk15F (a1 : Option Addr) (tn c1 : Nat) (a7 : Option Addr) (kq c7 : Nat) (o m0 m1 : Array Value) : Nat → Value → World → Prop
  | 0, v, _ => v = .slice a7 kq c7
  | 1, v, _ => v = .slice a1 tn c1
  | 2, v, _ => v = .agg o
  | 3, v, _ => v = .agg o
  | 4, v, _ => v = .bool true
  | 5, v, _ => v = .bool true
  | 6, v, _ => v = .slice a7 kq c7
  | 7, v, _ => v = .agg m0
  | 8, v, _ => v = .slice a1 tn c1
  | 9, v, _ => v = .agg m1
  | 10, v, _ => v = .agg o
  | 11, v, _ => v = .agg o
  | 12, v, _ => v = .bool true
  | 13, v, _ => v = .bool true
  | 14, v, _ => v = .bool true
  | _, _, _ => True

set_option maxHeartbeats 4000000 in
set_option maxRecDepth 100000 in
theorem macKeys_walk (key text : List UInt8) (v v1 : Value) (z : Int) (w : World) (hl : key.length ≤ 140737488351232) (hl1 : text.length ≤ 140737488351232) (_hz : -9223372036854775808 ≤ z ∧ z ≤ 9223372036854775807) (hr : Rd w 1 v key.length (bv key)) (hr1 : Rd w 1 v1 text.length (bv text)) (hT : Tabs w) :
    Calls Tryd.prog 9 #[v, v1, .int .i64 z] w fun e w' => e = .returned (.bool true) ∧ Below w.heap.size w w' := by
  obtain ⟨a, c, rfl⟩ := hr.form
  obtain ⟨a1, c1, rfl⟩ := hr1.form
  have hz32 := (zero_of_info info32).1
  have HR := Lib.hid (And.intro hr hr1)
  clear hr hr1
  go_enter Tryd.func9, Tryd.ntmps9
  go_wp2_with fail
  refine (awake04_any w hT).mono ?_
  rintro e w1 ⟨rfl, hb1⟩
  have hr1 := HR.out.1.keep hb1
  have hown0 := own_new w1 5 1 0 w1.heap.size [] rfl (by omega) (Nat.le_refl _)
  have hra := hr1.alloc (.cells #[] 5)
  go_wp2_with (at_builtin; go_loud (refine wpList_app Tryd.underlying22 infoU8s rfl (by decide) rfl _ _ rfl rfl rfl hown0 hra (by omega) (by omega) (by simp) ?_))
  intro v2 w2 ho hg _
  have hb2 : Below w1.heap.size w1 w2 := ((Below.refl _ _).alloc (Nat.le_refl _) _).trans (hg.below (by simp) (own_block hown0))
  have hbw2 := hb1.trans (hb2.mono hb1.size)
  have ho2 : w2.ownsRow w.heap.size 5 1 v2 key.length (bv key) := own_base (by simpa using ho) hb1.size
  have H2 := Lib.hid (And.intro ho2 hbw2)
  clear hown0 hra ho hg ho2 hbw2 hb2 hb1 hr1
  go_upto_region 4 with fail
  go_upto_if 19 with fail
  go_cut [7] (fun s wq => RowKit.Hid (wq.ownsRow w.heap.size 5 1 s (hkey key).length (bv (hkey key)) ∧ Below w.heap.size w wq))
  case first =>
    by_cases h64 : 64 < key.length
    · have hd : (64 : Int) < (key.length : Int) := by omega
      have hh : hkey key = Sha.sum key := by unfold hkey; rw [if_pos h64]
      have HH := Lib.hid hh
      clear hh
      go_wp2_with fail
      refine (shaSum_any key _ w2 (by omega) (HR.out.1.keep H2.out.2) (hT.keepB H2.out.2)).mono ?_
      rintro e w3 ⟨rfl, hb3⟩
      have hol := sum_length key
      have hbw3 := H2.out.2.trans (hb3.mono H2.out.2.size)
      generalize Sha.sum key = o at *
      have H3 := Lib.hid (And.intro hbw3 hol)
      clear hbw3 hb3 H2
      go_upto_region 6 with (with_reducible show wpList _ _ _ (⟨none, Op.store _ _ _, _, _, _, _⟩ :: _) _ _; go_loud (refine wpList_store_whole rfl _ _ _ rfl w3.heap.size (bv o) rfl rfl (bv (zs 32)) _ (heap_alloc_new _ _) (hInfo' _ H3.out.2) (by rw [bv_length, bv_length, H3.out.2]; simp [zs]) (bv_one _) ?_); intro w4 HG4 hg4)
      have hb4 : Below w.heap.size w w4 := below_grow (H3.out.1.alloc H3.out.1.size _) hg4 H3.out.1.size (by simp)
      have hd4 := rd_row HG4.out H3.out.2
      have hown0 := own_new w4 5 1 0 w4.heap.size [] rfl (by omega) (Nat.le_refl _)
      have hra := hd4.alloc (.cells #[] 5)
      have HX := Lib.hid (And.intro hown0 (And.intro hra hb4))
      clear hown0 hra hd4 hb4 HG4 hg4
      go_wp2_with (at_builtin; go_loud (refine wpList_app Tryd.underlying22 infoU8s rfl (by decide) rfl _ _ rfl rfl rfl HX.out.1 HX.out.2.1 (by rw [H3.out.2]; omega) (by rw [H3.out.2]; omega) (by simp) ?_))
      intro v5 w5 ho hg _
      have hb5 : Below w4.heap.size w4 w5 := ((Below.refl _ _).alloc (Nat.le_refl _) _).trans (hg.below (by simp) (own_block HX.out.1))
      have hbw5 := HX.out.2.2.trans (hb5.mono HX.out.2.2.size)
      have ho5 : w5.ownsRow w.heap.size 5 1 v5 o.length (bv o) := own_base (by have e := H3.out.2; rw [e]; simpa [e] using ho) HX.out.2.2.size
      have H5 := Lib.hid (And.intro ho5 hbw5)
      clear ho hg ho5 hb5 hbw5 HX
      go_wp2_with fail
      go_meet
      rw [HH.out]; exact H5
    · have hd : ¬ (64 : Int) < (key.length : Int) := by omega
      have hh : hkey key = key := by unfold hkey; rw [if_neg h64]
      have HH := Lib.hid hh
      clear hh
      go_wp2_with fail
      go_meet
      rw [HH.out]; exact H2
  case rest =>
    clear H2
    obtain ⟨hk, hhk⟩ : ∃ hk, hk = hkey key := ⟨_, rfl⟩
    rw [← hhk] at hcut
    have hkl : hk.length ≤ 64 := by rw [hhk]; exact hkey_le key
    have HHK := Lib.hid hhk
    clear hhk
    obtain ⟨ak, ck, hs⟩ := (own_rd hcut.out.1 (bv_one _)).form
    subst hs
    obtain ⟨o', ho'⟩ : ∃ o', o' = macB key text := ⟨_, rfl⟩
    have hol : o'.length = 32 := by rw [ho']; exact macB_length _ _
    have hM0 := macMark_any key text _ _ wc (by omega) (by omega) (HR.out.1.keep hcut.out.2) (HR.out.2.keep hcut.out.2) (hT.keepB hcut.out.2)
    rw [← ho'] at hM0
    have HO := Lib.hid (And.intro ho' hol)
    have HM0 := Lib.hid hM0
    clear ho' hM0 hol
    go_upto_region 7 with fail
    go_wp2_with fail
    refine HM0.out.mono ?_
    rintro e w3 ⟨rfl, hb3⟩
    have ho3 := own_keep hcut.out.1 hb3
    have hbw3 := hcut.out.2.trans (hb3.mono hcut.out.2.size)
    have H3 := Lib.hid (And.intro ho3 hbw3)
    clear ho3 hbw3 hb3 HM0 hcut
    go_upto_region 8 with (with_reducible show wpList _ _ _ (⟨none, Op.store _ _ _, _, _, _, _⟩ :: _) _ _; go_loud (refine wpList_store_whole rfl _ _ _ rfl w3.heap.size (bv o') rfl rfl (bv (zs 32)) _ (heap_alloc_new _ _) (hInfo' _ HO.out.2) (by rw [bv_length, bv_length, HO.out.2]; simp [zs]) (bv_one _) ?_); intro w5 HG5 hg5)
    simp only [Act.put]
    have ho5 : w5.ownsRow w.heap.size 5 1 (.slice ak hk.length ck) hk.length (bv hk) :=
      (H3.out.1.alloc _).kept hg5 (by
        rcases hj : (Value.slice ak hk.length ck).ownBlock with _ | j
        · exact .inl rfl
        · refine .inr (fun e => ?_)
          have := (H3.out.1.lt j hj).2
          simp only [Option.some.injEq] at e
          omega)
    have hbw5 : Below w.heap.size w w5 := below_grow (H3.out.2.alloc H3.out.2.size _) hg5 H3.out.2.size (by simp)
    have hrow9 := HG5.out
    have hne9 : ∀ j, (Value.slice ak hk.length ck).ownBlock = some j → j ≠ w3.heap.size := fun j hj => by have := (H3.out.1.lt j hj).2; omega
    have hge9 := H3.out.2.size
    generalize w3.heap.size = g9 at *
    have hlt9 := (Array.getElem?_eq_some_iff.1 hrow9).1
    have hszo := hInfo o' HO.out.2
    have hee := fun w => eqIn_hash o' o' HO.out.2 HO.out.2 w
    simp only [BEq.rfl] at hee
    obtain ⟨o, hoo⟩ : ∃ o, o = (bv o').toArray := ⟨_, rfl⟩
    rw [← hoo] at hrow9 hszo hee
    have HE := Lib.hid hee
    obtain ⟨kn, hkn⟩ : ∃ kn, kn = hk.length := ⟨_, rfl⟩
    obtain ⟨tn, htn⟩ : ∃ tn, tn = text.length := ⟨_, rfl⟩
    rw [← hoo, ← hkn, ← htn]
    rw [← hkn] at ho5 hne9
    have hrk := own_rd ho5 (bv_one _)
    have h1 : ∀ w', Below w5.heap.size w5 w' → _ := fun w' hb => macMark_any hk text (.slice ak kn ck) (.slice a1 tn c1) w' (by omega) (by omega) (by rw [← hkn]; exact hrk.keep hb) (by rw [htn]; exact HR.out.2.keep (hbw5.trans (hb.mono hbw5.size))) (hT.keepB (hbw5.trans (hb.mono hbw5.size)))
    rw [HHK.out, macB_hkey, ← HO.out.1, ← hoo] at h1
    have HM := Lib.hid h1
    have H5 := Lib.hid (And.intro ho5 (And.intro hbw5 (And.intro hne9 (And.intro hkn (And.intro htn hoo)))))
    clear h1 ho5 hbw5 hne9 hrk hee hkn htn hoo HG5 hg5 H3
    refine wp_region_steps [some 28, some 29, some 30, some 31, some 32] [] (mk8F a1 tn c1 ak kn ck o) (fun _ wx wy => Below wx.heap.size wx wy) (fun wx => Below w5.heap.size w5 wx) (by kernel_rfl) (by kernel_rfl) rfl (by kernel_rfl) (Below.refl _ _).drew (fun _ wx => Below.refl _ _) (fun _ wx wy h k => h.trans (k.mono h.size)) ?hF ?hstep ?hend
    case hF =>
      exact ⟨fun _ _ _ _ _ _ h => h, ⟨fun _ _ _ _ _ _ h => h, ⟨fun _ _ _ _ _ _ h => h, ⟨fun _ _ _ _ _ _ h => h, ⟨fun _ _ _ _ _ _ h => h, trivial⟩⟩⟩⟩⟩
    case hstep =>
      -- operation 0: Op.move (tmp 7)
      refine ⟨fun r wx hG hs hq hf => ?_, ?_⟩
      · have e7 : r 7 = .slice ak kn ck := hs 7 rfl
        refine (if_pos rfl).symm ▸ ?_
        clear hs hq hf
        unfold gives
        go_simp
        exact ⟨Below.refl _ _, rfl⟩
      -- operation 1: Op.move (tmp 1)
      refine ⟨fun r wx hG hs hq hf => ?_, ?_⟩
      · have e1 : r 1 = .slice a1 tn c1 := hs 1 rfl
        refine (if_pos rfl).symm ▸ ?_
        clear hs hq hf
        unfold gives
        go_simp
        exact ⟨Below.refl _ _, rfl⟩
      -- operation 2: Op.call ( callee := Callee.value (func 25), args := #[tmp 28, tmp 29], argTypes := #[22, 22] )
      refine ⟨fun r wx hG hs hq hf => ?_, ?_⟩
      · have h0 : r 28 = .slice ak kn ck := hf.1
        have h1 : r 29 = .slice a1 tn c1 := hf.2.1
        refine (if_pos rfl).symm ▸ ?_
        clear hs hq hf
        unfold gives
        go_simp
        refine (HM.out wx hG).mono ?_
        rintro e wy ⟨rfl, hb1⟩
        exact ⟨_, rfl, hb1, rfl⟩
      -- operation 3: Op.load 25 (tmp 9)
      refine ⟨fun r wx hG hs hq hf => ?_, ?_⟩
      · have e9 : r 9 = .pointer (some ⟨g9, 0, none⟩) := hs 9 rfl
        refine (if_pos rfl).symm ▸ ?_
        clear hs hq hf
        unfold gives
        refine gives_load_row 25 _ rfl g9 e9 25 o (0, 0) _ ((hG.block _ hlt9).trans hrow9) Tryd.underlying25 rfl hszo ⟨Below.refl _ _, rfl⟩
      -- operation 4: Op.binOp BinOp.neq 25 (tmp 30) (tmp 31) 25
      refine ⟨fun r wx hG hs hq hf => ?_, ?_⟩
      · have h2 : r 30 = .agg o := hf.1
        have h3 : r 31 = .agg o := hf.2.1
        refine (if_pos rfl).symm ▸ ?_
        clear hs hq hf
        unfold gives
        have hgd := eq_guard
        have he := HE.out wx
        go_simp
        exact ⟨Below.refl _ _, rfl⟩
      exact trivial
    case hend =>
      intro u wz hG hfin
      have z4 : u 4 = .bool false := hfin 4 (by decide) (by kernel_rfl)
      clear hfin
      simp only [fill]
      go_simp
      have ho6 := own_keep H5.out.1 hG
      have hbw6 := H5.out.2.1.trans (hG.mono H5.out.2.1.size)
      have hrow6 := (hG.block _ hlt9).trans hrow9
      have H6 := Lib.hid (And.intro ho6 (And.intro hbw6 hrow6))
      have HSZ := Lib.hid hszo
      clear ho6 hbw6 hrow6 hG HM hlt9 hrow9 hszo
      have hkn64 : kn ≤ 64 := by have := H5.out.2.2.2.1; omega
      obtain ⟨d, hd⟩ : ∃ d, d = 65 - kn := ⟨_, rfl⟩
      have hsub : (65 : Int) - (kn : Int) = (d : Int) := by omega
      have hd0 : ¬ (d : Int) = 0 := by omega
      obtain ⟨n, hn, hnd⟩ : ∃ n : Nat, (IntKind.u64.wrap z).tmod (d : Int) = (n : Int) ∧ n < d := by
        have h0 : 0 ≤ IntKind.u64.wrap z := by
          rw [show IntKind.u64.wrap z = z % 18446744073709551616 from rfl]; omega
        have h1 := Int.emod_lt_of_pos (IntKind.u64.wrap z) (show 0 < (d : Int) by omega)
        have h2 := Int.emod_nonneg (IntKind.u64.wrap z) hd0
        refine ⟨((IntKind.u64.wrap z).tmod (d : Int)).toNat, ?_, ?_⟩
        · rw [Int.tmod_eq_emod_of_nonneg h0]; omega
        · rw [Int.tmod_eq_emod_of_nonneg h0]; omega
      have hn64 : n + kn ≤ 64 := by omega
      have hd65 : d ≤ 65 := by omega
      have HD := Lib.hid (And.intro hd hnd)
      clear hd hnd
      go_wp2_with fail
      clear hn hsub hd0 hd65
      go_loopw [11, 7] (fun s11 s7 wr => ∃ i : Nat, i ≤ n ∧ s11 = .int .i64 i ∧ RowKit.Hid (wr.ownsRow w.heap.size 5 1 s7 (kn + i) (bv (hk ++ zs i)) ∧ Below w.heap.size w wr ∧ wr.heap[g9]? = some (.cells o 25 (0, 0)) ∧ ∀ j, s7.ownBlock = some j → j ≠ g9)) (fun s11 _ _ => n - (intOf s11).toNat)
      case atStart => exact ⟨0, by omega, rfl, show _ ∧ _ from ⟨by simpa [zs] using H6.out.1, H6.out.2.1, H6.out.2.2, H5.out.2.2.1⟩⟩
      case round =>
        clear H6
        obtain ⟨i, hi, rfl, HI⟩ := hrel
        obtain ⟨a7, c7, hs⟩ := (own_rd HI.out.1 (bv_one _)).form
        subst hs
        by_cases hin : i < n
        · have hinz : (i : Int) < (n : Int) := by omega
          go_wp2_with (at_builtin; go_loud (refine wpList_app Tryd.underlying22 infoU8s rfl (by decide) rfl _ _ rfl rfl rfl (HI.out.1.alloc _) (Rd.one wr (.int .u8 0) 5 rfl) (by omega) (by omega) (by have := HI.out.2.1.size; simp; omega) ?_))
          intro v' wy ho hg _
          rw [zs_one] at ho
          have hby := (HI.out.2.1.alloc HI.out.2.1.size (.cells #[.int .u8 0] 5)).trans (hg.below (by have := HI.out.2.1.size; simp; omega) (own_block HI.out.1))
          have hlt := (Array.getElem?_eq_some_iff.1 HI.out.2.2.1).1
          have hrowy : wy.heap[g9]? = some (.cells o 25 (0, 0)) := (hg.grown.block g9 (by simp; omega) (fun e => HI.out.2.2.2 g9 e.symm rfl)).trans ((heap_alloc_old _ _ hlt).trans HI.out.2.2.1)
          have hney : ∀ j, v'.ownBlock = some j → j ≠ g9 := fun j hj => by
            rcases hg.blk j hj with h | h
            · exact HI.out.2.2.2 j h
            · simp at h; omega
          have HY := Lib.hid (And.intro ho (And.intro hby (And.intro hrowy hney)))
          obtain ⟨a8, c8, hs⟩ := (own_rd ho (bv_one _)).form
          subst hs
          clear ho hg hby hrowy hney hlt
          go_wp2_with fail
          go_roundw
          case rel => exact ⟨i + 1, by omega, by go_num, HY⟩
          case measure => simp [intOf]; omega
        · have hinz : ¬ (i : Int) < (n : Int) := by omega
          obtain rfl : i = n := by omega
          go_upto_region 15 with fail
          have hrow9 := HI.out.2.2.1
          have hlt9 := (Array.getElem?_eq_some_iff.1 hrow9).1
          have hbw7 := HI.out.2.1
          have hrk := own_rd HI.out.1 (bv_one _)
          generalize wr = w7 at *
          obtain ⟨X, hX⟩ : ∃ X, X = hk ++ zs i := ⟨_, rfl⟩
          have hXl : X.length = kn + i := by rw [hX, H5.out.2.2.2.1]; simp [zs]
          have hmac : macB X text = o' := by rw [hX, macB_zs _ _ _ (by have := H5.out.2.2.2.1; omega), HHK.out, macB_hkey, HO.out.1]
          rw [← hX] at hrk
          obtain ⟨kq, hkq⟩ : ∃ kq, kq = kn + i := ⟨_, rfl⟩
          rw [← hkq] at hrk hXl ⊢
          have hrk' : Rd w7 1 (.slice a7 kq c7) X.length (bv X) := by rw [hXl]; exact hrk
          have hrt : Rd w7 1 (.slice a1 tn c1) text.length (bv text) := by rw [H5.out.2.2.2.2.1]; exact HR.out.2.keep hbw7
          have hT7 := hT.keepB hbw7
          have hk64 : (pad64 (hkey X)).length = 64 := pad64_length _ (hkey_le X)
          have h1 : ∀ w', Below w7.heap.size w7 w' → _ := fun w' hb => macMark_any X text (.slice a7 kq c7) (.slice a1 tn c1) w' (by omega) (by omega) (hrk'.keep hb) (hrt.keep hb) (hT7.keepB hb)
          have h2 : ∀ w', Below w7.heap.size w7 w' → _ := fun w' hb => New_any X (.slice a7 kq c7) w' (by omega) (hrk'.keep hb) (hT7.keepB hb)
          have h3 : ∀ w', Below w7.heap.size w7 w' → _ := fun w' hb => MWrite_any (pad64 (hkey X)) [] text false (.slice a1 tn c1) w' hk64 (by simp; omega) (hrt.keep hb) (hT7.keepB hb)
          have h4 : ∀ w', Below w7.heap.size w7 w' → _ := fun w' hb => MMark_any (pad64 (hkey X)) (kx (pad64 (hkey X)) 54 ++ text) true w' hk64 (by rw [List.length_append, kx_length, hk64]; omega) (hT7.keepB hb)
          rw [show bt (pad64 (hkey X)) [] false = kx (pad64 (hkey X)) 54 from rfl] at h3
          rw [show markB (pad64 (hkey X)) (bt (pad64 (hkey X)) (kx (pad64 (hkey X)) 54 ++ text) true) = o' from hmac, ← H5.out.2.2.2.2.2] at h4
          rw [hmac, ← H5.out.2.2.2.2.2] at h1
          generalize (mkL (pad64 (hkey X)) [] false).toArray = m0 at *
          generalize (mkL (pad64 (hkey X)) (kx (pad64 (hkey X)) 54 ++ text) true).toArray = m1 at *
          have hszo := HSZ.out
          have HM := Lib.hid h1
          have HN := Lib.hid h2
          have HW := Lib.hid h3
          have HK := Lib.hid h4
          have HBW := Lib.hid hbw7
          clear h1 h2 h3 h4 hbw7 hrk hrk' hrt hT7 hk64 hmac hX hXl hkq HI H5 HSZ HD HR HO HHK
          refine wp_region_steps [some 49, some 50, some 51, some 52, some 53, some 54, some 55, some 56, some 57, some 58, some 59, some 60, some 61, some 62, some 6] [] (mk15F a1 tn c1 a7 kq c7 o m0 m1) (fun _ wx wy => Below wx.heap.size wx wy) (fun wx => Below w7.heap.size w7 wx) (by kernel_rfl) (by kernel_rfl) rfl (by kernel_rfl) (Below.refl _ _).drew (fun _ wx => Below.refl _ _) (fun _ wx wy h k => h.trans (k.mono h.size)) ?hF ?hstep ?hend
          case hF =>
            exact ⟨fun _ _ _ _ _ _ h => h, ⟨fun _ _ _ _ _ _ h => h, ⟨fun _ _ _ _ _ _ h => h, ⟨fun _ _ _ _ _ _ h => h, ⟨fun _ _ _ _ _ _ h => h, ⟨fun _ _ _ _ _ _ h => h, ⟨fun _ _ _ _ _ _ h => h, ⟨fun _ _ _ _ _ _ h => h, ⟨fun _ _ _ _ _ _ h => h, ⟨fun _ _ _ _ _ _ h => h, ⟨fun _ _ _ _ _ _ h => h, ⟨fun _ _ _ _ _ _ h => h, ⟨fun _ _ _ _ _ _ h => h, ⟨fun _ _ _ _ _ _ h => h, ⟨fun _ _ _ _ _ _ h => h, trivial⟩⟩⟩⟩⟩⟩⟩⟩⟩⟩⟩⟩⟩⟩⟩
          case hstep =>
            -- operation 0: Op.move (tmp 7)
            refine ⟨fun r wx hG hs hq hf => ?_, ?_⟩
            · have e7 : r 7 = .slice a7 kq c7 := hs 7 rfl
              refine (if_pos rfl).symm ▸ ?_
              clear hs hq hf
              unfold gives
              go_simp
              exact ⟨Below.refl _ _, rfl⟩
            -- operation 1: Op.move (tmp 1)
            refine ⟨fun r wx hG hs hq hf => ?_, ?_⟩
            · have e1 : r 1 = .slice a1 tn c1 := hs 1 rfl
              refine (if_pos rfl).symm ▸ ?_
              clear hs hq hf
              unfold gives
              go_simp
              exact ⟨Below.refl _ _, rfl⟩
            -- operation 2: Op.call ( callee := Callee.value (func 25), args := #[tmp 49, tmp 50], argTypes := #[22, 22] )
            refine ⟨fun r wx hG hs hq hf => ?_, ?_⟩
            · have h0 : r 49 = .slice a7 kq c7 := hf.1
              have h1 : r 50 = .slice a1 tn c1 := hf.2.1
              refine (if_pos rfl).symm ▸ ?_
              clear hs hq hf
              unfold gives
              go_simp
              refine (HM.out wx hG).mono ?_
              rintro e wy ⟨rfl, hb1⟩
              exact ⟨_, rfl, hb1, rfl⟩
            -- operation 3: Op.load 25 (tmp 9)
            refine ⟨fun r wx hG hs hq hf => ?_, ?_⟩
            · have e9 : r 9 = .pointer (some ⟨g9, 0, none⟩) := hs 9 rfl
              refine (if_pos rfl).symm ▸ ?_
              clear hs hq hf
              unfold gives
              refine gives_load_row 25 _ rfl g9 e9 25 o (0, 0) _ ((hG.block _ hlt9).trans hrow9) Tryd.underlying25 rfl hszo ⟨Below.refl _ _, rfl⟩
            -- operation 4: Op.binOp BinOp.eql 25 (tmp 51) (tmp 52) 25
            refine ⟨fun r wx hG hs hq hf => ?_, ?_⟩
            · have h2 : r 51 = .agg o := hf.1
              have h3 : r 52 = .agg o := hf.2.1
              refine (if_pos rfl).symm ▸ ?_
              clear hs hq hf
              unfold gives
              have hgd := eq_guard
              have he := HE.out wx
              go_simp
              exact ⟨Below.refl _ _, rfl⟩
            -- operation 5: Op.move (tmp 53)
            refine ⟨fun r wx hG hs hq hf => ?_, ?_⟩
            · have h4 : r 53 = .bool true := hf.1
              refine (if_pos rfl).symm ▸ ?_
              clear hs hq hf
              unfold gives
              go_simp
              exact ⟨Below.refl _ _, rfl⟩
            -- operation 6: Op.move (tmp 7)
            refine ⟨fun r wx hG hs hq hf => ?_, ?_⟩
            · have e7 : r 7 = .slice a7 kq c7 := hs 7 rfl
              have h5 : r 54 = .bool true := hf.1
              have hy : ydD [some 49, some 50, some 51, some 52, some 53, some 54, some 55, some 56, some 57, some 58, some 59, some 60, some 61, some 62, some 6] r 5 = some true := by show (match r 54 with | .bool b => some b | _ => none) = some true; rw [h5]
              simp only [Region.wanted, hy, beq_self_eq_true, if_true]
              clear hs hq hf hy
              unfold gives
              go_simp
              exact ⟨Below.refl _ _, rfl⟩
            -- operation 7: Op.call ( callee := Callee.value (func 21), args := #[tmp 55], argTypes := #[22] )
            refine ⟨fun r wx hG hs hq hf => ?_, ?_⟩
            · have h6 : r 55 = .slice a7 kq c7 := hf.1
              have h5 : r 54 = .bool true := hf.2.1
              have hy : ydD [some 49, some 50, some 51, some 52, some 53, some 54, some 55, some 56, some 57, some 58, some 59, some 60, some 61, some 62, some 6] r 5 = some true := by show (match r 54 with | .bool b => some b | _ => none) = some true; rw [h5]
              simp only [Region.wanted, hy, beq_self_eq_true, if_true]
              clear hs hq hf hy
              unfold gives
              go_simp
              refine (HN.out wx hG).mono ?_
              rintro e wy ⟨rfl, hb1⟩
              exact ⟨_, rfl, hb1, rfl⟩
            -- operation 8: Op.move (tmp 1)
            refine ⟨fun r wx hG hs hq hf => ?_, ?_⟩
            · have e1 : r 1 = .slice a1 tn c1 := hs 1 rfl
              have h5 : r 54 = .bool true := hf.1
              have hy : ydD [some 49, some 50, some 51, some 52, some 53, some 54, some 55, some 56, some 57, some 58, some 59, some 60, some 61, some 62, some 6] r 5 = some true := by show (match r 54 with | .bool b => some b | _ => none) = some true; rw [h5]
              simp only [Region.wanted, hy, beq_self_eq_true, if_true]
              clear hs hq hf hy
              unfold gives
              go_simp
              exact ⟨Below.refl _ _, rfl⟩
            -- operation 9: Op.call ( callee := Callee.value (func 22), args := #[tmp 56, tmp 57], argTypes := #[51, 22] )
            refine ⟨fun r wx hG hs hq hf => ?_, ?_⟩
            · have h7 : r 56 = .agg m0 := hf.1
              have h8 : r 57 = .slice a1 tn c1 := hf.2.1
              have h5 : r 54 = .bool true := hf.2.2.2.1
              have hy : ydD [some 49, some 50, some 51, some 52, some 53, some 54, some 55, some 56, some 57, some 58, some 59, some 60, some 61, some 62, some 6] r 5 = some true := by show (match r 54 with | .bool b => some b | _ => none) = some true; rw [h5]
              simp only [Region.wanted, hy, beq_self_eq_true, if_true]
              clear hs hq hf hy
              unfold gives
              go_simp
              refine (HW.out wx hG).mono ?_
              rintro e wy ⟨rfl, hb1⟩
              exact ⟨_, rfl, hb1, rfl⟩
            -- operation 10: Op.call ( callee := Callee.value (func 23), args := #[tmp 58], argTypes := #[51] )
            refine ⟨fun r wx hG hs hq hf => ?_, ?_⟩
            · have h9 : r 58 = .agg m1 := hf.1
              have h5 : r 54 = .bool true := hf.2.2.1
              have hy : ydD [some 49, some 50, some 51, some 52, some 53, some 54, some 55, some 56, some 57, some 58, some 59, some 60, some 61, some 62, some 6] r 5 = some true := by show (match r 54 with | .bool b => some b | _ => none) = some true; rw [h5]
              simp only [Region.wanted, hy, beq_self_eq_true, if_true]
              clear hs hq hf hy
              unfold gives
              go_simp
              refine (HK.out wx hG).mono ?_
              rintro e wy ⟨rfl, hb1⟩
              exact ⟨_, rfl, hb1, rfl⟩
            -- operation 11: Op.load 25 (tmp 9)
            refine ⟨fun r wx hG hs hq hf => ?_, ?_⟩
            · have e9 : r 9 = .pointer (some ⟨g9, 0, none⟩) := hs 9 rfl
              have h5 : r 54 = .bool true := hf.1
              have hy : ydD [some 49, some 50, some 51, some 52, some 53, some 54, some 55, some 56, some 57, some 58, some 59, some 60, some 61, some 62, some 6] r 5 = some true := by show (match r 54 with | .bool b => some b | _ => none) = some true; rw [h5]
              simp only [Region.wanted, hy, beq_self_eq_true, if_true]
              clear hs hq hf hy
              unfold gives
              refine gives_load_row 25 _ rfl g9 e9 25 o (0, 0) _ ((hG.block _ hlt9).trans hrow9) Tryd.underlying25 rfl hszo ⟨Below.refl _ _, rfl⟩
            -- operation 12: Op.binOp BinOp.eql 25 (tmp 59) (tmp 60) 25
            refine ⟨fun r wx hG hs hq hf => ?_, ?_⟩
            · have h10 : r 59 = .agg o := hf.1
              have h11 : r 60 = .agg o := hf.2.1
              have h5 : r 54 = .bool true := hf.2.2.1
              have hy : ydD [some 49, some 50, some 51, some 52, some 53, some 54, some 55, some 56, some 57, some 58, some 59, some 60, some 61, some 62, some 6] r 5 = some true := by show (match r 54 with | .bool b => some b | _ => none) = some true; rw [h5]
              simp only [Region.wanted, hy, beq_self_eq_true, if_true]
              clear hs hq hf hy
              unfold gives
              have hgd := eq_guard
              have he := HE.out wx
              go_simp
              exact ⟨Below.refl _ _, rfl⟩
            -- operation 13: Op.pick (tmp 54) (tmp 61) (const (Value.bool false))
            refine ⟨fun r wx hG hs hq hf => ?_, ?_⟩
            · have h5 : r 54 = .bool true := hf.1
              have h12 : r 61 = .bool true := hf.2.1
              refine (if_pos rfl).symm ▸ ?_
              clear hs hq hf
              unfold gives
              go_simp
              exact ⟨Below.refl _ _, rfl⟩
            -- operation 14: Op.assign (tmp 62)
            refine ⟨fun r wx hG hs hq hf => ?_, ?_⟩
            · have h13 : r 62 = .bool true := hf.1
              refine (if_pos rfl).symm ▸ ?_
              clear hs hq hf
              unfold gives
              go_simp
              exact ⟨Below.refl _ _, rfl⟩
            exact trivial
          case hend =>
            intro u wz hG hfin
            have z14 : u 14 = .bool true := hfin 14 (by decide) (by kernel_rfl)
            clear hfin
            simp only [fill]
            go_simp
            go_wp2_with fail
            go_ret
            exact ⟨rfl, HBW.out.trans (hG.mono HBW.out.size)⟩

end Go.Proofs.YtkcnakijfmemlaaDoor
