/- The law MacNests. (printed by gen/macnests.py) -/
import Derived.Test.YtkcnakijfmemlaaDoorMacL
namespace Go.Proofs.YtkcnakijfmemlaaDoor
open Go.ChangeShapes Go.WideShapes Go.ChangeAt Go.RowKit Sha

theorem x54 (y : UInt8) : bits .xor .u8 (y.toNat : Int) 54 = ((y ^^^ 54).toNat : Int) := by
  have e := i8_xor y 54
  rwa [show ((54 : UInt8).toNat : Int) = 54 from rfl] at e
theorem x92 (y : UInt8) : bits .xor .u8 (y.toNat : Int) 92 = ((y ^^^ 92).toNat : Int) := by
  have e := i8_xor y 92
  rwa [show ((92 : UInt8).toNat : Int) = 92 from rfl] at e
/-- An array filled from the front. -/
def fil (k : List UInt8) (x : UInt8) (i : Nat) : List UInt8 := bs (fun j => if j < i then k.getD j 0 ^^^ x else 0) 64
theorem fil_zero (k : List UInt8) (x : UInt8) : fil k x 0 = zs 64 := by
  unfold fil
  rw [bs_congr _ (fun _ => 0) 64 (fun j _ => if_neg (by omega))]; rfl
theorem fil_next (k : List UInt8) (x : UInt8) (i : Nat) : (fil k x i).set i (k.getD i 0 ^^^ x) = fil k x (i + 1) :=
  bs_set _ _ 64 i _ (by simp) (fun j hj hne => by
    by_cases h1 : j < i
    · simp [h1, show j < i + 1 by omega]
    · simp [h1, show ¬ j < i + 1 by omega])
theorem fil_all (k : List UInt8) (x : UInt8) (h : k.length = 64) : fil k x 64 = kx k x := by
  rw [kx_bs, h]; exact bs_congr _ _ 64 fun j hj => if_pos hj
theorem fil_at (k : List UInt8) (x : UInt8) (i : Nat) (h : i < 64) : (fil k x i)[i]? = some 0 := by
  unfold fil; rw [bs_get _ _ _ h, if_neg (by omega)]
theorem pad64_getD (l : List UInt8) (i : Nat) : (pad64 l).getD i 0 = if h : i < l.length then l[i] else 0 := by
  unfold pad64
  rw [List.getD_eq_getElem?_getD]
  split
  · rename_i h; rw [List.getElem?_append_left h, List.getElem?_eq_getElem h]; rfl
  · rename_i h
    rw [List.getElem?_append_right (by omega), zs, List.getElem?_replicate]
    split <;> rfl

structure NI (w wr : World) (g5 g6 : Nat) (k : List UInt8) (i : Nat) : Prop where
  r5 : wr.heap[g5]? = some (.cells (bv (fil k 54 i)).toArray 35 (0, 0))
  r6 : wr.heap[g6]? = some (.cells (bv (fil k 92 i)).toArray 35 (0, 0))
  bl : Below w.heap.size w wr
  b5 : w.heap.size ≤ g5
  b6 : w.heap.size ≤ g6
  ne : g5 ≠ g6
/-- What each operation hands on. -/
def mn15F (s0 s1 s2 : Array Value) (ol : List Value) (a1 : Option Addr) (tn c1 g5 B : Nat) : Nat → Value → World → Prop
  | 0, v, _ => v = .agg s0
  | 1, v, _ => v = .slice (some ⟨g5, 0, none⟩) 64 64
  | 2, v, _ => v = .agg s1
  | 3, v, _ => v = .slice a1 tn c1
  | 4, v, _ => v = .agg s2
  | 5, v, _ => v = .agg ol.toArray
  | 6, v, w => ∃ g, v = .pointer (some ⟨g, 0, none⟩) ∧ B ≤ g ∧ w.heap[g]? = some (.cells (bv (zs 32)).toArray 25 (0, 0))
  | 7, v, w => ∃ g, v = .pointer (some ⟨g, 0, none⟩) ∧ B ≤ g ∧ w.heap[g]? = some (.cells ol.toArray 25 (0, 0))
  | _, _, _ => True
/-- What each operation hands on. -/
def mn16F (s0 s3 s4 o2 : Array Value) (a0 : Option Addr) (kn c0 : Nat) (a1 : Option Addr) (tn c1 g6 g10 : Nat) : Nat → Value → World → Prop
  | 0, v, _ => v = .slice a0 kn c0
  | 1, v, _ => v = .slice a1 tn c1
  | 2, v, _ => v = .agg o2
  | 3, v, _ => v = .agg s0
  | 4, v, _ => v = .slice (some ⟨g6, 0, none⟩) 64 64
  | 5, v, _ => v = .agg s3
  | 6, v, _ => v = .slice (some ⟨g10, 0, none⟩) 32 32
  | 7, v, _ => v = .agg s4
  | 8, v, _ => v = .agg o2
  | 9, v, _ => v = .bool true
  | 10, v, _ => v = .bool true
  | _, _, _ => True

set_option maxHeartbeats 4000000 in
set_option maxRecDepth 100000 in
theorem macNests_walk (key text : List UInt8) (v v1 : Value) (w : World) (hl : key.length ≤ 140737488351232) (hl1 : text.length ≤ 140737488351232) (hr : Rd w 1 v key.length (bv key)) (hr1 : Rd w 1 v1 text.length (bv text)) (hT : Tabs w) :
    Calls Tryd.prog 10 #[v, v1] w fun e w' => e = .returned (.bool true) ∧ Below w.heap.size w w' := by
  obtain ⟨a, c, rfl⟩ := hr.form
  obtain ⟨a1, c1, rfl⟩ := hr1.form
  have hz64 := (zero_of_info info64).1
  have hzs := (zero_of_info infoSt).1
  have hz32 := (zero_of_info info32).1
  obtain ⟨s0, hs0⟩ : ∃ s0, s0 = stv [] := ⟨_, rfl⟩
  rw [stv_nil, ← hs0] at hzs
  have HS0 := Lib.hid hs0
  have HR := Lib.hid (And.intro hr hr1)
  have hcap := hr.cap
  clear hr hr1 hs0
  go_enter Tryd.func10, Tryd.ntmps10
  go_wp2_with fail
  refine (awake04_any w hT).mono ?_
  rintro e w1 ⟨rfl, hb1⟩
  have HB1 := Lib.hid hb1
  clear hb1
  go_upto_region 3 with fail
  go_upto_if 15 with fail
  go_cut [0] (fun s wq => wq = w1 ∧ RowKit.Hid (Rd w1 1 s (key.take 64).length (bv (key.take 64))))
  case first =>
    by_cases h64 : 64 < key.length
    · have hd : (64 : Int) < (key.length : Int) := by omega
      have hd2 : (64 : Int) ≤ (c : Int) := by omega
      have h := ((HR.out.1.keep HB1.out).take' 64 (by omega))
      have hl2 : (key.take 64).length = 64 := by rw [List.length_take]; omega
      have HX := Lib.hid (show Rd w1 1 (.slice a 64 c) (key.take 64).length (bv (key.take 64)) by rw [hl2]; simpa [bv, List.map_take] using h)
      clear h hl2
      go_wp2_with fail
      go_meet
      exact ⟨rfl, HX⟩
    · have hd : ¬ (64 : Int) < (key.length : Int) := by omega
      have HX := Lib.hid (show Rd w1 1 (.slice a key.length c) (key.take 64).length (bv (key.take 64)) by rw [List.take_of_length_le (by omega)]; exact HR.out.1.keep HB1.out)
      go_wp2_with fail
      go_meet
      exact ⟨rfl, HX⟩
  case rest =>
    obtain ⟨rfl, HK⟩ := hcut
    generalize wc = wb at *
    have hkt : (key.take 64).length ≤ 64 := by rw [List.length_take]; omega
    generalize key.take 64 = kt at *
    obtain ⟨a0, c0, rfl⟩ := HK.out.form
    obtain ⟨kn, hkn⟩ : ∃ kn, kn = kt.length := ⟨_, rfl⟩
    have hK := HK.out
    rw [← hkn] at hK hkt ⊢
    have hKL : (pad64 kt).length = 64 := pad64_length _ (by omega)
    obtain ⟨k, hk⟩ : ∃ k, k = pad64 kt := ⟨_, rfl⟩
    rw [← hk] at hKL
    have HKK := Lib.hid (And.intro hK (And.intro hkn (And.intro hk hKL)))
    clear HK hK hkn hk hKL hcap
    go_upto_region 6 with fail
    obtain ⟨w2, hw2⟩ : ∃ y : World, y = (wb.alloc (.cells (bv (zs 64)).toArray 35)).alloc (.cells (bv (zs 64)).toArray 35) := ⟨_, rfl⟩
    rw [← hw2]
    have hN2 : NI w w2 wb.heap.size (wb.heap.size + 1) k 0 := by
      refine ⟨?_, ?_, ?_, HB1.out.size, Nat.le_trans HB1.out.size (by omega), by omega⟩
      · rw [fil_zero, hw2]; exact (heap_alloc_old _ _ (by simp)).trans (heap_alloc_new _ _)
      · rw [fil_zero, hw2]
        have h := heap_alloc_new (wb.alloc (.cells (bv (zs 64)).toArray 35)) (.cells (bv (zs 64)).toArray 35)
        simpa using h
      · rw [hw2]; exact (HB1.out.alloc HB1.out.size _).alloc (by simp; have := HB1.out.size; omega) _
    have hbc : Below wb.heap.size wb w2 := by rw [hw2]; exact ((Below.refl _ _).alloc (Nat.le_refl _) _).alloc (by simp) _
    have H2 := Lib.hid (And.intro hN2 hbc)
    clear hw2 hN2 hbc
    obtain ⟨g5, hg5⟩ : ∃ g5, g5 = wb.heap.size := ⟨_, rfl⟩
    obtain ⟨g6, hg6⟩ : ∃ g6, g6 = wb.heap.size + 1 := ⟨_, rfl⟩
    rw [← hg6, ← hg5] at H2
    rw [← hg6, ← hg5]
    have HG := Lib.hid (And.intro hg5 hg6)
    clear hg5 hg6
    go_wp2_with fail
    go_loopw [7] (fun s7 wr => ∃ i : Nat, i ≤ 64 ∧ s7 = .int .i64 i ∧ RowKit.Hid (NI w wr g5 g6 k i ∧ Below g5 wb wr)) (fun s7 _ => 64 - (intOf s7).toNat)
    case atStart => exact ⟨0, by omega, rfl, H2⟩
    case round =>
      clear H2
      obtain ⟨i, hi, rfl, HI⟩ := hrel
      by_cases hil : i < 64
      · have hiz : (i : Int) < 64 := by omega
        have hi0 : (0 : Int) ≤ (i : Int) := by omega
        obtain ⟨y, hy⟩ : ∃ y, y = k.getD i 0 := ⟨_, rfl⟩
        have HY := Lib.hid hy
        have hbc : Below wb.heap.size wb wr := by have h := HI.out.2; rw [HG.out.1] at h; exact h
        have hrw := HKK.out.1.keep hbc
        have hyi : (if h : i < kt.length then kt[i] else 0) = y := by rw [hy, HKK.out.2.2.1, pad64_getD]
        have HRW := Lib.hid (And.intro hrw (And.intro hyi HKK.out.2.1))
        clear hy hbc hrw hyi
        go_upto_if 25 with fail
        go_cut [8] (fun s wq => wq = wr ∧ s = .int .u8 y.toNat)
        case first =>
          by_cases hik : i < kn
          · have hikz : (i : Int) < (kn : Int) := by omega
            obtain ⟨bb, off, c', hv, hcp, hcell⟩ := HRW.out.1.at (by omega)
            simp only [Value.slice.injEq, true_and] at hv
            obtain ⟨rfl, rfl⟩ := hv
            have hcy : wr.cell? ⟨bb, off + i, none⟩ = some (.int .u8 y.toNat) := by
              refine hcell i _ ?_
              have h1 := HRW.out.2.1
              have h2 := HRW.out.2.2
              rw [dif_pos (by omega)] at h1
              simp [bv, ← h1, List.getElem?_eq_getElem (show i < kt.length by omega)]
            clear hcell
            go_wp2_with fail
            go_meet
            exact ⟨rfl, rfl⟩
          · have hikz : ¬ (i : Int) < (kn : Int) := by omega
            have hy0 : y = 0 := by
              have h1 := HRW.out.2.1
              have h2 := HRW.out.2.2
              rw [dif_neg (by omega)] at h1
              exact h1.symm
            have HY0 := Lib.hid hy0
            clear hy0
            go_wp2_with fail
            go_meet
            exact ⟨rfl, by rw [HY0.out]; rfl⟩
        case rest =>
          obtain ⟨hwc, hs8⟩ := hcut
          subst hs8
          rw [hwc]
          clear hwc HRW
          have hx54 := x54 y
          have hx92 := x92 y
          obtain ⟨y5, hy5⟩ : ∃ z, z = y ^^^ 54 := ⟨_, rfl⟩
          obtain ⟨y9, hy9⟩ : ∃ z, z = y ^^^ 92 := ⟨_, rfl⟩
          rw [← hy5] at hx54
          rw [← hy9] at hx92
          have HYY := Lib.hid (show y5 = k.getD i 0 ^^^ 54 ∧ y9 = k.getD i 0 ^^^ 92 by rw [hy5, hy9, HY.out]; exact ⟨rfl, rfl⟩)
          clear hy5 hy9
          have hc5 : wr.cell? ⟨g5, i, none⟩ = some (.int .u8 (0 : Nat)) := by
            rw [cell_of_row _ _ _ _ _ _ HI.out.1.r5, List.getElem?_toArray]; simp [bv, fil_at _ _ _ hil]
          have hc6 : wr.cell? ⟨g6, i, none⟩ = some (.int .u8 (0 : Nat)) := by
            rw [cell_of_row _ _ _ _ _ _ HI.out.1.r6, List.getElem?_toArray]; simp [bv, fil_at _ _ _ hil]
          have hf5 := frozen_of_row _ _ i _ _ HI.out.1.r5
          have hf6 := frozen_of_row _ _ i _ _ HI.out.1.r6
          have hne := HI.out.1.ne
          have hc6' : (wr.setCell ⟨g5, i, none⟩ (.int .u8 y5.toNat)).cell? ⟨g6, i, none⟩ = some (.int .u8 (0 : Nat)) := by
            rw [World.cell?_setCell_other _ _ _ _ (by intro e; exact hne (congrArg Addr.block e))]; exact hc6
          clear hc6
          go_wp2_with fail
          go_roundw
          case rel =>
            have e5 := heap_setCell_same wr g5 i _ _ (.int .u8 y5.toNat) HI.out.1.r5
            have e6 := (heap_setCell_other wr ⟨g5, i, none⟩ g6 (.int .u8 y5.toNat) (Ne.symm hne)).trans HI.out.1.r6
            have e7 := heap_setCell_same _ g6 i _ _ (.int .u8 y9.toNat) e6
            have e8 := (heap_setCell_other (wr.setCell ⟨g5, i, none⟩ (.int .u8 y5.toNat)) ⟨g6, i, none⟩ g5 (.int .u8 y9.toNat) hne).trans e5
            rw [rowB_set] at e7 e8
            rw [show (fil k 54 i).set i y5 = fil k 54 (i + 1) by rw [HYY.out.1, fil_next]] at e8
            rw [show (fil k 92 i).set i y9 = fil k 92 (i + 1) by rw [HYY.out.2, fil_next]] at e7
            refine ⟨i + 1, by omega, by go_num, show _ ∧ _ from ⟨⟨?_, ?_, ?_, HI.out.1.b5, HI.out.1.b6, hne⟩, ?_⟩⟩
            · exact e8
            · exact e7
            · exact (HI.out.1.bl.setCell (p := ⟨g5, i, none⟩) HI.out.1.b5 _).setCell (p := ⟨g6, i, none⟩) HI.out.1.b6 _
            · exact (HI.out.2.setCell (p := ⟨g5, i, none⟩) (Nat.le_refl _) _).setCell (p := ⟨g6, i, none⟩) (show g5 ≤ g6 by have h1 := HG.out.1; have h2 := HG.out.2; omega) _
          case measure => simp [intOf]; omega
      · have hiz : ¬ (i : Int) < 64 := by omega
        obtain rfl : i = 64 := by omega
        have hz64' : ¬ (64 : Int) < 64 := by decide
        go_upto_region 15 with fail
        iterate 1
          obtain ⟨w4, hw4⟩ : ∃ y : World, y = wr.alloc (.cells s0 38) := ⟨_, rfl⟩
          rw [← hw4]
          have hrow9 : w4.heap[wr.heap.size]? = some (.cells s0 38 (0, 0)) := by rw [hw4]; exact heap_alloc_new _ _
          have hr5 : w4.heap[g5]? = some (.cells (bv (kx k 54)).toArray 35 (0, 0)) := by
            rw [← fil_all k 54 HKK.out.2.2.2, hw4]; exact (heap_alloc_old _ _ (Array.getElem?_eq_some_iff.1 HI.out.1.r5).1).trans HI.out.1.r5
          have hr6 : w4.heap[g6]? = some (.cells (bv (kx k 92)).toArray 35 (0, 0)) := by
            rw [← fil_all k 92 HKK.out.2.2.2, hw4]; exact (heap_alloc_old _ _ (Array.getElem?_eq_some_iff.1 HI.out.1.r6).1).trans HI.out.1.r6
          have hb4 : Below w.heap.size w w4 := by rw [hw4]; exact HI.out.1.bl.alloc HI.out.1.bl.size _
          have hbb : Below wb.heap.size wb w4 := by
            have h := HI.out.2; rw [HG.out.1] at h; rw [hw4]; exact h.alloc h.size _
          have hlt9 := (Array.getElem?_eq_some_iff.1 hrow9).1
          generalize wr.heap.size = g9 at *
          have hkl := HKK.out.2.2.2
          have hd5 := rd_row hr5 (by rw [kx_length, hkl])
          have hd6 := rd_row hr6 (by rw [kx_length, hkl])
          have hT4 : Tabs w4 := hT.keepB hb4
          have hrt := HR.out.2.keep hb4
          have hrk := HKK.out.1.keep hbb
          rw [HKK.out.2.1] at hrk
          obtain ⟨inn, hinn⟩ : ∃ inn, inn = Sha.sum (kx k 54 ++ text) := ⟨_, rfl⟩
          have hil : inn.length = 32 := by rw [hinn]; exact sum_length _
          have hmac : macB kt text = Sha.sum (kx k 92 ++ inn) := by
            have h1 : hkey kt = kt := by unfold hkey; rw [if_neg (by have := HKK.out.2.1; omega)]
            rw [macB, h1, ← HKK.out.2.2.1, markB, hinn]
          have hszs : (Tryd.prog.info? 38).map (·.size) = some s0.size := by rw [HS0.out]; exact stInfo _ (stL_length [])
          have h1 : ∀ w', Below w4.heap.size w4 w' → _ := fun w' hb => Write_any [] (kx k 54) _ w' (by rw [kx_length, hkl]; simp) (hd5.keep hb) (hT4.keepB hb)
          have h2 : ∀ w', Below w4.heap.size w4 w' → _ := fun w' hb => Write_any (kx k 54) text _ w' (by rw [kx_length, hkl]; omega) (hrt.keep hb) (hT4.keepB hb)
          have h3 : ∀ w', Below w4.heap.size w4 w' → _ := fun w' hb => StSum_any (kx k 54 ++ text) w' (by rw [List.length_append, kx_length, hkl]; omega) (hT4.keepB hb)
          have h4 : ∀ w', Below w4.heap.size w4 w' → _ := fun w' hb => Write_any [] (kx k 92) _ w' (by rw [kx_length, hkl]; simp) (hd6.keep hb) (hT4.keepB hb)
          have h5 : ∀ v w', Below w4.heap.size w4 w' → Rd w' 1 v inn.length (bv inn) → _ := fun v w' hb hr => Write_any (kx k 92) inn v w' (by rw [kx_length, hkl, hil]; omega) hr (hT4.keepB hb)
          have h6 : ∀ w', Below w4.heap.size w4 w' → _ := fun w' hb => StSum_any (kx k 92 ++ inn) w' (by rw [List.length_append, kx_length, hkl, hil]; omega) (hT4.keepB hb)
          have h7 : ∀ w', Below w4.heap.size w4 w' → _ := fun w' hb => macMark_any kt text _ _ w' (by have := HKK.out.2.1; omega) (by omega) (hrk.keep hb) (hrt.keep hb) (hT4.keepB hb)
          rw [List.nil_append, ← HS0.out] at h1 h4
          rw [← hinn] at h3
          rw [← hmac] at h6
          rw [← HKK.out.2.1] at h7
          have hey := fun w => eqIn_hash (macB kt text) (macB kt text) (macB_length _ _) (macB_length _ _) w
          simp only [BEq.rfl] at hey
          generalize stv (kx k 54 ++ text) = s2 at *
          generalize stv (kx k 54) = s1 at *
          generalize stv (kx k 92 ++ inn) = s4 at *
          generalize stv (kx k 92) = s3 at *
          generalize (bv (macB kt text)).toArray = o2 at *
          obtain ⟨ol, hol⟩ : ∃ ol, ol = bv inn := ⟨_, rfl⟩
          have hfit1 := hInfo' inn hil
          have hfit2 : (bv inn).length = (bv (zs 32)).length := by rw [bv_length, bv_length, hil]; simp [zs]
          have hone : ∀ u ∈ bv inn, u.oneCell' = true := bv_one _
          rw [← hol] at h3 hfit1 hfit2 hone
          obtain ⟨tn, htn⟩ : ∃ tn, tn = text.length := ⟨_, rfl⟩
          rw [← htn] at h2 h7 ⊢
          obtain ⟨B, hB⟩ : ∃ B, B = w4.heap.size := ⟨_, rfl⟩
          rw [← hB] at h1 h2 h3 h4 h5 h6 h7
          have hBr : B ≤ w4.heap.size := by omega
          have hlt9 : g9 < B := by omega
          have HW1 := Lib.hid h1
          have HW2 := Lib.hid h2
          have HS1 := Lib.hid h3
          have HW3 := Lib.hid h4
          have HW4 := Lib.hid h5
          have HS2 := Lib.hid h6
          have HM := Lib.hid h7
          have HE := Lib.hid hey
          have HBW := Lib.hid (And.intro hb4 (And.intro hB (And.intro hol hil)))
          clear h1 h2 h3 h4 h5 h6 h7 hey hmac hinn hil hol htn hB hd5 hd6 hrt hrk hr5 hr6 hw4 hbb hb4 hT4 hkl HI HKK HR hzs hz64
          refine wp_region_link [some 38, some 39, some 40, some 41, some 42, some 43, some 10, none] [] 0 (fun _ => True) [] [(7, 6)] (mn15F s0 s1 s2 ol a1 tn c1 g5 B) (kOne 7 B) (fun wx => Below B w4 wx) (by kernel_rfl) (by kernel_rfl) rfl (by kernel_rfl) (by kernel_rfl) (by kernel_rfl) (Below.refl _ _).drew (trivial) (fun _ _ _ _ _ _ => trivial) (fun _ _ => kOne_refl _ _ _ _) (fun _ _ _ h k => h.trans (kOne_base (Nat.le_trans hBr h.size) k)) ?hF ?hstep ?hend
          case hF =>
            exact ⟨fun _ _ _ _ _ _ h => h, ⟨fun _ _ _ _ _ _ h => h, ⟨fun _ _ _ _ _ _ h => h, ⟨fun _ _ _ _ _ _ h => h, ⟨fun _ _ _ _ _ _ h => h, ⟨fun _ _ _ _ _ _ h => h, ⟨fun j hg _ _ _ k h => by
        have kb := kOne_below (fun e => by subst e; exact absurd hg (by rw [show goneB _ 6 7 = true by kernel_rfl]; simp)) k
        obtain ⟨g, h1, h2, h3⟩ := h
        exact ⟨g, h1, h2, (kb.block _ (Array.getElem?_eq_some_iff.1 h3).1).trans h3⟩, ⟨fun j hg _ _ _ k h => by
        have kb := kOne_below (fun e => by subst e; exact absurd hg (by rw [show goneB _ 7 7 = true by kernel_rfl]; simp)) k
        obtain ⟨g, h1, h2, h3⟩ := h
        exact ⟨g, h1, h2, (kb.block _ (Array.getElem?_eq_some_iff.1 h3).1).trans h3⟩, trivial⟩⟩⟩⟩⟩⟩⟩⟩
          case hstep =>
            -- operation 0: Op.load 38 (tmp 9)
            refine ⟨fun r wx hG hs hq hf => ?_, ?_⟩
            · have e9 : r 9 = .pointer (some ⟨g9, 0, none⟩) := hs 9 rfl
              refine (if_pos rfl).symm ▸ ?_
              clear hs hq hf
              unfold gives
              refine gives_load_row 38 _ rfl g9 e9 38 s0 (0, 0) _ ((hG.block _ hlt9).trans hrow9) Tryd.underlying38 rfl hszs ⟨kOne_refl _ _ _ _, rfl⟩
            -- operation 1: Op.slice 35 (tmp 5) none none none
            refine ⟨fun r wx hG hs hq hf => ?_, ?_⟩
            · have e5 : r 5 = .pointer (some ⟨g5, 0, none⟩) := hs 5 rfl
              refine (if_pos rfl).symm ▸ ?_
              clear hs hq hf
              unfold gives
              go_simp
              exact ⟨kOne_refl _ _ _ _, rfl⟩
            -- operation 2: Op.call ( callee := Callee.value (func 17), args := #[tmp 38, tmp 39], argTypes := #[38, 22] )
            refine ⟨fun r wx hG hs hq hf => ?_, ?_⟩
            · have h0 : r 38 = .agg s0 := hf.1
              have h1 : r 39 = .slice (some ⟨g5, 0, none⟩) 64 64 := hf.2.1
              refine (if_pos rfl).symm ▸ ?_
              clear hs hq hf
              unfold gives
              go_simp
              refine (HW1.out wx hG).mono ?_
              rintro e wy ⟨rfl, hb1⟩
              exact ⟨_, rfl, kOne_of rfl hb1, rfl⟩
            -- operation 3: Op.move (tmp 1)
            refine ⟨fun r wx hG hs hq hf => ?_, ?_⟩
            · have e1 : r 1 = .slice a1 tn c1 := hs 1 rfl
              refine (if_pos rfl).symm ▸ ?_
              clear hs hq hf
              unfold gives
              go_simp
              exact ⟨kOne_refl _ _ _ _, rfl⟩
            -- operation 4: Op.call ( callee := Callee.value (func 17), args := #[tmp 40, tmp 41], argTypes := #[38, 22] )
            refine ⟨fun r wx hG hs hq hf => ?_, ?_⟩
            · have h2 : r 40 = .agg s1 := hf.1
              have h3 : r 41 = .slice a1 tn c1 := hf.2.1
              refine (if_pos rfl).symm ▸ ?_
              clear hs hq hf
              unfold gives
              go_simp
              refine (HW2.out wx hG).mono ?_
              rintro e wy ⟨rfl, hb1⟩
              exact ⟨_, rfl, kOne_of rfl hb1, rfl⟩
            -- operation 5: Op.call ( callee := Callee.value (func 18), args := #[tmp 42], argTypes := #[38] )
            refine ⟨fun r wx hG hs hq hf => ?_, ?_⟩
            · have h4 : r 42 = .agg s2 := hf.1
              refine (if_pos rfl).symm ▸ ?_
              clear hs hq hf
              unfold gives
              go_simp
              refine (HS1.out wx hG).mono ?_
              rintro e wy ⟨rfl, hb1⟩
              exact ⟨_, rfl, kOne_of rfl hb1, rfl⟩
            -- operation 6: Op.alloc 25
            refine ⟨fun r wx hG hs hq hf => ?_, ?_⟩
            · refine (if_pos rfl).symm ▸ ?_
              clear hs hq hf
              unfold gives
              have hz := hz32 wx
              go_simp
              exact ⟨kOne_of (by decide) ((Below.refl _ _).alloc (Nat.le_refl _) _), wx.heap.size, rfl, Nat.le_trans hBr hG.size, heap_alloc_new _ _⟩
            -- operation 7: Op.store 25 (tmp 10) (tmp 43)
            refine ⟨fun r wx hG hs hq hf => ?_, ?_⟩
            · have h6 : ∃ g, (r 10) = .pointer (some ⟨g, 0, none⟩) ∧ B ≤ g ∧ wx.heap[g]? = some (.cells (bv (zs 32)).toArray 25 (0, 0)) := hf.1
              have h5 : r 43 = .agg ol.toArray := hf.2.1
              refine (if_pos rfl).symm ▸ ?_
              clear hs hq hf
              unfold gives
              obtain ⟨g, h6, hgB, hrow⟩ := h6
              refine gives_store_row 25 _ _ rfl g ol h6 h5 (bv (zs 32)) 25 hrow hfit1 hfit2 hone ?_
              intro wy h1 h2
              exact ⟨by unfold kOne; rw [if_pos rfl]; exact below_grow (Below.refl _ _) h2 hgB (Array.getElem?_eq_some_iff.1 hrow).1, g, h6, hgB, h1⟩
            exact trivial
          case hend =>
            intro u wz hG hfin
            have z7 : ∃ g, (u 6) = .pointer (some ⟨g, 0, none⟩) ∧ B ≤ g ∧ wz.heap[g]? = some (.cells ol.toArray 25 (0, 0)) := hfin 7 (by decide) (by kernel_rfl)
            clear hfin
            simp only [fill]
            obtain ⟨g10, z7, hgB, hrow10⟩ := z7
            rw [z7]
            go_simp
            go_upto_region 16 with fail
            have hG' : Below w4.heap.size w4 wz := by have h := hG; rw [HBW.out.2.1] at h; exact h
            have hbw5 := HBW.out.1.trans (hG'.mono HBW.out.1.size)
            have hrow9 : wz.heap[g9]? = some (.cells s0 38 (0, 0)) := (hG.block _ hlt9).trans hrow9
            have hlt9 : g9 < wz.heap.size := (Array.getElem?_eq_some_iff.1 hrow9).1
            rw [HBW.out.2.2.1] at hrow10
            have hd10 := rd_row hrow10 HBW.out.2.2.2
            have up : ∀ w', Below wz.heap.size wz w' → Below B w4 w' := fun w' hb => hG.trans (hb.mono (Nat.le_trans hBr hG.size))
            have h2 : ∀ w', Below wz.heap.size wz w' → _ := fun w' hb => HM.out w' (up w' hb)
            have h3 : ∀ w', Below wz.heap.size wz w' → _ := fun w' hb => HW3.out w' (up w' hb)
            have h4 : ∀ w', Below wz.heap.size wz w' → _ := fun w' hb => HW4.out _ w' (up w' hb) (hd10.keep hb)
            have h5 : ∀ w', Below wz.heap.size wz w' → _ := fun w' hb => HS2.out w' (up w' hb)
            clear up hd10 hrow10 hgB hG hG' HW1 HW2 HS1 hfit1 hfit2 hone hBr z7
            generalize wz = w5 at *
            have HM := Lib.hid h2
            have HW3 := Lib.hid h3
            have HW4 := Lib.hid h4
            have HS2 := Lib.hid h5
            have HBW := Lib.hid hbw5
            clear h2 h3 h4 h5 hbw5
            refine wp_region_steps [some 44, some 45, some 46, some 47, some 48, some 49, some 50, some 51, some 52, some 53, some 4] [] (mn16F s0 s3 s4 o2 a0 kn c0 a1 tn c1 g6 g10) (fun _ wx wy => Below wx.heap.size wx wy) (fun wx => Below w5.heap.size w5 wx) (by kernel_rfl) (by kernel_rfl) rfl (by kernel_rfl) (Below.refl _ _).drew (fun _ wx => Below.refl _ _) (fun _ wx wy h k => h.trans (k.mono h.size)) ?hF ?hstep ?hend
            case hF =>
              exact ⟨fun _ _ _ _ _ _ h => h, ⟨fun _ _ _ _ _ _ h => h, ⟨fun _ _ _ _ _ _ h => h, ⟨fun _ _ _ _ _ _ h => h, ⟨fun _ _ _ _ _ _ h => h, ⟨fun _ _ _ _ _ _ h => h, ⟨fun _ _ _ _ _ _ h => h, ⟨fun _ _ _ _ _ _ h => h, ⟨fun _ _ _ _ _ _ h => h, ⟨fun _ _ _ _ _ _ h => h, ⟨fun _ _ _ _ _ _ h => h, trivial⟩⟩⟩⟩⟩⟩⟩⟩⟩⟩⟩
            case hstep =>
              -- operation 0: Op.move (tmp 0)
              refine ⟨fun r wx hG hs hq hf => ?_, ?_⟩
              · have e0 : r 0 = .slice a0 kn c0 := hs 0 rfl
                refine (if_pos rfl).symm ▸ ?_
                clear hs hq hf
                unfold gives
                go_simp
                exact ⟨Below.refl _ _, rfl⟩
              -- operation 1: Op.move (tmp 1)
              refine ⟨fun r wx hG hs hq hf => ?_, ?_⟩
              · have e1 : r 1 = .slice a1 tn c1 := hs 1 rfl
                refine (if_pos rfl).symm ▸ ?_
                clear hs hq hf
                unfold gives
                go_simp
                exact ⟨Below.refl _ _, rfl⟩
              -- operation 2: Op.call ( callee := Callee.value (func 25), args := #[tmp 44, tmp 45], argTypes := #[22, 22] )
              refine ⟨fun r wx hG hs hq hf => ?_, ?_⟩
              · have h0 : r 44 = .slice a0 kn c0 := hf.1
                have h1 : r 45 = .slice a1 tn c1 := hf.2.1
                refine (if_pos rfl).symm ▸ ?_
                clear hs hq hf
                unfold gives
                go_simp
                refine (HM.out wx hG).mono ?_
                rintro e wy ⟨rfl, hb1⟩
                exact ⟨_, rfl, hb1, rfl⟩
              -- operation 3: Op.load 38 (tmp 9)
              refine ⟨fun r wx hG hs hq hf => ?_, ?_⟩
              · have e9 : r 9 = .pointer (some ⟨g9, 0, none⟩) := hs 9 rfl
                refine (if_pos rfl).symm ▸ ?_
                clear hs hq hf
                unfold gives
                refine gives_load_row 38 _ rfl g9 e9 38 s0 (0, 0) _ ((hG.block _ hlt9).trans hrow9) Tryd.underlying38 rfl hszs ⟨Below.refl _ _, rfl⟩
              -- operation 4: Op.slice 35 (tmp 6) none none none
              refine ⟨fun r wx hG hs hq hf => ?_, ?_⟩
              · have e6 : r 6 = .pointer (some ⟨g6, 0, none⟩) := hs 6 rfl
                refine (if_pos rfl).symm ▸ ?_
                clear hs hq hf
                unfold gives
                go_simp
                exact ⟨Below.refl _ _, rfl⟩
              -- operation 5: Op.call ( callee := Callee.value (func 17), args := #[tmp 47, tmp 48], argTypes := #[38, 22] )
              refine ⟨fun r wx hG hs hq hf => ?_, ?_⟩
              · have h3 : r 47 = .agg s0 := hf.1
                have h4 : r 48 = .slice (some ⟨g6, 0, none⟩) 64 64 := hf.2.1
                refine (if_pos rfl).symm ▸ ?_
                clear hs hq hf
                unfold gives
                go_simp
                refine (HW3.out wx hG).mono ?_
                rintro e wy ⟨rfl, hb1⟩
                exact ⟨_, rfl, hb1, rfl⟩
              -- operation 6: Op.slice 25 (tmp 10) none none none
              refine ⟨fun r wx hG hs hq hf => ?_, ?_⟩
              · have e10 : r 10 = .pointer (some ⟨g10, 0, none⟩) := hs 10 rfl
                refine (if_pos rfl).symm ▸ ?_
                clear hs hq hf
                unfold gives
                go_simp
                exact ⟨Below.refl _ _, rfl⟩
              -- operation 7: Op.call ( callee := Callee.value (func 17), args := #[tmp 49, tmp 50], argTypes := #[38, 22] )
              refine ⟨fun r wx hG hs hq hf => ?_, ?_⟩
              · have h5 : r 49 = .agg s3 := hf.1
                have h6 : r 50 = .slice (some ⟨g10, 0, none⟩) 32 32 := hf.2.1
                refine (if_pos rfl).symm ▸ ?_
                clear hs hq hf
                unfold gives
                go_simp
                refine (HW4.out wx hG).mono ?_
                rintro e wy ⟨rfl, hb1⟩
                exact ⟨_, rfl, hb1, rfl⟩
              -- operation 8: Op.call ( callee := Callee.value (func 18), args := #[tmp 51], argTypes := #[38] )
              refine ⟨fun r wx hG hs hq hf => ?_, ?_⟩
              · have h7 : r 51 = .agg s4 := hf.1
                refine (if_pos rfl).symm ▸ ?_
                clear hs hq hf
                unfold gives
                go_simp
                refine (HS2.out wx hG).mono ?_
                rintro e wy ⟨rfl, hb1⟩
                exact ⟨_, rfl, hb1, rfl⟩
              -- operation 9: Op.binOp BinOp.eql 25 (tmp 46) (tmp 52) 25
              refine ⟨fun r wx hG hs hq hf => ?_, ?_⟩
              · have h2 : r 46 = .agg o2 := hf.1
                have h8 : r 52 = .agg o2 := hf.2.1
                refine (if_pos rfl).symm ▸ ?_
                clear hs hq hf
                unfold gives
                have hgd := eq_guard
                have he := HE.out wx
                go_simp
                exact ⟨Below.refl _ _, rfl⟩
              -- operation 10: Op.assign (tmp 53)
              refine ⟨fun r wx hG hs hq hf => ?_, ?_⟩
              · have h9 : r 53 = .bool true := hf.1
                refine (if_pos rfl).symm ▸ ?_
                clear hs hq hf
                unfold gives
                go_simp
                exact ⟨Below.refl _ _, rfl⟩
              exact trivial
            case hend =>
              intro u wz hG hfin
              have z10 : u 10 = .bool true := hfin 10 (by decide) (by kernel_rfl)
              clear hfin
              simp only [fill]
              go_simp
              go_wp2_with fail
              go_ret
              exact ⟨rfl, HBW.out.trans (hG.mono HBW.out.size)⟩

end Go.Proofs.YtkcnakijfmemlaaDoor
