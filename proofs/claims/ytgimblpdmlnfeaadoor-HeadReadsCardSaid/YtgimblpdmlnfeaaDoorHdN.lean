/- HeadReads: the walk. (printed by gen/hdn.py) -/
import Derived.Test.YtgimblpdmlnfeaaDoorHdL
import Derived.Test.YtgimblpdmlnfeaaDoorHdM
import Derived.Test.YtgimblpdmlnfeaaDoorHdW
import Derived.Test.YtgimblpdmlnfeaaDoorTw
namespace Go.Proofs.YtgimblpdmlnfeaaDoor
open Go.RowKit Sha

theorem hg_back (b : List UInt8) (h : hgE b = 0) : hdB (hgN b) (hgZ b) (hgR b) (hgM b) = b ∧ hgN b < 18446744073709551616 ∧ hgZ b < 18446744073709551616 := by
  unfold hgN hgZ hgR hgM
  rw [if_pos h, if_pos h, if_pos h, if_pos h]
  unfold hgE at h
  split at h
  · rename_i h1; exact absurd h h1
  · rename_i h1
    split at h
    · rename_i h2; exact absurd h h2
    · rename_i h2
      have e1 := rdN_ok b (rdN b).2.1 (rdN b).2.2 (by rw [← Decidable.not_not.1 h1])
      have e2 := rdN_ok (rdN b).2.2 (rdN (rdN b).2.2).2.1 (rdN (rdN b).2.2).2.2 (by rw [← Decidable.not_not.1 h2])
      refine ⟨?_, e1.1, e2.1⟩
      rw [hdB, bodyB, List.append_assoc, List.append_assoc, List.take_append_drop, ← e2.2, ← e1.2]
theorem hg_lt (b : List UInt8) : hgN b < 18446744073709551616 ∧ hgZ b < 18446744073709551616 := by
  by_cases h : hgE b = 0
  · exact (hg_back b h).2
  · unfold hgN hgZ
    rw [if_neg h, if_neg h]
    exact ⟨by decide, by decide⟩
/-- What each operation hands on. -/
def hrd5T (n z N1 Z1 c : Nat) (er : Int) (rt mk r1 m1 P b : List UInt8) (a : Option Addr) : Nat → Value → World → Prop
  | 0, v, _ => v = .int .i64 er
  | 1, v, _ => v = .int .i64 er
  | 2, v, _ => v = .bool true
  | 3, v, _ => v = .bool true
  | 4, v, _ => v = .agg (hdL N1 Z1 r1 m1).toArray
  | 5, v, _ => v = .agg (hdL N1 Z1 r1 m1).toArray
  | 6, v, _ => v = .bool true
  | 7, v, _ => v = .bool true
  | 8, v, _ => v = .bool true
  | 9, v, _ => v = .agg (hdL n z rt mk).toArray
  | 10, v, w => Rd w 1 v P.length (bv P)
  | 11, v, _ => v = .string ⟨P.toArray⟩
  | 12, v, _ => v = .agg (hdL n z rt mk).toArray
  | 13, v, w => Rd w 1 v P.length (bv P)
  | 14, v, _ => v = .string ⟨P.toArray⟩
  | 15, v, _ => v = .bool true
  | 16, v, _ => v = .bool true
  | 17, v, _ => v = .bool true
  | 18, v, _ => v = .int .i64 er
  | 19, v, _ => v = .bool false
  | 20, v, _ => v = .bool false
  | 21, v, _ => v = .agg (hdL N1 Z1 r1 m1).toArray
  | 22, v, w => Rd w 1 v b.length (bv b)
  | 23, v, _ => v = .string ⟨b.toArray⟩
  | 24, v, _ => v = .slice a b.length c
  | 25, v, _ => v = .string ⟨b.toArray⟩
  | 26, v, _ => v = .bool true
  | 27, v, _ => v = .bool true
  | 28, v, _ => v = .bool true
  | 29, v, _ => v = .bool true
  | _, _, _ => True
/-- What each operation hands on. -/
def hrd5F (n z N1 Z1 _c : Nat) (er : Int) (rt mk r1 m1 P _b : List UInt8) (_a : Option Addr) : Nat → Value → World → Prop
  | 0, v, _ => v = .int .i64 er
  | 1, v, _ => v = .int .i64 er
  | 2, v, _ => v = .bool true
  | 3, v, _ => v = .bool true
  | 4, v, _ => v = .agg (hdL N1 Z1 r1 m1).toArray
  | 5, v, _ => v = .agg (hdL N1 Z1 r1 m1).toArray
  | 6, v, _ => v = .bool true
  | 7, v, _ => v = .bool true
  | 8, v, _ => v = .bool true
  | 9, v, _ => v = .agg (hdL n z rt mk).toArray
  | 10, v, w => Rd w 1 v P.length (bv P)
  | 11, v, _ => v = .string ⟨P.toArray⟩
  | 12, v, _ => v = .agg (hdL n z rt mk).toArray
  | 13, v, w => Rd w 1 v P.length (bv P)
  | 14, v, _ => v = .string ⟨P.toArray⟩
  | 15, v, _ => v = .bool true
  | 16, v, _ => v = .bool true
  | 17, v, _ => v = .bool true
  | 18, v, _ => v = .int .i64 er
  | 19, v, _ => v = .bool true
  | 20, v, _ => v = .bool true
  | 21, v, _ => v = undef
  | 22, v, _ => v = undef
  | 23, v, _ => v = undef
  | 24, v, _ => v = undef
  | 25, v, _ => v = undef
  | 26, v, _ => v = undef
  | 27, v, _ => v = .bool true
  | 28, v, _ => v = .bool true
  | 29, v, _ => v = .bool true
  | _, _, _ => True
set_option maxHeartbeats 16000000 in
set_option maxRecDepth 100000 in
theorem headReads_walk (b : List UInt8) (n z : Nat) (rt mk : List UInt8) (v : Value) (w : World) (hl : b.length ≤ 140737488351232) (hr : Rd w 1 v b.length (bv b)) (hn : n < 18446744073709551616) (hz : z < 18446744073709551616)
    (hrt : rt.length = 32) (hmk : mk.length = 32) (hT : Tabs w) :
    Calls Tryd.prog 5 #[v, .agg (hdL n z rt mk).toArray] w fun e w' => e = .returned (.bool true) ∧ Below w.heap.size w w' := by
  obtain ⟨a, c, rfl⟩ := hr.form
  have hzd := (zero_of_info infoHead).1
  have hzl : (hdL 0 0 (zs 32) (zs 32)).length = 66 := hdL_length _ _ _ _ (by simp [zs]) (by simp [zs])
  obtain ⟨Zl, hZl⟩ : ∃ l, l = hdL 0 0 (zs 32) (zs 32) := ⟨_, rfl⟩
  rw [← hZl] at hzd hzl
  have HZL := Lib.hid hzl
  have hbk := hg_back b
  have hlt := hg_lt b
  have hlen := hg_len b
  have hget := fun wx (hb : Below w.heap.size w wx) => HGet_any (.slice a b.length c) b wx (by omega) (hr.keep hb)
  have hrget := fun wx (hb : Below w.heap.size w wx) => refHGet_any (.slice a b.length c) b wx (by omega) (hr.keep hb)
  obtain ⟨N1, hN1⟩ : ∃ x, x = hgN b := ⟨_, rfl⟩
  obtain ⟨Z1, hZ1⟩ : ∃ x, x = hgZ b := ⟨_, rfl⟩
  obtain ⟨r1, hr1⟩ : ∃ x, x = hgR b := ⟨_, rfl⟩
  obtain ⟨m1, hm1⟩ : ∃ x, x = hgM b := ⟨_, rfl⟩
  obtain ⟨er, her⟩ : ∃ x, x = hgE b := ⟨_, rfl⟩
  rw [← hN1, ← hZ1, ← hr1, ← hm1, ← her] at hget hrget hbk
  rw [← hN1, ← hZ1] at hlt
  rw [← hr1, ← hm1] at hlen
  have hput := fun wx => HPut_any n z rt mk wx hn hz hrt hmk
  have hput2 := fun wx => refHPut_any n z rt mk wx hn hz hrt hmk
  have hput3 := fun wx => HPut_any N1 Z1 r1 m1 wx hlt.1 hlt.2 hlen.1 hlen.2
  have hq := fun wx => eqIn_head N1 Z1 N1 Z1 r1 m1 r1 m1 hlen.1 hlen.2 hlen.1 hlen.2 wx
  rw [show decide (N1 = N1 ∧ Z1 = Z1 ∧ r1 = r1 ∧ m1 = m1) = true by simp] at hq
  have hpl : (hdB n z rt mk).length ≤ 90 := by have := nk_le n hn; have := nk_le z hz; simp [hdB, bodyB, numB_length, hrt, hmk]; omega
  obtain ⟨P, hP⟩ : ∃ x, x = hdB n z rt mk := ⟨_, rfl⟩
  rw [← hP] at hput hput2 hpl
  have HP1 := Lib.hid hput
  have HP2 := Lib.hid hput2
  have HP3a := Lib.hid hput3
  have HGET := Lib.hid hget
  have HRGET := Lib.hid hrget
  have HQ := Lib.hid hq
  have HBK := Lib.hid hbk
  have HLN := Lib.hid (And.intro hrt (And.intro hmk hlen))
  have HB := Lib.hid (And.intro hr (And.intro hl hpl))
  have HT := Lib.hid hT
  obtain ⟨w0, hw0⟩ : ∃ x : World, x = w.alloc (.cells (hdL n z rt mk).toArray 37) := ⟨_, rfl⟩
  obtain ⟨g3, hg3⟩ : ∃ g, g = w.heap.size := ⟨_, rfl⟩
  have r3 : w0.heap[g3]? = some (.cells (hdL n z rt mk).toArray 37 (0, 0)) := by rw [hw0, hg3]; exact heap_alloc_new _ _
  have hb0 : Below w.heap.size w w0 := by rw [hw0]; exact (Below.refl _ _).alloc (Nat.le_refl _) _
  have H0 := Lib.hid (And.intro r3 hb0)
  obtain ⟨A, hA⟩ : ∃ A, A = (hdL n z rt mk).toArray := ⟨_, rfl⟩
  rw [← hA]
  have HW0 := Lib.hid (And.intro hw0 (And.intro hg3 hA))
  clear hA hw0 hg3 r3 hb0 hput hput2 hput3 hget hrget hq hbk hrt hmk hr hl hpl hlt hlen hN1 hZ1 hr1 hm1 her hP hn hz hT hZl hzl
  go_enter Tryd.func5, Tryd.ntmps5
  go_upto_region 1 with fail
  rw [show w.alloc (.cells A 37) = w0 from by rw [HW0.out.2.2, HW0.out.1], ← HW0.out.2.1]
  clear HW0
  go_wp2_with fail
  refine (awake26_any w0 (HT.out.keepB H0.out.2)).mono ?_
  rintro e w1 ⟨rfl, hb1⟩
  have r3 := (hb1.block _ (Array.getElem?_eq_some_iff.1 H0.out.1).1).trans H0.out.1
  have hbw1 := H0.out.2.trans (hb1.mono H0.out.2.size)
  have hget := HGET.out w1 hbw1
  have H1 := Lib.hid (And.intro r3 hbw1)
  have HG1 := Lib.hid hget
  clear r3 hbw1 hb1 hget H0 HGET HT
  go_wp2_with fail
  refine HG1.out.mono ?_
  rintro e w2 ⟨rfl, hb2⟩
  have r3 := (hb2.block _ (Array.getElem?_eq_some_iff.1 H1.out.1).1).trans H1.out.1
  have H2 := Lib.hid (And.intro r3 (H1.out.2.trans (hb2.mono H1.out.2.size)))
  clear r3 hb2 H1 HG1
  go_upto_region 4 with (with_reducible show wpList _ _ _ (⟨none, Op.store _ _ _, _, _, _, _⟩ :: _) _ _; go_loud (refine wpList_store_whole rfl _ _ _ rfl w2.heap.size (hdL N1 Z1 r1 m1) rfl rfl Zl _ (heap_alloc_new _ _) (hdInfo' _ _ _ _ HLN.out.2.2.1 HLN.out.2.2.2) (by rw [HZL.out, hdL_length _ _ _ _ HLN.out.2.2.1 HLN.out.2.2.2]) (hdL_one _ _ _ _) ?_); intro w3 HG3 hg3)
  obtain ⟨g5, hg5⟩ : ∃ x, x = w2.heap.size := ⟨_, rfl⟩
  have r5 := HG3.out
  rw [← hg5] at r5 hg3 ⊢
  have hb23 : Below g5 w2 w3 := below_grow ((Below.refl _ _).alloc (by omega) _) hg3 (Nat.le_refl _) (by simp; omega)
  have r3 := (hb23.block _ (by rw [hg5]; exact (Array.getElem?_eq_some_iff.1 H2.out.1).1)).trans H2.out.1
  have hbw3 := H2.out.2.trans (hb23.mono (by rw [hg5]; exact H2.out.2.size))
  have hget := HRGET.out w3 hbw3
  have H3 := Lib.hid (And.intro r3 (And.intro r5 hbw3))
  have HG3' := Lib.hid hget
  clear r3 r5 hbw3 hb23 hg5 hg3 HG3 hget H2 HRGET
  go_wp2_with fail
  refine HG3'.out.mono ?_
  rintro e w4 ⟨rfl, hb4⟩
  have r3 := (hb4.block _ (Array.getElem?_eq_some_iff.1 H3.out.1).1).trans H3.out.1
  have r5 := (hb4.block _ (Array.getElem?_eq_some_iff.1 H3.out.2.1).1).trans H3.out.2.1
  have H4 := Lib.hid (And.intro r3 (And.intro r5 (H3.out.2.2.trans (hb4.mono H3.out.2.2.size))))
  clear r3 r5 hb4 H3 HG3'
  go_upto_region 5 with (with_reducible show wpList _ _ _ (⟨none, Op.store _ _ _, _, _, _, _⟩ :: _) _ _; go_loud (refine wpList_store_whole rfl _ _ _ rfl w4.heap.size (hdL N1 Z1 r1 m1) rfl rfl Zl _ (heap_alloc_new _ _) (hdInfo' _ _ _ _ HLN.out.2.2.1 HLN.out.2.2.2) (by rw [HZL.out, hdL_length _ _ _ _ HLN.out.2.2.1 HLN.out.2.2.2]) (hdL_one _ _ _ _) ?_); intro wA HGA hgA)
  obtain ⟨g7, hg7⟩ : ∃ x, x = w4.heap.size := ⟨_, rfl⟩
  have r7 := HGA.out
  rw [← hg7] at r7 hgA ⊢
  have hb4A : Below g7 w4 wA := below_grow ((Below.refl _ _).alloc (by omega) _) hgA (Nat.le_refl _) (by simp; omega)
  have r3 := (hb4A.block _ (by rw [hg7]; exact (Array.getElem?_eq_some_iff.1 H4.out.1).1)).trans H4.out.1
  have r5 := (hb4A.block _ (by rw [hg7]; exact (Array.getElem?_eq_some_iff.1 H4.out.2.1).1)).trans H4.out.2.1
  have hbwA := H4.out.2.2.trans (hb4A.mono (by rw [hg7]; exact H4.out.2.2.size))
  have HR := Lib.hid (And.intro r5 (And.intro r7 r3))
  have HBA := Lib.hid hbwA
  clear r3 r5 r7 hbwA hb4A hg7 hgA HGA H4
  by_cases he0 : er = 0
  · have HE : Hid ((er == 0) = true) := Lib.hid (by simp [he0])
    have hp3 := HP3a.out
    rw [(HBK.out he0).1] at hp3
    have HP3 := Lib.hid hp3
    clear hp3 he0 HP3a HBK
    refine wp_region_steps [some 21, some 22, some 23, some 24, some 25, some 26, some 27, some 28, some 29, some 30, some 31, some 32, some 33, some 34, some 35, some 36, some 37, some 38, some 39, some 40, some 41, some 42, some 43, some 44, some 45, some 46, some 47, some 48, some 49, some 4] [] (hrd5T n z N1 Z1 c er rt mk r1 m1 P b a) (fun _ wx wy => Below wx.heap.size wx wy) (fun wx => Below wA.heap.size wA wx) (by kernel_rfl) (by kernel_rfl) rfl (by kernel_rfl) (Below.refl _ _).drew (fun _ wx => Below.refl _ _) (fun _ wx wy h k => h.trans (k.mono h.size)) ?hF ?hstep ?hend
    case hF =>
      exact ⟨fun _ _ _ _ _ _ h => h, ⟨fun _ _ _ _ _ _ h => h, ⟨fun _ _ _ _ _ _ h => h, ⟨fun _ _ _ _ _ _ h => h, ⟨fun _ _ _ _ _ _ h => h, ⟨fun _ _ _ _ _ _ h => h, ⟨fun _ _ _ _ _ _ h => h, ⟨fun _ _ _ _ _ _ h => h, ⟨fun _ _ _ _ _ _ h => h, ⟨fun _ _ _ _ _ _ h => h, ⟨fun _ _ _ _ _ k h => h.keep k, ⟨fun _ _ _ _ _ _ h => h, ⟨fun _ _ _ _ _ _ h => h, ⟨fun _ _ _ _ _ k h => h.keep k, ⟨fun _ _ _ _ _ _ h => h, ⟨fun _ _ _ _ _ _ h => h, ⟨fun _ _ _ _ _ _ h => h, ⟨fun _ _ _ _ _ _ h => h, ⟨fun _ _ _ _ _ _ h => h, ⟨fun _ _ _ _ _ _ h => h, ⟨fun _ _ _ _ _ _ h => h, ⟨fun _ _ _ _ _ _ h => h, ⟨fun _ _ _ _ _ k h => h.keep k, ⟨fun _ _ _ _ _ _ h => h, ⟨fun _ _ _ _ _ _ h => h, ⟨fun _ _ _ _ _ _ h => h, ⟨fun _ _ _ _ _ _ h => h, ⟨fun _ _ _ _ _ _ h => h, ⟨fun _ _ _ _ _ _ h => h, ⟨fun _ _ _ _ _ _ h => h, trivial⟩⟩⟩⟩⟩⟩⟩⟩⟩⟩⟩⟩⟩⟩⟩⟩⟩⟩⟩⟩⟩⟩⟩⟩⟩⟩⟩⟩⟩⟩
    case hstep =>
      -- operation 0: Op.move (tmp 6)
      refine ⟨fun r wx hG hs hq hf => ?_, ?_⟩
      · have e6 : r 6 = .int .i64 er := hs 6 rfl
        refine (if_pos rfl).symm ▸ ?_
        clear hs hq hf
        unfold gives
        go_simp
        exact ⟨Below.refl _ _, rfl⟩
      -- operation 1: Op.move (tmp 8)
      refine ⟨fun r wx hG hs hq hf => ?_, ?_⟩
      · have e8 : r 8 = .int .i64 er := hs 8 rfl
        refine (if_pos rfl).symm ▸ ?_
        clear hs hq hf
        unfold gives
        go_simp
        exact ⟨Below.refl _ _, rfl⟩
      -- operation 2: Op.binOp BinOp.eql 28 (tmp 21) (tmp 22) 28
      refine ⟨fun r wx hG hs hq hf => ?_, ?_⟩
      · have h0 : r 21 = .int .i64 er := hf.1
        have h1 : r 22 = .int .i64 er := hf.2.1
        refine (if_pos rfl).symm ▸ ?_
        clear hs hq hf
        unfold gives
        go_simp
        exact ⟨Below.refl _ _, rfl⟩
      -- operation 3: Op.move (tmp 23)
      refine ⟨fun r wx hG hs hq hf => ?_, ?_⟩
      · have h2 : r 23 = .bool true := hf.1
        refine (if_pos rfl).symm ▸ ?_
        clear hs hq hf
        unfold gives
        go_simp
        exact ⟨Below.refl _ _, rfl⟩
      -- operation 4: Op.load 37 (tmp 5)
      refine ⟨fun r wx hG hs hq hf => ?_, ?_⟩
      · have e5 : r 5 = .pointer (some ⟨g5, 0, none⟩) := hs 5 rfl
        have h3 : r 24 = .bool true := hf.1
        have hy : ydD [some 21, some 22, some 23, some 24, some 25, some 26, some 27, some 28, some 29, some 30, some 31, some 32, some 33, some 34, some 35, some 36, some 37, some 38, some 39, some 40, some 41, some 42, some 43, some 44, some 45, some 46, some 47, some 48, some 49, some 4] r 3 = some true := by show (match r 24 with | .bool b => some b | _ => none) = some true; rw [h3]
        simp only [Region.wanted, hy, beq_self_eq_true, if_true]
        clear hs hq hf hy
        unfold gives
        refine gives_load_row 37 _ rfl g5 e5 37 _ (0, 0) _ ((hG.block _ (Array.getElem?_eq_some_iff.1 HR.out.1).1).trans HR.out.1) Tryd.underlying37 rfl (hdInfo _ _ _ _ HLN.out.2.2.1 HLN.out.2.2.2) ?_
        exact ⟨Below.refl _ _, rfl⟩
      -- operation 5: Op.load 37 (tmp 7)
      refine ⟨fun r wx hG hs hq hf => ?_, ?_⟩
      · have e7 : r 7 = .pointer (some ⟨g7, 0, none⟩) := hs 7 rfl
        have h3 : r 24 = .bool true := hf.1
        have hy : ydD [some 21, some 22, some 23, some 24, some 25, some 26, some 27, some 28, some 29, some 30, some 31, some 32, some 33, some 34, some 35, some 36, some 37, some 38, some 39, some 40, some 41, some 42, some 43, some 44, some 45, some 46, some 47, some 48, some 49, some 4] r 3 = some true := by show (match r 24 with | .bool b => some b | _ => none) = some true; rw [h3]
        simp only [Region.wanted, hy, beq_self_eq_true, if_true]
        clear hs hq hf hy
        unfold gives
        refine gives_load_row 37 _ rfl g7 e7 37 _ (0, 0) _ ((hG.block _ (Array.getElem?_eq_some_iff.1 HR.out.2.1).1).trans HR.out.2.1) Tryd.underlying37 rfl (hdInfo _ _ _ _ HLN.out.2.2.1 HLN.out.2.2.2) ?_
        exact ⟨Below.refl _ _, rfl⟩
      -- operation 6: Op.binOp BinOp.eql 37 (tmp 25) (tmp 26) 37
      refine ⟨fun r wx hG hs hq hf => ?_, ?_⟩
      · have h4 : r 25 = .agg (hdL N1 Z1 r1 m1).toArray := hf.1
        have h5 : r 26 = .agg (hdL N1 Z1 r1 m1).toArray := hf.2.1
        have h3 : r 24 = .bool true := hf.2.2.1
        have hy : ydD [some 21, some 22, some 23, some 24, some 25, some 26, some 27, some 28, some 29, some 30, some 31, some 32, some 33, some 34, some 35, some 36, some 37, some 38, some 39, some 40, some 41, some 42, some 43, some 44, some 45, some 46, some 47, some 48, some 49, some 4] r 3 = some true := by show (match r 24 with | .bool b => some b | _ => none) = some true; rw [h3]
        simp only [Region.wanted, hy, beq_self_eq_true, if_true]
        clear hs hq hf hy
        unfold gives
        refine gives_eq_head _ _ _ rfl h4 h5 (HQ.out wx) ?_
        exact ⟨Below.refl _ _, rfl⟩
      -- operation 7: Op.pick (tmp 24) (tmp 27) (const (Value.bool false))
      refine ⟨fun r wx hG hs hq hf => ?_, ?_⟩
      · have h3 : r 24 = .bool true := hf.1
        have h6 : r 27 = .bool true := hf.2.1
        refine (if_pos rfl).symm ▸ ?_
        clear hs hq hf
        unfold gives
        go_simp
        exact ⟨Below.refl _ _, rfl⟩
      -- operation 8: Op.move (tmp 28)
      refine ⟨fun r wx hG hs hq hf => ?_, ?_⟩
      · have h7 : r 28 = .bool true := hf.1
        refine (if_pos rfl).symm ▸ ?_
        clear hs hq hf
        unfold gives
        go_simp
        exact ⟨Below.refl _ _, rfl⟩
      -- operation 9: Op.load 37 (tmp 3)
      refine ⟨fun r wx hG hs hq hf => ?_, ?_⟩
      · have e3 : r 3 = .pointer (some ⟨g3, 0, none⟩) := hs 3 rfl
        have h8 : r 29 = .bool true := hf.1
        have hy : ydD [some 21, some 22, some 23, some 24, some 25, some 26, some 27, some 28, some 29, some 30, some 31, some 32, some 33, some 34, some 35, some 36, some 37, some 38, some 39, some 40, some 41, some 42, some 43, some 44, some 45, some 46, some 47, some 48, some 49, some 4] r 8 = some true := by show (match r 29 with | .bool b => some b | _ => none) = some true; rw [h8]
        simp only [Region.wanted, hy, beq_self_eq_true, if_true]
        clear hs hq hf hy
        unfold gives
        refine gives_load_row 37 _ rfl g3 e3 37 _ (0, 0) _ ((hG.block _ (Array.getElem?_eq_some_iff.1 HR.out.2.2).1).trans HR.out.2.2) Tryd.underlying37 rfl (hdInfo _ _ _ _ HLN.out.1 HLN.out.2.1) ?_
        exact ⟨Below.refl _ _, rfl⟩
      -- operation 10: Op.call ( callee := Callee.value (func 23), args := #[tmp 30], argTypes := #[37] )
      refine ⟨fun r wx hG hs hq hf => ?_, ?_⟩
      · have h9 : r 30 = .agg (hdL n z rt mk).toArray := hf.1
        have h8 : r 29 = .bool true := hf.2.1
        have hy : ydD [some 21, some 22, some 23, some 24, some 25, some 26, some 27, some 28, some 29, some 30, some 31, some 32, some 33, some 34, some 35, some 36, some 37, some 38, some 39, some 40, some 41, some 42, some 43, some 44, some 45, some 46, some 47, some 48, some 49, some 4] r 8 = some true := by show (match r 29 with | .bool b => some b | _ => none) = some true; rw [h8]
        simp only [Region.wanted, hy, beq_self_eq_true, if_true]
        clear hs hq hf hy
        unfold gives
        have hk := HP1.out wx
        go_simp
        refine hk.mono ?_
        rintro e wy ⟨v, rfl, hr1, hb1⟩
        exact ⟨v, rfl, hb1, hr1⟩
      -- operation 11: Op.convert 25 9 (tmp 31)
      refine ⟨fun r wx hG hs hq hf => ?_, ?_⟩
      · have h10 : Rd wx 1 (r 31) P.length (bv P) := hf.1
        have h8 : r 29 = .bool true := hf.2.1
        have hy : ydD [some 21, some 22, some 23, some 24, some 25, some 26, some 27, some 28, some 29, some 30, some 31, some 32, some 33, some 34, some 35, some 36, some 37, some 38, some 39, some 40, some 41, some 42, some 43, some 44, some 45, some 46, some 47, some 48, some 49, some 4] r 8 = some true := by show (match r 29 with | .bool b => some b | _ => none) = some true; rw [h8]
        simp only [Region.wanted, hy, beq_self_eq_true, if_true]
        clear hs hq hf hy
        unfold gives
        have hcv := string_of_bytes (P := Tryd.prog) Tryd.underlying25 Tryd.underlying5 Tryd.underlying9 (l := P) h10
        clear h10
        go_simp
        exact ⟨Below.refl _ _, rfl⟩
      -- operation 12: Op.load 37 (tmp 3)
      refine ⟨fun r wx hG hs hq hf => ?_, ?_⟩
      · have e3 : r 3 = .pointer (some ⟨g3, 0, none⟩) := hs 3 rfl
        have h8 : r 29 = .bool true := hf.1
        have hy : ydD [some 21, some 22, some 23, some 24, some 25, some 26, some 27, some 28, some 29, some 30, some 31, some 32, some 33, some 34, some 35, some 36, some 37, some 38, some 39, some 40, some 41, some 42, some 43, some 44, some 45, some 46, some 47, some 48, some 49, some 4] r 8 = some true := by show (match r 29 with | .bool b => some b | _ => none) = some true; rw [h8]
        simp only [Region.wanted, hy, beq_self_eq_true, if_true]
        clear hs hq hf hy
        unfold gives
        refine gives_load_row 37 _ rfl g3 e3 37 _ (0, 0) _ ((hG.block _ (Array.getElem?_eq_some_iff.1 HR.out.2.2).1).trans HR.out.2.2) Tryd.underlying37 rfl (hdInfo _ _ _ _ HLN.out.1 HLN.out.2.1) ?_
        exact ⟨Below.refl _ _, rfl⟩
      -- operation 13: Op.call ( callee := Callee.value (func 25), args := #[tmp 33], argTypes := #[37] )
      refine ⟨fun r wx hG hs hq hf => ?_, ?_⟩
      · have h12 : r 33 = .agg (hdL n z rt mk).toArray := hf.1
        have h10 : Rd wx 1 (r 31) P.length (bv P) := hf.2.1
        have h8 : r 29 = .bool true := hf.2.2.1
        have hy : ydD [some 21, some 22, some 23, some 24, some 25, some 26, some 27, some 28, some 29, some 30, some 31, some 32, some 33, some 34, some 35, some 36, some 37, some 38, some 39, some 40, some 41, some 42, some 43, some 44, some 45, some 46, some 47, some 48, some 49, some 4] r 8 = some true := by show (match r 29 with | .bool b => some b | _ => none) = some true; rw [h8]
        simp only [Region.wanted, hy, beq_self_eq_true, if_true]
        clear hs hq hf hy
        unfold gives
        have hk := HP2.out wx
        go_simp
        refine hk.mono ?_
        rintro e wy ⟨v, rfl, hr1, hb1⟩
        exact ⟨v, rfl, hb1, hr1⟩
      -- operation 14: Op.convert 25 9 (tmp 34)
      refine ⟨fun r wx hG hs hq hf => ?_, ?_⟩
      · have h13 : Rd wx 1 (r 34) P.length (bv P) := hf.1
        have h8 : r 29 = .bool true := hf.2.1
        have hy : ydD [some 21, some 22, some 23, some 24, some 25, some 26, some 27, some 28, some 29, some 30, some 31, some 32, some 33, some 34, some 35, some 36, some 37, some 38, some 39, some 40, some 41, some 42, some 43, some 44, some 45, some 46, some 47, some 48, some 49, some 4] r 8 = some true := by show (match r 29 with | .bool b => some b | _ => none) = some true; rw [h8]
        simp only [Region.wanted, hy, beq_self_eq_true, if_true]
        clear hs hq hf hy
        unfold gives
        have hcv := string_of_bytes (P := Tryd.prog) Tryd.underlying25 Tryd.underlying5 Tryd.underlying9 (l := P) h13
        clear h13
        go_simp
        exact ⟨Below.refl _ _, rfl⟩
      -- operation 15: Op.binOp BinOp.eql 9 (tmp 32) (tmp 35) 9
      refine ⟨fun r wx hG hs hq hf => ?_, ?_⟩
      · have h11 : r 32 = .string ⟨P.toArray⟩ := hf.1
        have h14 : r 35 = .string ⟨P.toArray⟩ := hf.2.1
        have h8 : r 29 = .bool true := hf.2.2.1
        have hy : ydD [some 21, some 22, some 23, some 24, some 25, some 26, some 27, some 28, some 29, some 30, some 31, some 32, some 33, some 34, some 35, some 36, some 37, some 38, some 39, some 40, some 41, some 42, some 43, some 44, some 45, some 46, some 47, some 48, some 49, some 4] r 8 = some true := by show (match r 29 with | .bool b => some b | _ => none) = some true; rw [h8]
        simp only [Region.wanted, hy, beq_self_eq_true, if_true]
        clear hs hq hf hy
        unfold gives
        go_simp
        exact ⟨Below.refl _ _, rfl⟩
      -- operation 16: Op.pick (tmp 29) (tmp 36) (const (Value.bool false))
      refine ⟨fun r wx hG hs hq hf => ?_, ?_⟩
      · have h8 : r 29 = .bool true := hf.1
        have h15 : r 36 = .bool true := hf.2.1
        refine (if_pos rfl).symm ▸ ?_
        clear hs hq hf
        unfold gives
        go_simp
        exact ⟨Below.refl _ _, rfl⟩
      -- operation 17: Op.move (tmp 37)
      refine ⟨fun r wx hG hs hq hf => ?_, ?_⟩
      · have h16 : r 37 = .bool true := hf.1
        have h13 : Rd wx 1 (r 34) P.length (bv P) := hf.2.1
        refine (if_pos rfl).symm ▸ ?_
        clear hs hq hf
        unfold gives
        go_simp
        exact ⟨Below.refl _ _, rfl⟩
      -- operation 18: Op.move (tmp 6)
      refine ⟨fun r wx hG hs hq hf => ?_, ?_⟩
      · have e6 : r 6 = .int .i64 er := hs 6 rfl
        have h17 : r 38 = .bool true := hf.1
        have hy : ydD [some 21, some 22, some 23, some 24, some 25, some 26, some 27, some 28, some 29, some 30, some 31, some 32, some 33, some 34, some 35, some 36, some 37, some 38, some 39, some 40, some 41, some 42, some 43, some 44, some 45, some 46, some 47, some 48, some 49, some 4] r 17 = some true := by show (match r 38 with | .bool b => some b | _ => none) = some true; rw [h17]
        simp only [Region.wanted, hy, beq_self_eq_true, if_true]
        clear hs hq hf hy
        unfold gives
        go_simp
        exact ⟨Below.refl _ _, rfl⟩
      -- operation 19: Op.binOp BinOp.neq 28 (tmp 39) (const (Value.int IntKind.i64 0)) 28
      refine ⟨fun r wx hG hs hq hf => ?_, ?_⟩
      · have h18 : r 39 = .int .i64 er := hf.1
        have h17 : r 38 = .bool true := hf.2.1
        have hy : ydD [some 21, some 22, some 23, some 24, some 25, some 26, some 27, some 28, some 29, some 30, some 31, some 32, some 33, some 34, some 35, some 36, some 37, some 38, some 39, some 40, some 41, some 42, some 43, some 44, some 45, some 46, some 47, some 48, some 49, some 4] r 17 = some true := by show (match r 38 with | .bool b => some b | _ => none) = some true; rw [h17]
        simp only [Region.wanted, hy, beq_self_eq_true, if_true]
        clear hs hq hf hy
        unfold gives
        have he : (er != 0) = false := by rw [bne, HE.out]; rfl
        go_simp
        exact ⟨Below.refl _ _, rfl⟩
      -- operation 20: Op.move (tmp 40)
      refine ⟨fun r wx hG hs hq hf => ?_, ?_⟩
      · have h19 : r 40 = .bool false := hf.1
        have h17 : r 38 = .bool true := hf.2.1
        have hy : ydD [some 21, some 22, some 23, some 24, some 25, some 26, some 27, some 28, some 29, some 30, some 31, some 32, some 33, some 34, some 35, some 36, some 37, some 38, some 39, some 40, some 41, some 42, some 43, some 44, some 45, some 46, some 47, some 48, some 49, some 4] r 17 = some true := by show (match r 38 with | .bool b => some b | _ => none) = some true; rw [h17]
        simp only [Region.wanted, hy, beq_self_eq_true, if_true]
        clear hs hq hf hy
        unfold gives
        go_simp
        exact ⟨Below.refl _ _, rfl⟩
      -- operation 21: Op.load 37 (tmp 5)
      refine ⟨fun r wx hG hs hq hf => ?_, ?_⟩
      · have e5 : r 5 = .pointer (some ⟨g5, 0, none⟩) := hs 5 rfl
        have h20 : r 41 = .bool false := hf.1
        have hy : ydD [some 21, some 22, some 23, some 24, some 25, some 26, some 27, some 28, some 29, some 30, some 31, some 32, some 33, some 34, some 35, some 36, some 37, some 38, some 39, some 40, some 41, some 42, some 43, some 44, some 45, some 46, some 47, some 48, some 49, some 4] r 20 = some false := by show (match r 41 with | .bool b => some b | _ => none) = some false; rw [h20]
        simp only [Region.wanted, hy, beq_self_eq_true, if_true]
        clear hs hq hf hy
        unfold gives
        refine gives_load_row 37 _ rfl g5 e5 37 _ (0, 0) _ ((hG.block _ (Array.getElem?_eq_some_iff.1 HR.out.1).1).trans HR.out.1) Tryd.underlying37 rfl (hdInfo _ _ _ _ HLN.out.2.2.1 HLN.out.2.2.2) ?_
        exact ⟨Below.refl _ _, rfl⟩
      -- operation 22: Op.call ( callee := Callee.value (func 23), args := #[tmp 42], argTypes := #[37] )
      refine ⟨fun r wx hG hs hq hf => ?_, ?_⟩
      · have h21 : r 42 = .agg (hdL N1 Z1 r1 m1).toArray := hf.1
        have h20 : r 41 = .bool false := hf.2.1
        have hy : ydD [some 21, some 22, some 23, some 24, some 25, some 26, some 27, some 28, some 29, some 30, some 31, some 32, some 33, some 34, some 35, some 36, some 37, some 38, some 39, some 40, some 41, some 42, some 43, some 44, some 45, some 46, some 47, some 48, some 49, some 4] r 20 = some false := by show (match r 41 with | .bool b => some b | _ => none) = some false; rw [h20]
        simp only [Region.wanted, hy, beq_self_eq_true, if_true]
        clear hs hq hf hy
        unfold gives
        have hk := HP3.out wx
        go_simp
        refine hk.mono ?_
        rintro e wy ⟨v, rfl, hr1, hb1⟩
        exact ⟨v, rfl, hb1, hr1⟩
      -- operation 23: Op.convert 25 9 (tmp 43)
      refine ⟨fun r wx hG hs hq hf => ?_, ?_⟩
      · have h22 : Rd wx 1 (r 43) b.length (bv b) := hf.1
        have h20 : r 41 = .bool false := hf.2.1
        have hy : ydD [some 21, some 22, some 23, some 24, some 25, some 26, some 27, some 28, some 29, some 30, some 31, some 32, some 33, some 34, some 35, some 36, some 37, some 38, some 39, some 40, some 41, some 42, some 43, some 44, some 45, some 46, some 47, some 48, some 49, some 4] r 20 = some false := by show (match r 41 with | .bool b => some b | _ => none) = some false; rw [h20]
        simp only [Region.wanted, hy, beq_self_eq_true, if_true]
        clear hs hq hf hy
        unfold gives
        have hcv := string_of_bytes (P := Tryd.prog) Tryd.underlying25 Tryd.underlying5 Tryd.underlying9 (l := b) h22
        clear h22
        go_simp
        exact ⟨Below.refl _ _, rfl⟩
      -- operation 24: Op.move (tmp 0)
      refine ⟨fun r wx hG hs hq hf => ?_, ?_⟩
      · have e0 : r 0 = .slice a b.length c := hs 0 rfl
        have h20 : r 41 = .bool false := hf.1
        have hy : ydD [some 21, some 22, some 23, some 24, some 25, some 26, some 27, some 28, some 29, some 30, some 31, some 32, some 33, some 34, some 35, some 36, some 37, some 38, some 39, some 40, some 41, some 42, some 43, some 44, some 45, some 46, some 47, some 48, some 49, some 4] r 20 = some false := by show (match r 41 with | .bool b => some b | _ => none) = some false; rw [h20]
        simp only [Region.wanted, hy, beq_self_eq_true, if_true]
        clear hs hq hf hy
        unfold gives
        go_simp
        exact ⟨Below.refl _ _, rfl⟩
      -- operation 25: Op.convert 25 9 (tmp 45)
      refine ⟨fun r wx hG hs hq hf => ?_, ?_⟩
      · have h24 : r 45 = .slice a b.length c := hf.1
        have h20 : r 41 = .bool false := hf.2.1
        have hy : ydD [some 21, some 22, some 23, some 24, some 25, some 26, some 27, some 28, some 29, some 30, some 31, some 32, some 33, some 34, some 35, some 36, some 37, some 38, some 39, some 40, some 41, some 42, some 43, some 44, some 45, some 46, some 47, some 48, some 49, some 4] r 20 = some false := by show (match r 41 with | .bool b => some b | _ => none) = some false; rw [h20]
        simp only [Region.wanted, hy, beq_self_eq_true, if_true]
        clear hs hq hf hy
        unfold gives
        have hcv := string_of_bytes (P := Tryd.prog) Tryd.underlying25 Tryd.underlying5 Tryd.underlying9 (l := b) (HB.out.1.keep (HBA.out.trans (hG.mono HBA.out.size)))
        go_simp
        exact ⟨Below.refl _ _, rfl⟩
      -- operation 26: Op.binOp BinOp.eql 9 (tmp 44) (tmp 46) 9
      refine ⟨fun r wx hG hs hq hf => ?_, ?_⟩
      · have h23 : r 44 = .string ⟨b.toArray⟩ := hf.1
        have h25 : r 46 = .string ⟨b.toArray⟩ := hf.2.1
        have h20 : r 41 = .bool false := hf.2.2.1
        have hy : ydD [some 21, some 22, some 23, some 24, some 25, some 26, some 27, some 28, some 29, some 30, some 31, some 32, some 33, some 34, some 35, some 36, some 37, some 38, some 39, some 40, some 41, some 42, some 43, some 44, some 45, some 46, some 47, some 48, some 49, some 4] r 20 = some false := by show (match r 41 with | .bool b => some b | _ => none) = some false; rw [h20]
        simp only [Region.wanted, hy, beq_self_eq_true, if_true]
        clear hs hq hf hy
        unfold gives
        go_simp
        exact ⟨Below.refl _ _, rfl⟩
      -- operation 27: Op.pick (tmp 41) (const (Value.bool true)) (tmp 47)
      refine ⟨fun r wx hG hs hq hf => ?_, ?_⟩
      · have h20 : r 41 = .bool false := hf.1
        have h26 : r 47 = .bool true := hf.2.1
        have h17 : r 38 = .bool true := hf.2.2.1
        have hy : ydD [some 21, some 22, some 23, some 24, some 25, some 26, some 27, some 28, some 29, some 30, some 31, some 32, some 33, some 34, some 35, some 36, some 37, some 38, some 39, some 40, some 41, some 42, some 43, some 44, some 45, some 46, some 47, some 48, some 49, some 4] r 17 = some true := by show (match r 38 with | .bool b => some b | _ => none) = some true; rw [h17]
        simp only [Region.wanted, hy, beq_self_eq_true, if_true]
        clear hs hq hf hy
        unfold gives
        go_simp
        exact ⟨Below.refl _ _, rfl⟩
      -- operation 28: Op.pick (tmp 38) (tmp 48) (const (Value.bool false))
      refine ⟨fun r wx hG hs hq hf => ?_, ?_⟩
      · have h17 : r 38 = .bool true := hf.1
        have h27 : r 48 = .bool true := hf.2.1
        refine (if_pos rfl).symm ▸ ?_
        clear hs hq hf
        unfold gives
        go_simp
        exact ⟨Below.refl _ _, rfl⟩
      -- operation 29: Op.assign (tmp 49)
      refine ⟨fun r wx hG hs hq hf => ?_, ?_⟩
      · have h28 : r 49 = .bool true := hf.1
        have h22 : Rd wx 1 (r 43) b.length (bv b) := hf.2.1
        refine (if_pos rfl).symm ▸ ?_
        clear hs hq hf
        unfold gives
        go_simp
        exact ⟨Below.refl _ _, rfl⟩
      exact trivial
    case hend =>
      intro u wz hG hfin
      have z29 : u 29 = .bool true := hfin 29 (by decide) (by kernel_rfl)
      clear hfin
      simp only [fill]
      go_simp
      go_wp2_with fail
      go_ret
      exact ⟨rfl, HBA.out.trans (hG.mono HBA.out.size)⟩
  · have HE : Hid ((er == 0) = false) := Lib.hid (by simp [he0])
    clear he0 HP3a HBK
    refine wp_region_steps [some 21, some 22, some 23, some 24, some 25, some 26, some 27, some 28, some 29, some 30, some 31, some 32, some 33, some 34, some 35, some 36, some 37, some 38, some 39, some 40, some 41, some 42, some 43, some 44, some 45, some 46, some 47, some 48, some 49, some 4] [] (hrd5F n z N1 Z1 c er rt mk r1 m1 P b a) (fun _ wx wy => Below wx.heap.size wx wy) (fun wx => Below wA.heap.size wA wx) (by kernel_rfl) (by kernel_rfl) rfl (by kernel_rfl) (Below.refl _ _).drew (fun _ wx => Below.refl _ _) (fun _ wx wy h k => h.trans (k.mono h.size)) ?hF ?hstep ?hend
    case hF =>
      exact ⟨fun _ _ _ _ _ _ h => h, ⟨fun _ _ _ _ _ _ h => h, ⟨fun _ _ _ _ _ _ h => h, ⟨fun _ _ _ _ _ _ h => h, ⟨fun _ _ _ _ _ _ h => h, ⟨fun _ _ _ _ _ _ h => h, ⟨fun _ _ _ _ _ _ h => h, ⟨fun _ _ _ _ _ _ h => h, ⟨fun _ _ _ _ _ _ h => h, ⟨fun _ _ _ _ _ _ h => h, ⟨fun _ _ _ _ _ k h => h.keep k, ⟨fun _ _ _ _ _ _ h => h, ⟨fun _ _ _ _ _ _ h => h, ⟨fun _ _ _ _ _ k h => h.keep k, ⟨fun _ _ _ _ _ _ h => h, ⟨fun _ _ _ _ _ _ h => h, ⟨fun _ _ _ _ _ _ h => h, ⟨fun _ _ _ _ _ _ h => h, ⟨fun _ _ _ _ _ _ h => h, ⟨fun _ _ _ _ _ _ h => h, ⟨fun _ _ _ _ _ _ h => h, ⟨fun _ _ _ _ _ _ h => h, ⟨fun _ _ _ _ _ _ h => h, ⟨fun _ _ _ _ _ _ h => h, ⟨fun _ _ _ _ _ _ h => h, ⟨fun _ _ _ _ _ _ h => h, ⟨fun _ _ _ _ _ _ h => h, ⟨fun _ _ _ _ _ _ h => h, ⟨fun _ _ _ _ _ _ h => h, ⟨fun _ _ _ _ _ _ h => h, trivial⟩⟩⟩⟩⟩⟩⟩⟩⟩⟩⟩⟩⟩⟩⟩⟩⟩⟩⟩⟩⟩⟩⟩⟩⟩⟩⟩⟩⟩⟩
    case hstep =>
      -- operation 0: Op.move (tmp 6)
      refine ⟨fun r wx hG hs hq hf => ?_, ?_⟩
      · have e6 : r 6 = .int .i64 er := hs 6 rfl
        refine (if_pos rfl).symm ▸ ?_
        clear hs hq hf
        unfold gives
        go_simp
        exact ⟨Below.refl _ _, rfl⟩
      -- operation 1: Op.move (tmp 8)
      refine ⟨fun r wx hG hs hq hf => ?_, ?_⟩
      · have e8 : r 8 = .int .i64 er := hs 8 rfl
        refine (if_pos rfl).symm ▸ ?_
        clear hs hq hf
        unfold gives
        go_simp
        exact ⟨Below.refl _ _, rfl⟩
      -- operation 2: Op.binOp BinOp.eql 28 (tmp 21) (tmp 22) 28
      refine ⟨fun r wx hG hs hq hf => ?_, ?_⟩
      · have h0 : r 21 = .int .i64 er := hf.1
        have h1 : r 22 = .int .i64 er := hf.2.1
        refine (if_pos rfl).symm ▸ ?_
        clear hs hq hf
        unfold gives
        go_simp
        exact ⟨Below.refl _ _, rfl⟩
      -- operation 3: Op.move (tmp 23)
      refine ⟨fun r wx hG hs hq hf => ?_, ?_⟩
      · have h2 : r 23 = .bool true := hf.1
        refine (if_pos rfl).symm ▸ ?_
        clear hs hq hf
        unfold gives
        go_simp
        exact ⟨Below.refl _ _, rfl⟩
      -- operation 4: Op.load 37 (tmp 5)
      refine ⟨fun r wx hG hs hq hf => ?_, ?_⟩
      · have e5 : r 5 = .pointer (some ⟨g5, 0, none⟩) := hs 5 rfl
        have h3 : r 24 = .bool true := hf.1
        have hy : ydD [some 21, some 22, some 23, some 24, some 25, some 26, some 27, some 28, some 29, some 30, some 31, some 32, some 33, some 34, some 35, some 36, some 37, some 38, some 39, some 40, some 41, some 42, some 43, some 44, some 45, some 46, some 47, some 48, some 49, some 4] r 3 = some true := by show (match r 24 with | .bool b => some b | _ => none) = some true; rw [h3]
        simp only [Region.wanted, hy, beq_self_eq_true, if_true]
        clear hs hq hf hy
        unfold gives
        refine gives_load_row 37 _ rfl g5 e5 37 _ (0, 0) _ ((hG.block _ (Array.getElem?_eq_some_iff.1 HR.out.1).1).trans HR.out.1) Tryd.underlying37 rfl (hdInfo _ _ _ _ HLN.out.2.2.1 HLN.out.2.2.2) ?_
        exact ⟨Below.refl _ _, rfl⟩
      -- operation 5: Op.load 37 (tmp 7)
      refine ⟨fun r wx hG hs hq hf => ?_, ?_⟩
      · have e7 : r 7 = .pointer (some ⟨g7, 0, none⟩) := hs 7 rfl
        have h3 : r 24 = .bool true := hf.1
        have hy : ydD [some 21, some 22, some 23, some 24, some 25, some 26, some 27, some 28, some 29, some 30, some 31, some 32, some 33, some 34, some 35, some 36, some 37, some 38, some 39, some 40, some 41, some 42, some 43, some 44, some 45, some 46, some 47, some 48, some 49, some 4] r 3 = some true := by show (match r 24 with | .bool b => some b | _ => none) = some true; rw [h3]
        simp only [Region.wanted, hy, beq_self_eq_true, if_true]
        clear hs hq hf hy
        unfold gives
        refine gives_load_row 37 _ rfl g7 e7 37 _ (0, 0) _ ((hG.block _ (Array.getElem?_eq_some_iff.1 HR.out.2.1).1).trans HR.out.2.1) Tryd.underlying37 rfl (hdInfo _ _ _ _ HLN.out.2.2.1 HLN.out.2.2.2) ?_
        exact ⟨Below.refl _ _, rfl⟩
      -- operation 6: Op.binOp BinOp.eql 37 (tmp 25) (tmp 26) 37
      refine ⟨fun r wx hG hs hq hf => ?_, ?_⟩
      · have h4 : r 25 = .agg (hdL N1 Z1 r1 m1).toArray := hf.1
        have h5 : r 26 = .agg (hdL N1 Z1 r1 m1).toArray := hf.2.1
        have h3 : r 24 = .bool true := hf.2.2.1
        have hy : ydD [some 21, some 22, some 23, some 24, some 25, some 26, some 27, some 28, some 29, some 30, some 31, some 32, some 33, some 34, some 35, some 36, some 37, some 38, some 39, some 40, some 41, some 42, some 43, some 44, some 45, some 46, some 47, some 48, some 49, some 4] r 3 = some true := by show (match r 24 with | .bool b => some b | _ => none) = some true; rw [h3]
        simp only [Region.wanted, hy, beq_self_eq_true, if_true]
        clear hs hq hf hy
        unfold gives
        refine gives_eq_head _ _ _ rfl h4 h5 (HQ.out wx) ?_
        exact ⟨Below.refl _ _, rfl⟩
      -- operation 7: Op.pick (tmp 24) (tmp 27) (const (Value.bool false))
      refine ⟨fun r wx hG hs hq hf => ?_, ?_⟩
      · have h3 : r 24 = .bool true := hf.1
        have h6 : r 27 = .bool true := hf.2.1
        refine (if_pos rfl).symm ▸ ?_
        clear hs hq hf
        unfold gives
        go_simp
        exact ⟨Below.refl _ _, rfl⟩
      -- operation 8: Op.move (tmp 28)
      refine ⟨fun r wx hG hs hq hf => ?_, ?_⟩
      · have h7 : r 28 = .bool true := hf.1
        refine (if_pos rfl).symm ▸ ?_
        clear hs hq hf
        unfold gives
        go_simp
        exact ⟨Below.refl _ _, rfl⟩
      -- operation 9: Op.load 37 (tmp 3)
      refine ⟨fun r wx hG hs hq hf => ?_, ?_⟩
      · have e3 : r 3 = .pointer (some ⟨g3, 0, none⟩) := hs 3 rfl
        have h8 : r 29 = .bool true := hf.1
        have hy : ydD [some 21, some 22, some 23, some 24, some 25, some 26, some 27, some 28, some 29, some 30, some 31, some 32, some 33, some 34, some 35, some 36, some 37, some 38, some 39, some 40, some 41, some 42, some 43, some 44, some 45, some 46, some 47, some 48, some 49, some 4] r 8 = some true := by show (match r 29 with | .bool b => some b | _ => none) = some true; rw [h8]
        simp only [Region.wanted, hy, beq_self_eq_true, if_true]
        clear hs hq hf hy
        unfold gives
        refine gives_load_row 37 _ rfl g3 e3 37 _ (0, 0) _ ((hG.block _ (Array.getElem?_eq_some_iff.1 HR.out.2.2).1).trans HR.out.2.2) Tryd.underlying37 rfl (hdInfo _ _ _ _ HLN.out.1 HLN.out.2.1) ?_
        exact ⟨Below.refl _ _, rfl⟩
      -- operation 10: Op.call ( callee := Callee.value (func 23), args := #[tmp 30], argTypes := #[37] )
      refine ⟨fun r wx hG hs hq hf => ?_, ?_⟩
      · have h9 : r 30 = .agg (hdL n z rt mk).toArray := hf.1
        have h8 : r 29 = .bool true := hf.2.1
        have hy : ydD [some 21, some 22, some 23, some 24, some 25, some 26, some 27, some 28, some 29, some 30, some 31, some 32, some 33, some 34, some 35, some 36, some 37, some 38, some 39, some 40, some 41, some 42, some 43, some 44, some 45, some 46, some 47, some 48, some 49, some 4] r 8 = some true := by show (match r 29 with | .bool b => some b | _ => none) = some true; rw [h8]
        simp only [Region.wanted, hy, beq_self_eq_true, if_true]
        clear hs hq hf hy
        unfold gives
        have hk := HP1.out wx
        go_simp
        refine hk.mono ?_
        rintro e wy ⟨v, rfl, hr1, hb1⟩
        exact ⟨v, rfl, hb1, hr1⟩
      -- operation 11: Op.convert 25 9 (tmp 31)
      refine ⟨fun r wx hG hs hq hf => ?_, ?_⟩
      · have h10 : Rd wx 1 (r 31) P.length (bv P) := hf.1
        have h8 : r 29 = .bool true := hf.2.1
        have hy : ydD [some 21, some 22, some 23, some 24, some 25, some 26, some 27, some 28, some 29, some 30, some 31, some 32, some 33, some 34, some 35, some 36, some 37, some 38, some 39, some 40, some 41, some 42, some 43, some 44, some 45, some 46, some 47, some 48, some 49, some 4] r 8 = some true := by show (match r 29 with | .bool b => some b | _ => none) = some true; rw [h8]
        simp only [Region.wanted, hy, beq_self_eq_true, if_true]
        clear hs hq hf hy
        unfold gives
        have hcv := string_of_bytes (P := Tryd.prog) Tryd.underlying25 Tryd.underlying5 Tryd.underlying9 (l := P) h10
        clear h10
        go_simp
        exact ⟨Below.refl _ _, rfl⟩
      -- operation 12: Op.load 37 (tmp 3)
      refine ⟨fun r wx hG hs hq hf => ?_, ?_⟩
      · have e3 : r 3 = .pointer (some ⟨g3, 0, none⟩) := hs 3 rfl
        have h8 : r 29 = .bool true := hf.1
        have hy : ydD [some 21, some 22, some 23, some 24, some 25, some 26, some 27, some 28, some 29, some 30, some 31, some 32, some 33, some 34, some 35, some 36, some 37, some 38, some 39, some 40, some 41, some 42, some 43, some 44, some 45, some 46, some 47, some 48, some 49, some 4] r 8 = some true := by show (match r 29 with | .bool b => some b | _ => none) = some true; rw [h8]
        simp only [Region.wanted, hy, beq_self_eq_true, if_true]
        clear hs hq hf hy
        unfold gives
        refine gives_load_row 37 _ rfl g3 e3 37 _ (0, 0) _ ((hG.block _ (Array.getElem?_eq_some_iff.1 HR.out.2.2).1).trans HR.out.2.2) Tryd.underlying37 rfl (hdInfo _ _ _ _ HLN.out.1 HLN.out.2.1) ?_
        exact ⟨Below.refl _ _, rfl⟩
      -- operation 13: Op.call ( callee := Callee.value (func 25), args := #[tmp 33], argTypes := #[37] )
      refine ⟨fun r wx hG hs hq hf => ?_, ?_⟩
      · have h12 : r 33 = .agg (hdL n z rt mk).toArray := hf.1
        have h10 : Rd wx 1 (r 31) P.length (bv P) := hf.2.1
        have h8 : r 29 = .bool true := hf.2.2.1
        have hy : ydD [some 21, some 22, some 23, some 24, some 25, some 26, some 27, some 28, some 29, some 30, some 31, some 32, some 33, some 34, some 35, some 36, some 37, some 38, some 39, some 40, some 41, some 42, some 43, some 44, some 45, some 46, some 47, some 48, some 49, some 4] r 8 = some true := by show (match r 29 with | .bool b => some b | _ => none) = some true; rw [h8]
        simp only [Region.wanted, hy, beq_self_eq_true, if_true]
        clear hs hq hf hy
        unfold gives
        have hk := HP2.out wx
        go_simp
        refine hk.mono ?_
        rintro e wy ⟨v, rfl, hr1, hb1⟩
        exact ⟨v, rfl, hb1, hr1⟩
      -- operation 14: Op.convert 25 9 (tmp 34)
      refine ⟨fun r wx hG hs hq hf => ?_, ?_⟩
      · have h13 : Rd wx 1 (r 34) P.length (bv P) := hf.1
        have h8 : r 29 = .bool true := hf.2.1
        have hy : ydD [some 21, some 22, some 23, some 24, some 25, some 26, some 27, some 28, some 29, some 30, some 31, some 32, some 33, some 34, some 35, some 36, some 37, some 38, some 39, some 40, some 41, some 42, some 43, some 44, some 45, some 46, some 47, some 48, some 49, some 4] r 8 = some true := by show (match r 29 with | .bool b => some b | _ => none) = some true; rw [h8]
        simp only [Region.wanted, hy, beq_self_eq_true, if_true]
        clear hs hq hf hy
        unfold gives
        have hcv := string_of_bytes (P := Tryd.prog) Tryd.underlying25 Tryd.underlying5 Tryd.underlying9 (l := P) h13
        clear h13
        go_simp
        exact ⟨Below.refl _ _, rfl⟩
      -- operation 15: Op.binOp BinOp.eql 9 (tmp 32) (tmp 35) 9
      refine ⟨fun r wx hG hs hq hf => ?_, ?_⟩
      · have h11 : r 32 = .string ⟨P.toArray⟩ := hf.1
        have h14 : r 35 = .string ⟨P.toArray⟩ := hf.2.1
        have h8 : r 29 = .bool true := hf.2.2.1
        have hy : ydD [some 21, some 22, some 23, some 24, some 25, some 26, some 27, some 28, some 29, some 30, some 31, some 32, some 33, some 34, some 35, some 36, some 37, some 38, some 39, some 40, some 41, some 42, some 43, some 44, some 45, some 46, some 47, some 48, some 49, some 4] r 8 = some true := by show (match r 29 with | .bool b => some b | _ => none) = some true; rw [h8]
        simp only [Region.wanted, hy, beq_self_eq_true, if_true]
        clear hs hq hf hy
        unfold gives
        go_simp
        exact ⟨Below.refl _ _, rfl⟩
      -- operation 16: Op.pick (tmp 29) (tmp 36) (const (Value.bool false))
      refine ⟨fun r wx hG hs hq hf => ?_, ?_⟩
      · have h8 : r 29 = .bool true := hf.1
        have h15 : r 36 = .bool true := hf.2.1
        refine (if_pos rfl).symm ▸ ?_
        clear hs hq hf
        unfold gives
        go_simp
        exact ⟨Below.refl _ _, rfl⟩
      -- operation 17: Op.move (tmp 37)
      refine ⟨fun r wx hG hs hq hf => ?_, ?_⟩
      · have h16 : r 37 = .bool true := hf.1
        have h13 : Rd wx 1 (r 34) P.length (bv P) := hf.2.1
        refine (if_pos rfl).symm ▸ ?_
        clear hs hq hf
        unfold gives
        go_simp
        exact ⟨Below.refl _ _, rfl⟩
      -- operation 18: Op.move (tmp 6)
      refine ⟨fun r wx hG hs hq hf => ?_, ?_⟩
      · have e6 : r 6 = .int .i64 er := hs 6 rfl
        have h17 : r 38 = .bool true := hf.1
        have hy : ydD [some 21, some 22, some 23, some 24, some 25, some 26, some 27, some 28, some 29, some 30, some 31, some 32, some 33, some 34, some 35, some 36, some 37, some 38, some 39, some 40, some 41, some 42, some 43, some 44, some 45, some 46, some 47, some 48, some 49, some 4] r 17 = some true := by show (match r 38 with | .bool b => some b | _ => none) = some true; rw [h17]
        simp only [Region.wanted, hy, beq_self_eq_true, if_true]
        clear hs hq hf hy
        unfold gives
        go_simp
        exact ⟨Below.refl _ _, rfl⟩
      -- operation 19: Op.binOp BinOp.neq 28 (tmp 39) (const (Value.int IntKind.i64 0)) 28
      refine ⟨fun r wx hG hs hq hf => ?_, ?_⟩
      · have h18 : r 39 = .int .i64 er := hf.1
        have h17 : r 38 = .bool true := hf.2.1
        have hy : ydD [some 21, some 22, some 23, some 24, some 25, some 26, some 27, some 28, some 29, some 30, some 31, some 32, some 33, some 34, some 35, some 36, some 37, some 38, some 39, some 40, some 41, some 42, some 43, some 44, some 45, some 46, some 47, some 48, some 49, some 4] r 17 = some true := by show (match r 38 with | .bool b => some b | _ => none) = some true; rw [h17]
        simp only [Region.wanted, hy, beq_self_eq_true, if_true]
        clear hs hq hf hy
        unfold gives
        have he : (er != 0) = true := by rw [bne, HE.out]; rfl
        go_simp
        exact ⟨Below.refl _ _, rfl⟩
      -- operation 20: Op.move (tmp 40)
      refine ⟨fun r wx hG hs hq hf => ?_, ?_⟩
      · have h19 : r 40 = .bool true := hf.1
        have h17 : r 38 = .bool true := hf.2.1
        have hy : ydD [some 21, some 22, some 23, some 24, some 25, some 26, some 27, some 28, some 29, some 30, some 31, some 32, some 33, some 34, some 35, some 36, some 37, some 38, some 39, some 40, some 41, some 42, some 43, some 44, some 45, some 46, some 47, some 48, some 49, some 4] r 17 = some true := by show (match r 38 with | .bool b => some b | _ => none) = some true; rw [h17]
        simp only [Region.wanted, hy, beq_self_eq_true, if_true]
        clear hs hq hf hy
        unfold gives
        go_simp
        exact ⟨Below.refl _ _, rfl⟩
      -- operation 21: Op.load 37 (tmp 5)
      refine ⟨fun r wx hG hs hq hf => ?_, ?_⟩
      · have e5 : r 5 = .pointer (some ⟨g5, 0, none⟩) := hs 5 rfl
        have h20 : r 41 = .bool true := hf.1
        have hy : ydD [some 21, some 22, some 23, some 24, some 25, some 26, some 27, some 28, some 29, some 30, some 31, some 32, some 33, some 34, some 35, some 36, some 37, some 38, some 39, some 40, some 41, some 42, some 43, some 44, some 45, some 46, some 47, some 48, some 49, some 4] r 20 = some true := by show (match r 41 with | .bool b => some b | _ => none) = some true; rw [h20]
        simp only [Region.wanted, hy]
        rw [if_neg (show ¬ (some true == some false) = true by decide)]
        clear hs hq hf hy
        rfl
      -- operation 22: Op.call ( callee := Callee.value (func 23), args := #[tmp 42], argTypes := #[37] )
      refine ⟨fun r wx hG hs hq hf => ?_, ?_⟩
      · have h21 : r 42 = undef := hf.1
        have h20 : r 41 = .bool true := hf.2.1
        have hy : ydD [some 21, some 22, some 23, some 24, some 25, some 26, some 27, some 28, some 29, some 30, some 31, some 32, some 33, some 34, some 35, some 36, some 37, some 38, some 39, some 40, some 41, some 42, some 43, some 44, some 45, some 46, some 47, some 48, some 49, some 4] r 20 = some true := by show (match r 41 with | .bool b => some b | _ => none) = some true; rw [h20]
        simp only [Region.wanted, hy]
        rw [if_neg (show ¬ (some true == some false) = true by decide)]
        clear hs hq hf hy
        rfl
      -- operation 23: Op.convert 25 9 (tmp 43)
      refine ⟨fun r wx hG hs hq hf => ?_, ?_⟩
      · have h22 : r 43 = undef := hf.1
        have h20 : r 41 = .bool true := hf.2.1
        have hy : ydD [some 21, some 22, some 23, some 24, some 25, some 26, some 27, some 28, some 29, some 30, some 31, some 32, some 33, some 34, some 35, some 36, some 37, some 38, some 39, some 40, some 41, some 42, some 43, some 44, some 45, some 46, some 47, some 48, some 49, some 4] r 20 = some true := by show (match r 41 with | .bool b => some b | _ => none) = some true; rw [h20]
        simp only [Region.wanted, hy]
        rw [if_neg (show ¬ (some true == some false) = true by decide)]
        clear hs hq hf hy
        rfl
      -- operation 24: Op.move (tmp 0)
      refine ⟨fun r wx hG hs hq hf => ?_, ?_⟩
      · have e0 : r 0 = .slice a b.length c := hs 0 rfl
        have h20 : r 41 = .bool true := hf.1
        have hy : ydD [some 21, some 22, some 23, some 24, some 25, some 26, some 27, some 28, some 29, some 30, some 31, some 32, some 33, some 34, some 35, some 36, some 37, some 38, some 39, some 40, some 41, some 42, some 43, some 44, some 45, some 46, some 47, some 48, some 49, some 4] r 20 = some true := by show (match r 41 with | .bool b => some b | _ => none) = some true; rw [h20]
        simp only [Region.wanted, hy]
        rw [if_neg (show ¬ (some true == some false) = true by decide)]
        clear hs hq hf hy
        rfl
      -- operation 25: Op.convert 25 9 (tmp 45)
      refine ⟨fun r wx hG hs hq hf => ?_, ?_⟩
      · have h24 : r 45 = undef := hf.1
        have h20 : r 41 = .bool true := hf.2.1
        have hy : ydD [some 21, some 22, some 23, some 24, some 25, some 26, some 27, some 28, some 29, some 30, some 31, some 32, some 33, some 34, some 35, some 36, some 37, some 38, some 39, some 40, some 41, some 42, some 43, some 44, some 45, some 46, some 47, some 48, some 49, some 4] r 20 = some true := by show (match r 41 with | .bool b => some b | _ => none) = some true; rw [h20]
        simp only [Region.wanted, hy]
        rw [if_neg (show ¬ (some true == some false) = true by decide)]
        clear hs hq hf hy
        rfl
      -- operation 26: Op.binOp BinOp.eql 9 (tmp 44) (tmp 46) 9
      refine ⟨fun r wx hG hs hq hf => ?_, ?_⟩
      · have h23 : r 44 = undef := hf.1
        have h25 : r 46 = undef := hf.2.1
        have h20 : r 41 = .bool true := hf.2.2.1
        have hy : ydD [some 21, some 22, some 23, some 24, some 25, some 26, some 27, some 28, some 29, some 30, some 31, some 32, some 33, some 34, some 35, some 36, some 37, some 38, some 39, some 40, some 41, some 42, some 43, some 44, some 45, some 46, some 47, some 48, some 49, some 4] r 20 = some true := by show (match r 41 with | .bool b => some b | _ => none) = some true; rw [h20]
        simp only [Region.wanted, hy]
        rw [if_neg (show ¬ (some true == some false) = true by decide)]
        clear hs hq hf hy
        rfl
      -- operation 27: Op.pick (tmp 41) (const (Value.bool true)) (tmp 47)
      refine ⟨fun r wx hG hs hq hf => ?_, ?_⟩
      · have h20 : r 41 = .bool true := hf.1
        have h26 : r 47 = undef := hf.2.1
        have h17 : r 38 = .bool true := hf.2.2.1
        have hy : ydD [some 21, some 22, some 23, some 24, some 25, some 26, some 27, some 28, some 29, some 30, some 31, some 32, some 33, some 34, some 35, some 36, some 37, some 38, some 39, some 40, some 41, some 42, some 43, some 44, some 45, some 46, some 47, some 48, some 49, some 4] r 17 = some true := by show (match r 38 with | .bool b => some b | _ => none) = some true; rw [h17]
        simp only [Region.wanted, hy, beq_self_eq_true, if_true]
        clear hs hq hf hy
        unfold gives
        go_simp
        exact ⟨Below.refl _ _, rfl⟩
      -- operation 28: Op.pick (tmp 38) (tmp 48) (const (Value.bool false))
      refine ⟨fun r wx hG hs hq hf => ?_, ?_⟩
      · have h17 : r 38 = .bool true := hf.1
        have h27 : r 48 = .bool true := hf.2.1
        refine (if_pos rfl).symm ▸ ?_
        clear hs hq hf
        unfold gives
        go_simp
        exact ⟨Below.refl _ _, rfl⟩
      -- operation 29: Op.assign (tmp 49)
      refine ⟨fun r wx hG hs hq hf => ?_, ?_⟩
      · have h28 : r 49 = .bool true := hf.1
        refine (if_pos rfl).symm ▸ ?_
        clear hs hq hf
        unfold gives
        go_simp
        exact ⟨Below.refl _ _, rfl⟩
      exact trivial
    case hend =>
      intro u wz hG hfin
      have z29 : u 29 = .bool true := hfin 29 (by decide) (by kernel_rfl)
      clear hfin
      simp only [fill]
      go_simp
      go_wp2_with fail
      go_ret
      exact ⟨rfl, HBA.out.trans (hG.mono HBA.out.size)⟩
end Go.Proofs.YtgimblpdmlnfeaaDoor
