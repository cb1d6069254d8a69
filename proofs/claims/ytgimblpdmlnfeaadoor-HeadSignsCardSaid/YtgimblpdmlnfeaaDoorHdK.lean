/- HeadSigns: the walk. (printed by gen/hdk.py) -/
import Derived.Test.YtgimblpdmlnfeaaDoorHdJ
import Derived.Test.YtgimblpdmlnfeaaDoorTw
namespace Go.Proofs.YtgimblpdmlnfeaaDoor
open Go.RowKit Sha

theorem hg_put (n z : Nat) (rt mk : List UInt8) (hn : n < 18446744073709551616) (hz : z < 18446744073709551616) (hr : rt.length = 32) (hm : mk.length = 32) :
    hgE (hdB n z rt mk) = 0 ∧ hdL (hgN (hdB n z rt mk)) (hgZ (hdB n z rt mk)) (hgR (hdB n z rt mk)) (hgM (hdB n z rt mk)) = hdL n z rt mk := by
  have h1 : rdN (hdB n z rt mk) = (0, n, numB z ++ (rt ++ mk)) := by rw [hdB, bodyB, List.append_assoc, List.append_assoc]; exact rdN_numB n _ hn
  have h2 : rdN (numB z ++ (rt ++ mk)) = (0, z, rt ++ mk) := rdN_numB z _ hz
  have hE : hgE (hdB n z rt mk) = 0 := by
    unfold hgE
    rw [h1]
    simp only [h2]
    rw [if_neg (by simp), if_neg (by simp), if_neg (by simp; omega), if_neg (by simp; omega)]
  refine ⟨hE, ?_⟩
  unfold hgN hgZ hgR hgM
  rw [if_pos hE, if_pos hE, if_pos hE, if_pos hE, h1]
  simp only [h2]
  rw [← hr, List.take_left, List.drop_left]
theorem gives_ne_head {r : Nat → Value} {o : Oper} {w : World} {R : Value → World → Prop} (x y : Operand) (ty : TypeId) (ho : o.op = .binOp .neq 37 x y ty) {X Y : Array Value} (hx : rd r x = .agg X) (hy : rd r y = .agg Y) {b : Bool}
    (hq : (Op.equalIn 10000 37 (.agg X) (.agg Y)).run Tryd.prog w = .ok b w) (h : R (.bool (!b)) w) : gives Tryd.prog r o w R := by
  have hg := run_eqGuard_agg (P := Tryd.prog) w .neq 37 x y X Y head_guard
  have he := run_neq_struct (P := Tryd.prog) w 37 X Y
  rw [hq] at he
  unfold gives execOp
  simp only [ho, hx, hy, Sem.run_bind, hg, he, Result.andThen_ok]
  exact h
theorem wpList_eq_head {ops : Array Oper} {rest : List Oper} {o : Oper} {a : Act} {w : World} {Q : Exit → Act → World → Prop} (hgd : o.guard = none) (x y : Operand) (ty : TypeId) (ho : o.op = .binOp .eql 37 x y ty) {X Y : Array Value} (hx : a.eval x = .agg X) (hy : a.eval y = .agg Y) {b : Bool}
    (hq : (Op.equalIn 10000 37 (.agg X) (.agg Y)).run Tryd.prog w = .ok b w) (h : wpList Tryd.prog ops Q rest (a.put o.dst (.bool b)) w) : wpList Tryd.prog ops Q (o :: rest) a w := by
  have hg := run_eqGuard_agg (P := Tryd.prog) w .eql 37 x y X Y head_guard
  have he := run_eql_struct (P := Tryd.prog) w 37 X Y
  rw [hq] at he
  refine wpList_plain hgd fun K hK => ?_
  unfold Oper.wp execOp
  simp only [ho, hx, hy, Sem.run_bind, hg, he, Result.andThen_ok]
  exact hK _ _ h
/-- What each operation hands on. -/
def hsgP (n z n2 z2 c _B8 _g9 _g11 : Nat) (key rt sg rt2 mk2 : List UInt8) (a : Option Addr) (cb : Bool) : Nat → Value → Prop
  | 0, v => v = .agg (hdL n z rt sg).toArray
  | 1, v => v = .slice a key.length c
  | 2, v => v = .int .u64 n
  | 3, v => v = .int .u64 z
  | 4, v => v = .agg (bv rt).toArray
  | 5, v => v = .agg (hdL n z rt sg).toArray
  | 6, v => v = .bool false
  | 7, v => v = .bool false
  | 8, v => v = .slice a key.length c
  | 9, v => v = .agg (hdL n z rt sg).toArray
  | 10, v => v = .bool true
  | 11, v => v = .bool false
  | 12, v => v = .bool false
  | 13, v => v = .bool false
  | 14, v => v = .slice a key.length c
  | 15, v => v = .agg (hdL n2 z2 rt2 mk2).toArray
  | 16, v => v = .bool cb
  | 17, v => v = .slice a key.length c
  | 18, v => v = .agg (hdL n2 z2 rt2 mk2).toArray
  | 19, v => v = .bool cb
  | 20, v => v = .bool false
  | 21, v => v = .bool false
  | _, _ => True
set_option maxHeartbeats 16000000 in
set_option maxRecDepth 100000 in
theorem headSigns_walk (key : List UInt8) (n z n2 z2 : Nat) (rt rt2 mk2 : List UInt8) (v : Value) (w : World) (hl : key.length ≤ 140737488351232) (hr : Rd w 1 v key.length (bv key)) (hn : n < 18446744073709551616) (hz : z < 18446744073709551616) (hn2 : n2 < 18446744073709551616) (hz2 : z2 < 18446744073709551616)
    (hrt : rt.length = 32) (hrt2 : rt2.length = 32) (hmk2 : mk2.length = 32) (hG : TabsR w) :
    Calls Tryd.prog 4 #[v, .int .u64 n, .int .u64 z, .agg (bv rt).toArray, .agg (hdL n2 z2 rt2 mk2).toArray] w fun e w' => e = .returned (.bool true) ∧ Below w.heap.size w w' := by
  obtain ⟨a, c, rfl⟩ := hr.form
  have hzd := (zero_of_info infoHead).1
  have hzl : (hdL 0 0 (zs 32) (zs 32)).length = 66 := hdL_length _ _ _ _ (by simp [zs]) (by simp [zs])
  obtain ⟨Zl, hZl⟩ : ∃ l, l = hdL 0 0 (zs 32) (zs 32) := ⟨_, rfl⟩
  rw [← hZl] at hzd hzl
  have HZL := Lib.hid hzl
  have hsl := signB_length key n z rt
  have hs1 := fun wx (hb : Below w.heap.size w wx) => Sign_any key n z rt (.slice a key.length c) wx (by omega) hn hz hrt (hr.keep hb) (hG.toTabs.keepB hb)
  have hs2 := fun wx (hb : Below w.heap.size w wx) => refSign_any key n z rt (.slice a key.length c) wx hl hn hz hrt (hr.keep hb) (hG.keepB hb)
  have hc1 := fun wx (hb : Below w.heap.size w wx) => HCheck_any key n z rt (signB key n z rt) (.slice a key.length c) wx hl hn hz hrt hsl (hr.keep hb) (hG.toTabs.keepB hb)
  have hc2 := fun wx (hb : Below w.heap.size w wx) => HCheck_any key n2 z2 rt2 mk2 (.slice a key.length c) wx hl hn2 hz2 hrt2 hmk2 (hr.keep hb) (hG.toTabs.keepB hb)
  have hc3 := fun wx (hb : Below w.heap.size w wx) => refHCheck_any key n2 z2 rt2 mk2 (.slice a key.length c) wx hl hn2 hz2 hrt2 hmk2 (hr.keep hb) (hG.keepB hb)
  obtain ⟨sg, hsg⟩ : ∃ s, s = signB key n z rt := ⟨_, rfl⟩
  rw [← hsg] at hsl hs1 hs2 hc1
  rw [show (sg == sg) = true by simp] at hc1
  obtain ⟨cb, hcb⟩ : ∃ s, s = (signB key n2 z2 rt2 == mk2) := ⟨_, rfl⟩
  rw [← hcb] at hc2 hc3
  have hp1 := fun wx => HPut_any n z rt sg wx hn hz hrt hsl
  have hp2 := fun wx => HPut_any n2 z2 rt2 mk2 wx hn2 hz2 hrt2 hmk2
  have hpl1 : (hdB n z rt sg).length ≤ 140737488355328 := by have := nk_le n hn; have := nk_le z hz; simp [hdB, bodyB, numB_length, hrt, hsl]; omega
  have hpl2 : (hdB n2 z2 rt2 mk2).length ≤ 140737488355328 := by have := nk_le n2 hn2; have := nk_le z2 hz2; simp [hdB, bodyB, numB_length, hrt2, hmk2]; omega
  have hg1 := fun vx wx hx => HGet_any vx (hdB n z rt sg) wx hpl1 hx
  have hg2 := fun vx wx hx => HGet_any vx (hdB n2 z2 rt2 mk2) wx hpl2 hx
  have e1 := hg_put n z rt sg hn hz hrt hsl
  have e2 := hg_put n2 z2 rt2 mk2 hn2 hz2 hrt2 hmk2
  rw [e1.1, e1.2] at hg1
  rw [e2.1, e2.2] at hg2
  obtain ⟨P1, hP1⟩ : ∃ x, x = hdB n z rt sg := ⟨_, rfl⟩
  obtain ⟨P2, hP2⟩ : ∃ x, x = hdB n2 z2 rt2 mk2 := ⟨_, rfl⟩
  rw [← hP1] at hp1 hg1
  rw [← hP2] at hp2 hg2
  have HP1 := Lib.hid hp1
  have HP2 := Lib.hid hp2
  have HG1 := Lib.hid hg1
  have HG2 := Lib.hid hg2
  have HS1 := Lib.hid hs1
  have HS2 := Lib.hid hs2
  have HC1a := Lib.hid hc1
  have HC2a := Lib.hid hc2
  have HC3a := Lib.hid hc3
  have HSL := Lib.hid hsl
  have HLN := Lib.hid (And.intro hrt (And.intro hrt2 hmk2))
  obtain ⟨w0, hw0⟩ : ∃ x : World, x = (w.alloc (.cells (bv rt).toArray 35)).alloc (.cells (hdL n2 z2 rt2 mk2).toArray 37) := ⟨_, rfl⟩
  have r8 : w0.heap[w.heap.size]? = some (.cells (bv rt).toArray 35 (0, 0)) := by rw [hw0]; exact (heap_alloc_old _ _ (by simp)).trans (heap_alloc_new _ _)
  have r9 : w0.heap[w.heap.size + 1]? = some (.cells (hdL n2 z2 rt2 mk2).toArray 37 (0, 0)) := by
    rw [hw0]
    have h := heap_alloc_new (w.alloc (.cells (bv rt).toArray 35)) (.cells (hdL n2 z2 rt2 mk2).toArray 37)
    simpa using h
  have hb0 : Below w.heap.size w w0 := by rw [hw0]; exact ((Below.refl _ _).alloc (Nat.le_refl _) _).alloc (by simp) _
  have H0 := Lib.hid (And.intro r8 (And.intro r9 hb0))
  have HW0 := Lib.hid hw0
  have HGG := Lib.hid hG.toTabs
  obtain ⟨A, hA⟩ : ∃ A, A = (hdL n2 z2 rt2 mk2).toArray := ⟨_, rfl⟩
  rw [← hA]
  have HAA := Lib.hid hA
  clear hA hw0 r8 r9 hb0 hp1 hp2 hg1 hg2 hs1 hs2 hc1 hc2 hc3 hsl hsg hcb hpl1 hpl2 e1 e2 hP1 hP2 hZl hzl hr hG hl hn hz hn2 hz2 hrt hrt2 hmk2
  go_enter Tryd.func4, Tryd.ntmps4
  go_upto_region 1 with fail
  rw [show (w.alloc (.cells (bv rt).toArray 35)).alloc (.cells A 37) = w0 from by rw [HAA.out, HW0.out]]
  go_wp2_with fail
  refine (awake26_any w0 (HGG.out.keepB H0.out.2.2)).mono ?_
  rintro e w1 ⟨rfl, hb1⟩
  have r8 := (hb1.block _ (Array.getElem?_eq_some_iff.1 H0.out.1).1).trans H0.out.1
  have r9 := (hb1.block _ (Array.getElem?_eq_some_iff.1 H0.out.2.1).1).trans H0.out.2.1
  have hbw1 := H0.out.2.2.trans (hb1.mono H0.out.2.2.size)
  have hs := HS1.out w1 hbw1
  have H1 := Lib.hid (And.intro r8 (And.intro r9 hbw1))
  have HSS := Lib.hid hs
  clear r8 r9 hbw1 hb1 hs H0 HS1
  go_wp2_with (with_reducible show wpList _ _ _ (⟨some 21, _, _, _, _, _⟩ :: _) _ _; refine wpList_load_row rfl _ _ rfl w.heap.size rfl _ _ (0, 0) _ H1.out.1 Tryd.underlying35 rfl (hInfo _ HLN.out.1) ?_)
  refine HSS.out.mono ?_
  rintro e w3 ⟨rfl, hb3⟩
  have r8 := (hb3.block _ (Array.getElem?_eq_some_iff.1 H1.out.1).1).trans H1.out.1
  have r9 := (hb3.block _ (Array.getElem?_eq_some_iff.1 H1.out.2.1).1).trans H1.out.2.1
  have H3 := Lib.hid (And.intro r8 (And.intro r9 (H1.out.2.2.trans (hb3.mono H1.out.2.2.size))))
  clear r8 r9 hb3 H1 HSS
  go_upto_region 4 with (with_reducible show wpList _ _ _ (⟨none, Op.store _ _ _, _, _, _, _⟩ :: _) _ _; go_loud (refine wpList_store_whole rfl _ _ _ rfl w3.heap.size (hdL n z rt sg) rfl rfl Zl _ (heap_alloc_new _ _) (hdInfo' _ _ _ _ HLN.out.1 HSL.out) (by rw [HZL.out, hdL_length _ _ _ _ HLN.out.1 HSL.out]) (hdL_one _ _ _ _) ?_); intro w4 HG4 hg4)
  obtain ⟨g11, hg11⟩ : ∃ x, x = w3.heap.size := ⟨_, rfl⟩
  have hr11 := HG4.out
  rw [← hg11] at hr11 hg4 ⊢
  have hb34 : Below g11 w3 w4 := below_grow ((Below.refl _ _).alloc (by omega) _) hg4 (Nat.le_refl _) (by simp; omega)
  have r8 := (hb34.block _ (by rw [hg11]; exact (Array.getElem?_eq_some_iff.1 H3.out.1).1)).trans H3.out.1
  have r9 := (hb34.block _ (by rw [hg11]; exact (Array.getElem?_eq_some_iff.1 H3.out.2.1).1)).trans H3.out.2.1
  have hbw4 := H3.out.2.2.trans (hb34.mono (by rw [hg11]; exact H3.out.2.2.size))
  have HRW := Lib.hid (And.intro r8 (And.intro r9 (And.intro hr11 hbw4)))
  have HRS := Lib.hid (fun wx (hb : KeptT [] w4 wx) => HS2.out wx (hbw4.trans (hb.bel.mono hbw4.size)))
  have HC1 := Lib.hid (fun wx (hb : KeptT [] w4 wx) => HC1a.out wx (hbw4.trans (hb.bel.mono hbw4.size)))
  have HC2 := Lib.hid (fun wx (hb : KeptT [] w4 wx) => HC2a.out wx (hbw4.trans (hb.bel.mono hbw4.size)))
  have HC3 := Lib.hid (fun wx (hb : KeptT [] w4 wx) => HC3a.out wx (hbw4.trans (hb.bel.mono hbw4.size)))
  clear r8 r9 hr11 hbw4 hb34 hg11 hg4 HG4 H3 HS2 HC1a HC2a HC3a HGG
  refine wp_region_desc [some 23, some 24, some 25, some 26, some 27, some 28, some 29, some 30, some 31, some 32, some 33, some 34, some 35, some 36, some 37, some 38, some 39, some 40, some 41, some 42, some 43, some 44] [] [] [(0, 0), (0, 0), (0, 0), (0, 0), (0, 0), (0, 0), (0, 0), (0, 0), (0, 0), (0, 0), (0, 0), (0, 0), (0, 0), (0, 0), (0, 0), (0, 0), (0, 0), (0, 0), (0, 0), (0, 0), (0, 0), (0, 0)] [] [] [] [] (hsgP n z n2 z2 c w.heap.size (w.heap.size + 1) g11 key rt sg rt2 mk2 a cb) (fun _ _ _ => True) (fun _ => default) (by kernel_rfl) (by kernel_rfl) rfl (by kernel_rfl) (by kernel_rfl) (by kernel_rfl) rfl trivial (by simp; try omega) rfl (fun i hi => (no4 (by kernel_rfl) i hi).elim) ?hstep ?hend
  case hstep =>
    -- operation 0: Op.load 37 (tmp 11)
    refine ⟨fun r wx hG hs hq hf => ?_, ?_⟩
    · have e11 : r 11 = .pointer (some ⟨g11, 0, none⟩) := hs 11 rfl
      clear hs hq hf
      refine wanted_pos rfl ?_
      unfold gives
      refine gives_load_row 37 _ rfl g11 e11 37 _ (0, 0) _ (hG.row (by simp; try omega) HRW.out.2.2.1) Tryd.underlying37 rfl (hdInfo _ _ _ _ HLN.out.1 HSL.out) ?_
      exact obC_q (Below.refl _ _) rfl
    -- operation 1: Op.move (tmp 0)
    refine ⟨fun r wx hG hs hq hf => ?_, ?_⟩
    · have e0 : r 0 = .slice a key.length c := hs 0 rfl
      clear hs hq hf
      refine wanted_pos rfl ?_
      unfold gives
      go_simp
      exact obC_q (Below.refl _ _) rfl
    -- operation 2: Op.move (tmp 1)
    refine ⟨fun r wx hG hs hq hf => ?_, ?_⟩
    · have e1 : r 1 = .int .u64 n := hs 1 rfl
      clear hs hq hf
      refine wanted_pos rfl ?_
      unfold gives
      go_simp
      exact obC_q (Below.refl _ _) rfl
    -- operation 3: Op.move (tmp 2)
    refine ⟨fun r wx hG hs hq hf => ?_, ?_⟩
    · have e2 : r 2 = .int .u64 z := hs 2 rfl
      clear hs hq hf
      refine wanted_pos rfl ?_
      unfold gives
      go_simp
      exact obC_q (Below.refl _ _) rfl
    -- operation 4: Op.load 35 (tmp 8)
    refine ⟨fun r wx hG hs hq hf => ?_, ?_⟩
    · have e8 : r 8 = .pointer (some ⟨w.heap.size, 0, none⟩) := hs 8 rfl
      clear hs hq hf
      refine wanted_pos rfl ?_
      unfold gives
      refine gives_load_row 35 _ rfl w.heap.size e8 35 _ (0, 0) _ (hG.row (by simp; try omega) HRW.out.1) Tryd.underlying35 rfl (hInfo _ HLN.out.1) ?_
      exact obC_q (Below.refl _ _) rfl
    -- operation 5: Op.call ( callee := Callee.value (func 19), args := #[tmp 24, tmp 25, tmp 26, tmp 27], argTypes := #
    refine ⟨fun r wx hG hs hq hf => ?_, ?_⟩
    · have h1 : r 24 = .slice a key.length c := hf.1
      have h2 : r 25 = .int .u64 n := hf.2.1
      have h3 : r 26 = .int .u64 z := hf.2.2.1
      have h4 : r 27 = .agg (bv rt).toArray := hf.2.2.2.1
      clear hs hq hf
      refine wanted_pos rfl ?_
      unfold gives
      go_simp
      refine (HRS.out wx hG).mono ?_
      rintro e wy ⟨rfl, hb1⟩
      exact ⟨_, rfl, obC_q hb1 rfl⟩
    -- operation 6: Op.binOp BinOp.neq 37 (tmp 23) (tmp 28) 37
    refine ⟨fun r wx hG hs hq hf => ?_, ?_⟩
    · have h0 : r 23 = .agg (hdL n z rt sg).toArray := hf.1
      have h5 : r 28 = .agg (hdL n z rt sg).toArray := hf.2.1
      clear hs hq hf
      refine wanted_pos rfl ?_
      unfold gives
      have hqe := eqIn_head n z n z rt sg rt sg HLN.out.1 HSL.out HLN.out.1 HSL.out wx
      rw [show decide (n = n ∧ z = z ∧ rt = rt ∧ sg = sg) = true by simp] at hqe
      refine gives_ne_head _ _ _ rfl h0 h5 hqe ?_
      exact obC_q (Below.refl _ _) rfl
    -- operation 7: Op.move (tmp 29)
    refine ⟨fun r wx hG hs hq hf => ?_, ?_⟩
    · have h6 : r 29 = .bool false := hf.1
      clear hs hq hf
      refine wanted_pos rfl ?_
      unfold gives
      go_simp
      exact obC_q (Below.refl _ _) rfl
    -- operation 8: Op.move (tmp 0)
    refine ⟨fun r wx hG hs hq hf => ?_, ?_⟩
    · have e0 : r 0 = .slice a key.length c := hs 0 rfl
      have h7 : r 30 = .bool false := hf.1
      have hy : ydD [some 23, some 24, some 25, some 26, some 27, some 28, some 29, some 30, some 31, some 32, some 33, some 34, some 35, some 36, some 37, some 38, some 39, some 40, some 41, some 42, some 43, some 44] r 7 = some false := by show (match r 30 with | .bool b => some b | _ => none) = some false; rw [h7]
      clear hs hq hf
      refine wanted_pos (by simp only [Region.wanted, hy]; rfl) ?_
      unfold gives
      go_simp
      exact obC_q (Below.refl _ _) rfl
    -- operation 9: Op.load 37 (tmp 11)
    refine ⟨fun r wx hG hs hq hf => ?_, ?_⟩
    · have e11 : r 11 = .pointer (some ⟨g11, 0, none⟩) := hs 11 rfl
      have h7 : r 30 = .bool false := hf.1
      have hy : ydD [some 23, some 24, some 25, some 26, some 27, some 28, some 29, some 30, some 31, some 32, some 33, some 34, some 35, some 36, some 37, some 38, some 39, some 40, some 41, some 42, some 43, some 44] r 7 = some false := by show (match r 30 with | .bool b => some b | _ => none) = some false; rw [h7]
      clear hs hq hf
      refine wanted_pos (by simp only [Region.wanted, hy]; rfl) ?_
      unfold gives
      refine gives_load_row 37 _ rfl g11 e11 37 _ (0, 0) _ (hG.row (by simp; try omega) HRW.out.2.2.1) Tryd.underlying37 rfl (hdInfo _ _ _ _ HLN.out.1 HSL.out) ?_
      exact obC_q (Below.refl _ _) rfl
    -- operation 10: Op.call ( callee := Callee.value (func 20), args := #[tmp 31, tmp 32], argTypes := #[25, 37] )
    refine ⟨fun r wx hG hs hq hf => ?_, ?_⟩
    · have h8 : r 31 = .slice a key.length c := hf.1
      have h9 : r 32 = .agg (hdL n z rt sg).toArray := hf.2.1
      have h7 : r 30 = .bool false := hf.2.2.1
      have hy : ydD [some 23, some 24, some 25, some 26, some 27, some 28, some 29, some 30, some 31, some 32, some 33, some 34, some 35, some 36, some 37, some 38, some 39, some 40, some 41, some 42, some 43, some 44] r 7 = some false := by show (match r 30 with | .bool b => some b | _ => none) = some false; rw [h7]
      clear hs hq hf
      refine wanted_pos (by simp only [Region.wanted, hy]; rfl) ?_
      unfold gives
      go_simp
      refine (HC1.out wx hG).mono ?_
      rintro e wy ⟨rfl, hb1⟩
      exact ⟨_, rfl, obC_q hb1 rfl⟩
    -- operation 11: Op.unOp UnOp.not 4 (tmp 33)
    refine ⟨fun r wx hG hs hq hf => ?_, ?_⟩
    · have h10 : r 33 = .bool true := hf.1
      have h7 : r 30 = .bool false := hf.2.1
      have hy : ydD [some 23, some 24, some 25, some 26, some 27, some 28, some 29, some 30, some 31, some 32, some 33, some 34, some 35, some 36, some 37, some 38, some 39, some 40, some 41, some 42, some 43, some 44] r 7 = some false := by show (match r 30 with | .bool b => some b | _ => none) = some false; rw [h7]
      clear hs hq hf
      refine wanted_pos (by simp only [Region.wanted, hy]; rfl) ?_
      unfold gives
      go_simp
      exact obC_q (Below.refl _ _) rfl
    -- operation 12: Op.pick (tmp 30) (const (Value.bool true)) (tmp 34)
    refine ⟨fun r wx hG hs hq hf => ?_, ?_⟩
    · have h7 : r 30 = .bool false := hf.1
      have h11 : r 34 = .bool false := hf.2.1
      clear hs hq hf
      refine wanted_pos rfl ?_
      unfold gives
      go_simp
      exact obC_q (Below.refl _ _) rfl
    -- operation 13: Op.move (tmp 35)
    refine ⟨fun r wx hG hs hq hf => ?_, ?_⟩
    · have h12 : r 35 = .bool false := hf.1
      clear hs hq hf
      refine wanted_pos rfl ?_
      unfold gives
      go_simp
      exact obC_q (Below.refl _ _) rfl
    -- operation 14: Op.move (tmp 0)
    refine ⟨fun r wx hG hs hq hf => ?_, ?_⟩
    · have e0 : r 0 = .slice a key.length c := hs 0 rfl
      have h13 : r 36 = .bool false := hf.1
      have hy : ydD [some 23, some 24, some 25, some 26, some 27, some 28, some 29, some 30, some 31, some 32, some 33, some 34, some 35, some 36, some 37, some 38, some 39, some 40, some 41, some 42, some 43, some 44] r 13 = some false := by show (match r 36 with | .bool b => some b | _ => none) = some false; rw [h13]
      clear hs hq hf
      refine wanted_pos (by simp only [Region.wanted, hy]; rfl) ?_
      unfold gives
      go_simp
      exact obC_q (Below.refl _ _) rfl
    -- operation 15: Op.load 37 (tmp 9)
    refine ⟨fun r wx hG hs hq hf => ?_, ?_⟩
    · have e9 : r 9 = .pointer (some ⟨(w.heap.size + 1), 0, none⟩) := hs 9 rfl
      have h13 : r 36 = .bool false := hf.1
      have hy : ydD [some 23, some 24, some 25, some 26, some 27, some 28, some 29, some 30, some 31, some 32, some 33, some 34, some 35, some 36, some 37, some 38, some 39, some 40, some 41, some 42, some 43, some 44] r 13 = some false := by show (match r 36 with | .bool b => some b | _ => none) = some false; rw [h13]
      clear hs hq hf
      refine wanted_pos (by simp only [Region.wanted, hy]; rfl) ?_
      unfold gives
      refine gives_load_row 37 _ rfl ((w.heap.size + 1)) e9 37 _ (0, 0) _ (hG.row (by simp; try omega) HRW.out.2.1) Tryd.underlying37 rfl (hdInfo _ _ _ _ HLN.out.2.1 HLN.out.2.2) ?_
      exact obC_q (Below.refl _ _) rfl
    -- operation 16: Op.call ( callee := Callee.value (func 20), args := #[tmp 37, tmp 38], argTypes := #[25, 37] )
    refine ⟨fun r wx hG hs hq hf => ?_, ?_⟩
    · have h14 : r 37 = .slice a key.length c := hf.1
      have h15 : r 38 = .agg (hdL n2 z2 rt2 mk2).toArray := hf.2.1
      have h13 : r 36 = .bool false := hf.2.2.1
      have hy : ydD [some 23, some 24, some 25, some 26, some 27, some 28, some 29, some 30, some 31, some 32, some 33, some 34, some 35, some 36, some 37, some 38, some 39, some 40, some 41, some 42, some 43, some 44] r 13 = some false := by show (match r 36 with | .bool b => some b | _ => none) = some false; rw [h13]
      clear hs hq hf
      refine wanted_pos (by simp only [Region.wanted, hy]; rfl) ?_
      unfold gives
      go_simp
      refine (HC2.out wx hG).mono ?_
      rintro e wy ⟨rfl, hb1⟩
      exact ⟨_, rfl, obC_q hb1 rfl⟩
    -- operation 17: Op.move (tmp 0)
    refine ⟨fun r wx hG hs hq hf => ?_, ?_⟩
    · have e0 : r 0 = .slice a key.length c := hs 0 rfl
      have h13 : r 36 = .bool false := hf.1
      have hy : ydD [some 23, some 24, some 25, some 26, some 27, some 28, some 29, some 30, some 31, some 32, some 33, some 34, some 35, some 36, some 37, some 38, some 39, some 40, some 41, some 42, some 43, some 44] r 13 = some false := by show (match r 36 with | .bool b => some b | _ => none) = some false; rw [h13]
      clear hs hq hf
      refine wanted_pos (by simp only [Region.wanted, hy]; rfl) ?_
      unfold gives
      go_simp
      exact obC_q (Below.refl _ _) rfl
    -- operation 18: Op.load 37 (tmp 9)
    refine ⟨fun r wx hG hs hq hf => ?_, ?_⟩
    · have e9 : r 9 = .pointer (some ⟨(w.heap.size + 1), 0, none⟩) := hs 9 rfl
      have h13 : r 36 = .bool false := hf.1
      have hy : ydD [some 23, some 24, some 25, some 26, some 27, some 28, some 29, some 30, some 31, some 32, some 33, some 34, some 35, some 36, some 37, some 38, some 39, some 40, some 41, some 42, some 43, some 44] r 13 = some false := by show (match r 36 with | .bool b => some b | _ => none) = some false; rw [h13]
      clear hs hq hf
      refine wanted_pos (by simp only [Region.wanted, hy]; rfl) ?_
      unfold gives
      refine gives_load_row 37 _ rfl ((w.heap.size + 1)) e9 37 _ (0, 0) _ (hG.row (by simp; try omega) HRW.out.2.1) Tryd.underlying37 rfl (hdInfo _ _ _ _ HLN.out.2.1 HLN.out.2.2) ?_
      exact obC_q (Below.refl _ _) rfl
    -- operation 19: Op.call ( callee := Callee.value (func 21), args := #[tmp 40, tmp 41], argTypes := #[25, 37] )
    refine ⟨fun r wx hG hs hq hf => ?_, ?_⟩
    · have h17 : r 40 = .slice a key.length c := hf.1
      have h18 : r 41 = .agg (hdL n2 z2 rt2 mk2).toArray := hf.2.1
      have h13 : r 36 = .bool false := hf.2.2.2.1
      have hy : ydD [some 23, some 24, some 25, some 26, some 27, some 28, some 29, some 30, some 31, some 32, some 33, some 34, some 35, some 36, some 37, some 38, some 39, some 40, some 41, some 42, some 43, some 44] r 13 = some false := by show (match r 36 with | .bool b => some b | _ => none) = some false; rw [h13]
      clear hs hq hf
      refine wanted_pos (by simp only [Region.wanted, hy]; rfl) ?_
      unfold gives
      go_simp
      refine (HC3.out wx hG).mono ?_
      rintro e wy ⟨rfl, hb1⟩
      exact ⟨_, rfl, obC_q hb1 rfl⟩
    -- operation 20: Op.binOp BinOp.neq 4 (tmp 39) (tmp 42) 4
    refine ⟨fun r wx hG hs hq hf => ?_, ?_⟩
    · have h16 : r 39 = .bool cb := hf.1
      have h19 : r 42 = .bool cb := hf.2.1
      have h13 : r 36 = .bool false := hf.2.2.1
      have hy : ydD [some 23, some 24, some 25, some 26, some 27, some 28, some 29, some 30, some 31, some 32, some 33, some 34, some 35, some 36, some 37, some 38, some 39, some 40, some 41, some 42, some 43, some 44] r 13 = some false := by show (match r 36 with | .bool b => some b | _ => none) = some false; rw [h13]
      clear hs hq hf
      refine wanted_pos (by simp only [Region.wanted, hy]; rfl) ?_
      unfold gives
      go_simp
      exact obC_q (Below.refl _ _) rfl
    -- operation 21: Op.pick (tmp 36) (const (Value.bool true)) (tmp 43)
    refine ⟨fun r wx hG hs hq hf => ?_, ?_⟩
    · have h13 : r 36 = .bool false := hf.1
      have h20 : r 43 = .bool false := hf.2.1
      clear hs hq hf
      refine wanted_pos rfl ?_
      unfold gives
      go_simp
      exact obC_q (Below.refl _ _) rfl
    exact trivial
  case hend =>
    intro u wz hG hfin
    have z21 : u 21 = .bool false := hfin 21 (by decide) (by kernel_rfl)
    clear hfin
    simp only [fill]
    go_simp
    have hbz := HRW.out.2.2.2.trans (hG.bel.mono HRW.out.2.2.2.size)
    have q9 := hG.row (by simp) HRW.out.2.1
    have q11 := hG.row (by simp) HRW.out.2.2.1
    have HZ := Lib.hid (And.intro q9 (And.intro q11 hbz))
    clear q9 q11 hbz hG
    go_wp2_with (with_reducible show wpList _ _ _ (⟨some 46, _, _, _, _, _⟩ :: _) _ _; refine wpList_load_row rfl _ _ rfl g11 rfl _ _ (0, 0) _ HZ.out.2.1 Tryd.underlying37 rfl (hdInfo _ _ _ _ HLN.out.1 HSL.out) ?_)
    refine (HP1.out wz).mono ?_
    rintro e w5 ⟨v5, rfl, hr5, hb5⟩
    obtain ⟨a5, c5, rfl⟩ := hr5.form
    have hgt := HG1.out (.slice a5 P1.length c5) w5 hr5
    have q9 := (hb5.block _ (Array.getElem?_eq_some_iff.1 HZ.out.1).1).trans HZ.out.1
    have q11 := (hb5.block _ (Array.getElem?_eq_some_iff.1 HZ.out.2.1).1).trans HZ.out.2.1
    have H5 := Lib.hid (And.intro q9 (And.intro q11 (HZ.out.2.2.trans (hb5.mono HZ.out.2.2.size))))
    have HGT := Lib.hid hgt
    clear q9 q11 hr5 hb5 hgt HZ
    go_wp2_with fail
    refine HGT.out.mono ?_
    rintro e w6 ⟨rfl, hb6⟩
    have q9 := (hb6.block _ (Array.getElem?_eq_some_iff.1 H5.out.1).1).trans H5.out.1
    have q11 := (hb6.block _ (Array.getElem?_eq_some_iff.1 H5.out.2.1).1).trans H5.out.2.1
    have H6 := Lib.hid (And.intro q9 (And.intro q11 (H5.out.2.2.trans (hb6.mono H5.out.2.2.size))))
    clear q9 q11 hb6 HGT H5
    go_upto_region 7 with (with_reducible show wpList _ _ _ (⟨none, Op.store _ _ _, _, _, _, _⟩ :: _) _ _; go_loud (refine wpList_store_whole rfl _ _ _ rfl w6.heap.size (hdL n z rt sg) rfl rfl Zl _ (heap_alloc_new _ _) (hdInfo' _ _ _ _ HLN.out.1 HSL.out) (by rw [HZL.out, hdL_length _ _ _ _ HLN.out.1 HSL.out]) (hdL_one _ _ _ _) ?_); intro w7 HG7 hg7)
    obtain ⟨g12, hg12⟩ : ∃ x, x = w6.heap.size := ⟨_, rfl⟩
    have hr12 := HG7.out
    rw [← hg12] at hr12 hg7 ⊢
    have hb67 : Below g12 w6 w7 := below_grow ((Below.refl _ _).alloc (by omega) _) hg7 (Nat.le_refl _) (by simp; omega)
    have q9 := (hb67.block _ (by rw [hg12]; exact (Array.getElem?_eq_some_iff.1 H6.out.1).1)).trans H6.out.1
    have q11 := (hb67.block _ (by rw [hg12]; exact (Array.getElem?_eq_some_iff.1 H6.out.2.1).1)).trans H6.out.2.1
    have H7 := Lib.hid (And.intro q9 (And.intro q11 (And.intro hr12 (H6.out.2.2.trans (hb67.mono (by rw [hg12]; exact H6.out.2.2.size))))))
    clear q9 q11 hb67 hr12 hg12 hg7 HG7 H6
    go_wp2_with (with_reducible show wpList _ _ _ (⟨some 52, _, _, _, _, _⟩ :: _) _ _; refine wpList_load_row rfl _ _ rfl (w.heap.size + 1) rfl _ _ (0, 0) _ H7.out.1 Tryd.underlying37 rfl (hdInfo _ _ _ _ HLN.out.2.1 HLN.out.2.2) ?_)
    refine (HP2.out w7).mono ?_
    rintro e w8 ⟨v8, rfl, hr8, hb8⟩
    obtain ⟨a8, c8, rfl⟩ := hr8.form
    have hgt := HG2.out (.slice a8 P2.length c8) w8 hr8
    have q9 := (hb8.block _ (Array.getElem?_eq_some_iff.1 H7.out.1).1).trans H7.out.1
    have q11 := (hb8.block _ (Array.getElem?_eq_some_iff.1 H7.out.2.1).1).trans H7.out.2.1
    have q12 := (hb8.block _ (Array.getElem?_eq_some_iff.1 H7.out.2.2.1).1).trans H7.out.2.2.1
    have H8 := Lib.hid (And.intro q9 (And.intro q11 (And.intro q12 (H7.out.2.2.2.trans (hb8.mono H7.out.2.2.2.size)))))
    have HGT := Lib.hid hgt
    clear q9 q11 q12 hr8 hb8 hgt H7
    go_wp2_with fail
    refine HGT.out.mono ?_
    rintro e w9 ⟨rfl, hb9⟩
    have q9 := (hb9.block _ (Array.getElem?_eq_some_iff.1 H8.out.1).1).trans H8.out.1
    have q11 := (hb9.block _ (Array.getElem?_eq_some_iff.1 H8.out.2.1).1).trans H8.out.2.1
    have q12 := (hb9.block _ (Array.getElem?_eq_some_iff.1 H8.out.2.2.1).1).trans H8.out.2.2.1
    have H9 := Lib.hid (And.intro q9 (And.intro q11 (And.intro q12 (H8.out.2.2.2.trans (hb9.mono H8.out.2.2.2.size)))))
    clear q9 q11 q12 hb9 HGT H8
    go_upto_region 8 with (with_reducible show wpList _ _ _ (⟨none, Op.store _ _ _, _, _, _, _⟩ :: _) _ _; go_loud (refine wpList_store_whole rfl _ _ _ rfl w9.heap.size (hdL n2 z2 rt2 mk2) rfl rfl Zl _ (heap_alloc_new _ _) (hdInfo' _ _ _ _ HLN.out.2.1 HLN.out.2.2) (by rw [HZL.out, hdL_length _ _ _ _ HLN.out.2.1 HLN.out.2.2]) (hdL_one _ _ _ _) ?_); intro wA HGA hgA)
    obtain ⟨g14, hg14⟩ : ∃ x, x = w9.heap.size := ⟨_, rfl⟩
    have hr14 := HGA.out
    rw [← hg14] at hr14 hgA ⊢
    have hb9A : Below g14 w9 wA := below_grow ((Below.refl _ _).alloc (by omega) _) hgA (Nat.le_refl _) (by simp; omega)
    have q9 := (hb9A.block _ (by rw [hg14]; exact (Array.getElem?_eq_some_iff.1 H9.out.1).1)).trans H9.out.1
    have q11 := (hb9A.block _ (by rw [hg14]; exact (Array.getElem?_eq_some_iff.1 H9.out.2.1).1)).trans H9.out.2.1
    have q12 := (hb9A.block _ (by rw [hg14]; exact (Array.getElem?_eq_some_iff.1 H9.out.2.2.1).1)).trans H9.out.2.2.1
    have HA := Lib.hid (And.intro q9 (And.intro q11 (And.intro q12 (And.intro hr14 (H9.out.2.2.2.trans (hb9A.mono (by rw [hg14]; exact H9.out.2.2.2.size)))))))
    clear q9 q11 q12 hb9A hr14 hg14 hgA HGA H9
    have hq1 := eqIn_head n z n z rt sg rt sg HLN.out.1 HSL.out HLN.out.1 HSL.out wA
    have hq2 := eqIn_head n2 z2 n2 z2 rt2 mk2 rt2 mk2 HLN.out.2.1 HLN.out.2.2 HLN.out.2.1 HLN.out.2.2 wA
    rw [show decide (n = n ∧ z = z ∧ rt = rt ∧ sg = sg) = true by simp] at hq1
    rw [show decide (n2 = n2 ∧ z2 = z2 ∧ rt2 = rt2 ∧ mk2 = mk2) = true by simp] at hq2
    have HQ := Lib.hid (And.intro hq1 hq2)
    clear hq1 hq2
    go_wp2_with (first
      | (with_reducible show wpList _ _ _ (⟨some 64, _, _, _, _, _⟩ :: _) _ _; refine wpList_guard rfl ?_; refine wpList_load_row rfl _ _ rfl g12 rfl _ _ (0, 0) _ HA.out.2.2.1 Tryd.underlying37 rfl (hdInfo _ _ _ _ HLN.out.1 HSL.out) ?_; refine wpList_guard rfl ?_; refine wpList_load_row rfl _ _ rfl g11 rfl _ _ (0, 0) _ HA.out.2.1 Tryd.underlying37 rfl (hdInfo _ _ _ _ HLN.out.1 HSL.out) ?_; refine wpList_guard rfl ?_; refine wpList_eq_head rfl _ _ _ rfl rfl rfl HQ.out.1 ?_)
      | (with_reducible show wpList _ _ _ (⟨some 69, _, _, _, _, _⟩ :: _) _ _; refine wpList_guard rfl ?_; refine wpList_load_row rfl _ _ rfl g14 rfl _ _ (0, 0) _ HA.out.2.2.2.1 Tryd.underlying37 rfl (hdInfo _ _ _ _ HLN.out.2.1 HLN.out.2.2) ?_; refine wpList_guard rfl ?_; refine wpList_load_row rfl _ _ rfl (w.heap.size + 1) rfl _ _ (0, 0) _ HA.out.1 Tryd.underlying37 rfl (hdInfo _ _ _ _ HLN.out.2.1 HLN.out.2.2) ?_; refine wpList_guard rfl ?_; refine wpList_eq_head rfl _ _ _ rfl rfl rfl HQ.out.2 ?_))
    go_ret
    exact ⟨rfl, HA.out.2.2.2.2⟩
end Go.Proofs.YtgimblpdmlnfeaaDoor
