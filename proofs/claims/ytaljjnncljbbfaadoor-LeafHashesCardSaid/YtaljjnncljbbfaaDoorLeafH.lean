/- The law LeafHashes: the walk. (printed by gen/leafh.py) -/
import Derived.Test.YtaljjnncljbbfaaDoorLeafL
namespace Go.Proofs.YtaljjnncljbbfaaDoor
open Go.RowKit Sha

/-- What each operation hands on. -/
def lhF (n : Int) (dt xs ys : List UInt8) (a1 a9 : Option Addr) (c1 c9 : Nat) (eh lh nh : Array Value) : Nat → Value → World → Prop
  | 0, v, _ => v = .int .i64 n
  | 1, v, _ => v = .agg eh
  | 2, v, _ => v = .int .i64 n
  | 3, v, _ => v = .agg eh
  | 4, v, _ => v = .bool true
  | 5, v, _ => v = .bool true
  | 6, v, _ => v = .int .i64 n
  | 7, v, _ => v = .slice a9 dt.length c9
  | 8, v, _ => v = .agg lh
  | 9, v, _ => v = .int .i64 n
  | 10, v, _ => v = .slice a1 dt.length c1
  | 11, v, _ => v = .agg lh
  | 12, v, _ => v = .bool true
  | 13, v, _ => v = .bool true
  | 14, v, _ => v = .bool true
  | 15, v, _ => v = .int .i64 n
  | 16, v, _ => v = .agg (bv xs).toArray
  | 17, v, _ => v = .agg (bv ys).toArray
  | 18, v, _ => v = .agg nh
  | 19, v, _ => v = .int .i64 n
  | 20, v, _ => v = .agg (bv xs).toArray
  | 21, v, _ => v = .agg (bv ys).toArray
  | 22, v, _ => v = .agg nh
  | 23, v, _ => v = .bool true
  | 24, v, _ => v = .bool true
  | 25, v, _ => v = .bool true
  | 26, v, _ => v = .slice a9 dt.length c9
  | 27, v, _ => v = .string ⟨dt.toArray⟩
  | 28, v, _ => v = .slice a1 dt.length c1
  | 29, v, _ => v = .string ⟨dt.toArray⟩
  | 30, v, _ => v = .bool true
  | 31, v, _ => v = .bool true
  | 32, v, _ => v = .bool true
  | _, _, _ => True

set_option maxHeartbeats 8000000 in
set_option maxRecDepth 100000 in
theorem leafHashes_walk (n : Int) (dt : List UInt8) (v : Value) (xs ys : List UInt8) (w : World) (hn : -9223372036854775808 ≤ n ∧ n ≤ 9223372036854775807) (hl : dt.length ≤ 140737488351232) (hr : Rd w 1 v dt.length (bv dt)) (hx : xs.length = 32) (hy : ys.length = 32) (hT : TabsR w) :
    Calls Tryd.prog 3 #[.int .i64 n, v, .agg (bv xs).toArray, .agg (bv ys).toArray] w fun e w' => e = .returned (.bool true) ∧ Below w.heap.size w w' := by
  obtain ⟨a1, c1, rfl⟩ := hr.form
  obtain ⟨g, hg⟩ : ∃ g, g = w.heap.size := ⟨_, rfl⟩
  obtain ⟨w0, hw0⟩ : ∃ x : World, x = (w.alloc (.cells (bv xs).toArray 24)).alloc (.cells (bv ys).toArray 24) := ⟨_, rfl⟩
  have hrow1 : w0.heap[g]? = some (.cells (bv xs).toArray 24 (0, 0)) := by
    rw [hw0, hg, heap_alloc_old _ _ (by simp)]
    exact heap_alloc_new _ _
  have hrow2 : w0.heap[g + 1]? = some (.cells (bv ys).toArray 24 (0, 0)) := by
    rw [hw0, hg]
    have := heap_alloc_new (w.alloc (.cells (bv xs).toArray 24)) (.cells (bv ys).toArray 24)
    simpa using this
  have hbw0 : Below w.heap.size w w0 := by rw [hw0]; exact ((Below.refl _ _).alloc (Nat.le_refl _) _).alloc (by simp) _
  have HW1 := Lib.hid hw0
  have HLN := Lib.hid (And.intro hx hy)
  have HR := Lib.hid hr
  have HN := Lib.hid hn
  have H0 := Lib.hid (And.intro hbw0 (And.intro hrow1 hrow2))
  clear hw0 hrow1 hrow2 hx hy hr hn hbw0
  go_enter Tryd.func3, Tryd.ntmps3
  go_upto_region 1 with fail
  rw [← hg, show (w.alloc (.cells (bv xs).toArray 24)).alloc (.cells (bv ys).toArray 24) = w0 from HW1.out.symm]
  have HG1 := Lib.hid hg
  clear hg
  go_wp2_with fail
  refine (awake14_any w0 (hT.toTabs.keepB H0.out.1)).mono ?_
  rintro e w1 ⟨rfl, hb1⟩
  have hbw1 := H0.out.1.trans (hb1.mono H0.out.1.size)
  have hown0 := own_new w1 5 1 0 w1.heap.size [] rfl (by omega) (Nat.le_refl _)
  have hra := (HR.out.keep hbw1).alloc (.cells #[] 5)
  go_wp2_with (at_builtin; go_loud (refine wpList_app Tryd.underlying22 infoU8w rfl (by decide) rfl _ _ rfl rfl rfl hown0 hra (by omega) (by omega) (by simp) ?_))
  intro v5 w5 ho hg5 _
  have hb5 : Below w1.heap.size w1 w5 := ((Below.refl _ _).alloc (Nat.le_refl _) _).trans (hg5.below (by simp) (own_block hown0))
  have hr9 := own_rd ho (bv_one _)
  obtain ⟨a9, c9, h9⟩ := hr9.form
  subst h9
  have hbw5 := hbw1.trans (hb5.mono hbw1.size)
  have hk : Below w0.heap.size w0 w5 := hb1.trans (hb5.mono hb1.size)
  have HRX := Lib.hid (And.intro ((hk.block _ (Array.getElem?_eq_some_iff.1 H0.out.2.1).1).trans H0.out.2.1) ((hk.block _ (Array.getElem?_eq_some_iff.1 H0.out.2.2).1).trans H0.out.2.2))
  have hT5 : TabsR w5 := hT.keepB hbw5
  have hr9' : Rd w5 1 (.slice a9 dt.length c9) dt.length (bv dt) := by simpa using hr9
  have HR9 := Lib.hid hr9'
  have HR1 := Lib.hid (HR.out.keep hbw5)
  have HBW := Lib.hid hbw5
  have HT5 := Lib.hid hT5
  have HE1 := Lib.hid (fun wx (hb : Below w5.heap.size w5 wx) => Empty_any n wx HN.out (HT5.out.toTabs.keepB hb))
  have HE2 := Lib.hid (fun wx (hb : Below w5.heap.size w5 wx) => refEmpty_any n wx HN.out (HT5.out.keepB hb))
  have HL1 := Lib.hid (fun wx (hb : Below w5.heap.size w5 wx) => Leaf_any n dt _ wx HN.out (by omega) (HR9.out.keep hb) (HT5.out.toTabs.keepB hb))
  have HL2 := Lib.hid (fun wx (hb : Below w5.heap.size w5 wx) => refLeaf_any n dt _ wx HN.out (by omega) (HR1.out.keep hb) (HT5.out.keepB hb))
  have HN1 := Lib.hid (fun wx (hb : Below w5.heap.size w5 wx) => Node_any n xs ys wx HLN.out.1 HLN.out.2 HN.out (HT5.out.toTabs.keepB hb))
  have HN2 := Lib.hid (fun wx (hb : Below w5.heap.size w5 wx) => refNode_any n xs ys wx HLN.out.1 HLN.out.2 HN.out (HT5.out.keepB hb))
  have hq1 := fun w => eqIn_hash (emptyH n) (emptyH n) (emptyH_length n) (emptyH_length n) w
  have hq2 := fun w => eqIn_hash (leafH n dt) (leafH n dt) (leafH_length n dt) (leafH_length n dt) w
  have hq3 := fun w => eqIn_hash (nodeH n xs ys) (nodeH n xs ys) (nodeH_length n xs ys) (nodeH_length n xs ys) w
  simp only [beq_self_eq_true] at hq1 hq2 hq3
  have HQE := Lib.hid hq1
  have HQL := Lib.hid hq2
  have HQN := Lib.hid hq3
  obtain ⟨eh, heh⟩ : ∃ x, x = (bv (emptyH n)).toArray := ⟨_, rfl⟩
  obtain ⟨lh, hlh⟩ : ∃ x, x = (bv (leafH n dt)).toArray := ⟨_, rfl⟩
  obtain ⟨nh, hnh⟩ : ∃ x, x = (bv (nodeH n xs ys)).toArray := ⟨_, rfl⟩
  rw [← heh] at HE1 HE2 HQE
  rw [← hlh] at HL1 HL2 HQL
  rw [← hnh] at HN1 HN2 HQN
  clear hq1 hq2 hq3 heh hlh hnh hown0 hra ho hg5 hb5 hr9 hr9' hbw5 hk hT5 hbw1 hb1
  go_upto_region 4 with fail
  refine wp_region_steps [some 15, some 16, some 17, some 18, some 19, some 20, some 21, some 22, some 23, some 24, some 25, some 26, some 27, some 28, some 29, some 30, some 31, some 32, some 33, some 34, some 35, some 36, some 37, some 38, some 39, some 40, some 41, some 42, some 43, some 44, some 45, some 46, some 8] [] (lhF n dt xs ys a1 a9 c1 c9 eh lh nh) (fun _ wx wy => Below wx.heap.size wx wy) (fun wx => Below w5.heap.size w5 wx) (by kernel_rfl) (by kernel_rfl) rfl (by kernel_rfl) (Below.refl _ _).drew (fun _ wx => Below.refl _ _) (fun _ wx wy h k => h.trans (k.mono h.size)) ?hF ?hstep ?hend
  case hF =>
    exact ⟨fun _ _ _ _ _ _ h => h, ⟨fun _ _ _ _ _ _ h => h, ⟨fun _ _ _ _ _ _ h => h, ⟨fun _ _ _ _ _ _ h => h, ⟨fun _ _ _ _ _ _ h => h, ⟨fun _ _ _ _ _ _ h => h, ⟨fun _ _ _ _ _ _ h => h, ⟨fun _ _ _ _ _ _ h => h, ⟨fun _ _ _ _ _ _ h => h, ⟨fun _ _ _ _ _ _ h => h, ⟨fun _ _ _ _ _ _ h => h, ⟨fun _ _ _ _ _ _ h => h, ⟨fun _ _ _ _ _ _ h => h, ⟨fun _ _ _ _ _ _ h => h, ⟨fun _ _ _ _ _ _ h => h, ⟨fun _ _ _ _ _ _ h => h, ⟨fun _ _ _ _ _ _ h => h, ⟨fun _ _ _ _ _ _ h => h, ⟨fun _ _ _ _ _ _ h => h, ⟨fun _ _ _ _ _ _ h => h, ⟨fun _ _ _ _ _ _ h => h, ⟨fun _ _ _ _ _ _ h => h, ⟨fun _ _ _ _ _ _ h => h, ⟨fun _ _ _ _ _ _ h => h, ⟨fun _ _ _ _ _ _ h => h, ⟨fun _ _ _ _ _ _ h => h, ⟨fun _ _ _ _ _ _ h => h, ⟨fun _ _ _ _ _ _ h => h, ⟨fun _ _ _ _ _ _ h => h, ⟨fun _ _ _ _ _ _ h => h, ⟨fun _ _ _ _ _ _ h => h, ⟨fun _ _ _ _ _ _ h => h, ⟨fun _ _ _ _ _ _ h => h, trivial⟩⟩⟩⟩⟩⟩⟩⟩⟩⟩⟩⟩⟩⟩⟩⟩⟩⟩⟩⟩⟩⟩⟩⟩⟩⟩⟩⟩⟩⟩⟩⟩⟩
  case hstep =>
    -- operation 0: Op.move (tmp 0)
    refine ⟨fun r wx hG hs hq hf => ?_, ?_⟩
    · have e0 : r 0 = .int .i64 n := hs 0 rfl
      refine (if_pos rfl).symm ▸ ?_
      clear hs hq hf
      unfold gives
      go_simp
      exact ⟨Below.refl _ _, rfl⟩
    -- operation 1: Op.call ( callee := Callee.value (func 10), args := #[tmp 15], argTypes := #[3] )
    refine ⟨fun r wx hG hs hq hf => ?_, ?_⟩
    · have h0 : r 15 = .int .i64 n := hf.1
      refine (if_pos rfl).symm ▸ ?_
      clear hs hq hf
      unfold gives
      go_simp
      refine (HE1.out wx hG).mono ?_
      rintro e wy ⟨rfl, hb1⟩
      exact ⟨_, rfl, hb1, rfl⟩
    -- operation 2: Op.move (tmp 0)
    refine ⟨fun r wx hG hs hq hf => ?_, ?_⟩
    · have e0 : r 0 = .int .i64 n := hs 0 rfl
      refine (if_pos rfl).symm ▸ ?_
      clear hs hq hf
      unfold gives
      go_simp
      exact ⟨Below.refl _ _, rfl⟩
    -- operation 3: Op.call ( callee := Callee.value (func 11), args := #[tmp 17], argTypes := #[3] )
    refine ⟨fun r wx hG hs hq hf => ?_, ?_⟩
    · have h2 : r 17 = .int .i64 n := hf.1
      refine (if_pos rfl).symm ▸ ?_
      clear hs hq hf
      unfold gives
      go_simp
      refine (HE2.out wx hG).mono ?_
      rintro e wy ⟨rfl, hb1⟩
      exact ⟨_, rfl, hb1, rfl⟩
    -- operation 4: Op.binOp BinOp.eql 24 (tmp 16) (tmp 18) 24
    refine ⟨fun r wx hG hs hq hf => ?_, ?_⟩
    · have h1 : r 16 = .agg eh := hf.1
      have h3 : r 18 = .agg eh := hf.2.1
      refine (if_pos rfl).symm ▸ ?_
      clear hs hq hf
      unfold gives
      have hgd := eq_guard
      have he := HQE.out wx
      go_simp
      exact ⟨Below.refl _ _, rfl⟩
    -- operation 5: Op.move (tmp 19)
    refine ⟨fun r wx hG hs hq hf => ?_, ?_⟩
    · have h4 : r 19 = .bool true := hf.1
      refine (if_pos rfl).symm ▸ ?_
      clear hs hq hf
      unfold gives
      go_simp
      exact ⟨Below.refl _ _, rfl⟩
    -- operation 6: Op.move (tmp 0)
    refine ⟨fun r wx hG hs hq hf => ?_, ?_⟩
    · have e0 : r 0 = .int .i64 n := hs 0 rfl
      have h5 : r 20 = .bool true := hf.1
      have hy : ydD [some 15, some 16, some 17, some 18, some 19, some 20, some 21, some 22, some 23, some 24, some 25, some 26, some 27, some 28, some 29, some 30, some 31, some 32, some 33, some 34, some 35, some 36, some 37, some 38, some 39, some 40, some 41, some 42, some 43, some 44, some 45, some 46, some 8] r 5 = some true := by show (match r 20 with | .bool b => some b | _ => none) = some true; rw [h5]
      simp only [Region.wanted, hy, beq_self_eq_true, if_true]
      clear hs hq hf hy
      unfold gives
      go_simp
      exact ⟨Below.refl _ _, rfl⟩
    -- operation 7: Op.move (tmp 9)
    refine ⟨fun r wx hG hs hq hf => ?_, ?_⟩
    · have e9 : r 9 = .slice a9 dt.length c9 := hs 9 rfl
      have h5 : r 20 = .bool true := hf.1
      have hy : ydD [some 15, some 16, some 17, some 18, some 19, some 20, some 21, some 22, some 23, some 24, some 25, some 26, some 27, some 28, some 29, some 30, some 31, some 32, some 33, some 34, some 35, some 36, some 37, some 38, some 39, some 40, some 41, some 42, some 43, some 44, some 45, some 46, some 8] r 5 = some true := by show (match r 20 with | .bool b => some b | _ => none) = some true; rw [h5]
      simp only [Region.wanted, hy, beq_self_eq_true, if_true]
      clear hs hq hf hy
      unfold gives
      go_simp
      exact ⟨Below.refl _ _, rfl⟩
    -- operation 8: Op.call ( callee := Callee.value (func 12), args := #[tmp 21, tmp 22], argTypes := #[3, 22] )
    refine ⟨fun r wx hG hs hq hf => ?_, ?_⟩
    · have h6 : r 21 = .int .i64 n := hf.1
      have h7 : r 22 = .slice a9 dt.length c9 := hf.2.1
      have h5 : r 20 = .bool true := hf.2.2.1
      have hy : ydD [some 15, some 16, some 17, some 18, some 19, some 20, some 21, some 22, some 23, some 24, some 25, some 26, some 27, some 28, some 29, some 30, some 31, some 32, some 33, some 34, some 35, some 36, some 37, some 38, some 39, some 40, some 41, some 42, some 43, some 44, some 45, some 46, some 8] r 5 = some true := by show (match r 20 with | .bool b => some b | _ => none) = some true; rw [h5]
      simp only [Region.wanted, hy, beq_self_eq_true, if_true]
      clear hs hq hf hy
      unfold gives
      go_simp
      refine (HL1.out wx hG).mono ?_
      rintro e wy ⟨rfl, hb1⟩
      exact ⟨_, rfl, hb1, rfl⟩
    -- operation 9: Op.move (tmp 0)
    refine ⟨fun r wx hG hs hq hf => ?_, ?_⟩
    · have e0 : r 0 = .int .i64 n := hs 0 rfl
      have h5 : r 20 = .bool true := hf.1
      have hy : ydD [some 15, some 16, some 17, some 18, some 19, some 20, some 21, some 22, some 23, some 24, some 25, some 26, some 27, some 28, some 29, some 30, some 31, some 32, some 33, some 34, some 35, some 36, some 37, some 38, some 39, some 40, some 41, some 42, some 43, some 44, some 45, some 46, some 8] r 5 = some true := by show (match r 20 with | .bool b => some b | _ => none) = some true; rw [h5]
      simp only [Region.wanted, hy, beq_self_eq_true, if_true]
      clear hs hq hf hy
      unfold gives
      go_simp
      exact ⟨Below.refl _ _, rfl⟩
    -- operation 10: Op.move (tmp 1)
    refine ⟨fun r wx hG hs hq hf => ?_, ?_⟩
    · have e1 : r 1 = .slice a1 dt.length c1 := hs 1 rfl
      have h5 : r 20 = .bool true := hf.1
      have hy : ydD [some 15, some 16, some 17, some 18, some 19, some 20, some 21, some 22, some 23, some 24, some 25, some 26, some 27, some 28, some 29, some 30, some 31, some 32, some 33, some 34, some 35, some 36, some 37, some 38, some 39, some 40, some 41, some 42, some 43, some 44, some 45, some 46, some 8] r 5 = some true := by show (match r 20 with | .bool b => some b | _ => none) = some true; rw [h5]
      simp only [Region.wanted, hy, beq_self_eq_true, if_true]
      clear hs hq hf hy
      unfold gives
      go_simp
      exact ⟨Below.refl _ _, rfl⟩
    -- operation 11: Op.call ( callee := Callee.value (func 13), args := #[tmp 24, tmp 25], argTypes := #[3, 22] )
    refine ⟨fun r wx hG hs hq hf => ?_, ?_⟩
    · have h9 : r 24 = .int .i64 n := hf.1
      have h10 : r 25 = .slice a1 dt.length c1 := hf.2.1
      have h5 : r 20 = .bool true := hf.2.2.2.1
      have hy : ydD [some 15, some 16, some 17, some 18, some 19, some 20, some 21, some 22, some 23, some 24, some 25, some 26, some 27, some 28, some 29, some 30, some 31, some 32, some 33, some 34, some 35, some 36, some 37, some 38, some 39, some 40, some 41, some 42, some 43, some 44, some 45, some 46, some 8] r 5 = some true := by show (match r 20 with | .bool b => some b | _ => none) = some true; rw [h5]
      simp only [Region.wanted, hy, beq_self_eq_true, if_true]
      clear hs hq hf hy
      unfold gives
      go_simp
      refine (HL2.out wx hG).mono ?_
      rintro e wy ⟨rfl, hb1⟩
      exact ⟨_, rfl, hb1, rfl⟩
    -- operation 12: Op.binOp BinOp.eql 24 (tmp 23) (tmp 26) 24
    refine ⟨fun r wx hG hs hq hf => ?_, ?_⟩
    · have h8 : r 23 = .agg lh := hf.1
      have h11 : r 26 = .agg lh := hf.2.1
      have h5 : r 20 = .bool true := hf.2.2.1
      have hy : ydD [some 15, some 16, some 17, some 18, some 19, some 20, some 21, some 22, some 23, some 24, some 25, some 26, some 27, some 28, some 29, some 30, some 31, some 32, some 33, some 34, some 35, some 36, some 37, some 38, some 39, some 40, some 41, some 42, some 43, some 44, some 45, some 46, some 8] r 5 = some true := by show (match r 20 with | .bool b => some b | _ => none) = some true; rw [h5]
      simp only [Region.wanted, hy, beq_self_eq_true, if_true]
      clear hs hq hf hy
      unfold gives
      have hgd := eq_guard
      have he := HQL.out wx
      go_simp
      exact ⟨Below.refl _ _, rfl⟩
    -- operation 13: Op.pick (tmp 20) (tmp 27) (const (Value.bool false))
    refine ⟨fun r wx hG hs hq hf => ?_, ?_⟩
    · have h5 : r 20 = .bool true := hf.1
      have h12 : r 27 = .bool true := hf.2.1
      refine (if_pos rfl).symm ▸ ?_
      clear hs hq hf
      unfold gives
      go_simp
      exact ⟨Below.refl _ _, rfl⟩
    -- operation 14: Op.move (tmp 28)
    refine ⟨fun r wx hG hs hq hf => ?_, ?_⟩
    · have h13 : r 28 = .bool true := hf.1
      refine (if_pos rfl).symm ▸ ?_
      clear hs hq hf
      unfold gives
      go_simp
      exact ⟨Below.refl _ _, rfl⟩
    -- operation 15: Op.move (tmp 0)
    refine ⟨fun r wx hG hs hq hf => ?_, ?_⟩
    · have e0 : r 0 = .int .i64 n := hs 0 rfl
      have h14 : r 29 = .bool true := hf.1
      have hy : ydD [some 15, some 16, some 17, some 18, some 19, some 20, some 21, some 22, some 23, some 24, some 25, some 26, some 27, some 28, some 29, some 30, some 31, some 32, some 33, some 34, some 35, some 36, some 37, some 38, some 39, some 40, some 41, some 42, some 43, some 44, some 45, some 46, some 8] r 14 = some true := by show (match r 29 with | .bool b => some b | _ => none) = some true; rw [h14]
      simp only [Region.wanted, hy, beq_self_eq_true, if_true]
      clear hs hq hf hy
      unfold gives
      go_simp
      exact ⟨Below.refl _ _, rfl⟩
    -- operation 16: Op.load 24 (tmp 6)
    refine ⟨fun r wx hG hs hq hf => ?_, ?_⟩
    · have e6 : r 6 = .pointer (some ⟨g, 0, none⟩) := hs 6 rfl
      have h14 : r 29 = .bool true := hf.1
      have hy : ydD [some 15, some 16, some 17, some 18, some 19, some 20, some 21, some 22, some 23, some 24, some 25, some 26, some 27, some 28, some 29, some 30, some 31, some 32, some 33, some 34, some 35, some 36, some 37, some 38, some 39, some 40, some 41, some 42, some 43, some 44, some 45, some 46, some 8] r 14 = some true := by show (match r 29 with | .bool b => some b | _ => none) = some true; rw [h14]
      simp only [Region.wanted, hy, beq_self_eq_true, if_true]
      clear hs hq hf hy
      unfold gives
      refine gives_load_row 24 _ rfl (g) e6 24 _ (0, 0) _ ((hG.block _ (Array.getElem?_eq_some_iff.1 (HRX.out.1)).1).trans (HRX.out.1)) Tryd.underlying24 rfl (hInfo _ HLN.out.1) ⟨Below.refl _ _, rfl⟩
    -- operation 17: Op.load 24 (tmp 7)
    refine ⟨fun r wx hG hs hq hf => ?_, ?_⟩
    · have e7 : r 7 = .pointer (some ⟨g + 1, 0, none⟩) := hs 7 rfl
      have h14 : r 29 = .bool true := hf.1
      have hy : ydD [some 15, some 16, some 17, some 18, some 19, some 20, some 21, some 22, some 23, some 24, some 25, some 26, some 27, some 28, some 29, some 30, some 31, some 32, some 33, some 34, some 35, some 36, some 37, some 38, some 39, some 40, some 41, some 42, some 43, some 44, some 45, some 46, some 8] r 14 = some true := by show (match r 29 with | .bool b => some b | _ => none) = some true; rw [h14]
      simp only [Region.wanted, hy, beq_self_eq_true, if_true]
      clear hs hq hf hy
      unfold gives
      refine gives_load_row 24 _ rfl (g + 1) e7 24 _ (0, 0) _ ((hG.block _ (Array.getElem?_eq_some_iff.1 (HRX.out.2)).1).trans (HRX.out.2)) Tryd.underlying24 rfl (hInfo _ HLN.out.2) ⟨Below.refl _ _, rfl⟩
    -- operation 18: Op.call ( callee := Callee.value (func 14), args := #[tmp 30, tmp 31, tmp 32], argTypes := #[3, 24, 24] )
    refine ⟨fun r wx hG hs hq hf => ?_, ?_⟩
    · have h15 : r 30 = .int .i64 n := hf.1
      have h16 : r 31 = .agg (bv xs).toArray := hf.2.1
      have h17 : r 32 = .agg (bv ys).toArray := hf.2.2.1
      have h14 : r 29 = .bool true := hf.2.2.2.1
      have hy : ydD [some 15, some 16, some 17, some 18, some 19, some 20, some 21, some 22, some 23, some 24, some 25, some 26, some 27, some 28, some 29, some 30, some 31, some 32, some 33, some 34, some 35, some 36, some 37, some 38, some 39, some 40, some 41, some 42, some 43, some 44, some 45, some 46, some 8] r 14 = some true := by show (match r 29 with | .bool b => some b | _ => none) = some true; rw [h14]
      simp only [Region.wanted, hy, beq_self_eq_true, if_true]
      clear hs hq hf hy
      unfold gives
      go_simp
      refine (HN1.out wx hG).mono ?_
      rintro e wy ⟨rfl, hb1⟩
      exact ⟨_, rfl, hb1, rfl⟩
    -- operation 19: Op.move (tmp 0)
    refine ⟨fun r wx hG hs hq hf => ?_, ?_⟩
    · have e0 : r 0 = .int .i64 n := hs 0 rfl
      have h14 : r 29 = .bool true := hf.1
      have hy : ydD [some 15, some 16, some 17, some 18, some 19, some 20, some 21, some 22, some 23, some 24, some 25, some 26, some 27, some 28, some 29, some 30, some 31, some 32, some 33, some 34, some 35, some 36, some 37, some 38, some 39, some 40, some 41, some 42, some 43, some 44, some 45, some 46, some 8] r 14 = some true := by show (match r 29 with | .bool b => some b | _ => none) = some true; rw [h14]
      simp only [Region.wanted, hy, beq_self_eq_true, if_true]
      clear hs hq hf hy
      unfold gives
      go_simp
      exact ⟨Below.refl _ _, rfl⟩
    -- operation 20: Op.load 24 (tmp 6)
    refine ⟨fun r wx hG hs hq hf => ?_, ?_⟩
    · have e6 : r 6 = .pointer (some ⟨g, 0, none⟩) := hs 6 rfl
      have h14 : r 29 = .bool true := hf.1
      have hy : ydD [some 15, some 16, some 17, some 18, some 19, some 20, some 21, some 22, some 23, some 24, some 25, some 26, some 27, some 28, some 29, some 30, some 31, some 32, some 33, some 34, some 35, some 36, some 37, some 38, some 39, some 40, some 41, some 42, some 43, some 44, some 45, some 46, some 8] r 14 = some true := by show (match r 29 with | .bool b => some b | _ => none) = some true; rw [h14]
      simp only [Region.wanted, hy, beq_self_eq_true, if_true]
      clear hs hq hf hy
      unfold gives
      refine gives_load_row 24 _ rfl (g) e6 24 _ (0, 0) _ ((hG.block _ (Array.getElem?_eq_some_iff.1 (HRX.out.1)).1).trans (HRX.out.1)) Tryd.underlying24 rfl (hInfo _ HLN.out.1) ⟨Below.refl _ _, rfl⟩
    -- operation 21: Op.load 24 (tmp 7)
    refine ⟨fun r wx hG hs hq hf => ?_, ?_⟩
    · have e7 : r 7 = .pointer (some ⟨g + 1, 0, none⟩) := hs 7 rfl
      have h14 : r 29 = .bool true := hf.1
      have hy : ydD [some 15, some 16, some 17, some 18, some 19, some 20, some 21, some 22, some 23, some 24, some 25, some 26, some 27, some 28, some 29, some 30, some 31, some 32, some 33, some 34, some 35, some 36, some 37, some 38, some 39, some 40, some 41, some 42, some 43, some 44, some 45, some 46, some 8] r 14 = some true := by show (match r 29 with | .bool b => some b | _ => none) = some true; rw [h14]
      simp only [Region.wanted, hy, beq_self_eq_true, if_true]
      clear hs hq hf hy
      unfold gives
      refine gives_load_row 24 _ rfl (g + 1) e7 24 _ (0, 0) _ ((hG.block _ (Array.getElem?_eq_some_iff.1 (HRX.out.2)).1).trans (HRX.out.2)) Tryd.underlying24 rfl (hInfo _ HLN.out.2) ⟨Below.refl _ _, rfl⟩
    -- operation 22: Op.call ( callee := Callee.value (func 15), args := #[tmp 34, tmp 35, tmp 36], argTypes := #[3, 24, 24] )
    refine ⟨fun r wx hG hs hq hf => ?_, ?_⟩
    · have h19 : r 34 = .int .i64 n := hf.1
      have h20 : r 35 = .agg (bv xs).toArray := hf.2.1
      have h21 : r 36 = .agg (bv ys).toArray := hf.2.2.1
      have h14 : r 29 = .bool true := hf.2.2.2.2.1
      have hy : ydD [some 15, some 16, some 17, some 18, some 19, some 20, some 21, some 22, some 23, some 24, some 25, some 26, some 27, some 28, some 29, some 30, some 31, some 32, some 33, some 34, some 35, some 36, some 37, some 38, some 39, some 40, some 41, some 42, some 43, some 44, some 45, some 46, some 8] r 14 = some true := by show (match r 29 with | .bool b => some b | _ => none) = some true; rw [h14]
      simp only [Region.wanted, hy, beq_self_eq_true, if_true]
      clear hs hq hf hy
      unfold gives
      go_simp
      refine (HN2.out wx hG).mono ?_
      rintro e wy ⟨rfl, hb1⟩
      exact ⟨_, rfl, hb1, rfl⟩
    -- operation 23: Op.binOp BinOp.eql 24 (tmp 33) (tmp 37) 24
    refine ⟨fun r wx hG hs hq hf => ?_, ?_⟩
    · have h18 : r 33 = .agg nh := hf.1
      have h22 : r 37 = .agg nh := hf.2.1
      have h14 : r 29 = .bool true := hf.2.2.1
      have hy : ydD [some 15, some 16, some 17, some 18, some 19, some 20, some 21, some 22, some 23, some 24, some 25, some 26, some 27, some 28, some 29, some 30, some 31, some 32, some 33, some 34, some 35, some 36, some 37, some 38, some 39, some 40, some 41, some 42, some 43, some 44, some 45, some 46, some 8] r 14 = some true := by show (match r 29 with | .bool b => some b | _ => none) = some true; rw [h14]
      simp only [Region.wanted, hy, beq_self_eq_true, if_true]
      clear hs hq hf hy
      unfold gives
      have hgd := eq_guard
      have he := HQN.out wx
      go_simp
      exact ⟨Below.refl _ _, rfl⟩
    -- operation 24: Op.pick (tmp 29) (tmp 38) (const (Value.bool false))
    refine ⟨fun r wx hG hs hq hf => ?_, ?_⟩
    · have h14 : r 29 = .bool true := hf.1
      have h23 : r 38 = .bool true := hf.2.1
      refine (if_pos rfl).symm ▸ ?_
      clear hs hq hf
      unfold gives
      go_simp
      exact ⟨Below.refl _ _, rfl⟩
    -- operation 25: Op.move (tmp 39)
    refine ⟨fun r wx hG hs hq hf => ?_, ?_⟩
    · have h24 : r 39 = .bool true := hf.1
      refine (if_pos rfl).symm ▸ ?_
      clear hs hq hf
      unfold gives
      go_simp
      exact ⟨Below.refl _ _, rfl⟩
    -- operation 26: Op.move (tmp 9)
    refine ⟨fun r wx hG hs hq hf => ?_, ?_⟩
    · have e9 : r 9 = .slice a9 dt.length c9 := hs 9 rfl
      have h25 : r 40 = .bool true := hf.1
      have hy : ydD [some 15, some 16, some 17, some 18, some 19, some 20, some 21, some 22, some 23, some 24, some 25, some 26, some 27, some 28, some 29, some 30, some 31, some 32, some 33, some 34, some 35, some 36, some 37, some 38, some 39, some 40, some 41, some 42, some 43, some 44, some 45, some 46, some 8] r 25 = some true := by show (match r 40 with | .bool b => some b | _ => none) = some true; rw [h25]
      simp only [Region.wanted, hy, beq_self_eq_true, if_true]
      clear hs hq hf hy
      unfold gives
      go_simp
      exact ⟨Below.refl _ _, rfl⟩
    -- operation 27: Op.convert 22 9 (tmp 41)
    refine ⟨fun r wx hG hs hq hf => ?_, ?_⟩
    · have h26 : r 41 = .slice a9 dt.length c9 := hf.1
      have h25 : r 40 = .bool true := hf.2.1
      have hy : ydD [some 15, some 16, some 17, some 18, some 19, some 20, some 21, some 22, some 23, some 24, some 25, some 26, some 27, some 28, some 29, some 30, some 31, some 32, some 33, some 34, some 35, some 36, some 37, some 38, some 39, some 40, some 41, some 42, some 43, some 44, some 45, some 46, some 8] r 25 = some true := by show (match r 40 with | .bool b => some b | _ => none) = some true; rw [h25]
      simp only [Region.wanted, hy, beq_self_eq_true, if_true]
      clear hs hq hf hy
      unfold gives
      have hcv := string_of_bytes (P := Tryd.prog) Tryd.underlying22 Tryd.underlying5 Tryd.underlying9 (HR9.out.keep hG)
      go_simp
      exact ⟨Below.refl _ _, rfl⟩
    -- operation 28: Op.move (tmp 1)
    refine ⟨fun r wx hG hs hq hf => ?_, ?_⟩
    · have e1 : r 1 = .slice a1 dt.length c1 := hs 1 rfl
      have h25 : r 40 = .bool true := hf.1
      have hy : ydD [some 15, some 16, some 17, some 18, some 19, some 20, some 21, some 22, some 23, some 24, some 25, some 26, some 27, some 28, some 29, some 30, some 31, some 32, some 33, some 34, some 35, some 36, some 37, some 38, some 39, some 40, some 41, some 42, some 43, some 44, some 45, some 46, some 8] r 25 = some true := by show (match r 40 with | .bool b => some b | _ => none) = some true; rw [h25]
      simp only [Region.wanted, hy, beq_self_eq_true, if_true]
      clear hs hq hf hy
      unfold gives
      go_simp
      exact ⟨Below.refl _ _, rfl⟩
    -- operation 29: Op.convert 22 9 (tmp 43)
    refine ⟨fun r wx hG hs hq hf => ?_, ?_⟩
    · have h28 : r 43 = .slice a1 dt.length c1 := hf.1
      have h25 : r 40 = .bool true := hf.2.1
      have hy : ydD [some 15, some 16, some 17, some 18, some 19, some 20, some 21, some 22, some 23, some 24, some 25, some 26, some 27, some 28, some 29, some 30, some 31, some 32, some 33, some 34, some 35, some 36, some 37, some 38, some 39, some 40, some 41, some 42, some 43, some 44, some 45, some 46, some 8] r 25 = some true := by show (match r 40 with | .bool b => some b | _ => none) = some true; rw [h25]
      simp only [Region.wanted, hy, beq_self_eq_true, if_true]
      clear hs hq hf hy
      unfold gives
      have hcv := string_of_bytes (P := Tryd.prog) Tryd.underlying22 Tryd.underlying5 Tryd.underlying9 (HR1.out.keep hG)
      go_simp
      exact ⟨Below.refl _ _, rfl⟩
    -- operation 30: Op.binOp BinOp.eql 9 (tmp 42) (tmp 44) 9
    refine ⟨fun r wx hG hs hq hf => ?_, ?_⟩
    · have h27 : r 42 = .string ⟨dt.toArray⟩ := hf.1
      have h29 : r 44 = .string ⟨dt.toArray⟩ := hf.2.1
      have h25 : r 40 = .bool true := hf.2.2.1
      have hy : ydD [some 15, some 16, some 17, some 18, some 19, some 20, some 21, some 22, some 23, some 24, some 25, some 26, some 27, some 28, some 29, some 30, some 31, some 32, some 33, some 34, some 35, some 36, some 37, some 38, some 39, some 40, some 41, some 42, some 43, some 44, some 45, some 46, some 8] r 25 = some true := by show (match r 40 with | .bool b => some b | _ => none) = some true; rw [h25]
      simp only [Region.wanted, hy, beq_self_eq_true, if_true]
      clear hs hq hf hy
      unfold gives
      go_simp
      exact ⟨Below.refl _ _, rfl⟩
    -- operation 31: Op.pick (tmp 40) (tmp 45) (const (Value.bool false))
    refine ⟨fun r wx hG hs hq hf => ?_, ?_⟩
    · have h25 : r 40 = .bool true := hf.1
      have h30 : r 45 = .bool true := hf.2.1
      refine (if_pos rfl).symm ▸ ?_
      clear hs hq hf
      unfold gives
      go_simp
      exact ⟨Below.refl _ _, rfl⟩
    -- operation 32: Op.assign (tmp 46)
    refine ⟨fun r wx hG hs hq hf => ?_, ?_⟩
    · have h31 : r 46 = .bool true := hf.1
      refine (if_pos rfl).symm ▸ ?_
      clear hs hq hf
      unfold gives
      go_simp
      exact ⟨Below.refl _ _, rfl⟩
    exact trivial
  case hend =>
    intro u wz hG hfin
    have z32 : u 32 = .bool true := hfin 32 (by decide) (by kernel_rfl)
    clear hfin
    simp only [fill]
    go_simp
    go_wp2_with fail
    go_ret
    exact ⟨by simp, HBW.out.trans (hG.mono HBW.out.size)⟩

end Go.Proofs.YtaljjnncljbbfaaDoor
