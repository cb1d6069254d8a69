/- The law ShaNarrows. (printed by gen/shanarrows.py) -/
import Derived.Test.YtkcnakijfmemlaaDoorShaLaw
import Derived.Test.YtkcnakijfmemlaaDoorReg
namespace Go.Proofs.YtkcnakijfmemlaaDoor
open Go.ChangeShapes Go.WideShapes Go.ChangeAt Go.RowKit Sha

theorem gives_load_row {P : Program} {r : Nat → Value} {o : Oper} {w : World} {R : Value → World → Prop} (ty : TypeId) (x : Operand) (ho : o.op = .load ty x)
    (g : Nat) (hx : rd r x = .pointer (some ⟨g, 0, none⟩)) (t : TypeId) (cs : Array Value) (fr : Nat × Nat) (d : TypeDesc) (hg : w.heap[g]? = some (.cells cs t fr))
    (hu : P.underlying ty = some d) (hd : (match d with | .struct _ | .array _ _ => true | _ => false) = true) (hi : (P.info? ty).map (·.size) = some cs.size)
    (h : R (.agg cs) w) : gives P r o w R := by
  unfold gives execOp
  simp only [ho, hx, Instr.loadAt, Instr.sureAddr, Sem.run_bind, Sem.run_pure, Result.andThen_ok, run_loadVar_row w g t ty cs fr d hg hu hd hi]
  exact h

/-- What each operation hands on. -/
def nwF (h x y z : Array Value) (a b : Int) : Nat → Value → World → Prop
  | 0, v, _ => v = .agg x
  | 1, v, _ => v = .agg h
  | 2, v, _ => v = .int .i64 a
  | 3, v, _ => v = .agg x
  | 4, v, _ => v = .bool true
  | 5, v, _ => v = .bool true
  | 6, v, _ => v = .agg x
  | 7, v, _ => v = .int .i64 b
  | 8, v, _ => v = .agg y
  | 9, v, _ => v = .agg h
  | 10, v, _ => v = .int .i64 a
  | 11, v, _ => v = .int .i64 b
  | 12, v, _ => v = .int .i64 (min a b)
  | 13, v, _ => v = .agg y
  | 14, v, _ => v = .bool true
  | 15, v, _ => v = .bool true
  | 16, v, _ => v = .bool true
  | 17, v, _ => v = .agg h
  | 18, v, _ => v = .agg h
  | 19, v, _ => v = .agg h
  | 20, v, _ => v = .bool true
  | 21, v, _ => v = .bool true
  | 22, v, _ => v = .bool true
  | 23, v, _ => v = .agg h
  | 24, v, _ => v = .agg z
  | 25, v, _ => v = .agg z
  | 26, v, _ => v = .bool true
  | 27, v, _ => v = .bool true
  | 28, v, _ => v = .bool true
  | _, _, _ => True

set_option maxHeartbeats 4000000 in
set_option maxRecDepth 100000 in
theorem shaNarrows_walk (l : List UInt8) (a b : Int) (w : World) (hl : l.length = 32) (ha : -9223372036854775808 ≤ a ∧ a ≤ 9223372036854775807) (hb : -9223372036854775808 ≤ b ∧ b ≤ 9223372036854775807) (hT : Tabs w) :
    Calls Tryd.prog 4 #[.agg (bv l).toArray, .int .i64 a, .int .i64 b] w fun e w' => e = .returned (.bool true) ∧ Below w.heap.size w w' := by
  have hz := (zero_of_info info32).1
  have hnl := nar_length l (clip a)
  have hN0 := fun w' => Narrow_any l a w' hl ha
  have hN1 := fun w' => refNarrow_any l a w' hl ha
  have hN2 := fun w' => Narrow_any (nar l (clip a)) b w' hnl hb
  have hN3 := fun w' => Narrow_any l (min a b) w' hl (by omega)
  have hN4 := fun w' => Narrow_any l 256 w' hl (by omega)
  have hN5 := fun w' => Narrow_any l 0 w' hl (by omega)
  rw [show clip 256 = 256 from rfl, nar_all l hl] at hN4
  rw [show clip 0 = 0 from rfl, nar_none] at hN5
  rw [nar_twice] at hN2
  rw [clip_min] at hN3
  have hey := fun w => eqIn_hash (nar l (min (clip a) (clip b))) (nar l (min (clip a) (clip b))) (nar_length _ _) (nar_length _ _) w
  have hex := fun w => eqIn_hash (nar l (clip a)) (nar l (clip a)) (nar_length _ _) (nar_length _ _) w
  have heh := fun w => eqIn_hash l l hl hl w
  have hez := fun w => eqIn_hash (zs 32) (zs 32) rfl rfl w
  simp only [BEq.rfl] at hey hex heh hez
  have HROW := Lib.hid (And.intro (hInfo _ hnl) (hInfo l hl))
  have HFIT := Lib.hid (And.intro (hInfo' _ hnl) (show (bv (nar l (clip a))).length = (bv (zs 32)).length by rw [bv_length, bv_length, hnl]; simp [zs]))
  obtain ⟨xl, hxl⟩ : ∃ xl, xl = bv (nar l (clip a)) := ⟨_, rfl⟩
  have HX1 := Lib.hid (show ∀ u ∈ xl, u.oneCell' = true by rw [hxl]; exact bv_one _)
  rw [← hxl] at hN0 hN1 hN2 hex HROW HFIT
  obtain ⟨h, hh⟩ : ∃ h, h = (bv l).toArray := ⟨_, rfl⟩
  rw [← hh] at hN0 hN1 hN3 hN4 hN5 heh HROW ⊢
  generalize (bv (nar l (min (clip a) (clip b)))).toArray = y at *
  obtain ⟨z, hzz⟩ : ∃ z, z = (bv (zs 32)).toArray := ⟨_, rfl⟩
  rw [← hzz] at hN5 hez hz
  have HN0 := Lib.hid hN0
  have HN1 := Lib.hid hN1
  have HN2 := Lib.hid hN2
  have HN3 := Lib.hid hN3
  have HN4 := Lib.hid hN4
  have HN5 := Lib.hid hN5
  have HEx := Lib.hid hex
  have HEy := Lib.hid hey
  have HEh := Lib.hid heh
  have HEz := Lib.hid hez
  have hsz : h.size = 32 := by rw [hh]; simp [bv_length, hl]
  have HZZ := Lib.hid hzz
  clear hN0 hN1 hN2 hN3 hN4 hN5 hex hey heh hez hnl hh hxl hzz
  go_enter Tryd.func4, Tryd.ntmps4
  go_wp2_with fail
  have hbw0 : Below w.heap.size w (w.alloc (.cells h 25)) := (Below.refl _ _).alloc (Nat.le_refl _) _
  refine (awake03_any _ (hT.keepB hbw0)).mono ?_
  rintro e w1 ⟨rfl, hb1⟩
  have hrow3 : w1.heap[w.heap.size]? = some (.cells h 25 (0, 0)) := (hb1.block _ (by simp)).trans (heap_alloc_new _ _)
  have hbw1 := hbw0.trans (hb1.mono (by simp))
  clear hb1 hbw0
  go_wp2_with (with_reducible show wpList _ _ _ (⟨some 10, _, _, _, _, _⟩ :: _) _ _; refine wpList_load_row rfl _ _ rfl w.heap.size rfl _ _ (0, 0) _ hrow3 Tryd.underlying25 rfl HROW.out.2 ?_)
  refine (HN0.out _).mono ?_
  rintro e w2 ⟨rfl, hb2⟩
  have hrow3 := (hb2.block _ (Array.getElem?_eq_some_iff.1 hrow3).1).trans hrow3
  have hbw2 := hbw1.trans (hb2.mono hbw1.size)
  clear hb2 hbw1
  rw [HZZ.out] at hz
  go_upto_region 4 with (with_reducible show wpList _ _ _ (⟨none, Op.store _ _ _, _, _, _, _⟩ :: _) _ _; go_loud (refine wpList_store_whole rfl _ _ _ rfl w2.heap.size xl rfl rfl (bv (zs 32)) _ (heap_alloc_new _ _) HFIT.out.1 HFIT.out.2 HX1.out ?_; intro wr HG3 hg3))
  have hbw : Below w.heap.size w wr := below_grow (hbw2.alloc hbw2.size _) hg3 hbw2.size (by simp)
  have hrow7 := HG3.out
  have hlt3o := (Array.getElem?_eq_some_iff.1 hrow3).1
  have hrow3 : wr.heap[w.heap.size]? = some (.cells h 25 (0, 0)) := (hg3.block _ (by simp; omega) (by simp; omega)).trans ((heap_alloc_old _ _ hlt3o).trans hrow3)
  have hlt3 := (Array.getElem?_eq_some_iff.1 hrow3).1
  have hlt7 := (Array.getElem?_eq_some_iff.1 hrow7).1
  have hszx := HROW.out.1
  have hszh := HROW.out.2
  generalize w2.heap.size = g7 at *
  simp only [Act.put]
  obtain ⟨x, hx⟩ : ∃ x, x = xl.toArray := ⟨_, rfl⟩
  rw [← hx] at HN1 HN2 HEx hrow7 hszx ⊢
  have hzero : ∀ w : World, Sem.run Tryd.prog (zeroValue 25) w = .ok (.agg z) w := fun w => by rw [HZZ.out]; exact hz w
  clear hx hz HG3 hg3 HFIT HX1 HROW HN0 hT hbw2
  refine wp_region_steps [some 13, some 14, some 15, some 16, some 17, some 18, some 19, some 20, some 21, some 22, some 23, some 24, some 25, some 26, some 27, some 28, some 29, some 30, some 31, some 32, some 33, some 34, some 35, some 36, some 37, some 38, some 39, some 40, some 6] [] (nwF h x y z a b) (fun _ wx wy => Below wx.heap.size wx wy) (fun wx => Below wr.heap.size wr wx) (by kernel_rfl) (by kernel_rfl) rfl (by kernel_rfl) (Below.refl _ _).drew (fun _ wx => Below.refl _ _) (fun _ wx wy h k => h.trans (k.mono h.size)) ?hF ?hstep ?hend
  case hF =>
    exact ⟨fun _ _ _ _ _ _ h => h, ⟨fun _ _ _ _ _ _ h => h, ⟨fun _ _ _ _ _ _ h => h, ⟨fun _ _ _ _ _ _ h => h, ⟨fun _ _ _ _ _ _ h => h, ⟨fun _ _ _ _ _ _ h => h, ⟨fun _ _ _ _ _ _ h => h, ⟨fun _ _ _ _ _ _ h => h, ⟨fun _ _ _ _ _ _ h => h, ⟨fun _ _ _ _ _ _ h => h, ⟨fun _ _ _ _ _ _ h => h, ⟨fun _ _ _ _ _ _ h => h, ⟨fun _ _ _ _ _ _ h => h, ⟨fun _ _ _ _ _ _ h => h, ⟨fun _ _ _ _ _ _ h => h, ⟨fun _ _ _ _ _ _ h => h, ⟨fun _ _ _ _ _ _ h => h, ⟨fun _ _ _ _ _ _ h => h, ⟨fun _ _ _ _ _ _ h => h, ⟨fun _ _ _ _ _ _ h => h, ⟨fun _ _ _ _ _ _ h => h, ⟨fun _ _ _ _ _ _ h => h, ⟨fun _ _ _ _ _ _ h => h, ⟨fun _ _ _ _ _ _ h => h, ⟨fun _ _ _ _ _ _ h => h, ⟨fun _ _ _ _ _ _ h => h, ⟨fun _ _ _ _ _ _ h => h, ⟨fun _ _ _ _ _ _ h => h, ⟨fun _ _ _ _ _ _ h => h, trivial⟩⟩⟩⟩⟩⟩⟩⟩⟩⟩⟩⟩⟩⟩⟩⟩⟩⟩⟩⟩⟩⟩⟩⟩⟩⟩⟩⟩⟩
  case hstep =>
    -- operation 0: Op.load 25 (tmp 7)
    refine ⟨fun r wx hG hs hq hf => ?_, ?_⟩
    · have e7 : r 7 = .pointer (some ⟨g7, 0, none⟩) := hs 7 rfl
      refine (if_pos rfl).symm ▸ ?_
      clear hs hq hf
      unfold gives
      refine gives_load_row 25 _ rfl g7 e7 25 x (0, 0) _ ((hG.block _ hlt7).trans hrow7) Tryd.underlying25 rfl hszx ⟨Below.refl _ _, rfl⟩
    -- operation 1: Op.load 25 (tmp 3)
    refine ⟨fun r wx hG hs hq hf => ?_, ?_⟩
    · have e3 : r 3 = .pointer (some ⟨w.heap.size, 0, none⟩) := hs 3 rfl
      refine (if_pos rfl).symm ▸ ?_
      clear hs hq hf
      unfold gives
      refine gives_load_row 25 _ rfl w.heap.size e3 25 h (0, 0) _ ((hG.block _ hlt3).trans hrow3) Tryd.underlying25 rfl hszh ⟨Below.refl _ _, rfl⟩
    -- operation 2: Op.move (tmp 1)
    refine ⟨fun r wx hG hs hq hf => ?_, ?_⟩
    · have e1 : r 1 = .int .i64 a := hs 1 rfl
      refine (if_pos rfl).symm ▸ ?_
      clear hs hq hf
      unfold gives
      go_simp
      exact ⟨Below.refl _ _, rfl⟩
    -- operation 3: Op.call ( callee := Callee.value (func 16), args := #[tmp 14, tmp 15], argTypes := #[25, 3] )
    refine ⟨fun r wx hG hs hq hf => ?_, ?_⟩
    · have h1 : r 14 = .agg h := hf.1
      have h2 : r 15 = .int .i64 a := hf.2.1
      refine (if_pos rfl).symm ▸ ?_
      clear hs hq hf
      unfold gives
      go_simp
      refine (HN1.out wx).mono ?_
      rintro e wy ⟨rfl, hb1⟩
      exact ⟨_, rfl, hb1, rfl⟩
    -- operation 4: Op.binOp BinOp.eql 25 (tmp 13) (tmp 16) 25
    refine ⟨fun r wx hG hs hq hf => ?_, ?_⟩
    · have h0 : r 13 = .agg x := hf.1
      have h3 : r 16 = .agg x := hf.2.1
      refine (if_pos rfl).symm ▸ ?_
      clear hs hq hf
      unfold gives
      have hgd := eq_guard
      have he := HEx.out wx
      go_simp
      exact ⟨Below.refl _ _, rfl⟩
    -- operation 5: Op.move (tmp 17)
    refine ⟨fun r wx hG hs hq hf => ?_, ?_⟩
    · have h4 : r 17 = .bool true := hf.1
      refine (if_pos rfl).symm ▸ ?_
      clear hs hq hf
      unfold gives
      go_simp
      exact ⟨Below.refl _ _, rfl⟩
    -- operation 6: Op.load 25 (tmp 7)
    refine ⟨fun r wx hG hs hq hf => ?_, ?_⟩
    · have e7 : r 7 = .pointer (some ⟨g7, 0, none⟩) := hs 7 rfl
      have h5 : r 18 = .bool true := hf.1
      have hy : ydD [some 13, some 14, some 15, some 16, some 17, some 18, some 19, some 20, some 21, some 22, some 23, some 24, some 25, some 26, some 27, some 28, some 29, some 30, some 31, some 32, some 33, some 34, some 35, some 36, some 37, some 38, some 39, some 40, some 6] r 5 = some true := by show (match r 18 with | .bool b => some b | _ => none) = some true; rw [h5]
      simp only [Region.wanted, hy, beq_self_eq_true, if_true]
      clear hs hq hf hy
      unfold gives
      refine gives_load_row 25 _ rfl g7 e7 25 x (0, 0) _ ((hG.block _ hlt7).trans hrow7) Tryd.underlying25 rfl hszx ⟨Below.refl _ _, rfl⟩
    -- operation 7: Op.move (tmp 2)
    refine ⟨fun r wx hG hs hq hf => ?_, ?_⟩
    · have e2 : r 2 = .int .i64 b := hs 2 rfl
      have h5 : r 18 = .bool true := hf.1
      have hy : ydD [some 13, some 14, some 15, some 16, some 17, some 18, some 19, some 20, some 21, some 22, some 23, some 24, some 25, some 26, some 27, some 28, some 29, some 30, some 31, some 32, some 33, some 34, some 35, some 36, some 37, some 38, some 39, some 40, some 6] r 5 = some true := by show (match r 18 with | .bool b => some b | _ => none) = some true; rw [h5]
      simp only [Region.wanted, hy, beq_self_eq_true, if_true]
      clear hs hq hf hy
      unfold gives
      go_simp
      exact ⟨Below.refl _ _, rfl⟩
    -- operation 8: Op.call ( callee := Callee.value (func 15), args := #[tmp 19, tmp 20], argTypes := #[25, 3] )
    refine ⟨fun r wx hG hs hq hf => ?_, ?_⟩
    · have h6 : r 19 = .agg x := hf.1
      have h7 : r 20 = .int .i64 b := hf.2.1
      have h5 : r 18 = .bool true := hf.2.2.1
      have hy : ydD [some 13, some 14, some 15, some 16, some 17, some 18, some 19, some 20, some 21, some 22, some 23, some 24, some 25, some 26, some 27, some 28, some 29, some 30, some 31, some 32, some 33, some 34, some 35, some 36, some 37, some 38, some 39, some 40, some 6] r 5 = some true := by show (match r 18 with | .bool b => some b | _ => none) = some true; rw [h5]
      simp only [Region.wanted, hy, beq_self_eq_true, if_true]
      clear hs hq hf hy
      unfold gives
      go_simp
      refine (HN2.out wx).mono ?_
      rintro e wy ⟨rfl, hb1⟩
      exact ⟨_, rfl, hb1, rfl⟩
    -- operation 9: Op.load 25 (tmp 3)
    refine ⟨fun r wx hG hs hq hf => ?_, ?_⟩
    · have e3 : r 3 = .pointer (some ⟨w.heap.size, 0, none⟩) := hs 3 rfl
      have h5 : r 18 = .bool true := hf.1
      have hy : ydD [some 13, some 14, some 15, some 16, some 17, some 18, some 19, some 20, some 21, some 22, some 23, some 24, some 25, some 26, some 27, some 28, some 29, some 30, some 31, some 32, some 33, some 34, some 35, some 36, some 37, some 38, some 39, some 40, some 6] r 5 = some true := by show (match r 18 with | .bool b => some b | _ => none) = some true; rw [h5]
      simp only [Region.wanted, hy, beq_self_eq_true, if_true]
      clear hs hq hf hy
      unfold gives
      refine gives_load_row 25 _ rfl w.heap.size e3 25 h (0, 0) _ ((hG.block _ hlt3).trans hrow3) Tryd.underlying25 rfl hszh ⟨Below.refl _ _, rfl⟩
    -- operation 10: Op.move (tmp 1)
    refine ⟨fun r wx hG hs hq hf => ?_, ?_⟩
    · have e1 : r 1 = .int .i64 a := hs 1 rfl
      have h5 : r 18 = .bool true := hf.1
      have hy : ydD [some 13, some 14, some 15, some 16, some 17, some 18, some 19, some 20, some 21, some 22, some 23, some 24, some 25, some 26, some 27, some 28, some 29, some 30, some 31, some 32, some 33, some 34, some 35, some 36, some 37, some 38, some 39, some 40, some 6] r 5 = some true := by show (match r 18 with | .bool b => some b | _ => none) = some true; rw [h5]
      simp only [Region.wanted, hy, beq_self_eq_true, if_true]
      clear hs hq hf hy
      unfold gives
      go_simp
      exact ⟨Below.refl _ _, rfl⟩
    -- operation 11: Op.move (tmp 2)
    refine ⟨fun r wx hG hs hq hf => ?_, ?_⟩
    · have e2 : r 2 = .int .i64 b := hs 2 rfl
      have h5 : r 18 = .bool true := hf.1
      have hy : ydD [some 13, some 14, some 15, some 16, some 17, some 18, some 19, some 20, some 21, some 22, some 23, some 24, some 25, some 26, some 27, some 28, some 29, some 30, some 31, some 32, some 33, some 34, some 35, some 36, some 37, some 38, some 39, some 40, some 6] r 5 = some true := by show (match r 18 with | .bool b => some b | _ => none) = some true; rw [h5]
      simp only [Region.wanted, hy, beq_self_eq_true, if_true]
      clear hs hq hf hy
      unfold gives
      go_simp
      exact ⟨Below.refl _ _, rfl⟩
    -- operation 12: Op.call ( callee := Callee.builtin Builtin.min, args := #[tmp 23, tmp 24], argTypes := #[3, 3] )
    refine ⟨fun r wx hG hs hq hf => ?_, ?_⟩
    · have h10 : r 23 = .int .i64 a := hf.1
      have h11 : r 24 = .int .i64 b := hf.2.1
      have h5 : r 18 = .bool true := hf.2.2.1
      have hy : ydD [some 13, some 14, some 15, some 16, some 17, some 18, some 19, some 20, some 21, some 22, some 23, some 24, some 25, some 26, some 27, some 28, some 29, some 30, some 31, some 32, some 33, some 34, some 35, some 36, some 37, some 38, some 39, some 40, some 6] r 5 = some true := by show (match r 18 with | .bool b => some b | _ => none) = some true; rw [h5]
      simp only [Region.wanted, hy, beq_self_eq_true, if_true]
      clear hs hq hf hy
      unfold gives
      have hmin : (if b < a then b else a) = min a b := by split <;> omega
      go_simp
      exact ⟨Below.refl _ _, by simp only [nwF]⟩
    -- operation 13: Op.call ( callee := Callee.value (func 15), args := #[tmp 22, tmp 25], argTypes := #[25, 3] )
    refine ⟨fun r wx hG hs hq hf => ?_, ?_⟩
    · have h9 : r 22 = .agg h := hf.1
      have h12 : r 25 = .int .i64 (min a b) := hf.2.1
      have h5 : r 18 = .bool true := hf.2.2.2.1
      have hy : ydD [some 13, some 14, some 15, some 16, some 17, some 18, some 19, some 20, some 21, some 22, some 23, some 24, some 25, some 26, some 27, some 28, some 29, some 30, some 31, some 32, some 33, some 34, some 35, some 36, some 37, some 38, some 39, some 40, some 6] r 5 = some true := by show (match r 18 with | .bool b => some b | _ => none) = some true; rw [h5]
      simp only [Region.wanted, hy, beq_self_eq_true, if_true]
      clear hs hq hf hy
      unfold gives
      go_simp
      refine (HN3.out wx).mono ?_
      rintro e wy ⟨rfl, hb1⟩
      exact ⟨_, rfl, hb1, rfl⟩
    -- operation 14: Op.binOp BinOp.eql 25 (tmp 21) (tmp 26) 25
    refine ⟨fun r wx hG hs hq hf => ?_, ?_⟩
    · have h8 : r 21 = .agg y := hf.1
      have h13 : r 26 = .agg y := hf.2.1
      have h5 : r 18 = .bool true := hf.2.2.1
      have hy : ydD [some 13, some 14, some 15, some 16, some 17, some 18, some 19, some 20, some 21, some 22, some 23, some 24, some 25, some 26, some 27, some 28, some 29, some 30, some 31, some 32, some 33, some 34, some 35, some 36, some 37, some 38, some 39, some 40, some 6] r 5 = some true := by show (match r 18 with | .bool b => some b | _ => none) = some true; rw [h5]
      simp only [Region.wanted, hy, beq_self_eq_true, if_true]
      clear hs hq hf hy
      unfold gives
      have hgd := eq_guard
      have he := HEy.out wx
      go_simp
      exact ⟨Below.refl _ _, rfl⟩
    -- operation 15: Op.pick (tmp 18) (tmp 27) (const (Value.bool false))
    refine ⟨fun r wx hG hs hq hf => ?_, ?_⟩
    · have h5 : r 18 = .bool true := hf.1
      have h14 : r 27 = .bool true := hf.2.1
      refine (if_pos rfl).symm ▸ ?_
      clear hs hq hf
      unfold gives
      go_simp
      exact ⟨Below.refl _ _, rfl⟩
    -- operation 16: Op.move (tmp 28)
    refine ⟨fun r wx hG hs hq hf => ?_, ?_⟩
    · have h15 : r 28 = .bool true := hf.1
      refine (if_pos rfl).symm ▸ ?_
      clear hs hq hf
      unfold gives
      go_simp
      exact ⟨Below.refl _ _, rfl⟩
    -- operation 17: Op.load 25 (tmp 3)
    refine ⟨fun r wx hG hs hq hf => ?_, ?_⟩
    · have e3 : r 3 = .pointer (some ⟨w.heap.size, 0, none⟩) := hs 3 rfl
      have h16 : r 29 = .bool true := hf.1
      have hy : ydD [some 13, some 14, some 15, some 16, some 17, some 18, some 19, some 20, some 21, some 22, some 23, some 24, some 25, some 26, some 27, some 28, some 29, some 30, some 31, some 32, some 33, some 34, some 35, some 36, some 37, some 38, some 39, some 40, some 6] r 16 = some true := by show (match r 29 with | .bool b => some b | _ => none) = some true; rw [h16]
      simp only [Region.wanted, hy, beq_self_eq_true, if_true]
      clear hs hq hf hy
      unfold gives
      refine gives_load_row 25 _ rfl w.heap.size e3 25 h (0, 0) _ ((hG.block _ hlt3).trans hrow3) Tryd.underlying25 rfl hszh ⟨Below.refl _ _, rfl⟩
    -- operation 18: Op.call ( callee := Callee.value (func 15), args := #[tmp 30, const (Value.int IntKind.i64 256)], argTypes := #[25, 3] )
    refine ⟨fun r wx hG hs hq hf => ?_, ?_⟩
    · have h17 : r 30 = .agg h := hf.1
      have h16 : r 29 = .bool true := hf.2.1
      have hy : ydD [some 13, some 14, some 15, some 16, some 17, some 18, some 19, some 20, some 21, some 22, some 23, some 24, some 25, some 26, some 27, some 28, some 29, some 30, some 31, some 32, some 33, some 34, some 35, some 36, some 37, some 38, some 39, some 40, some 6] r 16 = some true := by show (match r 29 with | .bool b => some b | _ => none) = some true; rw [h16]
      simp only [Region.wanted, hy, beq_self_eq_true, if_true]
      clear hs hq hf hy
      unfold gives
      go_simp
      refine (HN4.out wx).mono ?_
      rintro e wy ⟨rfl, hb1⟩
      exact ⟨_, rfl, hb1, rfl⟩
    -- operation 19: Op.load 25 (tmp 3)
    refine ⟨fun r wx hG hs hq hf => ?_, ?_⟩
    · have e3 : r 3 = .pointer (some ⟨w.heap.size, 0, none⟩) := hs 3 rfl
      have h16 : r 29 = .bool true := hf.1
      have hy : ydD [some 13, some 14, some 15, some 16, some 17, some 18, some 19, some 20, some 21, some 22, some 23, some 24, some 25, some 26, some 27, some 28, some 29, some 30, some 31, some 32, some 33, some 34, some 35, some 36, some 37, some 38, some 39, some 40, some 6] r 16 = some true := by show (match r 29 with | .bool b => some b | _ => none) = some true; rw [h16]
      simp only [Region.wanted, hy, beq_self_eq_true, if_true]
      clear hs hq hf hy
      unfold gives
      refine gives_load_row 25 _ rfl w.heap.size e3 25 h (0, 0) _ ((hG.block _ hlt3).trans hrow3) Tryd.underlying25 rfl hszh ⟨Below.refl _ _, rfl⟩
    -- operation 20: Op.binOp BinOp.eql 25 (tmp 31) (tmp 32) 25
    refine ⟨fun r wx hG hs hq hf => ?_, ?_⟩
    · have h18 : r 31 = .agg h := hf.1
      have h19 : r 32 = .agg h := hf.2.1
      have h16 : r 29 = .bool true := hf.2.2.1
      have hy : ydD [some 13, some 14, some 15, some 16, some 17, some 18, some 19, some 20, some 21, some 22, some 23, some 24, some 25, some 26, some 27, some 28, some 29, some 30, some 31, some 32, some 33, some 34, some 35, some 36, some 37, some 38, some 39, some 40, some 6] r 16 = some true := by show (match r 29 with | .bool b => some b | _ => none) = some true; rw [h16]
      simp only [Region.wanted, hy, beq_self_eq_true, if_true]
      clear hs hq hf hy
      unfold gives
      have hgd := eq_guard
      have he := HEh.out wx
      go_simp
      exact ⟨Below.refl _ _, rfl⟩
    -- operation 21: Op.pick (tmp 29) (tmp 33) (const (Value.bool false))
    refine ⟨fun r wx hG hs hq hf => ?_, ?_⟩
    · have h16 : r 29 = .bool true := hf.1
      have h20 : r 33 = .bool true := hf.2.1
      refine (if_pos rfl).symm ▸ ?_
      clear hs hq hf
      unfold gives
      go_simp
      exact ⟨Below.refl _ _, rfl⟩
    -- operation 22: Op.move (tmp 34)
    refine ⟨fun r wx hG hs hq hf => ?_, ?_⟩
    · have h21 : r 34 = .bool true := hf.1
      refine (if_pos rfl).symm ▸ ?_
      clear hs hq hf
      unfold gives
      go_simp
      exact ⟨Below.refl _ _, rfl⟩
    -- operation 23: Op.load 25 (tmp 3)
    refine ⟨fun r wx hG hs hq hf => ?_, ?_⟩
    · have e3 : r 3 = .pointer (some ⟨w.heap.size, 0, none⟩) := hs 3 rfl
      have h22 : r 35 = .bool true := hf.1
      have hy : ydD [some 13, some 14, some 15, some 16, some 17, some 18, some 19, some 20, some 21, some 22, some 23, some 24, some 25, some 26, some 27, some 28, some 29, some 30, some 31, some 32, some 33, some 34, some 35, some 36, some 37, some 38, some 39, some 40, some 6] r 22 = some true := by show (match r 35 with | .bool b => some b | _ => none) = some true; rw [h22]
      simp only [Region.wanted, hy, beq_self_eq_true, if_true]
      clear hs hq hf hy
      unfold gives
      refine gives_load_row 25 _ rfl w.heap.size e3 25 h (0, 0) _ ((hG.block _ hlt3).trans hrow3) Tryd.underlying25 rfl hszh ⟨Below.refl _ _, rfl⟩
    -- operation 24: Op.call ( callee := Callee.value (func 15), args := #[tmp 36, const (Value.int IntKind.i64 0)], argTypes := #[25, 3] )
    refine ⟨fun r wx hG hs hq hf => ?_, ?_⟩
    · have h23 : r 36 = .agg h := hf.1
      have h22 : r 35 = .bool true := hf.2.1
      have hy : ydD [some 13, some 14, some 15, some 16, some 17, some 18, some 19, some 20, some 21, some 22, some 23, some 24, some 25, some 26, some 27, some 28, some 29, some 30, some 31, some 32, some 33, some 34, some 35, some 36, some 37, some 38, some 39, some 40, some 6] r 22 = some true := by show (match r 35 with | .bool b => some b | _ => none) = some true; rw [h22]
      simp only [Region.wanted, hy, beq_self_eq_true, if_true]
      clear hs hq hf hy
      unfold gives
      go_simp
      refine (HN5.out wx).mono ?_
      rintro e wy ⟨rfl, hb1⟩
      exact ⟨_, rfl, hb1, rfl⟩
    -- operation 25: Op.build 25 #[]
    refine ⟨fun r wx hG hs hq hf => ?_, ?_⟩
    · have h22 : r 35 = .bool true := hf.1
      have hy : ydD [some 13, some 14, some 15, some 16, some 17, some 18, some 19, some 20, some 21, some 22, some 23, some 24, some 25, some 26, some 27, some 28, some 29, some 30, some 31, some 32, some 33, some 34, some 35, some 36, some 37, some 38, some 39, some 40, some 6] r 22 = some true := by show (match r 35 with | .bool b => some b | _ => none) = some true; rw [h22]
      simp only [Region.wanted, hy, beq_self_eq_true, if_true]
      clear hs hq hf hy
      unfold gives
      have hz := hzero wx
      go_simp
      exact ⟨Below.refl _ _, rfl⟩
    -- operation 26: Op.binOp BinOp.eql 25 (tmp 37) (tmp 38) 25
    refine ⟨fun r wx hG hs hq hf => ?_, ?_⟩
    · have h24 : r 37 = .agg z := hf.1
      have h25 : r 38 = .agg z := hf.2.1
      have h22 : r 35 = .bool true := hf.2.2.1
      have hy : ydD [some 13, some 14, some 15, some 16, some 17, some 18, some 19, some 20, some 21, some 22, some 23, some 24, some 25, some 26, some 27, some 28, some 29, some 30, some 31, some 32, some 33, some 34, some 35, some 36, some 37, some 38, some 39, some 40, some 6] r 22 = some true := by show (match r 35 with | .bool b => some b | _ => none) = some true; rw [h22]
      simp only [Region.wanted, hy, beq_self_eq_true, if_true]
      clear hs hq hf hy
      unfold gives
      have hgd := eq_guard
      have he := HEz.out wx
      go_simp
      exact ⟨Below.refl _ _, rfl⟩
    -- operation 27: Op.pick (tmp 35) (tmp 39) (const (Value.bool false))
    refine ⟨fun r wx hG hs hq hf => ?_, ?_⟩
    · have h22 : r 35 = .bool true := hf.1
      have h26 : r 39 = .bool true := hf.2.1
      refine (if_pos rfl).symm ▸ ?_
      clear hs hq hf
      unfold gives
      go_simp
      exact ⟨Below.refl _ _, rfl⟩
    -- operation 28: Op.assign (tmp 40)
    refine ⟨fun r wx hG hs hq hf => ?_, ?_⟩
    · have h27 : r 40 = .bool true := hf.1
      refine (if_pos rfl).symm ▸ ?_
      clear hs hq hf
      unfold gives
      go_simp
      exact ⟨Below.refl _ _, rfl⟩
    exact trivial
  case hend =>
    intro u wz hG hfin
    have z28 : u 28 = .bool true := hfin 28 (by decide) (by kernel_rfl)
    clear hfin
    simp only [fill]
    go_simp
    go_wp2_with fail
    go_ret
    exact ⟨rfl, hbw.trans (hG.mono hbw.size)⟩
end Go.Proofs.YtkcnakijfmemlaaDoor
