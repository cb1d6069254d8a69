/- head.Check, Holds, Follows, and the reference's. (printed by gen/hdf.py) -/
import Derived.Test.YtgimblpdmlnfeaaDoorHdH
import Derived.Test.YtgimblpdmlnfeaaDoorPathE
import Derived.Test.YtgimblpdmlnfeaaDoorGrK
import Derived.Test.YtgimblpdmlnfeaaDoorLeafJR
namespace Go.Proofs.YtgimblpdmlnfeaaDoor
open Go.RowKit Sha Root Path Growth

/-- Does a head hold a text, by a proof? -/
def holdsB (W : Int) (z : Nat) (rt : List UInt8) (i : Nat) (text : List UInt8) (ps : List (List UInt8)) : Bool := climbE i z ps.length == 0 && climbH W (leafH W text) i z ps == rt
theorem wpList_load_mid {P : Program} {ops : Array Oper} {rest : List Oper} {o : Oper} {a : Act} {w : World} {Q : Exit → Act → World → Prop} (hgd : o.guard = none) (ty : TypeId) (x : Operand) (ho : o.op = .load ty x)
    (g off : Nat) (hx : a.eval x = .pointer (some ⟨g, off, none⟩)) (cs : List Value) (d : TypeDesc) (hc : w.rangeAt g off cs)
    (hu : P.underlying ty = some d) (hd : d.isRow = true) (hi : (P.info? ty).map (·.size) = some cs.length)
    (h : wpList P ops Q rest (a.put o.dst (.agg cs.toArray)) w) : wpList P ops Q (o :: rest) a w := by
  refine wpList_plain hgd fun K hK => ?_
  unfold Oper.wp execOp
  simp only [ho, hx, Instr.loadAt, Instr.sureAddr, Sem.run_bind, Sem.run_pure, Result.andThen_ok, run_loadVar_mid w g off ty cs d hc hu hd hi]
  exact hK _ _ h
/-- What each operation hands on. -/
def hhoP (W : Int) (_n z i tc pc B : Nat) (text rt _mk lh : List UInt8) (ps : List (List UInt8)) (ta pa : Option Addr) (bb : Bool) : Nat → Value → Prop
  | 0, v => v = .int .i64 W
  | 1, v => v = .int .i64 W
  | 2, v => v = .slice ta text.length tc
  | 3, v => v = .agg (bv lh).toArray
  | 4, v => v = .int .u64 i
  | 5, v => v = .pointer (some ⟨B, 1, none⟩)
  | 6, v => v = .int .u64 z
  | 7, v => v = .slice pa ps.length pc
  | 8, v => v = .pointer (some ⟨B, 2, none⟩)
  | 9, v => v = .agg (bv rt).toArray
  | 10, v => v = .bool bb
  | 11, v => v = .bool bb
  | _, _ => True
set_option maxHeartbeats 4000000 in
set_option maxRecDepth 100000 in
theorem Holds_any (W : Int) (n z i : Nat) (rt mk text : List UInt8) (ps : List (List UInt8)) (vt vp : Value) (w : World) (hW : -9223372036854775808 ≤ W ∧ W ≤ 9223372036854775807) (hz : z < 18446744073709551616) (hi : i < 18446744073709551616) (hrt : rt.length = 32) (hmk : mk.length = 32)
    (hl : text.length ≤ 140737488354000) (hrx : Rd w 1 vt text.length (bv text)) (h32 : ∀ p ∈ ps, p.length = 32) (hpl : ps.length ≤ 140737488355328) (hrp : Rd w 32 vp ps.length (ps.flatMap bv)) (hG : Tabs w) :
    Calls Tryd.prog 28 #[.int .i64 W, .agg (hdL n z rt mk).toArray, .int .u64 i, vt, vp] w fun e w' => e = .returned (.bool (holdsB W z rt i text ps)) ∧ Below w.heap.size w w' := by
  obtain ⟨ta, tc, rfl⟩ := hrx.form
  obtain ⟨pa, pc, rfl⟩ := hrp.form
  obtain ⟨B, hB⟩ : ∃ B, B = w.heap.size := ⟨_, rfl⟩
  obtain ⟨w1, hw1⟩ : ∃ x : World, x = w.alloc (.cells (hdL n z rt mk).toArray 37) := ⟨_, rfl⟩
  have hrow : w1.heap[B]? = some (.cells (hdL n z rt mk).toArray 37 (0, 0)) := by rw [hw1, hB]; exact heap_alloc_new _ _
  have hbw : Below w.heap.size w w1 := by rw [hw1]; exact (Below.refl _ _).alloc (Nat.le_refl _) _
  have HRW := Lib.hid (And.intro hrow hbw)
  have HW1 := Lib.hid hw1
  have HB := Lib.hid hB
  have HLN := Lib.hid (And.intro hrt hmk)
  have hlf := fun wx (hb : KeptT [] w1 wx) => Leaf_any W text (.slice ta text.length tc) wx hW (by omega) ((hrx.keep hbw).keep hb.bel) ((hG.keepB hbw).keepB hb.bel)
  have hlh := leafH_length W text
  obtain ⟨lh, hlhe⟩ : ∃ s, s = leafH W text := ⟨_, rfl⟩
  rw [← hlhe] at hlf hlh
  have hck := fun wx (hb : KeptT [] w1 wx) => Check_any W lh rt i z ps pa pc wx hW hlh hrt hi hz h32 hpl ((hrp.keep hbw).keep hb.bel) ((hG.keepB hbw).keepB hb.bel)
  obtain ⟨bb, hbb⟩ : ∃ b, b = (climbE i z ps.length == 0 && climbH W lh i z ps == rt) := ⟨_, rfl⟩
  have hres : holdsB W z rt i text ps = bb := by rw [hbb, hlhe]; rfl
  rw [← hbb] at hck
  rw [hres]
  have HLF := Lib.hid hlf
  have HLH := Lib.hid hlh
  have HCK := Lib.hid hck
  obtain ⟨A, hA⟩ : ∃ A, A = (hdL n z rt mk).toArray := ⟨_, rfl⟩
  rw [← hA]
  have HA := Lib.hid hA
  clear hA hlf hlh hck hbb hres hlhe hrow hbw hw1 hB hrx hrp hG hl h32 hpl hz hi hrt hmk hW
  go_enter Tryd.func28, Tryd.ntmps28
  go_upto_region 1 with fail
  rw [show w.alloc (.cells A 37) = w1 from by rw [HA.out, HW1.out], ← HB.out]

  refine wp_region_desc [some 11, some 12, some 13, some 14, some 15, some 16, some 17, some 18, some 19, some 20, some 21, some 10] [] [] [(0, 0), (0, 0), (0, 0), (0, 0), (0, 0), (0, 0), (0, 0), (0, 0), (0, 0), (0, 0), (0, 0), (0, 0)] [] [] [] [] (hhoP W n z i tc pc B text rt mk lh ps ta pa bb) (fun _ _ _ => True) (fun _ => default) (by kernel_rfl) (by kernel_rfl) rfl (by kernel_rfl) (by kernel_rfl) (by kernel_rfl) rfl trivial (by simp; try omega) rfl (fun i hi => (no4 (by kernel_rfl) i hi).elim) ?hstep ?hend
  case hstep =>
    -- operation 0: Op.move (tmp 0)
    refine ⟨fun r wx hG hs hq hf => ?_, ?_⟩
    · have e0 : r 0 = .int .i64 W := hs 0 rfl
      clear hs hq hf
      refine wanted_pos rfl ?_
      unfold gives
      go_simp
      exact obC_q (Below.refl _ _) rfl
    -- operation 1: Op.move (tmp 0)
    refine ⟨fun r wx hG hs hq hf => ?_, ?_⟩
    · have e0 : r 0 = .int .i64 W := hs 0 rfl
      clear hs hq hf
      refine wanted_pos rfl ?_
      unfold gives
      go_simp
      exact obC_q (Below.refl _ _) rfl
    -- operation 2: Op.move (tmp 3)
    refine ⟨fun r wx hG hs hq hf => ?_, ?_⟩
    · have e3 : r 3 = .slice ta text.length tc := hs 3 rfl
      clear hs hq hf
      refine wanted_pos rfl ?_
      unfold gives
      go_simp
      exact obC_q (Below.refl _ _) rfl
    -- operation 3: Op.call ( callee := Callee.value (func 41), args := #[tmp 12, tmp 13], argTypes := #[3, 25] )
    refine ⟨fun r wx hG hs hq hf => ?_, ?_⟩
    · have h1 : r 12 = .int .i64 W := hf.1
      have h2 : r 13 = .slice ta text.length tc := hf.2.1
      clear hs hq hf
      refine wanted_pos rfl ?_
      unfold gives
      go_simp
      refine (HLF.out wx hG).mono ?_
      rintro e wy ⟨rfl, hb1⟩
      exact ⟨_, rfl, obC_q hb1 rfl⟩
    -- operation 4: Op.move (tmp 2)
    refine ⟨fun r wx hG hs hq hf => ?_, ?_⟩
    · have e2 : r 2 = .int .u64 i := hs 2 rfl
      clear hs hq hf
      refine wanted_pos rfl ?_
      unfold gives
      go_simp
      exact obC_q (Below.refl _ _) rfl
    -- operation 5: Op.fieldAddr 37 (tmp 6) 1
    refine ⟨fun r wx hG hs hq hf => ?_, ?_⟩
    · have e6 : r 6 = .pointer (some ⟨B, 0, none⟩) := hs 6 rfl
      clear hs hq hf
      refine wanted_pos rfl ?_
      unfold gives
      go_simp
      exact obC_q (Below.refl _ _) rfl
    -- operation 6: Op.load 33 (tmp 16)
    refine ⟨fun r wx hG hs hq hf => ?_, ?_⟩
    · have h5 : r 16 = .pointer (some ⟨B, 1, none⟩) := hf.1
      clear hs hq hf
      refine wanted_pos rfl ?_
      unfold gives
      have hc := hd_cell1 (hG.row (by simp; try omega) HRW.out.1)
      go_simp
      exact obC_q (Below.refl _ _) rfl
    -- operation 7: Op.move (tmp 4)
    refine ⟨fun r wx hG hs hq hf => ?_, ?_⟩
    · have e4 : r 4 = .slice pa ps.length pc := hs 4 rfl
      clear hs hq hf
      refine wanted_pos rfl ?_
      unfold gives
      go_simp
      exact obC_q (Below.refl _ _) rfl
    -- operation 8: Op.fieldAddr 37 (tmp 6) 2
    refine ⟨fun r wx hG hs hq hf => ?_, ?_⟩
    · have e6 : r 6 = .pointer (some ⟨B, 0, none⟩) := hs 6 rfl
      clear hs hq hf
      refine wanted_pos rfl ?_
      unfold gives
      go_simp
      exact obC_q (Below.refl _ _) rfl
    -- operation 9: Op.load 35 (tmp 19)
    refine ⟨fun r wx hG hs hq hf => ?_, ?_⟩
    · have h8 : r 19 = .pointer (some ⟨B, 2, none⟩) := hf.1
      clear hs hq hf
      refine wanted_pos rfl ?_
      unfold gives
      refine gives_load_mid 35 _ rfl B 2 h8 (bv rt) _ (hd_rng2 (hG.row (by simp; try omega) HRW.out.1)) Tryd.underlying35 rfl (hInfo' _ HLN.out.1) ?_
      exact obC_q (Below.refl _ _) rfl
    -- operation 10: Op.call ( callee := Callee.value (func 40), args := #[tmp 11, tmp 14, tmp 15, tmp 17, tmp 18, tmp 20
    refine ⟨fun r wx hG hs hq hf => ?_, ?_⟩
    · have h0 : r 11 = .int .i64 W := hf.1
      have h3 : r 14 = .agg (bv lh).toArray := hf.2.1
      have h4 : r 15 = .int .u64 i := hf.2.2.1
      have h6 : r 17 = .int .u64 z := hf.2.2.2.1
      have h7 : r 18 = .slice pa ps.length pc := hf.2.2.2.2.1
      have h9 : r 20 = .agg (bv rt).toArray := hf.2.2.2.2.2.1
      clear hs hq hf
      refine wanted_pos rfl ?_
      unfold gives
      go_simp
      refine (HCK.out wx hG).mono ?_
      rintro e wy ⟨rfl, hb1⟩
      exact ⟨_, rfl, obC_q hb1 rfl⟩
    -- operation 11: Op.assign (tmp 21)
    refine ⟨fun r wx hG hs hq hf => ?_, ?_⟩
    · have h10 : r 21 = .bool bb := hf.1
      clear hs hq hf
      refine wanted_pos rfl ?_
      unfold gives
      go_simp
      exact obC_q (Below.refl _ _) rfl
    exact trivial
  case hend =>
    intro u wz hG hfin
    have z11 : u 11 = .bool bb := hfin 11 (by decide) (by kernel_rfl)
    clear hfin
    simp only [fill]
    go_simp
    go_wp2_with fail
    go_ret
    exact ⟨rfl, HRW.out.2.trans (hG.bel.mono HRW.out.2.size)⟩
/-- What each operation hands on. -/
def rho0P (W : Int) (_n z i tc pc B : Nat) (text _rt _mk lh ch : List UInt8) (ps : List (List UInt8)) (ta pa : Option Addr) (ee : Int) : Nat → Value → Prop
  | 0, v => v = .int .i64 W
  | 1, v => v = .int .i64 W
  | 2, v => v = .slice ta text.length tc
  | 3, v => v = .agg (bv lh).toArray
  | 4, v => v = .int .u64 i
  | 5, v => v = .pointer (some ⟨B, 1, none⟩)
  | 6, v => v = .int .u64 z
  | 7, v => v = .slice pa ps.length pc
  | 8, v => v = .tuple #[.agg (bv ch).toArray, .int .i64 ee]
  | 9, v => v = .tuple #[.agg (bv ch).toArray, .int .i64 ee]
  | 10, v => v = .agg (bv ch).toArray
  | 11, v => v = .int .i64 ee
  | 14, v => v = .int .i64 ee
  | _, _ => True
def rho0O (_W : Int) (_n _z _i _tc _pc _B : Nat) (_text _rt _mk _lh ch : List UInt8) (_ps : List (List UInt8)) (_ta _pa : Option Addr) (_ee : Int) : Nat → Obj
  | 12 => .cells (bv (zs 32)).toArray 35 (0, 0)
  | 13 => .cells (bv ch).toArray 35 (0, 0)
  | _ => default
/-- What each operation hands on. -/
def rho1P (W : Int) (_n z i tc pc B : Nat) (text _rt _mk lh ch : List UInt8) (ps : List (List UInt8)) (ta pa : Option Addr) (ee : Int) : Nat → Value → Prop
  | 0, v => v = .int .i64 W
  | 1, v => v = .int .i64 W
  | 2, v => v = .slice ta text.length tc
  | 3, v => v = .agg (bv lh).toArray
  | 4, v => v = .int .u64 i
  | 5, v => v = .pointer (some ⟨B, 1, none⟩)
  | 6, v => v = .int .u64 z
  | 7, v => v = .slice pa ps.length pc
  | 8, v => v = .tuple #[.agg (bv ch).toArray, .int .i64 ee]
  | 9, v => v = .tuple #[.agg (bv ch).toArray, .int .i64 ee]
  | 10, v => v = .agg (bv ch).toArray
  | 11, v => v = .int .i64 ee
  | 14, v => v = .int .i64 ee
  | _, _ => True
def rho1O (_W : Int) (_n _z _i _tc _pc _B : Nat) (_text _rt _mk _lh ch : List UInt8) (_ps : List (List UInt8)) (_ta _pa : Option Addr) (_ee : Int) : Nat → Obj
  | 12 => .cells (bv (zs 32)).toArray 35 (0, 0)
  | 13 => .cells (bv ch).toArray 35 (0, 0)
  | _ => default
set_option maxHeartbeats 4000000 in
set_option maxRecDepth 100000 in
theorem refHolds_any (W : Int) (n z i : Nat) (rt mk text : List UInt8) (ps : List (List UInt8)) (vt vp : Value) (w : World) (hW : -9223372036854775808 ≤ W ∧ W ≤ 9223372036854775807) (hz : z < 18446744073709551616) (hi : i < 18446744073709551616) (hrt : rt.length = 32) (hmk : mk.length = 32)
    (hl : text.length ≤ 140737488354000) (hrx : Rd w 1 vt text.length (bv text)) (h32 : ∀ p ∈ ps, p.length = 32) (hpl : ps.length ≤ 140737488355328) (hrp : Rd w 32 vp ps.length (ps.flatMap bv)) (hG : TabsR w) :
    Calls Tryd.prog 29 #[.int .i64 W, .agg (hdL n z rt mk).toArray, .int .u64 i, vt, vp] w fun e w' => e = .returned (.bool (holdsB W z rt i text ps)) ∧ Below w.heap.size w w' := by
  obtain ⟨ta, tc, rfl⟩ := hrx.form
  obtain ⟨pa, pc, rfl⟩ := hrp.form
  obtain ⟨B, hB⟩ : ∃ B, B = w.heap.size := ⟨_, rfl⟩
  obtain ⟨w1, hw1⟩ : ∃ x : World, x = w.alloc (.cells (hdL n z rt mk).toArray 37) := ⟨_, rfl⟩
  have hrow : w1.heap[B]? = some (.cells (hdL n z rt mk).toArray 37 (0, 0)) := by rw [hw1, hB]; exact heap_alloc_new _ _
  have hbw : Below w.heap.size w w1 := by rw [hw1]; exact (Below.refl _ _).alloc (Nat.le_refl _) _
  have HRW := Lib.hid (And.intro hrow hbw)
  have HW1 := Lib.hid hw1
  have HB := Lib.hid hB
  have HLN := Lib.hid (And.intro hrt hmk)
  have hlf := fun wx (hb : KeptT [] w1 wx) => refLeaf_any W text (.slice ta text.length tc) wx hW (by omega) ((hrx.keep hbw).keep hb.bel) ((hG.keepB hbw).keepB hb.bel)
  have hlh := leafH_length W text
  obtain ⟨lh, hlhe⟩ : ∃ s, s = leafH W text := ⟨_, rfl⟩
  rw [← hlhe] at hlf hlh
  have hck := fun wx (hb : KeptT [] w1 wx) => refClimb_any W lh i z ps pa pc wx hW hlh hi hz h32 hpl ((hrp.keep hbw).keep hb.bel) ((hG.keepB hbw).keepB hb.bel)
  have hch := climbH_32 W lh i z ps hlh
  have hres : holdsB W z rt i text ps = (climbE i z ps.length == 0 && climbH W lh i z ps == rt) := by rw [hlhe]; rfl
  rw [hres]
  obtain ⟨ch, hche⟩ : ∃ b, b = climbH W lh i z ps := ⟨_, rfl⟩
  obtain ⟨ee, hee⟩ : ∃ b, b = climbE i z ps.length := ⟨_, rfl⟩
  rw [← hche] at hck hch ⊢
  rw [← hee] at hck ⊢
  have HLF := Lib.hid hlf
  have HLH := Lib.hid hlh
  have HCK := Lib.hid hck
  have HCH := Lib.hid hch
  obtain ⟨A, hA⟩ : ∃ A, A = (hdL n z rt mk).toArray := ⟨_, rfl⟩
  rw [← hA]
  have HA := Lib.hid hA
  clear hA hlf hlh hck hch hche hee hres hlhe hrow hbw hw1 hB hrx hrp hG hl h32 hpl hz hi hrt hmk hW
  by_cases hE : ee = 0
  · have hE1 : (ee == 0) = true := by simp [hE]
    have HRS : Hid ((ee == 0 && ch == rt) = (ch == rt)) := Lib.hid (by rw [hE1]; rfl)
    clear hE
    go_enter Tryd.func29, Tryd.ntmps29
    go_upto_region 1 with fail
    rw [show w.alloc (.cells A 37) = w1 from by rw [HA.out, HW1.out], ← HB.out]
    refine wp_region_desc [some 14, some 15, some 16, some 17, some 18, some 19, some 20, some 21, some 22, some 13, some 23, some 24, some 11, none, some 12] [] [] [(0, 0), (0, 0), (0, 0), (0, 0), (0, 0), (0, 0), (0, 0), (0, 0), (0, 0), (0, 0), (0, 0), (0, 0), (1, 0), (3, 12), (0, 0)] [12] [] [] [] (rho0P W n z i tc pc B text rt mk lh ch ps ta pa ee) (fun _ _ _ => True) (rho0O W n z i tc pc B text rt mk lh ch ps ta pa ee) (by kernel_rfl) (by kernel_rfl) rfl (by kernel_rfl) (by kernel_rfl) (by kernel_rfl) rfl trivial (by simp; try omega) rfl (fun i hi => (no4 (by kernel_rfl) i hi).elim) ?hstep ?hend
    case hstep =>
      -- operation 0: Op.move (tmp 0)
      refine ⟨fun r wx hG hs hq hf => ?_, ?_⟩
      · have e0 : r 0 = .int .i64 W := hs 0 rfl
        clear hs hq hf
        refine wanted_pos rfl ?_
        unfold gives
        go_simp
        exact obC_q (Below.refl _ _) rfl
      -- operation 1: Op.move (tmp 0)
      refine ⟨fun r wx hG hs hq hf => ?_, ?_⟩
      · have e0 : r 0 = .int .i64 W := hs 0 rfl
        clear hs hq hf
        refine wanted_pos rfl ?_
        unfold gives
        go_simp
        exact obC_q (Below.refl _ _) rfl
      -- operation 2: Op.move (tmp 3)
      refine ⟨fun r wx hG hs hq hf => ?_, ?_⟩
      · have e3 : r 3 = .slice ta text.length tc := hs 3 rfl
        clear hs hq hf
        refine wanted_pos rfl ?_
        unfold gives
        go_simp
        exact obC_q (Below.refl _ _) rfl
      -- operation 3: Op.call ( callee := Callee.value (func 73), args := #[tmp 15, tmp 16], argTypes := #[3, 25] )
      refine ⟨fun r wx hG hs hq hf => ?_, ?_⟩
      · have h1 : r 15 = .int .i64 W := hf.1
        have h2 : r 16 = .slice ta text.length tc := hf.2.1
        clear hs hq hf
        refine wanted_pos rfl ?_
        unfold gives
        go_simp
        refine (HLF.out wx hG).mono ?_
        rintro e wy ⟨rfl, hb1⟩
        exact ⟨_, rfl, obC_q hb1 rfl⟩
      -- operation 4: Op.move (tmp 2)
      refine ⟨fun r wx hG hs hq hf => ?_, ?_⟩
      · have e2 : r 2 = .int .u64 i := hs 2 rfl
        clear hs hq hf
        refine wanted_pos rfl ?_
        unfold gives
        go_simp
        exact obC_q (Below.refl _ _) rfl
      -- operation 5: Op.fieldAddr 37 (tmp 6) 1
      refine ⟨fun r wx hG hs hq hf => ?_, ?_⟩
      · have e6 : r 6 = .pointer (some ⟨B, 0, none⟩) := hs 6 rfl
        clear hs hq hf
        refine wanted_pos rfl ?_
        unfold gives
        go_simp
        exact obC_q (Below.refl _ _) rfl
      -- operation 6: Op.load 33 (tmp 19)
      refine ⟨fun r wx hG hs hq hf => ?_, ?_⟩
      · have h5 : r 19 = .pointer (some ⟨B, 1, none⟩) := hf.1
        clear hs hq hf
        refine wanted_pos rfl ?_
        unfold gives
        have hc := hd_cell1 (hG.row (by simp; try omega) HRW.out.1)
        go_simp
        exact obC_q (Below.refl _ _) rfl
      -- operation 7: Op.move (tmp 4)
      refine ⟨fun r wx hG hs hq hf => ?_, ?_⟩
      · have e4 : r 4 = .slice pa ps.length pc := hs 4 rfl
        clear hs hq hf
        refine wanted_pos rfl ?_
        unfold gives
        go_simp
        exact obC_q (Below.refl _ _) rfl
      -- operation 8: Op.call ( callee := Callee.value (func 72), args := #[tmp 14, tmp 17, tmp 18, tmp 20, tmp 21], argTy
      refine ⟨fun r wx hG hs hq hf => ?_, ?_⟩
      · have h0 : r 14 = .int .i64 W := hf.1
        have h3 : r 17 = .agg (bv lh).toArray := hf.2.1
        have h4 : r 18 = .int .u64 i := hf.2.2.1
        have h6 : r 20 = .int .u64 z := hf.2.2.2.1
        have h7 : r 21 = .slice pa ps.length pc := hf.2.2.2.2.1
        clear hs hq hf
        refine wanted_pos rfl ?_
        unfold gives
        go_simp
        refine (HCK.out wx hG).mono ?_
        rintro e wy ⟨rfl, hb1⟩
        exact ⟨_, rfl, obC_q hb1 rfl⟩
      -- operation 9: Op.move (tmp 22)
      refine ⟨fun r wx hG hs hq hf => ?_, ?_⟩
      · have h8 : r 22 = .tuple #[.agg (bv ch).toArray, .int .i64 ee] := hf.1
        clear hs hq hf
        refine wanted_pos rfl ?_
        unfold gives
        go_simp
        exact obC_q (Below.refl _ _) rfl
      -- operation 10: Op.extract (tmp 13) 0
      refine ⟨fun r wx hG hs hq hf => ?_, ?_⟩
      · have h9 : r 13 = .tuple #[.agg (bv ch).toArray, .int .i64 ee] := hf.1
        clear hs hq hf
        refine wanted_pos rfl ?_
        unfold gives
        go_simp
        exact obC_q (Below.refl _ _) rfl
      -- operation 11: Op.extract (tmp 13) 1
      refine ⟨fun r wx hG hs hq hf => ?_, ?_⟩
      · have h9 : r 13 = .tuple #[.agg (bv ch).toArray, .int .i64 ee] := hf.1
        clear hs hq hf
        refine wanted_pos rfl ?_
        unfold gives
        go_simp
        exact obC_q (Below.refl _ _) rfl
      -- operation 12: Op.alloc 35
      refine ⟨fun r wx hG hs hq hf => ?_, ?_⟩
      · clear hs hq hf
        refine wanted_pos rfl ?_
        unfold gives
        go_simp
        exact obC_al rfl (Nat.le_refl _) (heap_alloc_new _ _) ((Below.refl _ _).alloc (Nat.le_refl _) _)
      -- operation 13: Op.store 35 (tmp 11) (tmp 23)
      refine ⟨fun r wx hG hs hq hf => ?_, ?_⟩
      · have h12 : ∃ g, r 11 = .pointer (some ⟨g, 0, none⟩) ∧ w1.heap.size ≤ g ∧ wx.heap[g]? = some (.cells (bv (zs 32)).toArray 35 (0, 0)) := hf.1
        have h10 : r 23 = .agg (bv ch).toArray := hf.2.1
        clear hs hq hf
        refine wanted_pos rfl ?_
        unfold gives
        obtain ⟨g, hg1, hg2, hg3⟩ := h12
        refine gives_store_row 35 _ _ rfl g (bv ch) hg1 h10 (bv (zs 32)) 35 hg3 (hInfo' _ HCH.out) (by first | rfl | (rw [bv_length, bv_length, HCH.out]; simp [zs])) (bv_one _) ?_
        intro wy h1 h2
        exact obC_sa hg1 hg2 h2 h1
      -- operation 14: Op.assign (tmp 24)
      refine ⟨fun r wx hG hs hq hf => ?_, ?_⟩
      · have h11 : r 24 = .int .i64 ee := hf.1
        have h13 : ∃ g, r 11 = .pointer (some ⟨g, 0, none⟩) ∧ w1.heap.size ≤ g ∧ wx.heap[g]? = some (.cells (bv ch).toArray 35 (0, 0)) := hf.2.1
        clear hs hq hf
        refine wanted_pos rfl ?_
        unfold gives
        go_simp
        exact obC_q (Below.refl _ _) rfl
      exact trivial
    case hend =>
      intro u wz hG hfin
      have z13 : ∃ g, u 12 = .pointer (some ⟨g, 0, none⟩) ∧ w1.heap.size ≤ g ∧ wz.heap[g]? = some (.cells (bv ch).toArray 35 (0, 0)) := hfin 13 (by decide) (by kernel_rfl)
      have z14 : u 14 = .int .i64 ee := hfin 14 (by decide) (by kernel_rfl)
      clear hfin
      obtain ⟨ga12, hga12, hgb12, hgr12⟩ := z13
      simp only [fill]
      have hFR := Lib.hid (And.intro hgr12 (And.intro hgb12 (And.intro hG hga12)))
      clear hgr12 hgb12 hG
      go_simp
      have hrow2 : wz.heap[B]? = some (.cells (hdL n z rt mk).toArray 37 (0, 0)) := hFR.out.2.2.1.row (by simp) HRW.out.1
      have hqe := eqIn_hash ch rt HCH.out HLN.out.1 wz
      have hgd := eq_guard
      have HRL := Lib.hid (hd_rng2 hrow2)
      clear hrow2
      go_wp2_with (first
        | (with_reducible show wpList _ _ _ (⟨some 28, _, _, _, _, _⟩ :: _) _ _; refine wpList_guard rfl ?_; refine wpList_load_row rfl _ _ rfl ga12 rfl _ _ (0, 0) _ hFR.out.1 Tryd.underlying35 rfl (hInfo _ HCH.out) ?_)
        | (with_reducible show wpList _ _ _ (⟨some 30, _, _, _, _, _⟩ :: _) _ _; refine wpList_guard rfl ?_; refine wpList_load_mid rfl _ _ rfl B 2 rfl (bv rt) _ HRL.out Tryd.underlying35 rfl (hInfo' _ HLN.out.1) ?_))
      go_ret
      exact ⟨by rw [HRS.out]; rfl, HRW.out.2.trans (hFR.out.2.2.1.bel.mono HRW.out.2.size)⟩
  · have hE1 : (ee == 0) = false := by simp [hE]
    have HRS : Hid ((ee == 0 && ch == rt) = false) := Lib.hid (by rw [hE1]; rfl)
    clear hE
    go_enter Tryd.func29, Tryd.ntmps29
    go_upto_region 1 with fail
    rw [show w.alloc (.cells A 37) = w1 from by rw [HA.out, HW1.out], ← HB.out]
    refine wp_region_desc [some 14, some 15, some 16, some 17, some 18, some 19, some 20, some 21, some 22, some 13, some 23, some 24, some 11, none, some 12] [] [] [(0, 0), (0, 0), (0, 0), (0, 0), (0, 0), (0, 0), (0, 0), (0, 0), (0, 0), (0, 0), (0, 0), (0, 0), (1, 0), (3, 12), (0, 0)] [12] [] [] [] (rho1P W n z i tc pc B text rt mk lh ch ps ta pa ee) (fun _ _ _ => True) (rho1O W n z i tc pc B text rt mk lh ch ps ta pa ee) (by kernel_rfl) (by kernel_rfl) rfl (by kernel_rfl) (by kernel_rfl) (by kernel_rfl) rfl trivial (by simp; try omega) rfl (fun i hi => (no4 (by kernel_rfl) i hi).elim) ?hstep ?hend
    case hstep =>
      -- operation 0: Op.move (tmp 0)
      refine ⟨fun r wx hG hs hq hf => ?_, ?_⟩
      · have e0 : r 0 = .int .i64 W := hs 0 rfl
        clear hs hq hf
        refine wanted_pos rfl ?_
        unfold gives
        go_simp
        exact obC_q (Below.refl _ _) rfl
      -- operation 1: Op.move (tmp 0)
      refine ⟨fun r wx hG hs hq hf => ?_, ?_⟩
      · have e0 : r 0 = .int .i64 W := hs 0 rfl
        clear hs hq hf
        refine wanted_pos rfl ?_
        unfold gives
        go_simp
        exact obC_q (Below.refl _ _) rfl
      -- operation 2: Op.move (tmp 3)
      refine ⟨fun r wx hG hs hq hf => ?_, ?_⟩
      · have e3 : r 3 = .slice ta text.length tc := hs 3 rfl
        clear hs hq hf
        refine wanted_pos rfl ?_
        unfold gives
        go_simp
        exact obC_q (Below.refl _ _) rfl
      -- operation 3: Op.call ( callee := Callee.value (func 73), args := #[tmp 15, tmp 16], argTypes := #[3, 25] )
      refine ⟨fun r wx hG hs hq hf => ?_, ?_⟩
      · have h1 : r 15 = .int .i64 W := hf.1
        have h2 : r 16 = .slice ta text.length tc := hf.2.1
        clear hs hq hf
        refine wanted_pos rfl ?_
        unfold gives
        go_simp
        refine (HLF.out wx hG).mono ?_
        rintro e wy ⟨rfl, hb1⟩
        exact ⟨_, rfl, obC_q hb1 rfl⟩
      -- operation 4: Op.move (tmp 2)
      refine ⟨fun r wx hG hs hq hf => ?_, ?_⟩
      · have e2 : r 2 = .int .u64 i := hs 2 rfl
        clear hs hq hf
        refine wanted_pos rfl ?_
        unfold gives
        go_simp
        exact obC_q (Below.refl _ _) rfl
      -- operation 5: Op.fieldAddr 37 (tmp 6) 1
      refine ⟨fun r wx hG hs hq hf => ?_, ?_⟩
      · have e6 : r 6 = .pointer (some ⟨B, 0, none⟩) := hs 6 rfl
        clear hs hq hf
        refine wanted_pos rfl ?_
        unfold gives
        go_simp
        exact obC_q (Below.refl _ _) rfl
      -- operation 6: Op.load 33 (tmp 19)
      refine ⟨fun r wx hG hs hq hf => ?_, ?_⟩
      · have h5 : r 19 = .pointer (some ⟨B, 1, none⟩) := hf.1
        clear hs hq hf
        refine wanted_pos rfl ?_
        unfold gives
        have hc := hd_cell1 (hG.row (by simp; try omega) HRW.out.1)
        go_simp
        exact obC_q (Below.refl _ _) rfl
      -- operation 7: Op.move (tmp 4)
      refine ⟨fun r wx hG hs hq hf => ?_, ?_⟩
      · have e4 : r 4 = .slice pa ps.length pc := hs 4 rfl
        clear hs hq hf
        refine wanted_pos rfl ?_
        unfold gives
        go_simp
        exact obC_q (Below.refl _ _) rfl
      -- operation 8: Op.call ( callee := Callee.value (func 72), args := #[tmp 14, tmp 17, tmp 18, tmp 20, tmp 21], argTy
      refine ⟨fun r wx hG hs hq hf => ?_, ?_⟩
      · have h0 : r 14 = .int .i64 W := hf.1
        have h3 : r 17 = .agg (bv lh).toArray := hf.2.1
        have h4 : r 18 = .int .u64 i := hf.2.2.1
        have h6 : r 20 = .int .u64 z := hf.2.2.2.1
        have h7 : r 21 = .slice pa ps.length pc := hf.2.2.2.2.1
        clear hs hq hf
        refine wanted_pos rfl ?_
        unfold gives
        go_simp
        refine (HCK.out wx hG).mono ?_
        rintro e wy ⟨rfl, hb1⟩
        exact ⟨_, rfl, obC_q hb1 rfl⟩
      -- operation 9: Op.move (tmp 22)
      refine ⟨fun r wx hG hs hq hf => ?_, ?_⟩
      · have h8 : r 22 = .tuple #[.agg (bv ch).toArray, .int .i64 ee] := hf.1
        clear hs hq hf
        refine wanted_pos rfl ?_
        unfold gives
        go_simp
        exact obC_q (Below.refl _ _) rfl
      -- operation 10: Op.extract (tmp 13) 0
      refine ⟨fun r wx hG hs hq hf => ?_, ?_⟩
      · have h9 : r 13 = .tuple #[.agg (bv ch).toArray, .int .i64 ee] := hf.1
        clear hs hq hf
        refine wanted_pos rfl ?_
        unfold gives
        go_simp
        exact obC_q (Below.refl _ _) rfl
      -- operation 11: Op.extract (tmp 13) 1
      refine ⟨fun r wx hG hs hq hf => ?_, ?_⟩
      · have h9 : r 13 = .tuple #[.agg (bv ch).toArray, .int .i64 ee] := hf.1
        clear hs hq hf
        refine wanted_pos rfl ?_
        unfold gives
        go_simp
        exact obC_q (Below.refl _ _) rfl
      -- operation 12: Op.alloc 35
      refine ⟨fun r wx hG hs hq hf => ?_, ?_⟩
      · clear hs hq hf
        refine wanted_pos rfl ?_
        unfold gives
        go_simp
        exact obC_al rfl (Nat.le_refl _) (heap_alloc_new _ _) ((Below.refl _ _).alloc (Nat.le_refl _) _)
      -- operation 13: Op.store 35 (tmp 11) (tmp 23)
      refine ⟨fun r wx hG hs hq hf => ?_, ?_⟩
      · have h12 : ∃ g, r 11 = .pointer (some ⟨g, 0, none⟩) ∧ w1.heap.size ≤ g ∧ wx.heap[g]? = some (.cells (bv (zs 32)).toArray 35 (0, 0)) := hf.1
        have h10 : r 23 = .agg (bv ch).toArray := hf.2.1
        clear hs hq hf
        refine wanted_pos rfl ?_
        unfold gives
        obtain ⟨g, hg1, hg2, hg3⟩ := h12
        refine gives_store_row 35 _ _ rfl g (bv ch) hg1 h10 (bv (zs 32)) 35 hg3 (hInfo' _ HCH.out) (by first | rfl | (rw [bv_length, bv_length, HCH.out]; simp [zs])) (bv_one _) ?_
        intro wy h1 h2
        exact obC_sa hg1 hg2 h2 h1
      -- operation 14: Op.assign (tmp 24)
      refine ⟨fun r wx hG hs hq hf => ?_, ?_⟩
      · have h11 : r 24 = .int .i64 ee := hf.1
        have h13 : ∃ g, r 11 = .pointer (some ⟨g, 0, none⟩) ∧ w1.heap.size ≤ g ∧ wx.heap[g]? = some (.cells (bv ch).toArray 35 (0, 0)) := hf.2.1
        clear hs hq hf
        refine wanted_pos rfl ?_
        unfold gives
        go_simp
        exact obC_q (Below.refl _ _) rfl
      exact trivial
    case hend =>
      intro u wz hG hfin
      have z13 : ∃ g, u 12 = .pointer (some ⟨g, 0, none⟩) ∧ w1.heap.size ≤ g ∧ wz.heap[g]? = some (.cells (bv ch).toArray 35 (0, 0)) := hfin 13 (by decide) (by kernel_rfl)
      have z14 : u 14 = .int .i64 ee := hfin 14 (by decide) (by kernel_rfl)
      clear hfin
      obtain ⟨ga12, hga12, hgb12, hgr12⟩ := z13
      simp only [fill]
      have hFR := Lib.hid (And.intro hgr12 (And.intro hgb12 (And.intro hG hga12)))
      clear hgr12 hgb12 hG
      go_simp
      go_wp2_with fail
      go_ret
      exact ⟨by rw [HRS.out]; rfl, HRW.out.2.trans (hFR.out.2.2.1.bel.mono HRW.out.2.size)⟩

set_option maxHeartbeats 4000000 in
set_option maxRecDepth 100000 in
theorem Follows_any (W : Int) (n0 z0 n z : Nat) (rt0 mk0 rt mk : List UInt8) (ps : List (List UInt8)) (vp : Value) (w : World) (hW : -9223372036854775808 ≤ W ∧ W ≤ 9223372036854775807) (hz0 : z0 < 18446744073709551616) (hz : z < 18446744073709551616) (hrt0 : rt0.length = 32) (_hmk0 : mk0.length = 32) (hrt : rt.length = 32) (_hmk : mk.length = 32)
    (h32 : ∀ p ∈ ps, p.length = 32) (hpl : ps.length ≤ 140737488355328) (hrp : Rd w 32 vp ps.length (ps.flatMap bv)) (hG : Tabs w) :
    Calls Tryd.prog 30 #[.int .i64 W, .agg (hdL n0 z0 rt0 mk0).toArray, .agg (hdL n z rt mk).toArray, vp] w fun e w' => e = .returned (.bool (gB W z0 z rt0 rt ps)) ∧ Below w.heap.size w w' := by
  obtain ⟨pa, pc, rfl⟩ := hrp.form
  obtain ⟨w1, hw1⟩ : ∃ x : World, x = (w.alloc (.cells (hdL n0 z0 rt0 mk0).toArray 37)).alloc (.cells (hdL n z rt mk).toArray 37) := ⟨_, rfl⟩
  have hr0 : w1.heap[w.heap.size]? = some (.cells (hdL n0 z0 rt0 mk0).toArray 37 (0, 0)) := by rw [hw1]; exact (heap_alloc_old _ _ (by simp)).trans (heap_alloc_new _ _)
  have hr1 : w1.heap[w.heap.size + 1]? = some (.cells (hdL n z rt mk).toArray 37 (0, 0)) := by
    rw [hw1]
    have h := heap_alloc_new (w.alloc (.cells (hdL n0 z0 rt0 mk0).toArray 37)) (.cells (hdL n z rt mk).toArray 37)
    simpa using h
  have hbw : Below w.heap.size w w1 := by rw [hw1]; exact ((Below.refl _ _).alloc (Nat.le_refl _) _).alloc (by simp) _
  have hck := gCheck_any W z0 z rt0 rt ps pa pc w1 hW hrt0 hrt hz0 hz h32 hpl (hrp.keep hbw) (hG.keepB hbw)
  have c01 := hd_cell1 hr0
  have c11 := hd_cell1 hr1
  have HR0 := Lib.hid (hd_rng2 hr0)
  have HR1 := Lib.hid (hd_rng2 hr1)
  have HL := Lib.hid (And.intro hrt0 hrt)
  have HCK := Lib.hid hck
  have HBW := Lib.hid hbw
  have HW1 := Lib.hid hw1
  obtain ⟨A0, hA0⟩ : ∃ A, A = (hdL n0 z0 rt0 mk0).toArray := ⟨_, rfl⟩
  obtain ⟨A, hA⟩ : ∃ A, A = (hdL n z rt mk).toArray := ⟨_, rfl⟩
  rw [← hA0, ← hA]
  have HA := Lib.hid (And.intro hA0 hA)
  clear hA0 hA hck hr0 hr1 hbw hw1 hrp hG h32 hpl hz0 hz hrt0 hrt hW
  go_enter Tryd.func30, Tryd.ntmps30
  go_upto_region 1 with fail
  rw [show (w.alloc (.cells A0 37)).alloc (.cells A 37) = w1 from by rw [HA.out.1, HA.out.2, HW1.out]]
  go_wp2_with (first
    | (with_reducible show wpList _ _ _ (⟨some 15, _, _, _, _, _⟩ :: _) _ _; refine wpList_load_mid rfl _ _ rfl w.heap.size 2 rfl (bv rt0) _ HR0.out Tryd.underlying35 rfl (hInfo' _ HL.out.1) ?_)
    | (with_reducible show wpList _ _ _ (⟨some 17, _, _, _, _, _⟩ :: _) _ _; refine wpList_load_mid rfl _ _ rfl (w.heap.size + 1) 2 rfl (bv rt) _ HR1.out Tryd.underlying35 rfl (hInfo' _ HL.out.2) ?_))
  refine HCK.out.mono ?_
  rintro e w2 ⟨rfl, hb⟩
  go_wp2_with fail
  go_ret
  exact ⟨rfl, HBW.out.trans (hb.mono HBW.out.size)⟩
set_option maxHeartbeats 4000000 in
set_option maxRecDepth 100000 in
theorem refFollows_any (W : Int) (n0 z0 n z : Nat) (rt0 mk0 rt mk : List UInt8) (ps : List (List UInt8)) (vp : Value) (w : World) (hW : -9223372036854775808 ≤ W ∧ W ≤ 9223372036854775807) (hz0 : z0 < 18446744073709551616) (hz : z < 18446744073709551616) (hrt0 : rt0.length = 32) (_hmk0 : mk0.length = 32) (hrt : rt.length = 32) (_hmk : mk.length = 32)
    (h32 : ∀ p ∈ ps, p.length = 32) (hpl : ps.length ≤ 140737488355328) (hrp : Rd w 32 vp ps.length (ps.flatMap bv)) (hG : TabsR w) :
    Calls Tryd.prog 31 #[.int .i64 W, .agg (hdL n0 z0 rt0 mk0).toArray, .agg (hdL n z rt mk).toArray, vp] w fun e w' => e = .returned (.bool (gB W z0 z rt0 rt ps)) ∧ Below w.heap.size w w' := by
  obtain ⟨pa, pc, rfl⟩ := hrp.form
  obtain ⟨w1, hw1⟩ : ∃ x : World, x = (w.alloc (.cells (hdL n0 z0 rt0 mk0).toArray 37)).alloc (.cells (hdL n z rt mk).toArray 37) := ⟨_, rfl⟩
  have hr0 : w1.heap[w.heap.size]? = some (.cells (hdL n0 z0 rt0 mk0).toArray 37 (0, 0)) := by rw [hw1]; exact (heap_alloc_old _ _ (by simp)).trans (heap_alloc_new _ _)
  have hr1 : w1.heap[w.heap.size + 1]? = some (.cells (hdL n z rt mk).toArray 37 (0, 0)) := by
    rw [hw1]
    have h := heap_alloc_new (w.alloc (.cells (hdL n0 z0 rt0 mk0).toArray 37)) (.cells (hdL n z rt mk).toArray 37)
    simpa using h
  have hbw : Below w.heap.size w w1 := by rw [hw1]; exact ((Below.refl _ _).alloc (Nat.le_refl _) _).alloc (by simp) _
  have hck := refGCheck_any W z0 z rt0 rt ps pa pc w1 hW hrt0 hrt hz0 hz h32 hpl (hrp.keep hbw) (hG.keepB hbw)
  have c01 := hd_cell1 hr0
  have c11 := hd_cell1 hr1
  have HR0 := Lib.hid (hd_rng2 hr0)
  have HR1 := Lib.hid (hd_rng2 hr1)
  have HL := Lib.hid (And.intro hrt0 hrt)
  have HCK := Lib.hid hck
  have HBW := Lib.hid hbw
  have HW1 := Lib.hid hw1
  obtain ⟨A0, hA0⟩ : ∃ A, A = (hdL n0 z0 rt0 mk0).toArray := ⟨_, rfl⟩
  obtain ⟨A, hA⟩ : ∃ A, A = (hdL n z rt mk).toArray := ⟨_, rfl⟩
  rw [← hA0, ← hA]
  have HA := Lib.hid (And.intro hA0 hA)
  clear hA0 hA hck hr0 hr1 hbw hw1 hrp hG h32 hpl hz0 hz hrt0 hrt hW
  go_enter Tryd.func31, Tryd.ntmps31
  go_upto_region 1 with fail
  rw [show (w.alloc (.cells A0 37)).alloc (.cells A 37) = w1 from by rw [HA.out.1, HA.out.2, HW1.out]]
  go_wp2_with (first
    | (with_reducible show wpList _ _ _ (⟨some 15, _, _, _, _, _⟩ :: _) _ _; refine wpList_load_mid rfl _ _ rfl w.heap.size 2 rfl (bv rt0) _ HR0.out Tryd.underlying35 rfl (hInfo' _ HL.out.1) ?_)
    | (with_reducible show wpList _ _ _ (⟨some 17, _, _, _, _, _⟩ :: _) _ _; refine wpList_load_mid rfl _ _ rfl (w.heap.size + 1) 2 rfl (bv rt) _ HR1.out Tryd.underlying35 rfl (hInfo' _ HL.out.2) ?_))
  refine HCK.out.mono ?_
  rintro e w2 ⟨rfl, hb⟩
  go_wp2_with fail
  go_ret
  exact ⟨rfl, HBW.out.trans (hb.mono HBW.out.size)⟩
end Go.Proofs.YtgimblpdmlnfeaaDoor
