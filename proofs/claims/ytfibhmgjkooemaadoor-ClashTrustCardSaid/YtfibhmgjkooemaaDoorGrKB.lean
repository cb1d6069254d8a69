/- growth.Check. (gen/grk.py) -/
import Derived.Test.YtfibhmgjkooemaaDoorGrK
namespace Go.Proofs.YtfibhmgjkooemaaDoor
open Go.RowKit Sha Root Path Growth

/-- Does a proof pass? -/
def gB (W : Int) (m n : Nat) (old root : List UInt8) (ps : List (List UInt8)) : Bool := if n < m then false else if m = 0 then (decide (ps.length = 0) && (old == emptyH W) && (decide (0 < n) || (root == old))) else (gE m n ps.length == 0 && (gS W m n old ps).1 == old && (gS W m n old ps).2 == root)
/-- What each operation hands on. -/
def gckAP (_W : Int) (_n L c : Nat) (a : Option Addr) (_old _e _root : List UInt8) (_B : Nat) : Nat → Value → Prop
  | 0, v => v = .slice a L c
  | 1, v => v = .int .i64 (L : Nat)
  | 2, v => v = .bool false
  | 3, v => v = .bool false
  | 4, v => v = undef
  | 5, v => v = undef
  | 6, v => v = undef
  | 7, v => v = undef
  | 8, v => v = .bool false
  | 9, v => v = .bool false
  | 10, v => v = undef
  | 11, v => v = undef
  | 12, v => v = undef
  | 13, v => v = undef
  | 14, v => v = undef
  | 15, v => v = undef
  | 16, v => v = undef
  | 17, v => v = .bool false
  | 18, v => v = .bool false
  | _, _ => True
/-- What each operation hands on. -/
def gckBP (W : Int) (_n L c : Nat) (a : Option Addr) (old e _root : List UInt8) (_B : Nat) : Nat → Value → Prop
  | 0, v => v = .slice a L c
  | 1, v => v = .int .i64 (L : Nat)
  | 2, v => v = .bool true
  | 3, v => v = .bool true
  | 4, v => v = .agg (bv old).toArray
  | 5, v => v = .int .i64 W
  | 6, v => v = .agg (bv e).toArray
  | 7, v => v = .bool false
  | 8, v => v = .bool false
  | 9, v => v = .bool false
  | 10, v => v = undef
  | 11, v => v = undef
  | 12, v => v = undef
  | 13, v => v = undef
  | 14, v => v = undef
  | 15, v => v = undef
  | 16, v => v = undef
  | 17, v => v = .bool false
  | 18, v => v = .bool false
  | _, _ => True
/-- What each operation hands on. -/
def gckCP (W : Int) (n L c : Nat) (a : Option Addr) (old e _root : List UInt8) (_B : Nat) : Nat → Value → Prop
  | 0, v => v = .slice a L c
  | 1, v => v = .int .i64 (L : Nat)
  | 2, v => v = .bool true
  | 3, v => v = .bool true
  | 4, v => v = .agg (bv old).toArray
  | 5, v => v = .int .i64 W
  | 6, v => v = .agg (bv e).toArray
  | 7, v => v = .bool true
  | 8, v => v = .bool true
  | 9, v => v = .bool true
  | 10, v => v = .int .u64 n
  | 11, v => v = .bool true
  | 12, v => v = .bool true
  | 13, v => v = undef
  | 14, v => v = undef
  | 15, v => v = undef
  | 16, v => v = .bool true
  | 17, v => v = .bool true
  | 18, v => v = .bool true
  | _, _ => True
/-- What each operation hands on. -/
def gckDP (W : Int) (n L c : Nat) (a : Option Addr) (old e root : List UInt8) (_B : Nat) : Nat → Value → Prop
  | 0, v => v = .slice a L c
  | 1, v => v = .int .i64 (L : Nat)
  | 2, v => v = .bool true
  | 3, v => v = .bool true
  | 4, v => v = .agg (bv old).toArray
  | 5, v => v = .int .i64 W
  | 6, v => v = .agg (bv e).toArray
  | 7, v => v = .bool true
  | 8, v => v = .bool true
  | 9, v => v = .bool true
  | 10, v => v = .int .u64 n
  | 11, v => v = .bool false
  | 12, v => v = .bool false
  | 13, v => v = .agg (bv root).toArray
  | 14, v => v = .agg (bv old).toArray
  | 15, v => v = .bool (root == old)
  | 16, v => v = .bool (root == old)
  | 17, v => v = .bool (root == old)
  | 18, v => v = .bool (root == old)
  | _, _ => True

set_option maxHeartbeats 16000000 in
set_option maxRecDepth 100000 in
theorem gCheck_any (W : Int) (m n : Nat) (old root : List UInt8) (ps : List (List UInt8)) (a : Option Addr) (c : Nat) (w : World) (hW : -9223372036854775808 ≤ W ∧ W ≤ 9223372036854775807) (ho : old.length = 32) (hrt : root.length = 32) (hm : m < 18446744073709551616) (hn : n < 18446744073709551616)
    (h32 : ∀ p ∈ ps, p.length = 32) (hl : ps.length ≤ 140737488355328) (hr : Rd w 32 (.slice a ps.length c) ps.length (ps.flatMap bv)) (hT : Tabs w) :
    Calls Tryd.prog 23 #[.int .i64 W, .int .u64 m, .int .u64 n, .agg (bv old).toArray, .agg (bv root).toArray, .slice a ps.length c] w fun e w' => e = .returned (.bool (gB W m n old root ps)) ∧ Below w.heap.size w w' := by
  have hz := (zero_of_info info32).1
  have HZ32 := Lib.hid (show (zs 32).length = 32 by simp [zs])
  obtain ⟨w0, hw0⟩ : ∃ x : World, x = (w.alloc (.cells (bv old).toArray 35)).alloc (.cells (bv root).toArray 35) := ⟨_, rfl⟩
  have hbox : w0.heap[w.heap.size]? = some (.cells (bv old).toArray 35 (0, 0)) := by
    rw [hw0, heap_alloc_old _ _ (by simp)]; exact heap_alloc_new _ _
  have hrow : w0.heap[w.heap.size + 1]? = some (.cells (bv root).toArray 35 (0, 0)) := by
    rw [hw0]
    have := heap_alloc_new (w.alloc (.cells (bv old).toArray 35)) (.cells (bv root).toArray 35)
    simpa using this
  have hbw0 : Below w.heap.size w w0 := by rw [hw0]; exact ((Below.refl _ _).alloc (Nat.le_refl _) _).alloc (by simp) _
  have HW0 := Lib.hid hw0
  have H0 := Lib.hid (And.intro hbox (And.intro hrow hbw0))
  have HOL := Lib.hid ho
  have HRT := Lib.hid hrt
  clear hw0 hbox hrow hbw0
  by_cases hnm : n < m
  · have hres : gB W m n old root ps = false := if_pos hnm
    have y1 : (n : Int) < (m : Int) := by omega
    obtain ⟨L, hL⟩ : ∃ L, L = ps.length := ⟨_, rfl⟩
    rw [hres, ← hL]
    clear hr hT h32 hL hres hl
    go_enter Tryd.func23, Tryd.ntmps23
    go_upto_region 1 with fail
    rw [show (w.alloc (.cells (bv old).toArray 35)).alloc (.cells (bv root).toArray 35) = w0 from HW0.out.symm]
    go_wp2_with fail
    go_ret
    exact ⟨rfl, H0.out.2.2⟩
  have y1 : ¬ (n : Int) < (m : Int) := by omega
  by_cases hm0 : m = 0
  · have hem := fun wx (hb : Below w.heap.size w wx) => Empty_any W wx hW (hT.keepB hb)
    have he32 := emptyH_length W
    have hres : gB W m n old root ps = (decide (ps.length = 0) && (old == emptyH W) && (decide (0 < n) || (root == old))) := by rw [gB, if_neg hnm, if_pos hm0]
    obtain ⟨e, he⟩ : ∃ x, x = emptyH W := ⟨_, rfl⟩
    rw [← he] at hem he32 hres
    obtain ⟨L, hL⟩ : ∃ L, L = ps.length := ⟨_, rfl⟩
    rw [← hL] at hres ⊢
    have HE32 := Lib.hid he32
    have HEM := Lib.hid (fun wx (hb : KeptT [] w0 wx) => hem wx (H0.out.2.2.trans (hb.below H0.out.2.2.size (by simp))))
    have y2 : ((m : Int) == 0) = true := by simp; omega
    clear hr hT h32 hL hl he he32 hem
    by_cases hL0 : L = 0
    · have y3 : ((L : Int) == 0) = true := by simp; omega
      rw [show decide (L = 0) = true from by simp [hL0], Bool.true_and] at hres
      have y3b : L = 0 := hL0
      cases hoe : (old == e)
      · rw [hoe, Bool.false_and] at hres
        have HB := Lib.hid hoe
        rw [hres]
        clear hres hoe hL0
        go_enter Tryd.func23, Tryd.ntmps23
        go_upto_region 1 with fail
        rw [show (w.alloc (.cells (bv old).toArray 35)).alloc (.cells (bv root).toArray 35) = w0 from HW0.out.symm]
        go_upto_region 4 with fail
        refine wp_region_desc [some 23, some 24, some 25, some 26, some 27, some 28, some 29, some 30, some 31, some 32, some 33, some 34, some 35, some 36, some 37, some 38, some 39, some 40, some 12] [] [] [(0, 0), (0, 0), (0, 0), (0, 0), (0, 0), (0, 0), (0, 0), (0, 0), (0, 0), (0, 0), (0, 0), (0, 0), (0, 0), (0, 0), (0, 0), (0, 0), (0, 0), (0, 0), (0, 0)] [] [] [] [] (gckBP W n L c a old e root w.heap.size) (fun _ _ _ => True) (fun _ => default) (by kernel_rfl) (by kernel_rfl) rfl (by kernel_rfl) (by kernel_rfl) (by kernel_rfl) rfl trivial (by simp; try omega) rfl (fun i hi => (no4 (by kernel_rfl) i hi).elim) ?hstep ?hend
        case hstep =>
          refine ⟨fun r wx hG hs hq hf => ?_, ?_⟩
          · have e5 : r 5 = .slice a L c := hs 5 rfl
            clear hs hq hf
            refine wanted_pos rfl ?_
            unfold gives
            go_simp
            exact obC_q (Below.refl _ _) rfl
          refine ⟨fun r wx hG hs hq hf => ?_, ?_⟩
          · have h0 : r 23 = .slice a L c := hf.1
            clear hs hq hf
            refine wanted_pos rfl ?_
            unfold gives
            go_simp
            exact obC_q (Below.refl _ _) rfl
          refine ⟨fun r wx hG hs hq hf => ?_, ?_⟩
          · have h1 : r 24 = .int .i64 (L : Nat) := hf.1
            clear hs hq hf
            refine wanted_pos rfl ?_
            unfold gives
            go_simp
            exact obC_q (Below.refl _ _) rfl
          refine ⟨fun r wx hG hs hq hf => ?_, ?_⟩
          · have h2 : r 25 = .bool true := hf.1
            clear hs hq hf
            refine wanted_pos rfl ?_
            unfold gives
            go_simp
            exact obC_q (Below.refl _ _) rfl
          refine ⟨fun r wx hG hs hq hf => ?_, ?_⟩
          · have e9 : r 9 = .pointer (some ⟨w.heap.size, 0, none⟩) := hs 9 rfl
            have h3 : r 26 = .bool true := hf.1
            have hy : ydD [some 23, some 24, some 25, some 26, some 27, some 28, some 29, some 30, some 31, some 32, some 33, some 34, some 35, some 36, some 37, some 38, some 39, some 40, some 12] r 3 = some true := by show (match r 26 with | .bool b => some b | _ => none) = some true; rw [h3]
            clear hs hq hf
            refine wanted_pos (by simp only [Region.wanted, hy]; rfl) ?_
            unfold gives
            refine gives_load_row 35 _ rfl w.heap.size e9 35 _ (0, 0) _ (hG.row (by simp; try omega) H0.out.1) Tryd.underlying35 rfl (hInfo _ HOL.out) ?_
            exact obC_q (Below.refl _ _) rfl
          refine ⟨fun r wx hG hs hq hf => ?_, ?_⟩
          · have e0 : r 0 = .int .i64 W := hs 0 rfl
            have h3 : r 26 = .bool true := hf.1
            have hy : ydD [some 23, some 24, some 25, some 26, some 27, some 28, some 29, some 30, some 31, some 32, some 33, some 34, some 35, some 36, some 37, some 38, some 39, some 40, some 12] r 3 = some true := by show (match r 26 with | .bool b => some b | _ => none) = some true; rw [h3]
            clear hs hq hf
            refine wanted_pos (by simp only [Region.wanted, hy]; rfl) ?_
            unfold gives
            go_simp
            exact obC_q (Below.refl _ _) rfl
          refine ⟨fun r wx hG hs hq hf => ?_, ?_⟩
          · have h5 : r 28 = .int .i64 W := hf.1
            have h3 : r 26 = .bool true := hf.2.1
            have hy : ydD [some 23, some 24, some 25, some 26, some 27, some 28, some 29, some 30, some 31, some 32, some 33, some 34, some 35, some 36, some 37, some 38, some 39, some 40, some 12] r 3 = some true := by show (match r 26 with | .bool b => some b | _ => none) = some true; rw [h3]
            clear hs hq hf
            refine wanted_pos (by simp only [Region.wanted, hy]; rfl) ?_
            unfold gives
            go_simp
            refine (HEM.out wx hG).mono ?_
            rintro e wy ⟨rfl, hb1⟩
            exact ⟨_, rfl, obC_q hb1 rfl⟩
          refine ⟨fun r wx hG hs hq hf => ?_, ?_⟩
          · have h4 : r 27 = .agg (bv old).toArray := hf.1
            have h6 : r 29 = .agg (bv e).toArray := hf.2.1
            have h3 : r 26 = .bool true := hf.2.2.1
            have hy : ydD [some 23, some 24, some 25, some 26, some 27, some 28, some 29, some 30, some 31, some 32, some 33, some 34, some 35, some 36, some 37, some 38, some 39, some 40, some 12] r 3 = some true := by show (match r 26 with | .bool b => some b | _ => none) = some true; rw [h3]
            clear hs hq hf
            refine wanted_pos (by simp only [Region.wanted, hy]; rfl) ?_
            unfold gives
            have hqe := eqIn_hash old e HOL.out HE32.out wx
            rw [HB.out] at hqe
            have hgd := eq_guard
            go_simp
            exact obC_q (Below.refl _ _) rfl
          refine ⟨fun r wx hG hs hq hf => ?_, ?_⟩
          · have h3 : r 26 = .bool true := hf.1
            have h7 : r 30 = .bool false := hf.2.1
            clear hs hq hf
            refine wanted_pos rfl ?_
            unfold gives
            go_simp
            exact obC_q (Below.refl _ _) rfl
          refine ⟨fun r wx hG hs hq hf => ?_, ?_⟩
          · have h8 : r 31 = .bool false := hf.1
            clear hs hq hf
            refine wanted_pos rfl ?_
            unfold gives
            go_simp
            exact obC_q (Below.refl _ _) rfl
          refine ⟨fun r wx hG hs hq hf => ?_, ?_⟩
          · have e2 : r 2 = .int .u64 n := hs 2 rfl
            have h9 : r 32 = .bool false := hf.1
            have hy : ydD [some 23, some 24, some 25, some 26, some 27, some 28, some 29, some 30, some 31, some 32, some 33, some 34, some 35, some 36, some 37, some 38, some 39, some 40, some 12] r 9 = some false := by show (match r 32 with | .bool b => some b | _ => none) = some false; rw [h9]
            refine wanted_neg (by simp only [Region.wanted, hy]; rfl) ?_
            exact rfl
          refine ⟨fun r wx hG hs hq hf => ?_, ?_⟩
          · have h10 : r 33 = undef := hf.1
            have h9 : r 32 = .bool false := hf.2.1
            have hy : ydD [some 23, some 24, some 25, some 26, some 27, some 28, some 29, some 30, some 31, some 32, some 33, some 34, some 35, some 36, some 37, some 38, some 39, some 40, some 12] r 9 = some false := by show (match r 32 with | .bool b => some b | _ => none) = some false; rw [h9]
            refine wanted_neg (by simp only [Region.wanted, hy]; rfl) ?_
            exact rfl
          refine ⟨fun r wx hG hs hq hf => ?_, ?_⟩
          · have h11 : r 34 = undef := hf.1
            have h9 : r 32 = .bool false := hf.2.1
            have hy : ydD [some 23, some 24, some 25, some 26, some 27, some 28, some 29, some 30, some 31, some 32, some 33, some 34, some 35, some 36, some 37, some 38, some 39, some 40, some 12] r 9 = some false := by show (match r 32 with | .bool b => some b | _ => none) = some false; rw [h9]
            refine wanted_neg (by simp only [Region.wanted, hy]; rfl) ?_
            exact rfl
          refine ⟨fun r wx hG hs hq hf => ?_, ?_⟩
          · have e10 : r 10 = .pointer (some ⟨w.heap.size + 1, 0, none⟩) := hs 10 rfl
            have h12 : r 35 = undef := hf.1
            have hy : ydD [some 23, some 24, some 25, some 26, some 27, some 28, some 29, some 30, some 31, some 32, some 33, some 34, some 35, some 36, some 37, some 38, some 39, some 40, some 12] r 12 = none := by show (match r 35 with | .bool b => some b | _ => none) = none; rw [h12]; rfl
            refine wanted_neg (by simp only [Region.wanted, hy]; rfl) ?_
            exact rfl
          refine ⟨fun r wx hG hs hq hf => ?_, ?_⟩
          · have e9 : r 9 = .pointer (some ⟨w.heap.size, 0, none⟩) := hs 9 rfl
            have h12 : r 35 = undef := hf.1
            have hy : ydD [some 23, some 24, some 25, some 26, some 27, some 28, some 29, some 30, some 31, some 32, some 33, some 34, some 35, some 36, some 37, some 38, some 39, some 40, some 12] r 12 = none := by show (match r 35 with | .bool b => some b | _ => none) = none; rw [h12]; rfl
            refine wanted_neg (by simp only [Region.wanted, hy]; rfl) ?_
            exact rfl
          refine ⟨fun r wx hG hs hq hf => ?_, ?_⟩
          · have h13 : r 36 = undef := hf.1
            have h14 : r 37 = undef := hf.2.1
            have h12 : r 35 = undef := hf.2.2.1
            have hy : ydD [some 23, some 24, some 25, some 26, some 27, some 28, some 29, some 30, some 31, some 32, some 33, some 34, some 35, some 36, some 37, some 38, some 39, some 40, some 12] r 12 = none := by show (match r 35 with | .bool b => some b | _ => none) = none; rw [h12]; rfl
            refine wanted_neg (by simp only [Region.wanted, hy]; rfl) ?_
            exact rfl
          refine ⟨fun r wx hG hs hq hf => ?_, ?_⟩
          · have h12 : r 35 = undef := hf.1
            have h15 : r 38 = undef := hf.2.1
            have h9 : r 32 = .bool false := hf.2.2.1
            have hy : ydD [some 23, some 24, some 25, some 26, some 27, some 28, some 29, some 30, some 31, some 32, some 33, some 34, some 35, some 36, some 37, some 38, some 39, some 40, some 12] r 9 = some false := by show (match r 32 with | .bool b => some b | _ => none) = some false; rw [h9]
            refine wanted_neg (by simp only [Region.wanted, hy]; rfl) ?_
            exact rfl
          refine ⟨fun r wx hG hs hq hf => ?_, ?_⟩
          · have h9 : r 32 = .bool false := hf.1
            have h16 : r 39 = undef := hf.2.1
            clear hs hq hf
            refine wanted_pos rfl ?_
            unfold gives
            go_simp
            exact obC_q (Below.refl _ _) rfl
          refine ⟨fun r wx hG hs hq hf => ?_, ?_⟩
          · have h17 : r 40 = .bool false := hf.1
            clear hs hq hf
            refine wanted_pos rfl ?_
            unfold gives
            go_simp
            exact obC_q (Below.refl _ _) rfl
          exact trivial
        case hend =>
          intro u wz hG hfin
          have z18 : u 18 = .bool false := hfin 18 (by decide) (by kernel_rfl)
          clear hfin
          simp only [fill]
          go_simp
          go_wp2_with fail
          go_ret
          exact ⟨rfl, H0.out.2.2.trans (hG.below H0.out.2.2.size (by simp))⟩
      · rw [hoe, Bool.true_and] at hres
        have HB := Lib.hid hoe
        clear hoe hL0
        by_cases hn0 : 0 < n
        · rw [show decide (0 < n) = true from by simp [hn0], Bool.true_or] at hres
          rw [hres]
          have y4 : (0 : Int) < (n : Int) := by omega
          clear hres
          go_enter Tryd.func23, Tryd.ntmps23
          go_upto_region 1 with fail
          rw [show (w.alloc (.cells (bv old).toArray 35)).alloc (.cells (bv root).toArray 35) = w0 from HW0.out.symm]
          go_upto_region 4 with fail
          refine wp_region_desc [some 23, some 24, some 25, some 26, some 27, some 28, some 29, some 30, some 31, some 32, some 33, some 34, some 35, some 36, some 37, some 38, some 39, some 40, some 12] [] [] [(0, 0), (0, 0), (0, 0), (0, 0), (0, 0), (0, 0), (0, 0), (0, 0), (0, 0), (0, 0), (0, 0), (0, 0), (0, 0), (0, 0), (0, 0), (0, 0), (0, 0), (0, 0), (0, 0)] [] [] [] [] (gckCP W n L c a old e root w.heap.size) (fun _ _ _ => True) (fun _ => default) (by kernel_rfl) (by kernel_rfl) rfl (by kernel_rfl) (by kernel_rfl) (by kernel_rfl) rfl trivial (by simp; try omega) rfl (fun i hi => (no4 (by kernel_rfl) i hi).elim) ?hstep ?hend
          case hstep =>
            refine ⟨fun r wx hG hs hq hf => ?_, ?_⟩
            · have e5 : r 5 = .slice a L c := hs 5 rfl
              clear hs hq hf
              refine wanted_pos rfl ?_
              unfold gives
              go_simp
              exact obC_q (Below.refl _ _) rfl
            refine ⟨fun r wx hG hs hq hf => ?_, ?_⟩
            · have h0 : r 23 = .slice a L c := hf.1
              clear hs hq hf
              refine wanted_pos rfl ?_
              unfold gives
              go_simp
              exact obC_q (Below.refl _ _) rfl
            refine ⟨fun r wx hG hs hq hf => ?_, ?_⟩
            · have h1 : r 24 = .int .i64 (L : Nat) := hf.1
              clear hs hq hf
              refine wanted_pos rfl ?_
              unfold gives
              go_simp
              exact obC_q (Below.refl _ _) rfl
            refine ⟨fun r wx hG hs hq hf => ?_, ?_⟩
            · have h2 : r 25 = .bool true := hf.1
              clear hs hq hf
              refine wanted_pos rfl ?_
              unfold gives
              go_simp
              exact obC_q (Below.refl _ _) rfl
            refine ⟨fun r wx hG hs hq hf => ?_, ?_⟩
            · have e9 : r 9 = .pointer (some ⟨w.heap.size, 0, none⟩) := hs 9 rfl
              have h3 : r 26 = .bool true := hf.1
              have hy : ydD [some 23, some 24, some 25, some 26, some 27, some 28, some 29, some 30, some 31, some 32, some 33, some 34, some 35, some 36, some 37, some 38, some 39, some 40, some 12] r 3 = some true := by show (match r 26 with | .bool b => some b | _ => none) = some true; rw [h3]
              clear hs hq hf
              refine wanted_pos (by simp only [Region.wanted, hy]; rfl) ?_
              unfold gives
              refine gives_load_row 35 _ rfl w.heap.size e9 35 _ (0, 0) _ (hG.row (by simp; try omega) H0.out.1) Tryd.underlying35 rfl (hInfo _ HOL.out) ?_
              exact obC_q (Below.refl _ _) rfl
            refine ⟨fun r wx hG hs hq hf => ?_, ?_⟩
            · have e0 : r 0 = .int .i64 W := hs 0 rfl
              have h3 : r 26 = .bool true := hf.1
              have hy : ydD [some 23, some 24, some 25, some 26, some 27, some 28, some 29, some 30, some 31, some 32, some 33, some 34, some 35, some 36, some 37, some 38, some 39, some 40, some 12] r 3 = some true := by show (match r 26 with | .bool b => some b | _ => none) = some true; rw [h3]
              clear hs hq hf
              refine wanted_pos (by simp only [Region.wanted, hy]; rfl) ?_
              unfold gives
              go_simp
              exact obC_q (Below.refl _ _) rfl
            refine ⟨fun r wx hG hs hq hf => ?_, ?_⟩
            · have h5 : r 28 = .int .i64 W := hf.1
              have h3 : r 26 = .bool true := hf.2.1
              have hy : ydD [some 23, some 24, some 25, some 26, some 27, some 28, some 29, some 30, some 31, some 32, some 33, some 34, some 35, some 36, some 37, some 38, some 39, some 40, some 12] r 3 = some true := by show (match r 26 with | .bool b => some b | _ => none) = some true; rw [h3]
              clear hs hq hf
              refine wanted_pos (by simp only [Region.wanted, hy]; rfl) ?_
              unfold gives
              go_simp
              refine (HEM.out wx hG).mono ?_
              rintro e wy ⟨rfl, hb1⟩
              exact ⟨_, rfl, obC_q hb1 rfl⟩
            refine ⟨fun r wx hG hs hq hf => ?_, ?_⟩
            · have h4 : r 27 = .agg (bv old).toArray := hf.1
              have h6 : r 29 = .agg (bv e).toArray := hf.2.1
              have h3 : r 26 = .bool true := hf.2.2.1
              have hy : ydD [some 23, some 24, some 25, some 26, some 27, some 28, some 29, some 30, some 31, some 32, some 33, some 34, some 35, some 36, some 37, some 38, some 39, some 40, some 12] r 3 = some true := by show (match r 26 with | .bool b => some b | _ => none) = some true; rw [h3]
              clear hs hq hf
              refine wanted_pos (by simp only [Region.wanted, hy]; rfl) ?_
              unfold gives
              have hqe := eqIn_hash old e HOL.out HE32.out wx
              rw [HB.out] at hqe
              have hgd := eq_guard
              go_simp
              exact obC_q (Below.refl _ _) rfl
            refine ⟨fun r wx hG hs hq hf => ?_, ?_⟩
            · have h3 : r 26 = .bool true := hf.1
              have h7 : r 30 = .bool true := hf.2.1
              clear hs hq hf
              refine wanted_pos rfl ?_
              unfold gives
              go_simp
              exact obC_q (Below.refl _ _) rfl
            refine ⟨fun r wx hG hs hq hf => ?_, ?_⟩
            · have h8 : r 31 = .bool true := hf.1
              clear hs hq hf
              refine wanted_pos rfl ?_
              unfold gives
              go_simp
              exact obC_q (Below.refl _ _) rfl
            refine ⟨fun r wx hG hs hq hf => ?_, ?_⟩
            · have e2 : r 2 = .int .u64 n := hs 2 rfl
              have h9 : r 32 = .bool true := hf.1
              have hy : ydD [some 23, some 24, some 25, some 26, some 27, some 28, some 29, some 30, some 31, some 32, some 33, some 34, some 35, some 36, some 37, some 38, some 39, some 40, some 12] r 9 = some true := by show (match r 32 with | .bool b => some b | _ => none) = some true; rw [h9]
              clear hs hq hf
              refine wanted_pos (by simp only [Region.wanted, hy]; rfl) ?_
              unfold gives
              go_simp
              exact obC_q (Below.refl _ _) rfl
            refine ⟨fun r wx hG hs hq hf => ?_, ?_⟩
            · have h10 : r 33 = .int .u64 n := hf.1
              have h9 : r 32 = .bool true := hf.2.1
              have hy : ydD [some 23, some 24, some 25, some 26, some 27, some 28, some 29, some 30, some 31, some 32, some 33, some 34, some 35, some 36, some 37, some 38, some 39, some 40, some 12] r 9 = some true := by show (match r 32 with | .bool b => some b | _ => none) = some true; rw [h9]
              clear hs hq hf
              refine wanted_pos (by simp only [Region.wanted, hy]; rfl) ?_
              unfold gives
              go_simp
              exact obC_q (Below.refl _ _) rfl
            refine ⟨fun r wx hG hs hq hf => ?_, ?_⟩
            · have h11 : r 34 = .bool true := hf.1
              have h9 : r 32 = .bool true := hf.2.1
              have hy : ydD [some 23, some 24, some 25, some 26, some 27, some 28, some 29, some 30, some 31, some 32, some 33, some 34, some 35, some 36, some 37, some 38, some 39, some 40, some 12] r 9 = some true := by show (match r 32 with | .bool b => some b | _ => none) = some true; rw [h9]
              clear hs hq hf
              refine wanted_pos (by simp only [Region.wanted, hy]; rfl) ?_
              unfold gives
              go_simp
              exact obC_q (Below.refl _ _) rfl
            refine ⟨fun r wx hG hs hq hf => ?_, ?_⟩
            · have e10 : r 10 = .pointer (some ⟨w.heap.size + 1, 0, none⟩) := hs 10 rfl
              have h12 : r 35 = .bool true := hf.1
              have hy : ydD [some 23, some 24, some 25, some 26, some 27, some 28, some 29, some 30, some 31, some 32, some 33, some 34, some 35, some 36, some 37, some 38, some 39, some 40, some 12] r 12 = some true := by show (match r 35 with | .bool b => some b | _ => none) = some true; rw [h12]
              refine wanted_neg (by simp only [Region.wanted, hy]; rfl) ?_
              exact rfl
            refine ⟨fun r wx hG hs hq hf => ?_, ?_⟩
            · have e9 : r 9 = .pointer (some ⟨w.heap.size, 0, none⟩) := hs 9 rfl
              have h12 : r 35 = .bool true := hf.1
              have hy : ydD [some 23, some 24, some 25, some 26, some 27, some 28, some 29, some 30, some 31, some 32, some 33, some 34, some 35, some 36, some 37, some 38, some 39, some 40, some 12] r 12 = some true := by show (match r 35 with | .bool b => some b | _ => none) = some true; rw [h12]
              refine wanted_neg (by simp only [Region.wanted, hy]; rfl) ?_
              exact rfl
            refine ⟨fun r wx hG hs hq hf => ?_, ?_⟩
            · have h13 : r 36 = undef := hf.1
              have h14 : r 37 = undef := hf.2.1
              have h12 : r 35 = .bool true := hf.2.2.1
              have hy : ydD [some 23, some 24, some 25, some 26, some 27, some 28, some 29, some 30, some 31, some 32, some 33, some 34, some 35, some 36, some 37, some 38, some 39, some 40, some 12] r 12 = some true := by show (match r 35 with | .bool b => some b | _ => none) = some true; rw [h12]
              refine wanted_neg (by simp only [Region.wanted, hy]; rfl) ?_
              exact rfl
            refine ⟨fun r wx hG hs hq hf => ?_, ?_⟩
            · have h12 : r 35 = .bool true := hf.1
              have h15 : r 38 = undef := hf.2.1
              have h9 : r 32 = .bool true := hf.2.2.1
              have hy : ydD [some 23, some 24, some 25, some 26, some 27, some 28, some 29, some 30, some 31, some 32, some 33, some 34, some 35, some 36, some 37, some 38, some 39, some 40, some 12] r 9 = some true := by show (match r 32 with | .bool b => some b | _ => none) = some true; rw [h9]
              clear hs hq hf
              refine wanted_pos (by simp only [Region.wanted, hy]; rfl) ?_
              unfold gives
              go_simp
              exact obC_q (Below.refl _ _) rfl
            refine ⟨fun r wx hG hs hq hf => ?_, ?_⟩
            · have h9 : r 32 = .bool true := hf.1
              have h16 : r 39 = .bool true := hf.2.1
              clear hs hq hf
              refine wanted_pos rfl ?_
              unfold gives
              go_simp
              exact obC_q (Below.refl _ _) rfl
            refine ⟨fun r wx hG hs hq hf => ?_, ?_⟩
            · have h17 : r 40 = .bool true := hf.1
              clear hs hq hf
              refine wanted_pos rfl ?_
              unfold gives
              go_simp
              exact obC_q (Below.refl _ _) rfl
            exact trivial
          case hend =>
            intro u wz hG hfin
            have z18 : u 18 = .bool true := hfin 18 (by decide) (by kernel_rfl)
            clear hfin
            simp only [fill]
            go_simp
            go_wp2_with fail
            go_ret
            exact ⟨rfl, H0.out.2.2.trans (hG.below H0.out.2.2.size (by simp))⟩
        · rw [show decide (0 < n) = false from by simp [hn0], Bool.false_or] at hres
          rw [hres]
          have y4 : ¬ (0 : Int) < (n : Int) := by omega
          have y5 : n = 0 := by omega
          clear hres
          go_enter Tryd.func23, Tryd.ntmps23
          go_upto_region 1 with fail
          rw [show (w.alloc (.cells (bv old).toArray 35)).alloc (.cells (bv root).toArray 35) = w0 from HW0.out.symm]
          go_upto_region 4 with fail
          refine wp_region_desc [some 23, some 24, some 25, some 26, some 27, some 28, some 29, some 30, some 31, some 32, some 33, some 34, some 35, some 36, some 37, some 38, some 39, some 40, some 12] [] [] [(0, 0), (0, 0), (0, 0), (0, 0), (0, 0), (0, 0), (0, 0), (0, 0), (0, 0), (0, 0), (0, 0), (0, 0), (0, 0), (0, 0), (0, 0), (0, 0), (0, 0), (0, 0), (0, 0)] [] [] [] [] (gckDP W n L c a old e root w.heap.size) (fun _ _ _ => True) (fun _ => default) (by kernel_rfl) (by kernel_rfl) rfl (by kernel_rfl) (by kernel_rfl) (by kernel_rfl) rfl trivial (by simp; try omega) rfl (fun i hi => (no4 (by kernel_rfl) i hi).elim) ?hstep ?hend
          case hstep =>
            refine ⟨fun r wx hG hs hq hf => ?_, ?_⟩
            · have e5 : r 5 = .slice a L c := hs 5 rfl
              clear hs hq hf
              refine wanted_pos rfl ?_
              unfold gives
              go_simp
              exact obC_q (Below.refl _ _) rfl
            refine ⟨fun r wx hG hs hq hf => ?_, ?_⟩
            · have h0 : r 23 = .slice a L c := hf.1
              clear hs hq hf
              refine wanted_pos rfl ?_
              unfold gives
              go_simp
              exact obC_q (Below.refl _ _) rfl
            refine ⟨fun r wx hG hs hq hf => ?_, ?_⟩
            · have h1 : r 24 = .int .i64 (L : Nat) := hf.1
              clear hs hq hf
              refine wanted_pos rfl ?_
              unfold gives
              go_simp
              exact obC_q (Below.refl _ _) rfl
            refine ⟨fun r wx hG hs hq hf => ?_, ?_⟩
            · have h2 : r 25 = .bool true := hf.1
              clear hs hq hf
              refine wanted_pos rfl ?_
              unfold gives
              go_simp
              exact obC_q (Below.refl _ _) rfl
            refine ⟨fun r wx hG hs hq hf => ?_, ?_⟩
            · have e9 : r 9 = .pointer (some ⟨w.heap.size, 0, none⟩) := hs 9 rfl
              have h3 : r 26 = .bool true := hf.1
              have hy : ydD [some 23, some 24, some 25, some 26, some 27, some 28, some 29, some 30, some 31, some 32, some 33, some 34, some 35, some 36, some 37, some 38, some 39, some 40, some 12] r 3 = some true := by show (match r 26 with | .bool b => some b | _ => none) = some true; rw [h3]
              clear hs hq hf
              refine wanted_pos (by simp only [Region.wanted, hy]; rfl) ?_
              unfold gives
              refine gives_load_row 35 _ rfl w.heap.size e9 35 _ (0, 0) _ (hG.row (by simp; try omega) H0.out.1) Tryd.underlying35 rfl (hInfo _ HOL.out) ?_
              exact obC_q (Below.refl _ _) rfl
            refine ⟨fun r wx hG hs hq hf => ?_, ?_⟩
            · have e0 : r 0 = .int .i64 W := hs 0 rfl
              have h3 : r 26 = .bool true := hf.1
              have hy : ydD [some 23, some 24, some 25, some 26, some 27, some 28, some 29, some 30, some 31, some 32, some 33, some 34, some 35, some 36, some 37, some 38, some 39, some 40, some 12] r 3 = some true := by show (match r 26 with | .bool b => some b | _ => none) = some true; rw [h3]
              clear hs hq hf
              refine wanted_pos (by simp only [Region.wanted, hy]; rfl) ?_
              unfold gives
              go_simp
              exact obC_q (Below.refl _ _) rfl
            refine ⟨fun r wx hG hs hq hf => ?_, ?_⟩
            · have h5 : r 28 = .int .i64 W := hf.1
              have h3 : r 26 = .bool true := hf.2.1
              have hy : ydD [some 23, some 24, some 25, some 26, some 27, some 28, some 29, some 30, some 31, some 32, some 33, some 34, some 35, some 36, some 37, some 38, some 39, some 40, some 12] r 3 = some true := by show (match r 26 with | .bool b => some b | _ => none) = some true; rw [h3]
              clear hs hq hf
              refine wanted_pos (by simp only [Region.wanted, hy]; rfl) ?_
              unfold gives
              go_simp
              refine (HEM.out wx hG).mono ?_
              rintro e wy ⟨rfl, hb1⟩
              exact ⟨_, rfl, obC_q hb1 rfl⟩
            refine ⟨fun r wx hG hs hq hf => ?_, ?_⟩
            · have h4 : r 27 = .agg (bv old).toArray := hf.1
              have h6 : r 29 = .agg (bv e).toArray := hf.2.1
              have h3 : r 26 = .bool true := hf.2.2.1
              have hy : ydD [some 23, some 24, some 25, some 26, some 27, some 28, some 29, some 30, some 31, some 32, some 33, some 34, some 35, some 36, some 37, some 38, some 39, some 40, some 12] r 3 = some true := by show (match r 26 with | .bool b => some b | _ => none) = some true; rw [h3]
              clear hs hq hf
              refine wanted_pos (by simp only [Region.wanted, hy]; rfl) ?_
              unfold gives
              have hqe := eqIn_hash old e HOL.out HE32.out wx
              rw [HB.out] at hqe
              have hgd := eq_guard
              go_simp
              exact obC_q (Below.refl _ _) rfl
            refine ⟨fun r wx hG hs hq hf => ?_, ?_⟩
            · have h3 : r 26 = .bool true := hf.1
              have h7 : r 30 = .bool true := hf.2.1
              clear hs hq hf
              refine wanted_pos rfl ?_
              unfold gives
              go_simp
              exact obC_q (Below.refl _ _) rfl
            refine ⟨fun r wx hG hs hq hf => ?_, ?_⟩
            · have h8 : r 31 = .bool true := hf.1
              clear hs hq hf
              refine wanted_pos rfl ?_
              unfold gives
              go_simp
              exact obC_q (Below.refl _ _) rfl
            refine ⟨fun r wx hG hs hq hf => ?_, ?_⟩
            · have e2 : r 2 = .int .u64 n := hs 2 rfl
              have h9 : r 32 = .bool true := hf.1
              have hy : ydD [some 23, some 24, some 25, some 26, some 27, some 28, some 29, some 30, some 31, some 32, some 33, some 34, some 35, some 36, some 37, some 38, some 39, some 40, some 12] r 9 = some true := by show (match r 32 with | .bool b => some b | _ => none) = some true; rw [h9]
              clear hs hq hf
              refine wanted_pos (by simp only [Region.wanted, hy]; rfl) ?_
              unfold gives
              go_simp
              exact obC_q (Below.refl _ _) rfl
            refine ⟨fun r wx hG hs hq hf => ?_, ?_⟩
            · have h10 : r 33 = .int .u64 n := hf.1
              have h9 : r 32 = .bool true := hf.2.1
              have hy : ydD [some 23, some 24, some 25, some 26, some 27, some 28, some 29, some 30, some 31, some 32, some 33, some 34, some 35, some 36, some 37, some 38, some 39, some 40, some 12] r 9 = some true := by show (match r 32 with | .bool b => some b | _ => none) = some true; rw [h9]
              clear hs hq hf
              refine wanted_pos (by simp only [Region.wanted, hy]; rfl) ?_
              unfold gives
              go_simp
              exact obC_q (Below.refl _ _) rfl
            refine ⟨fun r wx hG hs hq hf => ?_, ?_⟩
            · have h11 : r 34 = .bool false := hf.1
              have h9 : r 32 = .bool true := hf.2.1
              have hy : ydD [some 23, some 24, some 25, some 26, some 27, some 28, some 29, some 30, some 31, some 32, some 33, some 34, some 35, some 36, some 37, some 38, some 39, some 40, some 12] r 9 = some true := by show (match r 32 with | .bool b => some b | _ => none) = some true; rw [h9]
              clear hs hq hf
              refine wanted_pos (by simp only [Region.wanted, hy]; rfl) ?_
              unfold gives
              go_simp
              exact obC_q (Below.refl _ _) rfl
            refine ⟨fun r wx hG hs hq hf => ?_, ?_⟩
            · have e10 : r 10 = .pointer (some ⟨w.heap.size + 1, 0, none⟩) := hs 10 rfl
              have h12 : r 35 = .bool false := hf.1
              have hy : ydD [some 23, some 24, some 25, some 26, some 27, some 28, some 29, some 30, some 31, some 32, some 33, some 34, some 35, some 36, some 37, some 38, some 39, some 40, some 12] r 12 = some false := by show (match r 35 with | .bool b => some b | _ => none) = some false; rw [h12]
              clear hs hq hf
              refine wanted_pos (by simp only [Region.wanted, hy]; rfl) ?_
              unfold gives
              refine gives_load_row 35 _ rfl (w.heap.size + 1) e10 35 _ (0, 0) _ (hG.row (by simp; try omega) H0.out.2.1) Tryd.underlying35 rfl (hInfo _ HRT.out) ?_
              exact obC_q (Below.refl _ _) rfl
            refine ⟨fun r wx hG hs hq hf => ?_, ?_⟩
            · have e9 : r 9 = .pointer (some ⟨w.heap.size, 0, none⟩) := hs 9 rfl
              have h12 : r 35 = .bool false := hf.1
              have hy : ydD [some 23, some 24, some 25, some 26, some 27, some 28, some 29, some 30, some 31, some 32, some 33, some 34, some 35, some 36, some 37, some 38, some 39, some 40, some 12] r 12 = some false := by show (match r 35 with | .bool b => some b | _ => none) = some false; rw [h12]
              clear hs hq hf
              refine wanted_pos (by simp only [Region.wanted, hy]; rfl) ?_
              unfold gives
              refine gives_load_row 35 _ rfl w.heap.size e9 35 _ (0, 0) _ (hG.row (by simp; try omega) H0.out.1) Tryd.underlying35 rfl (hInfo _ HOL.out) ?_
              exact obC_q (Below.refl _ _) rfl
            refine ⟨fun r wx hG hs hq hf => ?_, ?_⟩
            · have h13 : r 36 = .agg (bv root).toArray := hf.1
              have h14 : r 37 = .agg (bv old).toArray := hf.2.1
              have h12 : r 35 = .bool false := hf.2.2.1
              have hy : ydD [some 23, some 24, some 25, some 26, some 27, some 28, some 29, some 30, some 31, some 32, some 33, some 34, some 35, some 36, some 37, some 38, some 39, some 40, some 12] r 12 = some false := by show (match r 35 with | .bool b => some b | _ => none) = some false; rw [h12]
              clear hs hq hf
              refine wanted_pos (by simp only [Region.wanted, hy]; rfl) ?_
              unfold gives
              have hqe := eqIn_hash root old HRT.out HOL.out wx
              have hgd := eq_guard
              go_simp
              exact obC_q (Below.refl _ _) rfl
            refine ⟨fun r wx hG hs hq hf => ?_, ?_⟩
            · have h12 : r 35 = .bool false := hf.1
              have h15 : r 38 = .bool (root == old) := hf.2.1
              have h9 : r 32 = .bool true := hf.2.2.1
              have hy : ydD [some 23, some 24, some 25, some 26, some 27, some 28, some 29, some 30, some 31, some 32, some 33, some 34, some 35, some 36, some 37, some 38, some 39, some 40, some 12] r 9 = some true := by show (match r 32 with | .bool b => some b | _ => none) = some true; rw [h9]
              clear hs hq hf
              refine wanted_pos (by simp only [Region.wanted, hy]; rfl) ?_
              unfold gives
              go_simp
              exact obC_q (Below.refl _ _) rfl
            refine ⟨fun r wx hG hs hq hf => ?_, ?_⟩
            · have h9 : r 32 = .bool true := hf.1
              have h16 : r 39 = .bool (root == old) := hf.2.1
              clear hs hq hf
              refine wanted_pos rfl ?_
              unfold gives
              go_simp
              exact obC_q (Below.refl _ _) rfl
            refine ⟨fun r wx hG hs hq hf => ?_, ?_⟩
            · have h17 : r 40 = .bool (root == old) := hf.1
              clear hs hq hf
              refine wanted_pos rfl ?_
              unfold gives
              go_simp
              exact obC_q (Below.refl _ _) rfl
            exact trivial
          case hend =>
            intro u wz hG hfin
            have z18 : u 18 = .bool (root == old) := hfin 18 (by decide) (by kernel_rfl)
            clear hfin
            simp only [fill]
            go_simp
            go_wp2_with fail
            go_ret
            exact ⟨rfl, H0.out.2.2.trans (hG.below H0.out.2.2.size (by simp))⟩
    · have y3 : ((L : Int) == 0) = false := by simp; omega
      rw [show decide (L = 0) = false from by simp [hL0], Bool.false_and, Bool.false_and] at hres
      rw [hres]
      clear hres
      go_enter Tryd.func23, Tryd.ntmps23
      go_upto_region 1 with fail
      rw [show (w.alloc (.cells (bv old).toArray 35)).alloc (.cells (bv root).toArray 35) = w0 from HW0.out.symm]
      go_upto_region 4 with fail
      refine wp_region_desc [some 23, some 24, some 25, some 26, some 27, some 28, some 29, some 30, some 31, some 32, some 33, some 34, some 35, some 36, some 37, some 38, some 39, some 40, some 12] [] [] [(0, 0), (0, 0), (0, 0), (0, 0), (0, 0), (0, 0), (0, 0), (0, 0), (0, 0), (0, 0), (0, 0), (0, 0), (0, 0), (0, 0), (0, 0), (0, 0), (0, 0), (0, 0), (0, 0)] [] [] [] [] (gckAP W n L c a old e root w.heap.size) (fun _ _ _ => True) (fun _ => default) (by kernel_rfl) (by kernel_rfl) rfl (by kernel_rfl) (by kernel_rfl) (by kernel_rfl) rfl trivial (by simp; try omega) rfl (fun i hi => (no4 (by kernel_rfl) i hi).elim) ?hstep ?hend
      case hstep =>
        refine ⟨fun r wx hG hs hq hf => ?_, ?_⟩
        · have e5 : r 5 = .slice a L c := hs 5 rfl
          clear hs hq hf
          refine wanted_pos rfl ?_
          unfold gives
          go_simp
          exact obC_q (Below.refl _ _) rfl
        refine ⟨fun r wx hG hs hq hf => ?_, ?_⟩
        · have h0 : r 23 = .slice a L c := hf.1
          clear hs hq hf
          refine wanted_pos rfl ?_
          unfold gives
          go_simp
          exact obC_q (Below.refl _ _) rfl
        refine ⟨fun r wx hG hs hq hf => ?_, ?_⟩
        · have h1 : r 24 = .int .i64 (L : Nat) := hf.1
          clear hs hq hf
          refine wanted_pos rfl ?_
          unfold gives
          go_simp
          exact obC_q (Below.refl _ _) rfl
        refine ⟨fun r wx hG hs hq hf => ?_, ?_⟩
        · have h2 : r 25 = .bool false := hf.1
          clear hs hq hf
          refine wanted_pos rfl ?_
          unfold gives
          go_simp
          exact obC_q (Below.refl _ _) rfl
        refine ⟨fun r wx hG hs hq hf => ?_, ?_⟩
        · have e9 : r 9 = .pointer (some ⟨w.heap.size, 0, none⟩) := hs 9 rfl
          have h3 : r 26 = .bool false := hf.1
          have hy : ydD [some 23, some 24, some 25, some 26, some 27, some 28, some 29, some 30, some 31, some 32, some 33, some 34, some 35, some 36, some 37, some 38, some 39, some 40, some 12] r 3 = some false := by show (match r 26 with | .bool b => some b | _ => none) = some false; rw [h3]
          refine wanted_neg (by simp only [Region.wanted, hy]; rfl) ?_
          exact rfl
        refine ⟨fun r wx hG hs hq hf => ?_, ?_⟩
        · have e0 : r 0 = .int .i64 W := hs 0 rfl
          have h3 : r 26 = .bool false := hf.1
          have hy : ydD [some 23, some 24, some 25, some 26, some 27, some 28, some 29, some 30, some 31, some 32, some 33, some 34, some 35, some 36, some 37, some 38, some 39, some 40, some 12] r 3 = some false := by show (match r 26 with | .bool b => some b | _ => none) = some false; rw [h3]
          refine wanted_neg (by simp only [Region.wanted, hy]; rfl) ?_
          exact rfl
        refine ⟨fun r wx hG hs hq hf => ?_, ?_⟩
        · have h5 : r 28 = undef := hf.1
          have h3 : r 26 = .bool false := hf.2.1
          have hy : ydD [some 23, some 24, some 25, some 26, some 27, some 28, some 29, some 30, some 31, some 32, some 33, some 34, some 35, some 36, some 37, some 38, some 39, some 40, some 12] r 3 = some false := by show (match r 26 with | .bool b => some b | _ => none) = some false; rw [h3]
          refine wanted_neg (by simp only [Region.wanted, hy]; rfl) ?_
          exact rfl
        refine ⟨fun r wx hG hs hq hf => ?_, ?_⟩
        · have h4 : r 27 = undef := hf.1
          have h6 : r 29 = undef := hf.2.1
          have h3 : r 26 = .bool false := hf.2.2.1
          have hy : ydD [some 23, some 24, some 25, some 26, some 27, some 28, some 29, some 30, some 31, some 32, some 33, some 34, some 35, some 36, some 37, some 38, some 39, some 40, some 12] r 3 = some false := by show (match r 26 with | .bool b => some b | _ => none) = some false; rw [h3]
          refine wanted_neg (by simp only [Region.wanted, hy]; rfl) ?_
          exact rfl
        refine ⟨fun r wx hG hs hq hf => ?_, ?_⟩
        · have h3 : r 26 = .bool false := hf.1
          have h7 : r 30 = undef := hf.2.1
          clear hs hq hf
          refine wanted_pos rfl ?_
          unfold gives
          go_simp
          exact obC_q (Below.refl _ _) rfl
        refine ⟨fun r wx hG hs hq hf => ?_, ?_⟩
        · have h8 : r 31 = .bool false := hf.1
          clear hs hq hf
          refine wanted_pos rfl ?_
          unfold gives
          go_simp
          exact obC_q (Below.refl _ _) rfl
        refine ⟨fun r wx hG hs hq hf => ?_, ?_⟩
        · have e2 : r 2 = .int .u64 n := hs 2 rfl
          have h9 : r 32 = .bool false := hf.1
          have hy : ydD [some 23, some 24, some 25, some 26, some 27, some 28, some 29, some 30, some 31, some 32, some 33, some 34, some 35, some 36, some 37, some 38, some 39, some 40, some 12] r 9 = some false := by show (match r 32 with | .bool b => some b | _ => none) = some false; rw [h9]
          refine wanted_neg (by simp only [Region.wanted, hy]; rfl) ?_
          exact rfl
        refine ⟨fun r wx hG hs hq hf => ?_, ?_⟩
        · have h10 : r 33 = undef := hf.1
          have h9 : r 32 = .bool false := hf.2.1
          have hy : ydD [some 23, some 24, some 25, some 26, some 27, some 28, some 29, some 30, some 31, some 32, some 33, some 34, some 35, some 36, some 37, some 38, some 39, some 40, some 12] r 9 = some false := by show (match r 32 with | .bool b => some b | _ => none) = some false; rw [h9]
          refine wanted_neg (by simp only [Region.wanted, hy]; rfl) ?_
          exact rfl
        refine ⟨fun r wx hG hs hq hf => ?_, ?_⟩
        · have h11 : r 34 = undef := hf.1
          have h9 : r 32 = .bool false := hf.2.1
          have hy : ydD [some 23, some 24, some 25, some 26, some 27, some 28, some 29, some 30, some 31, some 32, some 33, some 34, some 35, some 36, some 37, some 38, some 39, some 40, some 12] r 9 = some false := by show (match r 32 with | .bool b => some b | _ => none) = some false; rw [h9]
          refine wanted_neg (by simp only [Region.wanted, hy]; rfl) ?_
          exact rfl
        refine ⟨fun r wx hG hs hq hf => ?_, ?_⟩
        · have e10 : r 10 = .pointer (some ⟨w.heap.size + 1, 0, none⟩) := hs 10 rfl
          have h12 : r 35 = undef := hf.1
          have hy : ydD [some 23, some 24, some 25, some 26, some 27, some 28, some 29, some 30, some 31, some 32, some 33, some 34, some 35, some 36, some 37, some 38, some 39, some 40, some 12] r 12 = none := by show (match r 35 with | .bool b => some b | _ => none) = none; rw [h12]; rfl
          refine wanted_neg (by simp only [Region.wanted, hy]; rfl) ?_
          exact rfl
        refine ⟨fun r wx hG hs hq hf => ?_, ?_⟩
        · have e9 : r 9 = .pointer (some ⟨w.heap.size, 0, none⟩) := hs 9 rfl
          have h12 : r 35 = undef := hf.1
          have hy : ydD [some 23, some 24, some 25, some 26, some 27, some 28, some 29, some 30, some 31, some 32, some 33, some 34, some 35, some 36, some 37, some 38, some 39, some 40, some 12] r 12 = none := by show (match r 35 with | .bool b => some b | _ => none) = none; rw [h12]; rfl
          refine wanted_neg (by simp only [Region.wanted, hy]; rfl) ?_
          exact rfl
        refine ⟨fun r wx hG hs hq hf => ?_, ?_⟩
        · have h13 : r 36 = undef := hf.1
          have h14 : r 37 = undef := hf.2.1
          have h12 : r 35 = undef := hf.2.2.1
          have hy : ydD [some 23, some 24, some 25, some 26, some 27, some 28, some 29, some 30, some 31, some 32, some 33, some 34, some 35, some 36, some 37, some 38, some 39, some 40, some 12] r 12 = none := by show (match r 35 with | .bool b => some b | _ => none) = none; rw [h12]; rfl
          refine wanted_neg (by simp only [Region.wanted, hy]; rfl) ?_
          exact rfl
        refine ⟨fun r wx hG hs hq hf => ?_, ?_⟩
        · have h12 : r 35 = undef := hf.1
          have h15 : r 38 = undef := hf.2.1
          have h9 : r 32 = .bool false := hf.2.2.1
          have hy : ydD [some 23, some 24, some 25, some 26, some 27, some 28, some 29, some 30, some 31, some 32, some 33, some 34, some 35, some 36, some 37, some 38, some 39, some 40, some 12] r 9 = some false := by show (match r 32 with | .bool b => some b | _ => none) = some false; rw [h9]
          refine wanted_neg (by simp only [Region.wanted, hy]; rfl) ?_
          exact rfl
        refine ⟨fun r wx hG hs hq hf => ?_, ?_⟩
        · have h9 : r 32 = .bool false := hf.1
          have h16 : r 39 = undef := hf.2.1
          clear hs hq hf
          refine wanted_pos rfl ?_
          unfold gives
          go_simp
          exact obC_q (Below.refl _ _) rfl
        refine ⟨fun r wx hG hs hq hf => ?_, ?_⟩
        · have h17 : r 40 = .bool false := hf.1
          clear hs hq hf
          refine wanted_pos rfl ?_
          unfold gives
          go_simp
          exact obC_q (Below.refl _ _) rfl
        exact trivial
      case hend =>
        intro u wz hG hfin
        have z18 : u 18 = .bool false := hfin 18 (by decide) (by kernel_rfl)
        clear hfin
        simp only [fill]
        go_simp
        go_wp2_with fail
        go_ret
        exact ⟨rfl, H0.out.2.2.trans (hG.below H0.out.2.2.size (by simp))⟩
  · have hres : gB W m n old root ps = (gE m n ps.length == 0 && (gS W m n old ps).1 == old && (gS W m n old ps).2 == root) := by rw [gB, if_neg hnm, if_neg hm0]
    have hcl := gClimb_any W m n old ps a c w0 hW ho hm hn h32 hl (hr.keep H0.out.2.2) (hT.keepB H0.out.2.2)
    obtain ⟨hx32, hy32⟩ := gS_32 W m n old ps ho h32
    obtain ⟨xx, hx⟩ : ∃ o, o = (gS W m n old ps).1 := ⟨_, rfl⟩
    obtain ⟨yy, hy⟩ : ∃ o, o = (gS W m n old ps).2 := ⟨_, rfl⟩
    obtain ⟨E, hE⟩ : ∃ e, e = gE m n ps.length := ⟨_, rfl⟩
    obtain ⟨L, hL⟩ : ∃ L, L = ps.length := ⟨_, rfl⟩
    rw [← hE, ← hx, ← hy] at hcl hres
    rw [← hx] at hx32
    rw [← hy] at hy32
    rw [← hL] at hcl ⊢
    rw [hres]
    have HC := Lib.hid hcl
    have HX := Lib.hid (And.intro hx32 hy32)
    have y2 : ((m : Int) == 0) = false := by simp; omega
    clear hr hT h32 hL hl hcl hres hx hy hE hx32 hy32
    go_enter Tryd.func23, Tryd.ntmps23
    go_upto_region 1 with fail
    rw [show (w.alloc (.cells (bv old).toArray 35)).alloc (.cells (bv root).toArray 35) = w0 from HW0.out.symm]
    go_wp2_with (with_reducible show wpList _ _ _ (⟨some 45, _, _, _, _, _⟩ :: _) _ _; refine wpList_load_row rfl _ _ rfl w.heap.size rfl _ _ (0, 0) _ H0.out.1 Tryd.underlying35 rfl (hInfo _ HOL.out) ?_)
    refine HC.out.mono ?_
    rintro e w1 ⟨rfl, hb1⟩
    have H1 := Lib.hid (And.intro ((hb1.block _ (Array.getElem?_eq_some_iff.1 H0.out.1).1).trans H0.out.1) (And.intro ((hb1.block _ (Array.getElem?_eq_some_iff.1 H0.out.2.1).1).trans H0.out.2.1) (H0.out.2.2.trans (hb1.mono H0.out.2.2.size))))
    clear hb1
    have Ha := Lib.hid (show ((w1.alloc (.cells (bv (zs 32)).toArray 35)).alloc (.cells (bv (zs 32)).toArray 35)).heap[w1.heap.size]? = some (.cells (bv (zs 32)).toArray 35 (0, 0)) from by rw [heap_alloc_old _ _ (by simp)]; exact heap_alloc_new _ _)
    have Hb := Lib.hid (show ((w1.alloc (.cells (bv (zs 32)).toArray 35)).alloc (.cells (bv (zs 32)).toArray 35)).heap[w1.heap.size + 1]? = some (.cells (bv (zs 32)).toArray 35 (0, 0)) from by
      have := heap_alloc_new (w1.alloc (.cells (bv (zs 32)).toArray 35)) (.cells (bv (zs 32)).toArray 35)
      simpa using this)
    go_upto_region 6 with (first
      | (with_reducible show wpList _ _ _ (⟨none, Op.store _ _ _, _, _, _, _⟩ :: _) _ _; refine wpList_store_whole rfl _ _ _ rfl w1.heap.size (bv xx) rfl rfl (bv (zs 32)) _ Ha.out (hInfo' _ HX.out.1) (by rw [bv_length, bv_length, HX.out.1, HZ32.out]) (bv_one _) ?_; intro w3 HGa hga)
      | (with_reducible show wpList _ _ _ (⟨none, Op.store _ _ _, _, _, _, _⟩ :: _) _ _; refine wpList_store_whole rfl _ _ _ rfl (w1.heap.size + 1) (bv yy) rfl rfl (bv (zs 32)) _ ((hga.block (w1.heap.size + 1) (Array.getElem?_eq_some_iff.1 Hb.out).1 (by simp)).trans Hb.out) (hInfo' _ HX.out.2) (by rw [bv_length, bv_length, HX.out.2, HZ32.out]) (bv_one _) ?_; intro w5 HGb hgb))
    have k3 : Below w1.heap.size w1 w3 := below_grow (((Below.refl _ _).alloc (Nat.le_refl _) _).alloc (by simp) _) hga (Nat.le_refl _) (by simp; omega)
    have k5 : Below w1.heap.size w1 w5 := below_grow k3 hgb (by omega) (Nat.lt_of_lt_of_le (Array.getElem?_eq_some_iff.1 Hb.out).1 hga.size)
    have hra := (hgb.block w1.heap.size (Array.getElem?_eq_some_iff.1 HGa.out).1 (by simp)).trans HGa.out
    have hrb := HGb.out
    have H5 := Lib.hid (And.intro hra (And.intro hrb (And.intro ((k5.block _ (Array.getElem?_eq_some_iff.1 H1.out.1).1).trans H1.out.1) (And.intro ((k5.block _ (Array.getElem?_eq_some_iff.1 H1.out.2.1).1).trans H1.out.2.1) (H1.out.2.2.trans (k5.mono H1.out.2.2.size))))))
    clear hra hrb k3 k5 HGa HGb hga hgb Ha Hb
    have hgd := eq_guard
    by_cases hE : E = 0
    · subst hE
      have hqe := eqIn_hash xx old HX.out.1 HOL.out w5
      have hqf := eqIn_hash yy root HX.out.2 HRT.out w5
      cases hb1 : (xx == old)
      · rw [hb1] at hqe
        go_wp2_with (first
          | (with_reducible show wpList _ _ _ (⟨some 54, _, _, _, _, _⟩ :: _) _ _; refine wpList_guard rfl ?_; refine wpList_load_row rfl _ _ rfl w1.heap.size rfl _ _ (0, 0) _ H5.out.1 Tryd.underlying35 rfl (hInfo _ HX.out.1) ?_)
          | (with_reducible show wpList _ _ _ (⟨some 55, _, _, _, _, _⟩ :: _) _ _; refine wpList_guard rfl ?_; refine wpList_load_row rfl _ _ rfl w.heap.size rfl _ _ (0, 0) _ H5.out.2.2.1 Tryd.underlying35 rfl (hInfo _ HOL.out) ?_))
        go_ret
        exact ⟨by rw [hb1]; simp, H5.out.2.2.2.2⟩
      · rw [hb1] at hqe
        go_wp2_with (first
          | (with_reducible show wpList _ _ _ (⟨some 54, _, _, _, _, _⟩ :: _) _ _; refine wpList_guard rfl ?_; refine wpList_load_row rfl _ _ rfl w1.heap.size rfl _ _ (0, 0) _ H5.out.1 Tryd.underlying35 rfl (hInfo _ HX.out.1) ?_)
          | (with_reducible show wpList _ _ _ (⟨some 55, _, _, _, _, _⟩ :: _) _ _; refine wpList_guard rfl ?_; refine wpList_load_row rfl _ _ rfl w.heap.size rfl _ _ (0, 0) _ H5.out.2.2.1 Tryd.underlying35 rfl (hInfo _ HOL.out) ?_)
          | (with_reducible show wpList _ _ _ (⟨some 59, _, _, _, _, _⟩ :: _) _ _; refine wpList_guard rfl ?_; refine wpList_load_row rfl _ _ rfl (w1.heap.size + 1) rfl _ _ (0, 0) _ H5.out.2.1 Tryd.underlying35 rfl (hInfo _ HX.out.2) ?_)
          | (with_reducible show wpList _ _ _ (⟨some 60, _, _, _, _, _⟩ :: _) _ _; refine wpList_guard rfl ?_; refine wpList_load_row rfl _ _ rfl (w.heap.size + 1) rfl _ _ (0, 0) _ H5.out.2.2.2.1 Tryd.underlying35 rfl (hInfo _ HRT.out) ?_))
        go_ret
        exact ⟨by rw [hb1]; simp, H5.out.2.2.2.2⟩
    · have hEb : (E == 0) = false := by simp [hE]
      go_wp2_with fail
      go_ret
      exact ⟨by simp [hEb], H5.out.2.2.2.2⟩
end Go.Proofs.YtfibhmgjkooemaaDoor
