/- growth.Climb, the reference's; growth.Check, the reference's. (printed by gen/grk.py) -/
import Derived.Test.YtgimblpdmlnfeaaDoorGrG
import Derived.Test.YtgimblpdmlnfeaaDoorGrE
import Derived.Test.YtgimblpdmlnfeaaDoorGrJ
namespace Go.Proofs.YtgimblpdmlnfeaaDoor
open Go.RowKit Sha Root Path Growth

theorem gClimb_any (W : Int) (m n : Nat) (old : List UInt8) (ps : List (List UInt8)) (a : Option Addr) (c : Nat) (w : World) (hW : -9223372036854775808 ≤ W ∧ W ≤ 9223372036854775807) (ho : old.length = 32) (hm : m < 18446744073709551616) (hn : n < 18446744073709551616)
    (h32 : ∀ p ∈ ps, p.length = 32) (hl : ps.length ≤ 140737488355328) (hr : Rd w 32 (.slice a ps.length c) ps.length (ps.flatMap bv)) (hT : Tabs w) :
    Calls Tryd.prog 64 #[.int .i64 W, .int .u64 m, .int .u64 n, .agg (bv old).toArray, .slice a ps.length c] w fun e w' => e = .returned (.tuple #[.agg (bv (gS W m n old ps).1).toArray, .agg (bv (gS W m n old ps).2).toArray, .int .i64 (gE m n ps.length)]) ∧ Below w.heap.size w w' := by
  by_cases hE : gE m n ps.length = 0
  · rw [gS, if_pos hE, hE]
    cases hw : whole m n with
    | true => exact gClimb_whole W m n old ps a c w hW ho hm hn h32 hl hr hT hE hw
    | false =>
      cases ps with
      | nil =>
        exfalso
        have h0 : ¬ (m = 0 ∨ n < m) := fun h => by rw [gE, if_pos h] at hE; exact absurd hE (by decide)
        have h2 : ¬ [].length (α := List UInt8) < szG m n true := fun h => by rw [gE, if_neg h0, if_pos h] at hE; exact absurd hE (by decide)
        rw [szG, hw, if_neg (by decide)] at h2
        simp at h2
      | cons p0 q => exact gClimb_part W m n old p0 q a c w hW ho hm hn h32 hl hr hT hE hw
  · rw [gS, if_neg hE]
    exact gClimb_bad W m n old a ps.length c w hE hm hn hl
/-- What each operation hands on. -/
def rcl8P (_b10 _b11 _g : Nat) (oa ob : List UInt8) : Nat → Value → Prop
  | 0, v => v = .agg (bv oa).toArray
  | 1, v => v = .agg (bv ob).toArray
  | 4, v => v = .int .i64 0
  | _, _ => True
def rcl8O (_b10 _b11 _g : Nat) (oa ob : List UInt8) : Nat → Obj
  | 2 => .cells (bv oa).toArray 35 (0, 0)
  | 3 => .cells (bv ob).toArray 35 (0, 0)
  | _ => default

set_option maxHeartbeats 16000000 in
set_option maxRecDepth 100000 in
theorem refGClimb_any (W : Int) (m n : Nat) (old : List UInt8) (ps : List (List UInt8)) (a : Option Addr) (c : Nat) (w : World) (hW : -9223372036854775808 ≤ W ∧ W ≤ 9223372036854775807) (ho : old.length = 32) (hm : m < 18446744073709551616) (hn : n < 18446744073709551616)
    (h32 : ∀ p ∈ ps, p.length = 32) (hl : ps.length ≤ 140737488355328) (hr : Rd w 32 (.slice a ps.length c) ps.length (ps.flatMap bv)) (hT : TabsR w) :
    Calls Tryd.prog 67 #[.int .i64 W, .int .u64 m, .int .u64 n, .agg (bv old).toArray, .slice a ps.length c] w fun e w' => e = .returned (.tuple #[.agg (bv (gS W m n old ps).1).toArray, .agg (bv (gS W m n old ps).2).toArray, .int .i64 (gE m n ps.length)]) ∧ Below w.heap.size w w' := by
  have hz := (zero_of_info info32).1
  have HZ32 := Lib.hid (show (zs 32).length = 32 by simp [zs])
  obtain ⟨w0, hw0⟩ : ∃ x : World, x = ((w.alloc (.cells (bv old).toArray 35)).alloc (.cells (bv (zs 32)).toArray 35)).alloc (.cells (bv (zs 32)).toArray 35) := ⟨_, rfl⟩
  have hr0 : w0.heap[w.heap.size]? = some (.cells (bv old).toArray 35 (0, 0)) := by
    rw [hw0, heap_alloc_old _ _ (by simp; omega), heap_alloc_old _ _ (by simp)]; exact heap_alloc_new _ _
  have hr1 : w0.heap[w.heap.size + 1]? = some (.cells (bv (zs 32)).toArray 35 (0, 0)) := by
    rw [hw0, heap_alloc_old _ _ (by simp)]
    have := heap_alloc_new (w.alloc (.cells (bv old).toArray 35)) (.cells (bv (zs 32)).toArray 35)
    simpa using this
  have hr2 : w0.heap[w.heap.size + 1 + 1]? = some (.cells (bv (zs 32)).toArray 35 (0, 0)) := by
    rw [hw0]
    have := heap_alloc_new ((w.alloc (.cells (bv old).toArray 35)).alloc (.cells (bv (zs 32)).toArray 35)) (.cells (bv (zs 32)).toArray 35)
    simpa using this
  have hbw0 : Below w.heap.size w w0 := by rw [hw0]; exact (((Below.refl _ _).alloc (Nat.le_refl _) _).alloc (by simp) _).alloc (by simp; omega) _
  have HW0 := Lib.hid hw0
  have H0 := Lib.hid (And.intro hr0 (And.intro hr1 (And.intro hr2 hbw0)))
  clear hw0 hr0 hr1 hr2 hbw0
  have _hl := hl
  obtain ⟨L, hL⟩ : ∃ L, L = ps.length := ⟨_, rfl⟩
  by_cases h0 : m = 0 ∨ n < m
  · have eE : gE m n ps.length = 9 := if_pos h0
    rw [gS, if_neg (by rw [eE]; decide), eE, ← hL]
    clear hr hT h32 eE hL hl
    by_cases hm0 : m = 0
    · have y1 : ((m : Int) == 0) = true := by simp; omega
      go_enter Tryd.func67, Tryd.ntmps67
      go_upto_region 1 with fail
      rw [show ((w.alloc (.cells (bv old).toArray 35)).alloc (.cells (bv (zs 32)).toArray 35)).alloc (.cells (bv (zs 32)).toArray 35) = w0 from HW0.out.symm]
      go_wp2_with (first
        | (with_reducible show wpList _ _ _ (⟨none, Op.store _ _ _, _, _, _, _⟩ :: _) _ _; refine wpList_store_whole rfl _ _ _ rfl (w.heap.size + 1) (bv (zs 32)) rfl rfl (bv (zs 32)) _ H0.out.2.1 (hInfo' _ HZ32.out) rfl (bv_one _) ?_; intro w8 HG8 hg8)
        | (with_reducible show wpList _ _ _ (⟨none, Op.store _ _ _, _, _, _, _⟩ :: _) _ _; refine wpList_store_whole rfl _ _ _ rfl (w.heap.size + 1 + 1) (bv (zs 32)) rfl rfl (bv (zs 32)) _ ((hg8.block (w.heap.size + 1 + 1) (Array.getElem?_eq_some_iff.1 H0.out.2.2.1).1 (by simp)).trans H0.out.2.2.1) (hInfo' _ HZ32.out) rfl (bv_one _) ?_; intro w9 HG9 hg9))
      have hr1 := (hg9.block (w.heap.size + 1) (Array.getElem?_eq_some_iff.1 HG8.out).1 (by simp)).trans HG8.out
      have hld1 := run_loadVar_row (P := Tryd.prog) w9 (w.heap.size + 1) _ 35 _ (0, 0) _ hr1 Tryd.underlying35 rfl (hInfo _ HZ32.out)
      have hld2 := run_loadVar_row (P := Tryd.prog) w9 (w.heap.size + 1 + 1) _ 35 _ (0, 0) _ HG9.out Tryd.underlying35 rfl (hInfo _ HZ32.out)
      refine bodyPost_ret (v := .tuple #[.agg (bv (zs 32)).toArray, .agg (bv (zs 32)).toArray, .int .i64 9]) ?_ ?_ ?_
      · simp [results, Tryd.results67, asAddr, hld1, hld2]
      · rfl
      · have k1 := below_grow H0.out.2.2.2 hg8 (by omega) (Array.getElem?_eq_some_iff.1 H0.out.2.1).1
        exact ⟨rfl, below_grow k1 hg9 (by omega) (Nat.lt_of_lt_of_le (Array.getElem?_eq_some_iff.1 H0.out.2.2.1).1 hg8.size)⟩
    · have y1 : ((m : Int) == 0) = false := by simp; omega
      have y2 : (n : Int) < (m : Int) := by omega
      go_enter Tryd.func67, Tryd.ntmps67
      go_upto_region 1 with fail
      rw [show ((w.alloc (.cells (bv old).toArray 35)).alloc (.cells (bv (zs 32)).toArray 35)).alloc (.cells (bv (zs 32)).toArray 35) = w0 from HW0.out.symm]
      go_wp2_with (first
        | (with_reducible show wpList _ _ _ (⟨none, Op.store _ _ _, _, _, _, _⟩ :: _) _ _; refine wpList_store_whole rfl _ _ _ rfl (w.heap.size + 1) (bv (zs 32)) rfl rfl (bv (zs 32)) _ H0.out.2.1 (hInfo' _ HZ32.out) rfl (bv_one _) ?_; intro w8 HG8 hg8)
        | (with_reducible show wpList _ _ _ (⟨none, Op.store _ _ _, _, _, _, _⟩ :: _) _ _; refine wpList_store_whole rfl _ _ _ rfl (w.heap.size + 1 + 1) (bv (zs 32)) rfl rfl (bv (zs 32)) _ ((hg8.block (w.heap.size + 1 + 1) (Array.getElem?_eq_some_iff.1 H0.out.2.2.1).1 (by simp)).trans H0.out.2.2.1) (hInfo' _ HZ32.out) rfl (bv_one _) ?_; intro w9 HG9 hg9))
      have hr1 := (hg9.block (w.heap.size + 1) (Array.getElem?_eq_some_iff.1 HG8.out).1 (by simp)).trans HG8.out
      have hld1 := run_loadVar_row (P := Tryd.prog) w9 (w.heap.size + 1) _ 35 _ (0, 0) _ hr1 Tryd.underlying35 rfl (hInfo _ HZ32.out)
      have hld2 := run_loadVar_row (P := Tryd.prog) w9 (w.heap.size + 1 + 1) _ 35 _ (0, 0) _ HG9.out Tryd.underlying35 rfl (hInfo _ HZ32.out)
      refine bodyPost_ret (v := .tuple #[.agg (bv (zs 32)).toArray, .agg (bv (zs 32)).toArray, .int .i64 9]) ?_ ?_ ?_
      · simp [results, Tryd.results67, asAddr, hld1, hld2]
      · rfl
      · have k1 := below_grow H0.out.2.2.2 hg8 (by omega) (Array.getElem?_eq_some_iff.1 H0.out.2.1).1
        exact ⟨rfl, below_grow k1 hg9 (by omega) (Nat.lt_of_lt_of_le (Array.getElem?_eq_some_iff.1 H0.out.2.2.1).1 hg8.size)⟩
  have y1 : ((m : Int) == 0) = false := by simp; omega
  have y2 : ¬ (n : Int) < (m : Int) := by omega
  have hsz := fun wx => refGSize_any m n wx hm hn
  rw [if_neg h0] at hsz
  have hle := szG_le m n true (by omega) (by omega) (by omega)
  by_cases h2 : ps.length < szG m n true
  · have eE : gE m n ps.length = 2 := by rw [gE, if_neg h0, if_pos h2]
    rw [gS, if_neg (by rw [eE]; decide), eE, ← hL]
    rw [← hL] at h2 hl
    obtain ⟨S, hS⟩ : ∃ S, S = szG m n true := ⟨_, rfl⟩
    rw [← hS] at hsz hle h2
    have HSZ := Lib.hid hsz
    have z2 : (L : Int) < (S : Int) := by omega
    clear hr hT h32 eE hL hS hsz
    go_enter Tryd.func67, Tryd.ntmps67
    go_upto_region 1 with fail
    rw [show ((w.alloc (.cells (bv old).toArray 35)).alloc (.cells (bv (zs 32)).toArray 35)).alloc (.cells (bv (zs 32)).toArray 35) = w0 from HW0.out.symm]
    go_wp2_with fail
    refine (HSZ.out _).mono ?_
    rintro e w1 ⟨rfl, hb⟩
    have H1 := Lib.hid (And.intro ((hb.block _ (Array.getElem?_eq_some_iff.1 H0.out.1).1).trans H0.out.1) (And.intro ((hb.block _ (Array.getElem?_eq_some_iff.1 H0.out.2.1).1).trans H0.out.2.1) (And.intro ((hb.block _ (Array.getElem?_eq_some_iff.1 H0.out.2.2.1).1).trans H0.out.2.2.1) (H0.out.2.2.2.trans (hb.mono H0.out.2.2.2.size)))))
    clear hb
    go_wp2_with (first
      | (with_reducible show wpList _ _ _ (⟨none, Op.store _ _ _, _, _, _, _⟩ :: _) _ _; refine wpList_store_whole rfl _ _ _ rfl (w.heap.size + 1) (bv (zs 32)) rfl rfl (bv (zs 32)) _ H1.out.2.1 (hInfo' _ HZ32.out) rfl (bv_one _) ?_; intro w8 HG8 hg8)
      | (with_reducible show wpList _ _ _ (⟨none, Op.store _ _ _, _, _, _, _⟩ :: _) _ _; refine wpList_store_whole rfl _ _ _ rfl (w.heap.size + 1 + 1) (bv (zs 32)) rfl rfl (bv (zs 32)) _ ((hg8.block (w.heap.size + 1 + 1) (Array.getElem?_eq_some_iff.1 H1.out.2.2.1).1 (by simp)).trans H1.out.2.2.1) (hInfo' _ HZ32.out) rfl (bv_one _) ?_; intro w9 HG9 hg9))
    have hr1 := (hg9.block (w.heap.size + 1) (Array.getElem?_eq_some_iff.1 HG8.out).1 (by simp)).trans HG8.out
    have hld1 := run_loadVar_row (P := Tryd.prog) w9 (w.heap.size + 1) _ 35 _ (0, 0) _ hr1 Tryd.underlying35 rfl (hInfo _ HZ32.out)
    have hld2 := run_loadVar_row (P := Tryd.prog) w9 (w.heap.size + 1 + 1) _ 35 _ (0, 0) _ HG9.out Tryd.underlying35 rfl (hInfo _ HZ32.out)
    refine bodyPost_ret (v := .tuple #[.agg (bv (zs 32)).toArray, .agg (bv (zs 32)).toArray, .int .i64 2]) ?_ ?_ ?_
    · simp [results, Tryd.results67, asAddr, hld1, hld2]
    · rfl
    · have k1 := below_grow H1.out.2.2.2 hg8 (by omega) (Array.getElem?_eq_some_iff.1 H1.out.2.1).1
      exact ⟨rfl, below_grow k1 hg9 (by omega) (Nat.lt_of_lt_of_le (Array.getElem?_eq_some_iff.1 H1.out.2.2.1).1 hg8.size)⟩
  by_cases h4 : szG m n true < ps.length
  · have eE : gE m n ps.length = 4 := by rw [gE, if_neg h0, if_neg h2, if_pos h4]
    rw [gS, if_neg (by rw [eE]; decide), eE, ← hL]
    rw [← hL] at h2 h4 hl
    obtain ⟨S, hS⟩ : ∃ S, S = szG m n true := ⟨_, rfl⟩
    rw [← hS] at hsz hle h2 h4
    have HSZ := Lib.hid hsz
    have z2 : ¬ (L : Int) < (S : Int) := by omega
    have z3 : (S : Int) < (L : Int) := by omega
    clear hr hT h32 eE hL hS hsz
    go_enter Tryd.func67, Tryd.ntmps67
    go_upto_region 1 with fail
    rw [show ((w.alloc (.cells (bv old).toArray 35)).alloc (.cells (bv (zs 32)).toArray 35)).alloc (.cells (bv (zs 32)).toArray 35) = w0 from HW0.out.symm]
    go_wp2_with fail
    refine (HSZ.out _).mono ?_
    rintro e w1 ⟨rfl, hb⟩
    have H1 := Lib.hid (And.intro ((hb.block _ (Array.getElem?_eq_some_iff.1 H0.out.1).1).trans H0.out.1) (And.intro ((hb.block _ (Array.getElem?_eq_some_iff.1 H0.out.2.1).1).trans H0.out.2.1) (And.intro ((hb.block _ (Array.getElem?_eq_some_iff.1 H0.out.2.2.1).1).trans H0.out.2.2.1) (H0.out.2.2.2.trans (hb.mono H0.out.2.2.2.size)))))
    clear hb
    go_wp2_with fail
    refine (HSZ.out _).mono ?_
    rintro e w2 ⟨rfl, hb⟩
    have H2 := Lib.hid (And.intro ((hb.block _ (Array.getElem?_eq_some_iff.1 H1.out.1).1).trans H1.out.1) (And.intro ((hb.block _ (Array.getElem?_eq_some_iff.1 H1.out.2.1).1).trans H1.out.2.1) (And.intro ((hb.block _ (Array.getElem?_eq_some_iff.1 H1.out.2.2.1).1).trans H1.out.2.2.1) (H1.out.2.2.2.trans (hb.mono H1.out.2.2.2.size)))))
    clear hb
    go_wp2_with (first
      | (with_reducible show wpList _ _ _ (⟨none, Op.store _ _ _, _, _, _, _⟩ :: _) _ _; refine wpList_store_whole rfl _ _ _ rfl (w.heap.size + 1) (bv (zs 32)) rfl rfl (bv (zs 32)) _ H2.out.2.1 (hInfo' _ HZ32.out) rfl (bv_one _) ?_; intro w8 HG8 hg8)
      | (with_reducible show wpList _ _ _ (⟨none, Op.store _ _ _, _, _, _, _⟩ :: _) _ _; refine wpList_store_whole rfl _ _ _ rfl (w.heap.size + 1 + 1) (bv (zs 32)) rfl rfl (bv (zs 32)) _ ((hg8.block (w.heap.size + 1 + 1) (Array.getElem?_eq_some_iff.1 H2.out.2.2.1).1 (by simp)).trans H2.out.2.2.1) (hInfo' _ HZ32.out) rfl (bv_one _) ?_; intro w9 HG9 hg9))
    have hr1 := (hg9.block (w.heap.size + 1) (Array.getElem?_eq_some_iff.1 HG8.out).1 (by simp)).trans HG8.out
    have hld1 := run_loadVar_row (P := Tryd.prog) w9 (w.heap.size + 1) _ 35 _ (0, 0) _ hr1 Tryd.underlying35 rfl (hInfo _ HZ32.out)
    have hld2 := run_loadVar_row (P := Tryd.prog) w9 (w.heap.size + 1 + 1) _ 35 _ (0, 0) _ HG9.out Tryd.underlying35 rfl (hInfo _ HZ32.out)
    refine bodyPost_ret (v := .tuple #[.agg (bv (zs 32)).toArray, .agg (bv (zs 32)).toArray, .int .i64 4]) ?_ ?_ ?_
    · simp [results, Tryd.results67, asAddr, hld1, hld2]
    · rfl
    · have k1 := below_grow H2.out.2.2.2 hg8 (by omega) (Array.getElem?_eq_some_iff.1 H2.out.2.1).1
      exact ⟨rfl, below_grow k1 hg9 (by omega) (Nat.lt_of_lt_of_le (Array.getElem?_eq_some_iff.1 H2.out.2.2.1).1 hg8.size)⟩
  · have eE : gE m n ps.length = 0 := by rw [gE, if_neg h0, if_neg h2, if_neg h4]
    rw [gS, if_pos eE, eE]
    have hsh := fun wx (hb : Below w.heap.size w wx) => show_any W hW n old m n true ps a c wx (Nat.le_refl _) ho (by omega) (by omega) hn h32 (by omega) (hr.keep hb) (hT.keepB hb)
    have hor := showG_32 W m n old true ps ho h32
    obtain ⟨oo, hoo⟩ : ∃ x, x = showG (nodeH W) m n old true ps := ⟨_, rfl⟩
    rw [← hoo] at hsh hor ⊢
    obtain ⟨oa, ob⟩ := oo
    simp only at hsh hor ⊢
    rw [← hL] at hsh h2 h4 hl ⊢
    obtain ⟨S, hS⟩ : ∃ S, S = szG m n true := ⟨_, rfl⟩
    rw [← hS] at hsz hle h2 h4
    have HSZ := Lib.hid hsz
    have HSH := Lib.hid hsh
    have HO := Lib.hid hor
    have HOL := Lib.hid ho
    have z2 : ¬ (L : Int) < (S : Int) := by omega
    have z3 : ¬ (S : Int) < (L : Int) := by omega
    clear hr hT h32 eE hL hS hsz hsh hor hoo ho
    go_enter Tryd.func67, Tryd.ntmps67
    go_upto_region 1 with fail
    rw [show ((w.alloc (.cells (bv old).toArray 35)).alloc (.cells (bv (zs 32)).toArray 35)).alloc (.cells (bv (zs 32)).toArray 35) = w0 from HW0.out.symm]
    go_wp2_with fail
    refine (HSZ.out _).mono ?_
    rintro e w1 ⟨rfl, hb⟩
    have H1 := Lib.hid (And.intro ((hb.block _ (Array.getElem?_eq_some_iff.1 H0.out.1).1).trans H0.out.1) (And.intro ((hb.block _ (Array.getElem?_eq_some_iff.1 H0.out.2.1).1).trans H0.out.2.1) (And.intro ((hb.block _ (Array.getElem?_eq_some_iff.1 H0.out.2.2.1).1).trans H0.out.2.2.1) (H0.out.2.2.2.trans (hb.mono H0.out.2.2.2.size)))))
    clear hb
    go_wp2_with fail
    refine (HSZ.out _).mono ?_
    rintro e w2 ⟨rfl, hb⟩
    have H2 := Lib.hid (And.intro ((hb.block _ (Array.getElem?_eq_some_iff.1 H1.out.1).1).trans H1.out.1) (And.intro ((hb.block _ (Array.getElem?_eq_some_iff.1 H1.out.2.1).1).trans H1.out.2.1) (And.intro ((hb.block _ (Array.getElem?_eq_some_iff.1 H1.out.2.2.1).1).trans H1.out.2.2.1) (H1.out.2.2.2.trans (hb.mono H1.out.2.2.2.size)))))
    clear hb
    go_wp2_with (with_reducible show wpList _ _ _ (⟨some 44, _, _, _, _, _⟩ :: _) _ _; refine wpList_load_row rfl _ _ rfl w.heap.size rfl _ _ (0, 0) _ H2.out.1 Tryd.underlying35 rfl (hInfo _ HOL.out) ?_)
    refine (HSH.out _ H2.out.2.2.2).mono ?_
    rintro e w3 ⟨rfl, hb⟩
    have H3 := Lib.hid (And.intro ((hb.block _ (Array.getElem?_eq_some_iff.1 H2.out.2.1).1).trans H2.out.2.1) (And.intro ((hb.block _ (Array.getElem?_eq_some_iff.1 H2.out.2.2.1).1).trans H2.out.2.2.1) (H2.out.2.2.2.trans (hb.mono H2.out.2.2.2.size))))
    have hl3 : w.heap.size + 1 + 1 < w3.heap.size := (Array.getElem?_eq_some_iff.1 H3.out.2.1).1
    clear hb
    have Ha := Lib.hid (show ((w3.alloc (.cells (bv (zs 32)).toArray 35)).alloc (.cells (bv (zs 32)).toArray 35)).heap[w3.heap.size]? = some (.cells (bv (zs 32)).toArray 35 (0, 0)) from by rw [heap_alloc_old _ _ (by simp)]; exact heap_alloc_new _ _)
    have Hb := Lib.hid (show ((w3.alloc (.cells (bv (zs 32)).toArray 35)).alloc (.cells (bv (zs 32)).toArray 35)).heap[w3.heap.size + 1]? = some (.cells (bv (zs 32)).toArray 35 (0, 0)) from by
      have := heap_alloc_new (w3.alloc (.cells (bv (zs 32)).toArray 35)) (.cells (bv (zs 32)).toArray 35)
      simpa using this)
    go_upto_region 8 with (first
      | (with_reducible show wpList _ _ _ (⟨none, Op.store _ _ _, _, _, _, _⟩ :: _) _ _; refine wpList_store_whole rfl _ _ _ rfl w3.heap.size (bv oa) rfl rfl (bv (zs 32)) _ Ha.out (hInfo' _ HO.out.1) (by rw [bv_length, bv_length, HO.out.1, HZ32.out]) (bv_one _) ?_; intro w4 HGa hga)
      | (with_reducible show wpList _ _ _ (⟨none, Op.store _ _ _, _, _, _, _⟩ :: _) _ _; refine wpList_store_whole rfl _ _ _ rfl (w3.heap.size + 1) (bv ob) rfl rfl (bv (zs 32)) _ ((hga.block (w3.heap.size + 1) (Array.getElem?_eq_some_iff.1 Hb.out).1 (by simp)).trans Hb.out) (hInfo' _ HO.out.2) (by rw [bv_length, bv_length, HO.out.2, HZ32.out]) (bv_one _) ?_; intro w5 HGb hgb))
    have k3 : Below w3.heap.size w3 w4 := below_grow (((Below.refl _ _).alloc (Nat.le_refl _) _).alloc (by simp) _) hga (Nat.le_refl _) (by simp; omega)
    have k5 : Below w3.heap.size w3 w5 := below_grow k3 hgb (by omega) (Nat.lt_of_lt_of_le (Array.getElem?_eq_some_iff.1 Hb.out).1 hga.size)
    have hra := (hgb.block w3.heap.size (Array.getElem?_eq_some_iff.1 HGa.out).1 (by simp)).trans HGa.out
    have hrb := HGb.out
    have H5 := Lib.hid (And.intro hra (And.intro hrb (And.intro ((k5.block _ (Array.getElem?_eq_some_iff.1 H3.out.1).1).trans H3.out.1) (And.intro ((k5.block _ (Array.getElem?_eq_some_iff.1 H3.out.2.1).1).trans H3.out.2.1) (H3.out.2.2.trans (k5.mono H3.out.2.2.size))))))
    clear hra hrb k3 k5 HGa HGb hga hgb Ha Hb
    refine wp_region_desc [some 49, some 50, none, none, some 12] [] [(2, 0), (3, 1)] [(0, 0), (0, 0), (2, 0), (2, 1), (0, 0)] [] [2, 3] [w.heap.size + 1, w.heap.size + 1 + 1] [.cells (bv ((zs 32))).toArray 35 (0, 0), .cells (bv ((zs 32))).toArray 35 (0, 0)] (rcl8P (w.heap.size + 1) (w.heap.size + 1 + 1) w3.heap.size oa ob) (fun _ _ _ => True) (rcl8O (w.heap.size + 1) (w.heap.size + 1 + 1) w3.heap.size oa ob) (by kernel_rfl) (by kernel_rfl) rfl (by kernel_rfl) (by kernel_rfl) (by kernel_rfl) rfl ⟨H5.out.2.2.1, H5.out.2.2.2.1, trivial⟩ (by simp; try omega) rfl (fun i hi => (no4 (by kernel_rfl) i hi).elim) ?hstep ?hend
    case hstep =>
      -- operation 0: Op.load 35 (tmp 13)
      refine ⟨fun r wx hG hs hq hf => ?_, ?_⟩
      · have e13 : r 13 = .pointer (some ⟨w3.heap.size, 0, none⟩) := hs 13 rfl
        clear hs hq hf
        refine wanted_pos rfl ?_
        unfold gives
        refine gives_load_row 35 _ rfl w3.heap.size e13 35 _ (0, 0) _ (hG.row (by simp; try omega) H5.out.1) Tryd.underlying35 rfl (hInfo _ HO.out.1) ?_
        exact obC_q (Below.refl _ _) rfl
      -- operation 1: Op.load 35 (tmp 14)
      refine ⟨fun r wx hG hs hq hf => ?_, ?_⟩
      · have e14 : r 14 = .pointer (some ⟨w3.heap.size + 1, 0, none⟩) := hs 14 rfl
        clear hs hq hf
        refine wanted_pos rfl ?_
        unfold gives
        refine gives_load_row 35 _ rfl (w3.heap.size + 1) e14 35 _ (0, 0) _ (hG.row (by simp; try omega) H5.out.2.1) Tryd.underlying35 rfl (hInfo _ HO.out.2) ?_
        exact obC_q (Below.refl _ _) rfl
      -- operation 2: Op.store 35 (tmp 10) (tmp 49)
      refine ⟨fun r wx hG hs hq hf => ?_, ?_⟩
      · have e10 : r 10 = .pointer (some ⟨w.heap.size + 1, 0, none⟩) := hs 10 rfl
        have h0 : r 49 = .agg (bv oa).toArray := hf.1
        clear hs hf
        refine wanted_pos rfl ?_
        unfold gives
        refine gives_store_row 35 _ _ rfl (w.heap.size + 1) (bv oa) e10 h0 (bv ((zs 32))) 35 (hq 0 rfl) (hInfo' _ HO.out.1) (by rw [bv_length, bv_length, HO.out.1, HZ32.out]) (bv_one _) ?_
        intro wy h1 h2
        exact obC_st h1 h2
      -- operation 3: Op.store 35 (tmp 11) (tmp 50)
      refine ⟨fun r wx hG hs hq hf => ?_, ?_⟩
      · have e11 : r 11 = .pointer (some ⟨w.heap.size + 1 + 1, 0, none⟩) := hs 11 rfl
        have h1 : r 50 = .agg (bv ob).toArray := hf.1
        have h2 : wx.heap[w.heap.size + 1]? = some (.cells (bv oa).toArray 35 (0, 0)) := hf.2.1
        clear hs hf
        refine wanted_pos rfl ?_
        unfold gives
        refine gives_store_row 35 _ _ rfl (w.heap.size + 1 + 1) (bv ob) e11 h1 (bv ((zs 32))) 35 (hq 1 rfl) (hInfo' _ HO.out.2) (by rw [bv_length, bv_length, HO.out.2, HZ32.out]) (bv_one _) ?_
        intro wy h1 h2
        exact obC_st h1 h2
      -- operation 4: Op.assign (const (Value.int IntKind.i64 0))
      refine ⟨fun r wx hG hs hq hf => ?_, ?_⟩
      · have h3 : wx.heap[w.heap.size + 1 + 1]? = some (.cells (bv ob).toArray 35 (0, 0)) := hf.1
        clear hs hq hf
        refine wanted_pos rfl ?_
        unfold gives
        go_simp
        exact obC_q (Below.refl _ _) rfl
      exact trivial
    case hend =>
      intro u wz hG hfin
      have z2 : wz.heap[w.heap.size + 1]? = some (.cells (bv oa).toArray 35 (0, 0)) := hfin 2 (by decide) (by kernel_rfl)
      have z3 : wz.heap[w.heap.size + 1 + 1]? = some (.cells (bv ob).toArray 35 (0, 0)) := hfin 3 (by decide) (by kernel_rfl)
      have z4 : u 4 = .int .i64 0 := hfin 4 (by decide) (by kernel_rfl)
      clear hfin
      simp only [fill]
      have HZ := Lib.hid (And.intro z2 (And.intro z3 hG))
      clear z2 z3 hG
      go_simp
      have hld1 := run_loadVar_row (P := Tryd.prog) wz (w.heap.size + 1) _ 35 _ (0, 0) _ HZ.out.1 Tryd.underlying35 rfl (hInfo _ HO.out.1)
      have hld2 := run_loadVar_row (P := Tryd.prog) wz (w.heap.size + 1 + 1) _ 35 _ (0, 0) _ HZ.out.2.1 Tryd.underlying35 rfl (hInfo _ HO.out.2)
      go_wp2_with fail
      refine bodyPost_ret (v := .tuple #[.agg (bv oa).toArray, .agg (bv ob).toArray, .int .i64 0]) ?_ ?_ ?_
      · simp [results, Tryd.results67, asAddr, hld1, hld2]
      · rfl
      · exact ⟨rfl, H5.out.2.2.2.2.trans (HZ.out.2.2.below H5.out.2.2.2.2.size (by simp; try omega))⟩
/-- Does a proof pass? -/
def gB (W : Int) (m n : Nat) (old root : List UInt8) (ps : List (List UInt8)) : Bool := if n < m then false else if m = 0 then (decide (ps.length = 0) && (old == emptyH W) && (decide (0 < n) || (root == old))) else (gE m n ps.length == 0 && (gS W m n old ps).1 == old && (gS W m n old ps).2 == root)
/-- What each operation hands on. -/
def gckAP (_W : Int) (_n L c : Nat) (a : Option Addr) (_old _e _root : List UInt8) (_B : Nat) : Nat → Value → Prop
  | 0, v => v = .slice a L c
  | 1, v => v = .int .i64 (L : Nat)
  | 2, v => v = .bool false
  | 3, v => v = .bool false
  | 4, v => v = undef
  | 5, v => v = undef
  | 6, v => v = undef
  | 7, v => v = undef
  | 8, v => v = .bool false
  | 9, v => v = .bool false
  | 10, v => v = undef
  | 11, v => v = undef
  | 12, v => v = undef
  | 13, v => v = undef
  | 14, v => v = undef
  | 15, v => v = undef
  | 16, v => v = undef
  | 17, v => v = .bool false
  | 18, v => v = .bool false
  | _, _ => True
/-- What each operation hands on. -/
def gckBP (W : Int) (_n L c : Nat) (a : Option Addr) (old e _root : List UInt8) (_B : Nat) : Nat → Value → Prop
  | 0, v => v = .slice a L c
  | 1, v => v = .int .i64 (L : Nat)
  | 2, v => v = .bool true
  | 3, v => v = .bool true
  | 4, v => v = .agg (bv old).toArray
  | 5, v => v = .int .i64 W
  | 6, v => v = .agg (bv e).toArray
  | 7, v => v = .bool false
  | 8, v => v = .bool false
  | 9, v => v = .bool false
  | 10, v => v = undef
  | 11, v => v = undef
  | 12, v => v = undef
  | 13, v => v = undef
  | 14, v => v = undef
  | 15, v => v = undef
  | 16, v => v = undef
  | 17, v => v = .bool false
  | 18, v => v = .bool false
  | _, _ => True
/-- What each operation hands on. -/
def gckCP (W : Int) (n L c : Nat) (a : Option Addr) (old e _root : List UInt8) (_B : Nat) : Nat → Value → Prop
  | 0, v => v = .slice a L c
  | 1, v => v = .int .i64 (L : Nat)
  | 2, v => v = .bool true
  | 3, v => v = .bool true
  | 4, v => v = .agg (bv old).toArray
  | 5, v => v = .int .i64 W
  | 6, v => v = .agg (bv e).toArray
  | 7, v => v = .bool true
  | 8, v => v = .bool true
  | 9, v => v = .bool true
  | 10, v => v = .int .u64 n
  | 11, v => v = .bool true
  | 12, v => v = .bool true
  | 13, v => v = undef
  | 14, v => v = undef
  | 15, v => v = undef
  | 16, v => v = .bool true
  | 17, v => v = .bool true
  | 18, v => v = .bool true
  | _, _ => True
/-- What each operation hands on. -/
def gckDP (W : Int) (n L c : Nat) (a : Option Addr) (old e root : List UInt8) (_B : Nat) : Nat → Value → Prop
  | 0, v => v = .slice a L c
  | 1, v => v = .int .i64 (L : Nat)
  | 2, v => v = .bool true
  | 3, v => v = .bool true
  | 4, v => v = .agg (bv old).toArray
  | 5, v => v = .int .i64 W
  | 6, v => v = .agg (bv e).toArray
  | 7, v => v = .bool true
  | 8, v => v = .bool true
  | 9, v => v = .bool true
  | 10, v => v = .int .u64 n
  | 11, v => v = .bool false
  | 12, v => v = .bool false
  | 13, v => v = .agg (bv root).toArray
  | 14, v => v = .agg (bv old).toArray
  | 15, v => v = .bool (root == old)
  | 16, v => v = .bool (root == old)
  | 17, v => v = .bool (root == old)
  | 18, v => v = .bool (root == old)
  | _, _ => True
/-- What each operation hands on. -/
def rckAP (_W : Int) (_n L c : Nat) (a : Option Addr) (_old _e _root : List UInt8) (_B : Nat) : Nat → Value → Prop
  | 0, v => v = .slice a L c
  | 1, v => v = .int .i64 (L : Nat)
  | 2, v => v = .bool false
  | 3, v => v = .bool false
  | 4, v => v = undef
  | 5, v => v = undef
  | 6, v => v = undef
  | 7, v => v = undef
  | 8, v => v = .bool false
  | 9, v => v = .bool false
  | 10, v => v = undef
  | 11, v => v = undef
  | 12, v => v = undef
  | 13, v => v = undef
  | 14, v => v = undef
  | 15, v => v = undef
  | 16, v => v = undef
  | 17, v => v = .bool false
  | 18, v => v = .bool false
  | _, _ => True
/-- What each operation hands on. -/
def rckBP (W : Int) (_n L c : Nat) (a : Option Addr) (old e _root : List UInt8) (_B : Nat) : Nat → Value → Prop
  | 0, v => v = .slice a L c
  | 1, v => v = .int .i64 (L : Nat)
  | 2, v => v = .bool true
  | 3, v => v = .bool true
  | 4, v => v = .agg (bv old).toArray
  | 5, v => v = .int .i64 W
  | 6, v => v = .agg (bv e).toArray
  | 7, v => v = .bool false
  | 8, v => v = .bool false
  | 9, v => v = .bool false
  | 10, v => v = undef
  | 11, v => v = undef
  | 12, v => v = undef
  | 13, v => v = undef
  | 14, v => v = undef
  | 15, v => v = undef
  | 16, v => v = undef
  | 17, v => v = .bool false
  | 18, v => v = .bool false
  | _, _ => True
/-- What each operation hands on. -/
def rckCP (W : Int) (n L c : Nat) (a : Option Addr) (old e _root : List UInt8) (_B : Nat) : Nat → Value → Prop
  | 0, v => v = .slice a L c
  | 1, v => v = .int .i64 (L : Nat)
  | 2, v => v = .bool true
  | 3, v => v = .bool true
  | 4, v => v = .agg (bv old).toArray
  | 5, v => v = .int .i64 W
  | 6, v => v = .agg (bv e).toArray
  | 7, v => v = .bool true
  | 8, v => v = .bool true
  | 9, v => v = .bool true
  | 10, v => v = .int .u64 n
  | 11, v => v = .bool true
  | 12, v => v = .bool true
  | 13, v => v = undef
  | 14, v => v = undef
  | 15, v => v = undef
  | 16, v => v = .bool true
  | 17, v => v = .bool true
  | 18, v => v = .bool true
  | _, _ => True
/-- What each operation hands on. -/
def rckDP (W : Int) (n L c : Nat) (a : Option Addr) (old e root : List UInt8) (_B : Nat) : Nat → Value → Prop
  | 0, v => v = .slice a L c
  | 1, v => v = .int .i64 (L : Nat)
  | 2, v => v = .bool true
  | 3, v => v = .bool true
  | 4, v => v = .agg (bv old).toArray
  | 5, v => v = .int .i64 W
  | 6, v => v = .agg (bv e).toArray
  | 7, v => v = .bool true
  | 8, v => v = .bool true
  | 9, v => v = .bool true
  | 10, v => v = .int .u64 n
  | 11, v => v = .bool false
  | 12, v => v = .bool false
  | 13, v => v = .agg (bv root).toArray
  | 14, v => v = .agg (bv old).toArray
  | 15, v => v = .bool (root == old)
  | 16, v => v = .bool (root == old)
  | 17, v => v = .bool (root == old)
  | 18, v => v = .bool (root == old)
  | _, _ => True


set_option maxHeartbeats 16000000 in
set_option maxRecDepth 100000 in
theorem gCheck_any (W : Int) (m n : Nat) (old root : List UInt8) (ps : List (List UInt8)) (a : Option Addr) (c : Nat) (w : World) (hW : -9223372036854775808 ≤ W ∧ W ≤ 9223372036854775807) (ho : old.length = 32) (hrt : root.length = 32) (hm : m < 18446744073709551616) (hn : n < 18446744073709551616)
    (h32 : ∀ p ∈ ps, p.length = 32) (hl : ps.length ≤ 140737488355328) (hr : Rd w 32 (.slice a ps.length c) ps.length (ps.flatMap bv)) (hT : Tabs w) :
    Calls Tryd.prog 42 #[.int .i64 W, .int .u64 m, .int .u64 n, .agg (bv old).toArray, .agg (bv root).toArray, .slice a ps.length c] w fun e w' => e = .returned (.bool (gB W m n old root ps)) ∧ Below w.heap.size w w' := by
  have hz := (zero_of_info info32).1
  have HZ32 := Lib.hid (show (zs 32).length = 32 by simp [zs])
  obtain ⟨w0, hw0⟩ : ∃ x : World, x = (w.alloc (.cells (bv old).toArray 35)).alloc (.cells (bv root).toArray 35) := ⟨_, rfl⟩
  have hbox : w0.heap[w.heap.size]? = some (.cells (bv old).toArray 35 (0, 0)) := by
    rw [hw0, heap_alloc_old _ _ (by simp)]; exact heap_alloc_new _ _
  have hrow : w0.heap[w.heap.size + 1]? = some (.cells (bv root).toArray 35 (0, 0)) := by
    rw [hw0]
    have := heap_alloc_new (w.alloc (.cells (bv old).toArray 35)) (.cells (bv root).toArray 35)
    simpa using this
  have hbw0 : Below w.heap.size w w0 := by rw [hw0]; exact ((Below.refl _ _).alloc (Nat.le_refl _) _).alloc (by simp) _
  have HW0 := Lib.hid hw0
  have H0 := Lib.hid (And.intro hbox (And.intro hrow hbw0))
  have HOL := Lib.hid ho
  have HRT := Lib.hid hrt
  clear hw0 hbox hrow hbw0
  by_cases hnm : n < m
  · have hres : gB W m n old root ps = false := if_pos hnm
    have y1 : (n : Int) < (m : Int) := by omega
    obtain ⟨L, hL⟩ : ∃ L, L = ps.length := ⟨_, rfl⟩
    rw [hres, ← hL]
    clear hr hT h32 hL hres hl
    go_enter Tryd.func42, Tryd.ntmps42
    go_upto_region 1 with fail
    rw [show (w.alloc (.cells (bv old).toArray 35)).alloc (.cells (bv root).toArray 35) = w0 from HW0.out.symm]
    go_wp2_with fail
    go_ret
    exact ⟨rfl, H0.out.2.2⟩
  have y1 : ¬ (n : Int) < (m : Int) := by omega
  by_cases hm0 : m = 0
  · have hem := fun wx (hb : Below w.heap.size w wx) => Empty_any W wx hW (hT.keepB hb)
    have he32 := emptyH_length W
    have hres : gB W m n old root ps = (decide (ps.length = 0) && (old == emptyH W) && (decide (0 < n) || (root == old))) := by rw [gB, if_neg hnm, if_pos hm0]
    obtain ⟨e, he⟩ : ∃ x, x = emptyH W := ⟨_, rfl⟩
    rw [← he] at hem he32 hres
    obtain ⟨L, hL⟩ : ∃ L, L = ps.length := ⟨_, rfl⟩
    rw [← hL] at hres ⊢
    have HE32 := Lib.hid he32
    have HEM := Lib.hid (fun wx (hb : KeptT [] w0 wx) => hem wx (H0.out.2.2.trans (hb.below H0.out.2.2.size (by simp))))
    have y2 : ((m : Int) == 0) = true := by simp; omega
    clear hr hT h32 hL hl he he32 hem
    by_cases hL0 : L = 0
    · have y3 : ((L : Int) == 0) = true := by simp; omega
      rw [show decide (L = 0) = true from by simp [hL0], Bool.true_and] at hres
      have y3b : L = 0 := hL0
      cases hoe : (old == e)
      · rw [hoe, Bool.false_and] at hres
        have HB := Lib.hid hoe
        rw [hres]
        clear hres hoe hL0
        go_enter Tryd.func42, Tryd.ntmps42
        go_upto_region 1 with fail
        rw [show (w.alloc (.cells (bv old).toArray 35)).alloc (.cells (bv root).toArray 35) = w0 from HW0.out.symm]
        go_upto_region 4 with fail
        refine wp_region_desc [some 23, some 24, some 25, some 26, some 27, some 28, some 29, some 30, some 31, some 32, some 33, some 34, some 35, some 36, some 37, some 38, some 39, some 40, some 12] [] [] [(0, 0), (0, 0), (0, 0), (0, 0), (0, 0), (0, 0), (0, 0), (0, 0), (0, 0), (0, 0), (0, 0), (0, 0), (0, 0), (0, 0), (0, 0), (0, 0), (0, 0), (0, 0), (0, 0)] [] [] [] [] (gckBP W n L c a old e root w.heap.size) (fun _ _ _ => True) (fun _ => default) (by kernel_rfl) (by kernel_rfl) rfl (by kernel_rfl) (by kernel_rfl) (by kernel_rfl) rfl trivial (by simp; try omega) rfl (fun i hi => (no4 (by kernel_rfl) i hi).elim) ?hstep ?hend
        case hstep =>
          -- operation 0: Op.move (tmp 5)
          refine ⟨fun r wx hG hs hq hf => ?_, ?_⟩
          · have e5 : r 5 = .slice a L c := hs 5 rfl
            clear hs hq hf
            refine wanted_pos rfl ?_
            unfold gives
            go_simp
            exact obC_q (Below.refl _ _) rfl
          -- operation 1: Op.call ( callee := Callee.builtin Builtin.len, args := #[tmp 23], argTypes := #[44] )
          refine ⟨fun r wx hG hs hq hf => ?_, ?_⟩
          · have h0 : r 23 = .slice a L c := hf.1
            clear hs hq hf
            refine wanted_pos rfl ?_
            unfold gives
            go_simp
            exact obC_q (Below.refl _ _) rfl
          -- operation 2: Op.binOp BinOp.eql 3 (tmp 24) (const (Value.int IntKind.i64 0)) 3
          refine ⟨fun r wx hG hs hq hf => ?_, ?_⟩
          · have h1 : r 24 = .int .i64 (L : Nat) := hf.1
            clear hs hq hf
            refine wanted_pos rfl ?_
            unfold gives
            go_simp
            exact obC_q (Below.refl _ _) rfl
          -- operation 3: Op.move (tmp 25)
          refine ⟨fun r wx hG hs hq hf => ?_, ?_⟩
          · have h2 : r 25 = .bool true := hf.1
            clear hs hq hf
            refine wanted_pos rfl ?_
            unfold gives
            go_simp
            exact obC_q (Below.refl _ _) rfl
          -- operation 4: Op.load 35 (tmp 9)
          refine ⟨fun r wx hG hs hq hf => ?_, ?_⟩
          · have e9 : r 9 = .pointer (some ⟨w.heap.size, 0, none⟩) := hs 9 rfl
            have h3 : r 26 = .bool true := hf.1
            have hy : ydD [some 23, some 24, some 25, some 26, some 27, some 28, some 29, some 30, some 31, some 32, some 33, some 34, some 35, some 36, some 37, some 38, some 39, some 40, some 12] r 3 = some true := by show (match r 26 with | .bool b => some b | _ => none) = some true; rw [h3]
            clear hs hq hf
            refine wanted_pos (by simp only [Region.wanted, hy]; rfl) ?_
            unfold gives
            refine gives_load_row 35 _ rfl w.heap.size e9 35 _ (0, 0) _ (hG.row (by simp; try omega) H0.out.1) Tryd.underlying35 rfl (hInfo _ HOL.out) ?_
            exact obC_q (Below.refl _ _) rfl
          -- operation 5: Op.move (tmp 0)
          refine ⟨fun r wx hG hs hq hf => ?_, ?_⟩
          · have e0 : r 0 = .int .i64 W := hs 0 rfl
            have h3 : r 26 = .bool true := hf.1
            have hy : ydD [some 23, some 24, some 25, some 26, some 27, some 28, some 29, some 30, some 31, some 32, some 33, some 34, some 35, some 36, some 37, some 38, some 39, some 40, some 12] r 3 = some true := by show (match r 26 with | .bool b => some b | _ => none) = some true; rw [h3]
            clear hs hq hf
            refine wanted_pos (by simp only [Region.wanted, hy]; rfl) ?_
            unfold gives
            go_simp
            exact obC_q (Below.refl _ _) rfl
          -- operation 6: Op.call ( callee := Callee.value (func 60), args := #[tmp 28], argTypes := #[3] )
          refine ⟨fun r wx hG hs hq hf => ?_, ?_⟩
          · have h5 : r 28 = .int .i64 W := hf.1
            have h3 : r 26 = .bool true := hf.2.1
            have hy : ydD [some 23, some 24, some 25, some 26, some 27, some 28, some 29, some 30, some 31, some 32, some 33, some 34, some 35, some 36, some 37, some 38, some 39, some 40, some 12] r 3 = some true := by show (match r 26 with | .bool b => some b | _ => none) = some true; rw [h3]
            clear hs hq hf
            refine wanted_pos (by simp only [Region.wanted, hy]; rfl) ?_
            unfold gives
            go_simp
            refine (HEM.out wx hG).mono ?_
            rintro e wy ⟨rfl, hb1⟩
            exact ⟨_, rfl, obC_q hb1 rfl⟩
          -- operation 7: Op.binOp BinOp.eql 35 (tmp 27) (tmp 29) 35
          refine ⟨fun r wx hG hs hq hf => ?_, ?_⟩
          · have h4 : r 27 = .agg (bv old).toArray := hf.1
            have h6 : r 29 = .agg (bv e).toArray := hf.2.1
            have h3 : r 26 = .bool true := hf.2.2.1
            have hy : ydD [some 23, some 24, some 25, some 26, some 27, some 28, some 29, some 30, some 31, some 32, some 33, some 34, some 35, some 36, some 37, some 38, some 39, some 40, some 12] r 3 = some true := by show (match r 26 with | .bool b => some b | _ => none) = some true; rw [h3]
            clear hs hq hf
            refine wanted_pos (by simp only [Region.wanted, hy]; rfl) ?_
            unfold gives
            have hqe := eqIn_hash old e HOL.out HE32.out wx
            rw [HB.out] at hqe
            have hgd := eq_guard
            go_simp
            exact obC_q (Below.refl _ _) rfl
          -- operation 8: Op.pick (tmp 26) (tmp 30) (const (Value.bool false))
          refine ⟨fun r wx hG hs hq hf => ?_, ?_⟩
          · have h3 : r 26 = .bool true := hf.1
            have h7 : r 30 = .bool false := hf.2.1
            clear hs hq hf
            refine wanted_pos rfl ?_
            unfold gives
            go_simp
            exact obC_q (Below.refl _ _) rfl
          -- operation 9: Op.move (tmp 31)
          refine ⟨fun r wx hG hs hq hf => ?_, ?_⟩
          · have h8 : r 31 = .bool false := hf.1
            clear hs hq hf
            refine wanted_pos rfl ?_
            unfold gives
            go_simp
            exact obC_q (Below.refl _ _) rfl
          -- operation 10: Op.move (tmp 2)
          refine ⟨fun r wx hG hs hq hf => ?_, ?_⟩
          · have e2 : r 2 = .int .u64 n := hs 2 rfl
            have h9 : r 32 = .bool false := hf.1
            have hy : ydD [some 23, some 24, some 25, some 26, some 27, some 28, some 29, some 30, some 31, some 32, some 33, some 34, some 35, some 36, some 37, some 38, some 39, some 40, some 12] r 9 = some false := by show (match r 32 with | .bool b => some b | _ => none) = some false; rw [h9]
            refine wanted_neg (by simp only [Region.wanted, hy]; rfl) ?_
            exact rfl
          -- operation 11: Op.binOp BinOp.gtr 33 (tmp 33) (const (Value.int IntKind.u64 0)) 33
          refine ⟨fun r wx hG hs hq hf => ?_, ?_⟩
          · have h10 : r 33 = undef := hf.1
            have h9 : r 32 = .bool false := hf.2.1
            have hy : ydD [some 23, some 24, some 25, some 26, some 27, some 28, some 29, some 30, some 31, some 32, some 33, some 34, some 35, some 36, some 37, some 38, some 39, some 40, some 12] r 9 = some false := by show (match r 32 with | .bool b => some b | _ => none) = some false; rw [h9]
            refine wanted_neg (by simp only [Region.wanted, hy]; rfl) ?_
            exact rfl
          -- operation 12: Op.move (tmp 34)
          refine ⟨fun r wx hG hs hq hf => ?_, ?_⟩
          · have h11 : r 34 = undef := hf.1
            have h9 : r 32 = .bool false := hf.2.1
            have hy : ydD [some 23, some 24, some 25, some 26, some 27, some 28, some 29, some 30, some 31, some 32, some 33, some 34, some 35, some 36, some 37, some 38, some 39, some 40, some 12] r 9 = some false := by show (match r 32 with | .bool b => some b | _ => none) = some false; rw [h9]
            refine wanted_neg (by simp only [Region.wanted, hy]; rfl) ?_
            exact rfl
          -- operation 13: Op.load 35 (tmp 10)
          refine ⟨fun r wx hG hs hq hf => ?_, ?_⟩
          · have e10 : r 10 = .pointer (some ⟨w.heap.size + 1, 0, none⟩) := hs 10 rfl
            have h12 : r 35 = undef := hf.1
            have hy : ydD [some 23, some 24, some 25, some 26, some 27, some 28, some 29, some 30, some 31, some 32, some 33, some 34, some 35, some 36, some 37, some 38, some 39, some 40, some 12] r 12 = none := by show (match r 35 with | .bool b => some b | _ => none) = none; rw [h12]; rfl
            refine wanted_neg (by simp only [Region.wanted, hy]; rfl) ?_
            exact rfl
          -- operation 14: Op.load 35 (tmp 9)
          refine ⟨fun r wx hG hs hq hf => ?_, ?_⟩
          · have e9 : r 9 = .pointer (some ⟨w.heap.size, 0, none⟩) := hs 9 rfl
            have h12 : r 35 = undef := hf.1
            have hy : ydD [some 23, some 24, some 25, some 26, some 27, some 28, some 29, some 30, some 31, some 32, some 33, some 34, some 35, some 36, some 37, some 38, some 39, some 40, some 12] r 12 = none := by show (match r 35 with | .bool b => some b | _ => none) = none; rw [h12]; rfl
            refine wanted_neg (by simp only [Region.wanted, hy]; rfl) ?_
            exact rfl
          -- operation 15: Op.binOp BinOp.eql 35 (tmp 36) (tmp 37) 35
          refine ⟨fun r wx hG hs hq hf => ?_, ?_⟩
          · have h13 : r 36 = undef := hf.1
            have h14 : r 37 = undef := hf.2.1
            have h12 : r 35 = undef := hf.2.2.1
            have hy : ydD [some 23, some 24, some 25, some 26, some 27, some 28, some 29, some 30, some 31, some 32, some 33, some 34, some 35, some 36, some 37, some 38, some 39, some 40, some 12] r 12 = none := by show (match r 35 with | .bool b => some b | _ => none) = none; rw [h12]; rfl
            refine wanted_neg (by simp only [Region.wanted, hy]; rfl) ?_
            exact rfl
          -- operation 16: Op.pick (tmp 35) (const (Value.bool true)) (tmp 38)
          refine ⟨fun r wx hG hs hq hf => ?_, ?_⟩
          · have h12 : r 35 = undef := hf.1
            have h15 : r 38 = undef := hf.2.1
            have h9 : r 32 = .bool false := hf.2.2.1
            have hy : ydD [some 23, some 24, some 25, some 26, some 27, some 28, some 29, some 30, some 31, some 32, some 33, some 34, some 35, some 36, some 37, some 38, some 39, some 40, some 12] r 9 = some false := by show (match r 32 with | .bool b => some b | _ => none) = some false; rw [h9]
            refine wanted_neg (by simp only [Region.wanted, hy]; rfl) ?_
            exact rfl
          -- operation 17: Op.pick (tmp 32) (tmp 39) (const (Value.bool false))
          refine ⟨fun r wx hG hs hq hf => ?_, ?_⟩
          · have h9 : r 32 = .bool false := hf.1
            have h16 : r 39 = undef := hf.2.1
            clear hs hq hf
            refine wanted_pos rfl ?_
            unfold gives
            go_simp
            exact obC_q (Below.refl _ _) rfl
          -- operation 18: Op.assign (tmp 40)
          refine ⟨fun r wx hG hs hq hf => ?_, ?_⟩
          · have h17 : r 40 = .bool false := hf.1
            clear hs hq hf
            refine wanted_pos rfl ?_
            unfold gives
            go_simp
            exact obC_q (Below.refl _ _) rfl
          exact trivial
        case hend =>
          intro u wz hG hfin
          have z18 : u 18 = .bool false := hfin 18 (by decide) (by kernel_rfl)
          clear hfin
          simp only [fill]
          go_simp
          go_wp2_with fail
          go_ret
          exact ⟨rfl, H0.out.2.2.trans (hG.below H0.out.2.2.size (by simp))⟩
      · rw [hoe, Bool.true_and] at hres
        have HB := Lib.hid hoe
        clear hoe hL0
        by_cases hn0 : 0 < n
        · rw [show decide (0 < n) = true from by simp [hn0], Bool.true_or] at hres
          rw [hres]
          have y4 : (0 : Int) < (n : Int) := by omega
          clear hres
          go_enter Tryd.func42, Tryd.ntmps42
          go_upto_region 1 with fail
          rw [show (w.alloc (.cells (bv old).toArray 35)).alloc (.cells (bv root).toArray 35) = w0 from HW0.out.symm]
          go_upto_region 4 with fail
          refine wp_region_desc [some 23, some 24, some 25, some 26, some 27, some 28, some 29, some 30, some 31, some 32, some 33, some 34, some 35, some 36, some 37, some 38, some 39, some 40, some 12] [] [] [(0, 0), (0, 0), (0, 0), (0, 0), (0, 0), (0, 0), (0, 0), (0, 0), (0, 0), (0, 0), (0, 0), (0, 0), (0, 0), (0, 0), (0, 0), (0, 0), (0, 0), (0, 0), (0, 0)] [] [] [] [] (gckCP W n L c a old e root w.heap.size) (fun _ _ _ => True) (fun _ => default) (by kernel_rfl) (by kernel_rfl) rfl (by kernel_rfl) (by kernel_rfl) (by kernel_rfl) rfl trivial (by simp; try omega) rfl (fun i hi => (no4 (by kernel_rfl) i hi).elim) ?hstep ?hend
          case hstep =>
            -- operation 0: Op.move (tmp 5)
            refine ⟨fun r wx hG hs hq hf => ?_, ?_⟩
            · have e5 : r 5 = .slice a L c := hs 5 rfl
              clear hs hq hf
              refine wanted_pos rfl ?_
              unfold gives
              go_simp
              exact obC_q (Below.refl _ _) rfl
            -- operation 1: Op.call ( callee := Callee.builtin Builtin.len, args := #[tmp 23], argTypes := #[44] )
            refine ⟨fun r wx hG hs hq hf => ?_, ?_⟩
            · have h0 : r 23 = .slice a L c := hf.1
              clear hs hq hf
              refine wanted_pos rfl ?_
              unfold gives
              go_simp
              exact obC_q (Below.refl _ _) rfl
            -- operation 2: Op.binOp BinOp.eql 3 (tmp 24) (const (Value.int IntKind.i64 0)) 3
            refine ⟨fun r wx hG hs hq hf => ?_, ?_⟩
            · have h1 : r 24 = .int .i64 (L : Nat) := hf.1
              clear hs hq hf
              refine wanted_pos rfl ?_
              unfold gives
              go_simp
              exact obC_q (Below.refl _ _) rfl
            -- operation 3: Op.move (tmp 25)
            refine ⟨fun r wx hG hs hq hf => ?_, ?_⟩
            · have h2 : r 25 = .bool true := hf.1
              clear hs hq hf
              refine wanted_pos rfl ?_
              unfold gives
              go_simp
              exact obC_q (Below.refl _ _) rfl
            -- operation 4: Op.load 35 (tmp 9)
            refine ⟨fun r wx hG hs hq hf => ?_, ?_⟩
            · have e9 : r 9 = .pointer (some ⟨w.heap.size, 0, none⟩) := hs 9 rfl
              have h3 : r 26 = .bool true := hf.1
              have hy : ydD [some 23, some 24, some 25, some 26, some 27, some 28, some 29, some 30, some 31, some 32, some 33, some 34, some 35, some 36, some 37, some 38, some 39, some 40, some 12] r 3 = some true := by show (match r 26 with | .bool b => some b | _ => none) = some true; rw [h3]
              clear hs hq hf
              refine wanted_pos (by simp only [Region.wanted, hy]; rfl) ?_
              unfold gives
              refine gives_load_row 35 _ rfl w.heap.size e9 35 _ (0, 0) _ (hG.row (by simp; try omega) H0.out.1) Tryd.underlying35 rfl (hInfo _ HOL.out) ?_
              exact obC_q (Below.refl _ _) rfl
            -- operation 5: Op.move (tmp 0)
            refine ⟨fun r wx hG hs hq hf => ?_, ?_⟩
            · have e0 : r 0 = .int .i64 W := hs 0 rfl
              have h3 : r 26 = .bool true := hf.1
              have hy : ydD [some 23, some 24, some 25, some 26, some 27, some 28, some 29, some 30, some 31, some 32, some 33, some 34, some 35, some 36, some 37, some 38, some 39, some 40, some 12] r 3 = some true := by show (match r 26 with | .bool b => some b | _ => none) = some true; rw [h3]
              clear hs hq hf
              refine wanted_pos (by simp only [Region.wanted, hy]; rfl) ?_
              unfold gives
              go_simp
              exact obC_q (Below.refl _ _) rfl
            -- operation 6: Op.call ( callee := Callee.value (func 60), args := #[tmp 28], argTypes := #[3] )
            refine ⟨fun r wx hG hs hq hf => ?_, ?_⟩
            · have h5 : r 28 = .int .i64 W := hf.1
              have h3 : r 26 = .bool true := hf.2.1
              have hy : ydD [some 23, some 24, some 25, some 26, some 27, some 28, some 29, some 30, some 31, some 32, some 33, some 34, some 35, some 36, some 37, some 38, some 39, some 40, some 12] r 3 = some true := by show (match r 26 with | .bool b => some b | _ => none) = some true; rw [h3]
              clear hs hq hf
              refine wanted_pos (by simp only [Region.wanted, hy]; rfl) ?_
              unfold gives
              go_simp
              refine (HEM.out wx hG).mono ?_
              rintro e wy ⟨rfl, hb1⟩
              exact ⟨_, rfl, obC_q hb1 rfl⟩
            -- operation 7: Op.binOp BinOp.eql 35 (tmp 27) (tmp 29) 35
            refine ⟨fun r wx hG hs hq hf => ?_, ?_⟩
            · have h4 : r 27 = .agg (bv old).toArray := hf.1
              have h6 : r 29 = .agg (bv e).toArray := hf.2.1
              have h3 : r 26 = .bool true := hf.2.2.1
              have hy : ydD [some 23, some 24, some 25, some 26, some 27, some 28, some 29, some 30, some 31, some 32, some 33, some 34, some 35, some 36, some 37, some 38, some 39, some 40, some 12] r 3 = some true := by show (match r 26 with | .bool b => some b | _ => none) = some true; rw [h3]
              clear hs hq hf
              refine wanted_pos (by simp only [Region.wanted, hy]; rfl) ?_
              unfold gives
              have hqe := eqIn_hash old e HOL.out HE32.out wx
              rw [HB.out] at hqe
              have hgd := eq_guard
              go_simp
              exact obC_q (Below.refl _ _) rfl
            -- operation 8: Op.pick (tmp 26) (tmp 30) (const (Value.bool false))
            refine ⟨fun r wx hG hs hq hf => ?_, ?_⟩
            · have h3 : r 26 = .bool true := hf.1
              have h7 : r 30 = .bool true := hf.2.1
              clear hs hq hf
              refine wanted_pos rfl ?_
              unfold gives
              go_simp
              exact obC_q (Below.refl _ _) rfl
            -- operation 9: Op.move (tmp 31)
            refine ⟨fun r wx hG hs hq hf => ?_, ?_⟩
            · have h8 : r 31 = .bool true := hf.1
              clear hs hq hf
              refine wanted_pos rfl ?_
              unfold gives
              go_simp
              exact obC_q (Below.refl _ _) rfl
            -- operation 10: Op.move (tmp 2)
            refine ⟨fun r wx hG hs hq hf => ?_, ?_⟩
            · have e2 : r 2 = .int .u64 n := hs 2 rfl
              have h9 : r 32 = .bool true := hf.1
              have hy : ydD [some 23, some 24, some 25, some 26, some 27, some 28, some 29, some 30, some 31, some 32, some 33, some 34, some 35, some 36, some 37, some 38, some 39, some 40, some 12] r 9 = some true := by show (match r 32 with | .bool b => some b | _ => none) = some true; rw [h9]
              clear hs hq hf
              refine wanted_pos (by simp only [Region.wanted, hy]; rfl) ?_
              unfold gives
              go_simp
              exact obC_q (Below.refl _ _) rfl
            -- operation 11: Op.binOp BinOp.gtr 33 (tmp 33) (const (Value.int IntKind.u64 0)) 33
            refine ⟨fun r wx hG hs hq hf => ?_, ?_⟩
            · have h10 : r 33 = .int .u64 n := hf.1
              have h9 : r 32 = .bool true := hf.2.1
              have hy : ydD [some 23, some 24, some 25, some 26, some 27, some 28, some 29, some 30, some 31, some 32, some 33, some 34, some 35, some 36, some 37, some 38, some 39, some 40, some 12] r 9 = some true := by show (match r 32 with | .bool b => some b | _ => none) = some true; rw [h9]
              clear hs hq hf
              refine wanted_pos (by simp only [Region.wanted, hy]; rfl) ?_
              unfold gives
              go_simp
              exact obC_q (Below.refl _ _) rfl
            -- operation 12: Op.move (tmp 34)
            refine ⟨fun r wx hG hs hq hf => ?_, ?_⟩
            · have h11 : r 34 = .bool true := hf.1
              have h9 : r 32 = .bool true := hf.2.1
              have hy : ydD [some 23, some 24, some 25, some 26, some 27, some 28, some 29, some 30, some 31, some 32, some 33, some 34, some 35, some 36, some 37, some 38, some 39, some 40, some 12] r 9 = some true := by show (match r 32 with | .bool b => some b | _ => none) = some true; rw [h9]
              clear hs hq hf
              refine wanted_pos (by simp only [Region.wanted, hy]; rfl) ?_
              unfold gives
              go_simp
              exact obC_q (Below.refl _ _) rfl
            -- operation 13: Op.load 35 (tmp 10)
            refine ⟨fun r wx hG hs hq hf => ?_, ?_⟩
            · have e10 : r 10 = .pointer (some ⟨w.heap.size + 1, 0, none⟩) := hs 10 rfl
              have h12 : r 35 = .bool true := hf.1
              have hy : ydD [some 23, some 24, some 25, some 26, some 27, some 28, some 29, some 30, some 31, some 32, some 33, some 34, some 35, some 36, some 37, some 38, some 39, some 40, some 12] r 12 = some true := by show (match r 35 with | .bool b => some b | _ => none) = some true; rw [h12]
              refine wanted_neg (by simp only [Region.wanted, hy]; rfl) ?_
              exact rfl
            -- operation 14: Op.load 35 (tmp 9)
            refine ⟨fun r wx hG hs hq hf => ?_, ?_⟩
            · have e9 : r 9 = .pointer (some ⟨w.heap.size, 0, none⟩) := hs 9 rfl
              have h12 : r 35 = .bool true := hf.1
              have hy : ydD [some 23, some 24, some 25, some 26, some 27, some 28, some 29, some 30, some 31, some 32, some 33, some 34, some 35, some 36, some 37, some 38, some 39, some 40, some 12] r 12 = some true := by show (match r 35 with | .bool b => some b | _ => none) = some true; rw [h12]
              refine wanted_neg (by simp only [Region.wanted, hy]; rfl) ?_
              exact rfl
            -- operation 15: Op.binOp BinOp.eql 35 (tmp 36) (tmp 37) 35
            refine ⟨fun r wx hG hs hq hf => ?_, ?_⟩
            · have h13 : r 36 = undef := hf.1
              have h14 : r 37 = undef := hf.2.1
              have h12 : r 35 = .bool true := hf.2.2.1
              have hy : ydD [some 23, some 24, some 25, some 26, some 27, some 28, some 29, some 30, some 31, some 32, some 33, some 34, some 35, some 36, some 37, some 38, some 39, some 40, some 12] r 12 = some true := by show (match r 35 with | .bool b => some b | _ => none) = some true; rw [h12]
              refine wanted_neg (by simp only [Region.wanted, hy]; rfl) ?_
              exact rfl
            -- operation 16: Op.pick (tmp 35) (const (Value.bool true)) (tmp 38)
            refine ⟨fun r wx hG hs hq hf => ?_, ?_⟩
            · have h12 : r 35 = .bool true := hf.1
              have h15 : r 38 = undef := hf.2.1
              have h9 : r 32 = .bool true := hf.2.2.1
              have hy : ydD [some 23, some 24, some 25, some 26, some 27, some 28, some 29, some 30, some 31, some 32, some 33, some 34, some 35, some 36, some 37, some 38, some 39, some 40, some 12] r 9 = some true := by show (match r 32 with | .bool b => some b | _ => none) = some true; rw [h9]
              clear hs hq hf
              refine wanted_pos (by simp only [Region.wanted, hy]; rfl) ?_
              unfold gives
              go_simp
              exact obC_q (Below.refl _ _) rfl
            -- operation 17: Op.pick (tmp 32) (tmp 39) (const (Value.bool false))
            refine ⟨fun r wx hG hs hq hf => ?_, ?_⟩
            · have h9 : r 32 = .bool true := hf.1
              have h16 : r 39 = .bool true := hf.2.1
              clear hs hq hf
              refine wanted_pos rfl ?_
              unfold gives
              go_simp
              exact obC_q (Below.refl _ _) rfl
            -- operation 18: Op.assign (tmp 40)
            refine ⟨fun r wx hG hs hq hf => ?_, ?_⟩
            · have h17 : r 40 = .bool true := hf.1
              clear hs hq hf
              refine wanted_pos rfl ?_
              unfold gives
              go_simp
              exact obC_q (Below.refl _ _) rfl
            exact trivial
          case hend =>
            intro u wz hG hfin
            have z18 : u 18 = .bool true := hfin 18 (by decide) (by kernel_rfl)
            clear hfin
            simp only [fill]
            go_simp
            go_wp2_with fail
            go_ret
            exact ⟨rfl, H0.out.2.2.trans (hG.below H0.out.2.2.size (by simp))⟩
        · rw [show decide (0 < n) = false from by simp [hn0], Bool.false_or] at hres
          rw [hres]
          have y4 : ¬ (0 : Int) < (n : Int) := by omega
          have y5 : n = 0 := by omega
          clear hres
          go_enter Tryd.func42, Tryd.ntmps42
          go_upto_region 1 with fail
          rw [show (w.alloc (.cells (bv old).toArray 35)).alloc (.cells (bv root).toArray 35) = w0 from HW0.out.symm]
          go_upto_region 4 with fail
          refine wp_region_desc [some 23, some 24, some 25, some 26, some 27, some 28, some 29, some 30, some 31, some 32, some 33, some 34, some 35, some 36, some 37, some 38, some 39, some 40, some 12] [] [] [(0, 0), (0, 0), (0, 0), (0, 0), (0, 0), (0, 0), (0, 0), (0, 0), (0, 0), (0, 0), (0, 0), (0, 0), (0, 0), (0, 0), (0, 0), (0, 0), (0, 0), (0, 0), (0, 0)] [] [] [] [] (gckDP W n L c a old e root w.heap.size) (fun _ _ _ => True) (fun _ => default) (by kernel_rfl) (by kernel_rfl) rfl (by kernel_rfl) (by kernel_rfl) (by kernel_rfl) rfl trivial (by simp; try omega) rfl (fun i hi => (no4 (by kernel_rfl) i hi).elim) ?hstep ?hend
          case hstep =>
            -- operation 0: Op.move (tmp 5)
            refine ⟨fun r wx hG hs hq hf => ?_, ?_⟩
            · have e5 : r 5 = .slice a L c := hs 5 rfl
              clear hs hq hf
              refine wanted_pos rfl ?_
              unfold gives
              go_simp
              exact obC_q (Below.refl _ _) rfl
            -- operation 1: Op.call ( callee := Callee.builtin Builtin.len, args := #[tmp 23], argTypes := #[44] )
            refine ⟨fun r wx hG hs hq hf => ?_, ?_⟩
            · have h0 : r 23 = .slice a L c := hf.1
              clear hs hq hf
              refine wanted_pos rfl ?_
              unfold gives
              go_simp
              exact obC_q (Below.refl _ _) rfl
            -- operation 2: Op.binOp BinOp.eql 3 (tmp 24) (const (Value.int IntKind.i64 0)) 3
            refine ⟨fun r wx hG hs hq hf => ?_, ?_⟩
            · have h1 : r 24 = .int .i64 (L : Nat) := hf.1
              clear hs hq hf
              refine wanted_pos rfl ?_
              unfold gives
              go_simp
              exact obC_q (Below.refl _ _) rfl
            -- operation 3: Op.move (tmp 25)
            refine ⟨fun r wx hG hs hq hf => ?_, ?_⟩
            · have h2 : r 25 = .bool true := hf.1
              clear hs hq hf
              refine wanted_pos rfl ?_
              unfold gives
              go_simp
              exact obC_q (Below.refl _ _) rfl
            -- operation 4: Op.load 35 (tmp 9)
            refine ⟨fun r wx hG hs hq hf => ?_, ?_⟩
            · have e9 : r 9 = .pointer (some ⟨w.heap.size, 0, none⟩) := hs 9 rfl
              have h3 : r 26 = .bool true := hf.1
              have hy : ydD [some 23, some 24, some 25, some 26, some 27, some 28, some 29, some 30, some 31, some 32, some 33, some 34, some 35, some 36, some 37, some 38, some 39, some 40, some 12] r 3 = some true := by show (match r 26 with | .bool b => some b | _ => none) = some true; rw [h3]
              clear hs hq hf
              refine wanted_pos (by simp only [Region.wanted, hy]; rfl) ?_
              unfold gives
              refine gives_load_row 35 _ rfl w.heap.size e9 35 _ (0, 0) _ (hG.row (by simp; try omega) H0.out.1) Tryd.underlying35 rfl (hInfo _ HOL.out) ?_
              exact obC_q (Below.refl _ _) rfl
            -- operation 5: Op.move (tmp 0)
            refine ⟨fun r wx hG hs hq hf => ?_, ?_⟩
            · have e0 : r 0 = .int .i64 W := hs 0 rfl
              have h3 : r 26 = .bool true := hf.1
              have hy : ydD [some 23, some 24, some 25, some 26, some 27, some 28, some 29, some 30, some 31, some 32, some 33, some 34, some 35, some 36, some 37, some 38, some 39, some 40, some 12] r 3 = some true := by show (match r 26 with | .bool b => some b | _ => none) = some true; rw [h3]
              clear hs hq hf
              refine wanted_pos (by simp only [Region.wanted, hy]; rfl) ?_
              unfold gives
              go_simp
              exact obC_q (Below.refl _ _) rfl
            -- operation 6: Op.call ( callee := Callee.value (func 60), args := #[tmp 28], argTypes := #[3] )
            refine ⟨fun r wx hG hs hq hf => ?_, ?_⟩
            · have h5 : r 28 = .int .i64 W := hf.1
              have h3 : r 26 = .bool true := hf.2.1
              have hy : ydD [some 23, some 24, some 25, some 26, some 27, some 28, some 29, some 30, some 31, some 32, some 33, some 34, some 35, some 36, some 37, some 38, some 39, some 40, some 12] r 3 = some true := by show (match r 26 with | .bool b => some b | _ => none) = some true; rw [h3]
              clear hs hq hf
              refine wanted_pos (by simp only [Region.wanted, hy]; rfl) ?_
              unfold gives
              go_simp
              refine (HEM.out wx hG).mono ?_
              rintro e wy ⟨rfl, hb1⟩
              exact ⟨_, rfl, obC_q hb1 rfl⟩
            -- operation 7: Op.binOp BinOp.eql 35 (tmp 27) (tmp 29) 35
            refine ⟨fun r wx hG hs hq hf => ?_, ?_⟩
            · have h4 : r 27 = .agg (bv old).toArray := hf.1
              have h6 : r 29 = .agg (bv e).toArray := hf.2.1
              have h3 : r 26 = .bool true := hf.2.2.1
              have hy : ydD [some 23, some 24, some 25, some 26, some 27, some 28, some 29, some 30, some 31, some 32, some 33, some 34, some 35, some 36, some 37, some 38, some 39, some 40, some 12] r 3 = some true := by show (match r 26 with | .bool b => some b | _ => none) = some true; rw [h3]
              clear hs hq hf
              refine wanted_pos (by simp only [Region.wanted, hy]; rfl) ?_
              unfold gives
              have hqe := eqIn_hash old e HOL.out HE32.out wx
              rw [HB.out] at hqe
              have hgd := eq_guard
              go_simp
              exact obC_q (Below.refl _ _) rfl
            -- operation 8: Op.pick (tmp 26) (tmp 30) (const (Value.bool false))
            refine ⟨fun r wx hG hs hq hf => ?_, ?_⟩
            · have h3 : r 26 = .bool true := hf.1
              have h7 : r 30 = .bool true := hf.2.1
              clear hs hq hf
              refine wanted_pos rfl ?_
              unfold gives
              go_simp
              exact obC_q (Below.refl _ _) rfl
            -- operation 9: Op.move (tmp 31)
            refine ⟨fun r wx hG hs hq hf => ?_, ?_⟩
            · have h8 : r 31 = .bool true := hf.1
              clear hs hq hf
              refine wanted_pos rfl ?_
              unfold gives
              go_simp
              exact obC_q (Below.refl _ _) rfl
            -- operation 10: Op.move (tmp 2)
            refine ⟨fun r wx hG hs hq hf => ?_, ?_⟩
            · have e2 : r 2 = .int .u64 n := hs 2 rfl
              have h9 : r 32 = .bool true := hf.1
              have hy : ydD [some 23, some 24, some 25, some 26, some 27, some 28, some 29, some 30, some 31, some 32, some 33, some 34, some 35, some 36, some 37, some 38, some 39, some 40, some 12] r 9 = some true := by show (match r 32 with | .bool b => some b | _ => none) = some true; rw [h9]
              clear hs hq hf
              refine wanted_pos (by simp only [Region.wanted, hy]; rfl) ?_
              unfold gives
              go_simp
              exact obC_q (Below.refl _ _) rfl
            -- operation 11: Op.binOp BinOp.gtr 33 (tmp 33) (const (Value.int IntKind.u64 0)) 33
            refine ⟨fun r wx hG hs hq hf => ?_, ?_⟩
            · have h10 : r 33 = .int .u64 n := hf.1
              have h9 : r 32 = .bool true := hf.2.1
              have hy : ydD [some 23, some 24, some 25, some 26, some 27, some 28, some 29, some 30, some 31, some 32, some 33, some 34, some 35, some 36, some 37, some 38, some 39, some 40, some 12] r 9 = some true := by show (match r 32 with | .bool b => some b | _ => none) = some true; rw [h9]
              clear hs hq hf
              refine wanted_pos (by simp only [Region.wanted, hy]; rfl) ?_
              unfold gives
              go_simp
              exact obC_q (Below.refl _ _) rfl
            -- operation 12: Op.move (tmp 34)
            refine ⟨fun r wx hG hs hq hf => ?_, ?_⟩
            · have h11 : r 34 = .bool false := hf.1
              have h9 : r 32 = .bool true := hf.2.1
              have hy : ydD [some 23, some 24, some 25, some 26, some 27, some 28, some 29, some 30, some 31, some 32, some 33, some 34, some 35, some 36, some 37, some 38, some 39, some 40, some 12] r 9 = some true := by show (match r 32 with | .bool b => some b | _ => none) = some true; rw [h9]
              clear hs hq hf
              refine wanted_pos (by simp only [Region.wanted, hy]; rfl) ?_
              unfold gives
              go_simp
              exact obC_q (Below.refl _ _) rfl
            -- operation 13: Op.load 35 (tmp 10)
            refine ⟨fun r wx hG hs hq hf => ?_, ?_⟩
            · have e10 : r 10 = .pointer (some ⟨w.heap.size + 1, 0, none⟩) := hs 10 rfl
              have h12 : r 35 = .bool false := hf.1
              have hy : ydD [some 23, some 24, some 25, some 26, some 27, some 28, some 29, some 30, some 31, some 32, some 33, some 34, some 35, some 36, some 37, some 38, some 39, some 40, some 12] r 12 = some false := by show (match r 35 with | .bool b => some b | _ => none) = some false; rw [h12]
              clear hs hq hf
              refine wanted_pos (by simp only [Region.wanted, hy]; rfl) ?_
              unfold gives
              refine gives_load_row 35 _ rfl (w.heap.size + 1) e10 35 _ (0, 0) _ (hG.row (by simp; try omega) H0.out.2.1) Tryd.underlying35 rfl (hInfo _ HRT.out) ?_
              exact obC_q (Below.refl _ _) rfl
            -- operation 14: Op.load 35 (tmp 9)
            refine ⟨fun r wx hG hs hq hf => ?_, ?_⟩
            · have e9 : r 9 = .pointer (some ⟨w.heap.size, 0, none⟩) := hs 9 rfl
              have h12 : r 35 = .bool false := hf.1
              have hy : ydD [some 23, some 24, some 25, some 26, some 27, some 28, some 29, some 30, some 31, some 32, some 33, some 34, some 35, some 36, some 37, some 38, some 39, some 40, some 12] r 12 = some false := by show (match r 35 with | .bool b => some b | _ => none) = some false; rw [h12]
              clear hs hq hf
              refine wanted_pos (by simp only [Region.wanted, hy]; rfl) ?_
              unfold gives
              refine gives_load_row 35 _ rfl w.heap.size e9 35 _ (0, 0) _ (hG.row (by simp; try omega) H0.out.1) Tryd.underlying35 rfl (hInfo _ HOL.out) ?_
              exact obC_q (Below.refl _ _) rfl
            -- operation 15: Op.binOp BinOp.eql 35 (tmp 36) (tmp 37) 35
            refine ⟨fun r wx hG hs hq hf => ?_, ?_⟩
            · have h13 : r 36 = .agg (bv root).toArray := hf.1
              have h14 : r 37 = .agg (bv old).toArray := hf.2.1
              have h12 : r 35 = .bool false := hf.2.2.1
              have hy : ydD [some 23, some 24, some 25, some 26, some 27, some 28, some 29, some 30, some 31, some 32, some 33, some 34, some 35, some 36, some 37, some 38, some 39, some 40, some 12] r 12 = some false := by show (match r 35 with | .bool b => some b | _ => none) = some false; rw [h12]
              clear hs hq hf
              refine wanted_pos (by simp only [Region.wanted, hy]; rfl) ?_
              unfold gives
              have hqe := eqIn_hash root old HRT.out HOL.out wx
              have hgd := eq_guard
              go_simp
              exact obC_q (Below.refl _ _) rfl
            -- operation 16: Op.pick (tmp 35) (const (Value.bool true)) (tmp 38)
            refine ⟨fun r wx hG hs hq hf => ?_, ?_⟩
            · have h12 : r 35 = .bool false := hf.1
              have h15 : r 38 = .bool (root == old) := hf.2.1
              have h9 : r 32 = .bool true := hf.2.2.1
              have hy : ydD [some 23, some 24, some 25, some 26, some 27, some 28, some 29, some 30, some 31, some 32, some 33, some 34, some 35, some 36, some 37, some 38, some 39, some 40, some 12] r 9 = some true := by show (match r 32 with | .bool b => some b | _ => none) = some true; rw [h9]
              clear hs hq hf
              refine wanted_pos (by simp only [Region.wanted, hy]; rfl) ?_
              unfold gives
              go_simp
              exact obC_q (Below.refl _ _) rfl
            -- operation 17: Op.pick (tmp 32) (tmp 39) (const (Value.bool false))
            refine ⟨fun r wx hG hs hq hf => ?_, ?_⟩
            · have h9 : r 32 = .bool true := hf.1
              have h16 : r 39 = .bool (root == old) := hf.2.1
              clear hs hq hf
              refine wanted_pos rfl ?_
              unfold gives
              go_simp
              exact obC_q (Below.refl _ _) rfl
            -- operation 18: Op.assign (tmp 40)
            refine ⟨fun r wx hG hs hq hf => ?_, ?_⟩
            · have h17 : r 40 = .bool (root == old) := hf.1
              clear hs hq hf
              refine wanted_pos rfl ?_
              unfold gives
              go_simp
              exact obC_q (Below.refl _ _) rfl
            exact trivial
          case hend =>
            intro u wz hG hfin
            have z18 : u 18 = .bool (root == old) := hfin 18 (by decide) (by kernel_rfl)
            clear hfin
            simp only [fill]
            go_simp
            go_wp2_with fail
            go_ret
            exact ⟨rfl, H0.out.2.2.trans (hG.below H0.out.2.2.size (by simp))⟩
    · have y3 : ((L : Int) == 0) = false := by simp; omega
      rw [show decide (L = 0) = false from by simp [hL0], Bool.false_and, Bool.false_and] at hres
      rw [hres]
      clear hres
      go_enter Tryd.func42, Tryd.ntmps42
      go_upto_region 1 with fail
      rw [show (w.alloc (.cells (bv old).toArray 35)).alloc (.cells (bv root).toArray 35) = w0 from HW0.out.symm]
      go_upto_region 4 with fail
      refine wp_region_desc [some 23, some 24, some 25, some 26, some 27, some 28, some 29, some 30, some 31, some 32, some 33, some 34, some 35, some 36, some 37, some 38, some 39, some 40, some 12] [] [] [(0, 0), (0, 0), (0, 0), (0, 0), (0, 0), (0, 0), (0, 0), (0, 0), (0, 0), (0, 0), (0, 0), (0, 0), (0, 0), (0, 0), (0, 0), (0, 0), (0, 0), (0, 0), (0, 0)] [] [] [] [] (gckAP W n L c a old e root w.heap.size) (fun _ _ _ => True) (fun _ => default) (by kernel_rfl) (by kernel_rfl) rfl (by kernel_rfl) (by kernel_rfl) (by kernel_rfl) rfl trivial (by simp; try omega) rfl (fun i hi => (no4 (by kernel_rfl) i hi).elim) ?hstep ?hend
      case hstep =>
        -- operation 0: Op.move (tmp 5)
        refine ⟨fun r wx hG hs hq hf => ?_, ?_⟩
        · have e5 : r 5 = .slice a L c := hs 5 rfl
          clear hs hq hf
          refine wanted_pos rfl ?_
          unfold gives
          go_simp
          exact obC_q (Below.refl _ _) rfl
        -- operation 1: Op.call ( callee := Callee.builtin Builtin.len, args := #[tmp 23], argTypes := #[44] )
        refine ⟨fun r wx hG hs hq hf => ?_, ?_⟩
        · have h0 : r 23 = .slice a L c := hf.1
          clear hs hq hf
          refine wanted_pos rfl ?_
          unfold gives
          go_simp
          exact obC_q (Below.refl _ _) rfl
        -- operation 2: Op.binOp BinOp.eql 3 (tmp 24) (const (Value.int IntKind.i64 0)) 3
        refine ⟨fun r wx hG hs hq hf => ?_, ?_⟩
        · have h1 : r 24 = .int .i64 (L : Nat) := hf.1
          clear hs hq hf
          refine wanted_pos rfl ?_
          unfold gives
          go_simp
          exact obC_q (Below.refl _ _) rfl
        -- operation 3: Op.move (tmp 25)
        refine ⟨fun r wx hG hs hq hf => ?_, ?_⟩
        · have h2 : r 25 = .bool false := hf.1
          clear hs hq hf
          refine wanted_pos rfl ?_
          unfold gives
          go_simp
          exact obC_q (Below.refl _ _) rfl
        -- operation 4: Op.load 35 (tmp 9)
        refine ⟨fun r wx hG hs hq hf => ?_, ?_⟩
        · have e9 : r 9 = .pointer (some ⟨w.heap.size, 0, none⟩) := hs 9 rfl
          have h3 : r 26 = .bool false := hf.1
          have hy : ydD [some 23, some 24, some 25, some 26, some 27, some 28, some 29, some 30, some 31, some 32, some 33, some 34, some 35, some 36, some 37, some 38, some 39, some 40, some 12] r 3 = some false := by show (match r 26 with | .bool b => some b | _ => none) = some false; rw [h3]
          refine wanted_neg (by simp only [Region.wanted, hy]; rfl) ?_
          exact rfl
        -- operation 5: Op.move (tmp 0)
        refine ⟨fun r wx hG hs hq hf => ?_, ?_⟩
        · have e0 : r 0 = .int .i64 W := hs 0 rfl
          have h3 : r 26 = .bool false := hf.1
          have hy : ydD [some 23, some 24, some 25, some 26, some 27, some 28, some 29, some 30, some 31, some 32, some 33, some 34, some 35, some 36, some 37, some 38, some 39, some 40, some 12] r 3 = some false := by show (match r 26 with | .bool b => some b | _ => none) = some false; rw [h3]
          refine wanted_neg (by simp only [Region.wanted, hy]; rfl) ?_
          exact rfl
        -- operation 6: Op.call ( callee := Callee.value (func 60), args := #[tmp 28], argTypes := #[3] )
        refine ⟨fun r wx hG hs hq hf => ?_, ?_⟩
        · have h5 : r 28 = undef := hf.1
          have h3 : r 26 = .bool false := hf.2.1
          have hy : ydD [some 23, some 24, some 25, some 26, some 27, some 28, some 29, some 30, some 31, some 32, some 33, some 34, some 35, some 36, some 37, some 38, some 39, some 40, some 12] r 3 = some false := by show (match r 26 with | .bool b => some b | _ => none) = some false; rw [h3]
          refine wanted_neg (by simp only [Region.wanted, hy]; rfl) ?_
          exact rfl
        -- operation 7: Op.binOp BinOp.eql 35 (tmp 27) (tmp 29) 35
        refine ⟨fun r wx hG hs hq hf => ?_, ?_⟩
        · have h4 : r 27 = undef := hf.1
          have h6 : r 29 = undef := hf.2.1
          have h3 : r 26 = .bool false := hf.2.2.1
          have hy : ydD [some 23, some 24, some 25, some 26, some 27, some 28, some 29, some 30, some 31, some 32, some 33, some 34, some 35, some 36, some 37, some 38, some 39, some 40, some 12] r 3 = some false := by show (match r 26 with | .bool b => some b | _ => none) = some false; rw [h3]
          refine wanted_neg (by simp only [Region.wanted, hy]; rfl) ?_
          exact rfl
        -- operation 8: Op.pick (tmp 26) (tmp 30) (const (Value.bool false))
        refine ⟨fun r wx hG hs hq hf => ?_, ?_⟩
        · have h3 : r 26 = .bool false := hf.1
          have h7 : r 30 = undef := hf.2.1
          clear hs hq hf
          refine wanted_pos rfl ?_
          unfold gives
          go_simp
          exact obC_q (Below.refl _ _) rfl
        -- operation 9: Op.move (tmp 31)
        refine ⟨fun r wx hG hs hq hf => ?_, ?_⟩
        · have h8 : r 31 = .bool false := hf.1
          clear hs hq hf
          refine wanted_pos rfl ?_
          unfold gives
          go_simp
          exact obC_q (Below.refl _ _) rfl
        -- operation 10: Op.move (tmp 2)
        refine ⟨fun r wx hG hs hq hf => ?_, ?_⟩
        · have e2 : r 2 = .int .u64 n := hs 2 rfl
          have h9 : r 32 = .bool false := hf.1
          have hy : ydD [some 23, some 24, some 25, some 26, some 27, some 28, some 29, some 30, some 31, some 32, some 33, some 34, some 35, some 36, some 37, some 38, some 39, some 40, some 12] r 9 = some false := by show (match r 32 with | .bool b => some b | _ => none) = some false; rw [h9]
          refine wanted_neg (by simp only [Region.wanted, hy]; rfl) ?_
          exact rfl
        -- operation 11: Op.binOp BinOp.gtr 33 (tmp 33) (const (Value.int IntKind.u64 0)) 33
        refine ⟨fun r wx hG hs hq hf => ?_, ?_⟩
        · have h10 : r 33 = undef := hf.1
          have h9 : r 32 = .bool false := hf.2.1
          have hy : ydD [some 23, some 24, some 25, some 26, some 27, some 28, some 29, some 30, some 31, some 32, some 33, some 34, some 35, some 36, some 37, some 38, some 39, some 40, some 12] r 9 = some false := by show (match r 32 with | .bool b => some b | _ => none) = some false; rw [h9]
          refine wanted_neg (by simp only [Region.wanted, hy]; rfl) ?_
          exact rfl
        -- operation 12: Op.move (tmp 34)
        refine ⟨fun r wx hG hs hq hf => ?_, ?_⟩
        · have h11 : r 34 = undef := hf.1
          have h9 : r 32 = .bool false := hf.2.1
          have hy : ydD [some 23, some 24, some 25, some 26, some 27, some 28, some 29, some 30, some 31, some 32, some 33, some 34, some 35, some 36, some 37, some 38, some 39, some 40, some 12] r 9 = some false := by show (match r 32 with | .bool b => some b | _ => none) = some false; rw [h9]
          refine wanted_neg (by simp only [Region.wanted, hy]; rfl) ?_
          exact rfl
        -- operation 13: Op.load 35 (tmp 10)
        refine ⟨fun r wx hG hs hq hf => ?_, ?_⟩
        · have e10 : r 10 = .pointer (some ⟨w.heap.size + 1, 0, none⟩) := hs 10 rfl
          have h12 : r 35 = undef := hf.1
          have hy : ydD [some 23, some 24, some 25, some 26, some 27, some 28, some 29, some 30, some 31, some 32, some 33, some 34, some 35, some 36, some 37, some 38, some 39, some 40, some 12] r 12 = none := by show (match r 35 with | .bool b => some b | _ => none) = none; rw [h12]; rfl
          refine wanted_neg (by simp only [Region.wanted, hy]; rfl) ?_
          exact rfl
        -- operation 14: Op.load 35 (tmp 9)
        refine ⟨fun r wx hG hs hq hf => ?_, ?_⟩
        · have e9 : r 9 = .pointer (some ⟨w.heap.size, 0, none⟩) := hs 9 rfl
          have h12 : r 35 = undef := hf.1
          have hy : ydD [some 23, some 24, some 25, some 26, some 27, some 28, some 29, some 30, some 31, some 32, some 33, some 34, some 35, some 36, some 37, some 38, some 39, some 40, some 12] r 12 = none := by show (match r 35 with | .bool b => some b | _ => none) = none; rw [h12]; rfl
          refine wanted_neg (by simp only [Region.wanted, hy]; rfl) ?_
          exact rfl
        -- operation 15: Op.binOp BinOp.eql 35 (tmp 36) (tmp 37) 35
        refine ⟨fun r wx hG hs hq hf => ?_, ?_⟩
        · have h13 : r 36 = undef := hf.1
          have h14 : r 37 = undef := hf.2.1
          have h12 : r 35 = undef := hf.2.2.1
          have hy : ydD [some 23, some 24, some 25, some 26, some 27, some 28, some 29, some 30, some 31, some 32, some 33, some 34, some 35, some 36, some 37, some 38, some 39, some 40, some 12] r 12 = none := by show (match r 35 with | .bool b => some b | _ => none) = none; rw [h12]; rfl
          refine wanted_neg (by simp only [Region.wanted, hy]; rfl) ?_
          exact rfl
        -- operation 16: Op.pick (tmp 35) (const (Value.bool true)) (tmp 38)
        refine ⟨fun r wx hG hs hq hf => ?_, ?_⟩
        · have h12 : r 35 = undef := hf.1
          have h15 : r 38 = undef := hf.2.1
          have h9 : r 32 = .bool false := hf.2.2.1
          have hy : ydD [some 23, some 24, some 25, some 26, some 27, some 28, some 29, some 30, some 31, some 32, some 33, some 34, some 35, some 36, some 37, some 38, some 39, some 40, some 12] r 9 = some false := by show (match r 32 with | .bool b => some b | _ => none) = some false; rw [h9]
          refine wanted_neg (by simp only [Region.wanted, hy]; rfl) ?_
          exact rfl
        -- operation 17: Op.pick (tmp 32) (tmp 39) (const (Value.bool false))
        refine ⟨fun r wx hG hs hq hf => ?_, ?_⟩
        · have h9 : r 32 = .bool false := hf.1
          have h16 : r 39 = undef := hf.2.1
          clear hs hq hf
          refine wanted_pos rfl ?_
          unfold gives
          go_simp
          exact obC_q (Below.refl _ _) rfl
        -- operation 18: Op.assign (tmp 40)
        refine ⟨fun r wx hG hs hq hf => ?_, ?_⟩
        · have h17 : r 40 = .bool false := hf.1
          clear hs hq hf
          refine wanted_pos rfl ?_
          unfold gives
          go_simp
          exact obC_q (Below.refl _ _) rfl
        exact trivial
      case hend =>
        intro u wz hG hfin
        have z18 : u 18 = .bool false := hfin 18 (by decide) (by kernel_rfl)
        clear hfin
        simp only [fill]
        go_simp
        go_wp2_with fail
        go_ret
        exact ⟨rfl, H0.out.2.2.trans (hG.below H0.out.2.2.size (by simp))⟩
  · have hres : gB W m n old root ps = (gE m n ps.length == 0 && (gS W m n old ps).1 == old && (gS W m n old ps).2 == root) := by rw [gB, if_neg hnm, if_neg hm0]
    have hcl := gClimb_any W m n old ps a c w0 hW ho hm hn h32 hl (hr.keep H0.out.2.2) (hT.keepB H0.out.2.2)
    obtain ⟨hx32, hy32⟩ := gS_32 W m n old ps ho h32
    obtain ⟨xx, hx⟩ : ∃ o, o = (gS W m n old ps).1 := ⟨_, rfl⟩
    obtain ⟨yy, hy⟩ : ∃ o, o = (gS W m n old ps).2 := ⟨_, rfl⟩
    obtain ⟨E, hE⟩ : ∃ e, e = gE m n ps.length := ⟨_, rfl⟩
    obtain ⟨L, hL⟩ : ∃ L, L = ps.length := ⟨_, rfl⟩
    rw [← hE, ← hx, ← hy] at hcl hres
    rw [← hx] at hx32
    rw [← hy] at hy32
    rw [← hL] at hcl ⊢
    rw [hres]
    have HC := Lib.hid hcl
    have HX := Lib.hid (And.intro hx32 hy32)
    have y2 : ((m : Int) == 0) = false := by simp; omega
    clear hr hT h32 hL hl hcl hres hx hy hE hx32 hy32
    go_enter Tryd.func42, Tryd.ntmps42
    go_upto_region 1 with fail
    rw [show (w.alloc (.cells (bv old).toArray 35)).alloc (.cells (bv root).toArray 35) = w0 from HW0.out.symm]
    go_wp2_with (with_reducible show wpList _ _ _ (⟨some 45, _, _, _, _, _⟩ :: _) _ _; refine wpList_load_row rfl _ _ rfl w.heap.size rfl _ _ (0, 0) _ H0.out.1 Tryd.underlying35 rfl (hInfo _ HOL.out) ?_)
    refine HC.out.mono ?_
    rintro e w1 ⟨rfl, hb1⟩
    have H1 := Lib.hid (And.intro ((hb1.block _ (Array.getElem?_eq_some_iff.1 H0.out.1).1).trans H0.out.1) (And.intro ((hb1.block _ (Array.getElem?_eq_some_iff.1 H0.out.2.1).1).trans H0.out.2.1) (H0.out.2.2.trans (hb1.mono H0.out.2.2.size))))
    clear hb1
    have Ha := Lib.hid (show ((w1.alloc (.cells (bv (zs 32)).toArray 35)).alloc (.cells (bv (zs 32)).toArray 35)).heap[w1.heap.size]? = some (.cells (bv (zs 32)).toArray 35 (0, 0)) from by rw [heap_alloc_old _ _ (by simp)]; exact heap_alloc_new _ _)
    have Hb := Lib.hid (show ((w1.alloc (.cells (bv (zs 32)).toArray 35)).alloc (.cells (bv (zs 32)).toArray 35)).heap[w1.heap.size + 1]? = some (.cells (bv (zs 32)).toArray 35 (0, 0)) from by
      have := heap_alloc_new (w1.alloc (.cells (bv (zs 32)).toArray 35)) (.cells (bv (zs 32)).toArray 35)
      simpa using this)
    go_upto_region 6 with (first
      | (with_reducible show wpList _ _ _ (⟨none, Op.store _ _ _, _, _, _, _⟩ :: _) _ _; refine wpList_store_whole rfl _ _ _ rfl w1.heap.size (bv xx) rfl rfl (bv (zs 32)) _ Ha.out (hInfo' _ HX.out.1) (by rw [bv_length, bv_length, HX.out.1, HZ32.out]) (bv_one _) ?_; intro w3 HGa hga)
      | (with_reducible show wpList _ _ _ (⟨none, Op.store _ _ _, _, _, _, _⟩ :: _) _ _; refine wpList_store_whole rfl _ _ _ rfl (w1.heap.size + 1) (bv yy) rfl rfl (bv (zs 32)) _ ((hga.block (w1.heap.size + 1) (Array.getElem?_eq_some_iff.1 Hb.out).1 (by simp)).trans Hb.out) (hInfo' _ HX.out.2) (by rw [bv_length, bv_length, HX.out.2, HZ32.out]) (bv_one _) ?_; intro w5 HGb hgb))
    have k3 : Below w1.heap.size w1 w3 := below_grow (((Below.refl _ _).alloc (Nat.le_refl _) _).alloc (by simp) _) hga (Nat.le_refl _) (by simp; omega)
    have k5 : Below w1.heap.size w1 w5 := below_grow k3 hgb (by omega) (Nat.lt_of_lt_of_le (Array.getElem?_eq_some_iff.1 Hb.out).1 hga.size)
    have hra := (hgb.block w1.heap.size (Array.getElem?_eq_some_iff.1 HGa.out).1 (by simp)).trans HGa.out
    have hrb := HGb.out
    have H5 := Lib.hid (And.intro hra (And.intro hrb (And.intro ((k5.block _ (Array.getElem?_eq_some_iff.1 H1.out.1).1).trans H1.out.1) (And.intro ((k5.block _ (Array.getElem?_eq_some_iff.1 H1.out.2.1).1).trans H1.out.2.1) (H1.out.2.2.trans (k5.mono H1.out.2.2.size))))))
    clear hra hrb k3 k5 HGa HGb hga hgb Ha Hb
    have hgd := eq_guard
    by_cases hE : E = 0
    · subst hE
      have hqe := eqIn_hash xx old HX.out.1 HOL.out w5
      have hqf := eqIn_hash yy root HX.out.2 HRT.out w5
      cases hb1 : (xx == old)
      · rw [hb1] at hqe
        go_wp2_with (first
          | (with_reducible show wpList _ _ _ (⟨some 54, _, _, _, _, _⟩ :: _) _ _; refine wpList_guard rfl ?_; refine wpList_load_row rfl _ _ rfl w1.heap.size rfl _ _ (0, 0) _ H5.out.1 Tryd.underlying35 rfl (hInfo _ HX.out.1) ?_)
          | (with_reducible show wpList _ _ _ (⟨some 55, _, _, _, _, _⟩ :: _) _ _; refine wpList_guard rfl ?_; refine wpList_load_row rfl _ _ rfl w.heap.size rfl _ _ (0, 0) _ H5.out.2.2.1 Tryd.underlying35 rfl (hInfo _ HOL.out) ?_))
        go_ret
        exact ⟨by rw [hb1]; simp, H5.out.2.2.2.2⟩
      · rw [hb1] at hqe
        go_wp2_with (first
          | (with_reducible show wpList _ _ _ (⟨some 54, _, _, _, _, _⟩ :: _) _ _; refine wpList_guard rfl ?_; refine wpList_load_row rfl _ _ rfl w1.heap.size rfl _ _ (0, 0) _ H5.out.1 Tryd.underlying35 rfl (hInfo _ HX.out.1) ?_)
          | (with_reducible show wpList _ _ _ (⟨some 55, _, _, _, _, _⟩ :: _) _ _; refine wpList_guard rfl ?_; refine wpList_load_row rfl _ _ rfl w.heap.size rfl _ _ (0, 0) _ H5.out.2.2.1 Tryd.underlying35 rfl (hInfo _ HOL.out) ?_)
          | (with_reducible show wpList _ _ _ (⟨some 59, _, _, _, _, _⟩ :: _) _ _; refine wpList_guard rfl ?_; refine wpList_load_row rfl _ _ rfl (w1.heap.size + 1) rfl _ _ (0, 0) _ H5.out.2.1 Tryd.underlying35 rfl (hInfo _ HX.out.2) ?_)
          | (with_reducible show wpList _ _ _ (⟨some 60, _, _, _, _, _⟩ :: _) _ _; refine wpList_guard rfl ?_; refine wpList_load_row rfl _ _ rfl (w.heap.size + 1) rfl _ _ (0, 0) _ H5.out.2.2.2.1 Tryd.underlying35 rfl (hInfo _ HRT.out) ?_))
        go_ret
        exact ⟨by rw [hb1]; simp, H5.out.2.2.2.2⟩
    · have hEb : (E == 0) = false := by simp [hE]
      go_wp2_with fail
      go_ret
      exact ⟨by simp [hEb], H5.out.2.2.2.2⟩

set_option maxHeartbeats 16000000 in
set_option maxRecDepth 100000 in
theorem refGCheck_any (W : Int) (m n : Nat) (old root : List UInt8) (ps : List (List UInt8)) (a : Option Addr) (c : Nat) (w : World) (hW : -9223372036854775808 ≤ W ∧ W ≤ 9223372036854775807) (ho : old.length = 32) (hrt : root.length = 32) (hm : m < 18446744073709551616) (hn : n < 18446744073709551616)
    (h32 : ∀ p ∈ ps, p.length = 32) (hl : ps.length ≤ 140737488355328) (hr : Rd w 32 (.slice a ps.length c) ps.length (ps.flatMap bv)) (hT : TabsR w) :
    Calls Tryd.prog 74 #[.int .i64 W, .int .u64 m, .int .u64 n, .agg (bv old).toArray, .agg (bv root).toArray, .slice a ps.length c] w fun e w' => e = .returned (.bool (gB W m n old root ps)) ∧ Below w.heap.size w w' := by
  have hz := (zero_of_info info32).1
  have HZ32 := Lib.hid (show (zs 32).length = 32 by simp [zs])
  obtain ⟨w0, hw0⟩ : ∃ x : World, x = (w.alloc (.cells (bv old).toArray 35)).alloc (.cells (bv root).toArray 35) := ⟨_, rfl⟩
  have hbox : w0.heap[w.heap.size]? = some (.cells (bv old).toArray 35 (0, 0)) := by
    rw [hw0, heap_alloc_old _ _ (by simp)]; exact heap_alloc_new _ _
  have hrow : w0.heap[w.heap.size + 1]? = some (.cells (bv root).toArray 35 (0, 0)) := by
    rw [hw0]
    have := heap_alloc_new (w.alloc (.cells (bv old).toArray 35)) (.cells (bv root).toArray 35)
    simpa using this
  have hbw0 : Below w.heap.size w w0 := by rw [hw0]; exact ((Below.refl _ _).alloc (Nat.le_refl _) _).alloc (by simp) _
  have HW0 := Lib.hid hw0
  have H0 := Lib.hid (And.intro hbox (And.intro hrow hbw0))
  have HOL := Lib.hid ho
  have HRT := Lib.hid hrt
  clear hw0 hbox hrow hbw0
  by_cases hnm : n < m
  · have hres : gB W m n old root ps = false := if_pos hnm
    have y1 : (n : Int) < (m : Int) := by omega
    obtain ⟨L, hL⟩ : ∃ L, L = ps.length := ⟨_, rfl⟩
    rw [hres, ← hL]
    clear hr hT h32 hL hres hl
    go_enter Tryd.func74, Tryd.ntmps74
    go_upto_region 1 with fail
    rw [show (w.alloc (.cells (bv old).toArray 35)).alloc (.cells (bv root).toArray 35) = w0 from HW0.out.symm]
    go_wp2_with fail
    go_ret
    exact ⟨rfl, H0.out.2.2⟩
  have y1 : ¬ (n : Int) < (m : Int) := by omega
  by_cases hm0 : m = 0
  · have hem := fun wx (hb : Below w.heap.size w wx) => refEmpty_any W wx hW (hT.keepB hb)
    have he32 := emptyH_length W
    have hres : gB W m n old root ps = (decide (ps.length = 0) && (old == emptyH W) && (decide (0 < n) || (root == old))) := by rw [gB, if_neg hnm, if_pos hm0]
    obtain ⟨e, he⟩ : ∃ x, x = emptyH W := ⟨_, rfl⟩
    rw [← he] at hem he32 hres
    obtain ⟨L, hL⟩ : ∃ L, L = ps.length := ⟨_, rfl⟩
    rw [← hL] at hres ⊢
    have HE32 := Lib.hid he32
    have HEM := Lib.hid (fun wx (hb : KeptT [] w0 wx) => hem wx (H0.out.2.2.trans (hb.below H0.out.2.2.size (by simp))))
    have y2 : ((m : Int) == 0) = true := by simp; omega
    clear hr hT h32 hL hl he he32 hem
    by_cases hL0 : L = 0
    · have y3 : ((L : Int) == 0) = true := by simp; omega
      rw [show decide (L = 0) = true from by simp [hL0], Bool.true_and] at hres
      have y3b : L = 0 := hL0
      cases hoe : (old == e)
      · rw [hoe, Bool.false_and] at hres
        have HB := Lib.hid hoe
        rw [hres]
        clear hres hoe hL0
        go_enter Tryd.func74, Tryd.ntmps74
        go_upto_region 1 with fail
        rw [show (w.alloc (.cells (bv old).toArray 35)).alloc (.cells (bv root).toArray 35) = w0 from HW0.out.symm]
        go_upto_region 4 with fail
        refine wp_region_desc [some 21, some 22, some 23, some 24, some 25, some 26, some 27, some 28, some 29, some 30, some 31, some 32, some 33, some 34, some 35, some 36, some 37, some 38, some 12] [] [] [(0, 0), (0, 0), (0, 0), (0, 0), (0, 0), (0, 0), (0, 0), (0, 0), (0, 0), (0, 0), (0, 0), (0, 0), (0, 0), (0, 0), (0, 0), (0, 0), (0, 0), (0, 0), (0, 0)] [] [] [] [] (rckBP W n L c a old e root w.heap.size) (fun _ _ _ => True) (fun _ => default) (by kernel_rfl) (by kernel_rfl) rfl (by kernel_rfl) (by kernel_rfl) (by kernel_rfl) rfl trivial (by simp; try omega) rfl (fun i hi => (no4 (by kernel_rfl) i hi).elim) ?hstep ?hend
        case hstep =>
          -- operation 0: Op.move (tmp 5)
          refine ⟨fun r wx hG hs hq hf => ?_, ?_⟩
          · have e5 : r 5 = .slice a L c := hs 5 rfl
            clear hs hq hf
            refine wanted_pos rfl ?_
            unfold gives
            go_simp
            exact obC_q (Below.refl _ _) rfl
          -- operation 1: Op.call ( callee := Callee.builtin Builtin.len, args := #[tmp 21], argTypes := #[44] )
          refine ⟨fun r wx hG hs hq hf => ?_, ?_⟩
          · have h0 : r 21 = .slice a L c := hf.1
            clear hs hq hf
            refine wanted_pos rfl ?_
            unfold gives
            go_simp
            exact obC_q (Below.refl _ _) rfl
          -- operation 2: Op.binOp BinOp.eql 3 (tmp 22) (const (Value.int IntKind.i64 0)) 3
          refine ⟨fun r wx hG hs hq hf => ?_, ?_⟩
          · have h1 : r 22 = .int .i64 (L : Nat) := hf.1
            clear hs hq hf
            refine wanted_pos rfl ?_
            unfold gives
            go_simp
            exact obC_q (Below.refl _ _) rfl
          -- operation 3: Op.move (tmp 23)
          refine ⟨fun r wx hG hs hq hf => ?_, ?_⟩
          · have h2 : r 23 = .bool true := hf.1
            clear hs hq hf
            refine wanted_pos rfl ?_
            unfold gives
            go_simp
            exact obC_q (Below.refl _ _) rfl
          -- operation 4: Op.load 35 (tmp 9)
          refine ⟨fun r wx hG hs hq hf => ?_, ?_⟩
          · have e9 : r 9 = .pointer (some ⟨w.heap.size, 0, none⟩) := hs 9 rfl
            have h3 : r 24 = .bool true := hf.1
            have hy : ydD [some 21, some 22, some 23, some 24, some 25, some 26, some 27, some 28, some 29, some 30, some 31, some 32, some 33, some 34, some 35, some 36, some 37, some 38, some 12] r 3 = some true := by show (match r 24 with | .bool b => some b | _ => none) = some true; rw [h3]
            clear hs hq hf
            refine wanted_pos (by simp only [Region.wanted, hy]; rfl) ?_
            unfold gives
            refine gives_load_row 35 _ rfl w.heap.size e9 35 _ (0, 0) _ (hG.row (by simp; try omega) H0.out.1) Tryd.underlying35 rfl (hInfo _ HOL.out) ?_
            exact obC_q (Below.refl _ _) rfl
          -- operation 5: Op.move (tmp 0)
          refine ⟨fun r wx hG hs hq hf => ?_, ?_⟩
          · have e0 : r 0 = .int .i64 W := hs 0 rfl
            have h3 : r 24 = .bool true := hf.1
            have hy : ydD [some 21, some 22, some 23, some 24, some 25, some 26, some 27, some 28, some 29, some 30, some 31, some 32, some 33, some 34, some 35, some 36, some 37, some 38, some 12] r 3 = some true := by show (match r 24 with | .bool b => some b | _ => none) = some true; rw [h3]
            clear hs hq hf
            refine wanted_pos (by simp only [Region.wanted, hy]; rfl) ?_
            unfold gives
            go_simp
            exact obC_q (Below.refl _ _) rfl
          -- operation 6: Op.call ( callee := Callee.value (func 83), args := #[tmp 26], argTypes := #[3] )
          refine ⟨fun r wx hG hs hq hf => ?_, ?_⟩
          · have h5 : r 26 = .int .i64 W := hf.1
            have h3 : r 24 = .bool true := hf.2.1
            have hy : ydD [some 21, some 22, some 23, some 24, some 25, some 26, some 27, some 28, some 29, some 30, some 31, some 32, some 33, some 34, some 35, some 36, some 37, some 38, some 12] r 3 = some true := by show (match r 24 with | .bool b => some b | _ => none) = some true; rw [h3]
            clear hs hq hf
            refine wanted_pos (by simp only [Region.wanted, hy]; rfl) ?_
            unfold gives
            go_simp
            refine (HEM.out wx hG).mono ?_
            rintro e wy ⟨rfl, hb1⟩
            exact ⟨_, rfl, obC_q hb1 rfl⟩
          -- operation 7: Op.binOp BinOp.eql 35 (tmp 25) (tmp 27) 35
          refine ⟨fun r wx hG hs hq hf => ?_, ?_⟩
          · have h4 : r 25 = .agg (bv old).toArray := hf.1
            have h6 : r 27 = .agg (bv e).toArray := hf.2.1
            have h3 : r 24 = .bool true := hf.2.2.1
            have hy : ydD [some 21, some 22, some 23, some 24, some 25, some 26, some 27, some 28, some 29, some 30, some 31, some 32, some 33, some 34, some 35, some 36, some 37, some 38, some 12] r 3 = some true := by show (match r 24 with | .bool b => some b | _ => none) = some true; rw [h3]
            clear hs hq hf
            refine wanted_pos (by simp only [Region.wanted, hy]; rfl) ?_
            unfold gives
            have hqe := eqIn_hash old e HOL.out HE32.out wx
            rw [HB.out] at hqe
            have hgd := eq_guard
            go_simp
            exact obC_q (Below.refl _ _) rfl
          -- operation 8: Op.pick (tmp 24) (tmp 28) (const (Value.bool false))
          refine ⟨fun r wx hG hs hq hf => ?_, ?_⟩
          · have h3 : r 24 = .bool true := hf.1
            have h7 : r 28 = .bool false := hf.2.1
            clear hs hq hf
            refine wanted_pos rfl ?_
            unfold gives
            go_simp
            exact obC_q (Below.refl _ _) rfl
          -- operation 9: Op.move (tmp 29)
          refine ⟨fun r wx hG hs hq hf => ?_, ?_⟩
          · have h8 : r 29 = .bool false := hf.1
            clear hs hq hf
            refine wanted_pos rfl ?_
            unfold gives
            go_simp
            exact obC_q (Below.refl _ _) rfl
          -- operation 10: Op.move (tmp 2)
          refine ⟨fun r wx hG hs hq hf => ?_, ?_⟩
          · have e2 : r 2 = .int .u64 n := hs 2 rfl
            have h9 : r 30 = .bool false := hf.1
            have hy : ydD [some 21, some 22, some 23, some 24, some 25, some 26, some 27, some 28, some 29, some 30, some 31, some 32, some 33, some 34, some 35, some 36, some 37, some 38, some 12] r 9 = some false := by show (match r 30 with | .bool b => some b | _ => none) = some false; rw [h9]
            refine wanted_neg (by simp only [Region.wanted, hy]; rfl) ?_
            exact rfl
          -- operation 11: Op.binOp BinOp.gtr 33 (tmp 31) (const (Value.int IntKind.u64 0)) 33
          refine ⟨fun r wx hG hs hq hf => ?_, ?_⟩
          · have h10 : r 31 = undef := hf.1
            have h9 : r 30 = .bool false := hf.2.1
            have hy : ydD [some 21, some 22, some 23, some 24, some 25, some 26, some 27, some 28, some 29, some 30, some 31, some 32, some 33, some 34, some 35, some 36, some 37, some 38, some 12] r 9 = some false := by show (match r 30 with | .bool b => some b | _ => none) = some false; rw [h9]
            refine wanted_neg (by simp only [Region.wanted, hy]; rfl) ?_
            exact rfl
          -- operation 12: Op.move (tmp 32)
          refine ⟨fun r wx hG hs hq hf => ?_, ?_⟩
          · have h11 : r 32 = undef := hf.1
            have h9 : r 30 = .bool false := hf.2.1
            have hy : ydD [some 21, some 22, some 23, some 24, some 25, some 26, some 27, some 28, some 29, some 30, some 31, some 32, some 33, some 34, some 35, some 36, some 37, some 38, some 12] r 9 = some false := by show (match r 30 with | .bool b => some b | _ => none) = some false; rw [h9]
            refine wanted_neg (by simp only [Region.wanted, hy]; rfl) ?_
            exact rfl
          -- operation 13: Op.load 35 (tmp 10)
          refine ⟨fun r wx hG hs hq hf => ?_, ?_⟩
          · have e10 : r 10 = .pointer (some ⟨w.heap.size + 1, 0, none⟩) := hs 10 rfl
            have h12 : r 33 = undef := hf.1
            have hy : ydD [some 21, some 22, some 23, some 24, some 25, some 26, some 27, some 28, some 29, some 30, some 31, some 32, some 33, some 34, some 35, some 36, some 37, some 38, some 12] r 12 = none := by show (match r 33 with | .bool b => some b | _ => none) = none; rw [h12]; rfl
            refine wanted_neg (by simp only [Region.wanted, hy]; rfl) ?_
            exact rfl
          -- operation 14: Op.load 35 (tmp 9)
          refine ⟨fun r wx hG hs hq hf => ?_, ?_⟩
          · have e9 : r 9 = .pointer (some ⟨w.heap.size, 0, none⟩) := hs 9 rfl
            have h12 : r 33 = undef := hf.1
            have hy : ydD [some 21, some 22, some 23, some 24, some 25, some 26, some 27, some 28, some 29, some 30, some 31, some 32, some 33, some 34, some 35, some 36, some 37, some 38, some 12] r 12 = none := by show (match r 33 with | .bool b => some b | _ => none) = none; rw [h12]; rfl
            refine wanted_neg (by simp only [Region.wanted, hy]; rfl) ?_
            exact rfl
          -- operation 15: Op.binOp BinOp.eql 35 (tmp 34) (tmp 35) 35
          refine ⟨fun r wx hG hs hq hf => ?_, ?_⟩
          · have h13 : r 34 = undef := hf.1
            have h14 : r 35 = undef := hf.2.1
            have h12 : r 33 = undef := hf.2.2.1
            have hy : ydD [some 21, some 22, some 23, some 24, some 25, some 26, some 27, some 28, some 29, some 30, some 31, some 32, some 33, some 34, some 35, some 36, some 37, some 38, some 12] r 12 = none := by show (match r 33 with | .bool b => some b | _ => none) = none; rw [h12]; rfl
            refine wanted_neg (by simp only [Region.wanted, hy]; rfl) ?_
            exact rfl
          -- operation 16: Op.pick (tmp 33) (const (Value.bool true)) (tmp 36)
          refine ⟨fun r wx hG hs hq hf => ?_, ?_⟩
          · have h12 : r 33 = undef := hf.1
            have h15 : r 36 = undef := hf.2.1
            have h9 : r 30 = .bool false := hf.2.2.1
            have hy : ydD [some 21, some 22, some 23, some 24, some 25, some 26, some 27, some 28, some 29, some 30, some 31, some 32, some 33, some 34, some 35, some 36, some 37, some 38, some 12] r 9 = some false := by show (match r 30 with | .bool b => some b | _ => none) = some false; rw [h9]
            refine wanted_neg (by simp only [Region.wanted, hy]; rfl) ?_
            exact rfl
          -- operation 17: Op.pick (tmp 30) (tmp 37) (const (Value.bool false))
          refine ⟨fun r wx hG hs hq hf => ?_, ?_⟩
          · have h9 : r 30 = .bool false := hf.1
            have h16 : r 37 = undef := hf.2.1
            clear hs hq hf
            refine wanted_pos rfl ?_
            unfold gives
            go_simp
            exact obC_q (Below.refl _ _) rfl
          -- operation 18: Op.assign (tmp 38)
          refine ⟨fun r wx hG hs hq hf => ?_, ?_⟩
          · have h17 : r 38 = .bool false := hf.1
            clear hs hq hf
            refine wanted_pos rfl ?_
            unfold gives
            go_simp
            exact obC_q (Below.refl _ _) rfl
          exact trivial
        case hend =>
          intro u wz hG hfin
          have z18 : u 18 = .bool false := hfin 18 (by decide) (by kernel_rfl)
          clear hfin
          simp only [fill]
          go_simp
          go_wp2_with fail
          go_ret
          exact ⟨rfl, H0.out.2.2.trans (hG.below H0.out.2.2.size (by simp))⟩
      · rw [hoe, Bool.true_and] at hres
        have HB := Lib.hid hoe
        clear hoe hL0
        by_cases hn0 : 0 < n
        · rw [show decide (0 < n) = true from by simp [hn0], Bool.true_or] at hres
          rw [hres]
          have y4 : (0 : Int) < (n : Int) := by omega
          clear hres
          go_enter Tryd.func74, Tryd.ntmps74
          go_upto_region 1 with fail
          rw [show (w.alloc (.cells (bv old).toArray 35)).alloc (.cells (bv root).toArray 35) = w0 from HW0.out.symm]
          go_upto_region 4 with fail
          refine wp_region_desc [some 21, some 22, some 23, some 24, some 25, some 26, some 27, some 28, some 29, some 30, some 31, some 32, some 33, some 34, some 35, some 36, some 37, some 38, some 12] [] [] [(0, 0), (0, 0), (0, 0), (0, 0), (0, 0), (0, 0), (0, 0), (0, 0), (0, 0), (0, 0), (0, 0), (0, 0), (0, 0), (0, 0), (0, 0), (0, 0), (0, 0), (0, 0), (0, 0)] [] [] [] [] (rckCP W n L c a old e root w.heap.size) (fun _ _ _ => True) (fun _ => default) (by kernel_rfl) (by kernel_rfl) rfl (by kernel_rfl) (by kernel_rfl) (by kernel_rfl) rfl trivial (by simp; try omega) rfl (fun i hi => (no4 (by kernel_rfl) i hi).elim) ?hstep ?hend
          case hstep =>
            -- operation 0: Op.move (tmp 5)
            refine ⟨fun r wx hG hs hq hf => ?_, ?_⟩
            · have e5 : r 5 = .slice a L c := hs 5 rfl
              clear hs hq hf
              refine wanted_pos rfl ?_
              unfold gives
              go_simp
              exact obC_q (Below.refl _ _) rfl
            -- operation 1: Op.call ( callee := Callee.builtin Builtin.len, args := #[tmp 21], argTypes := #[44] )
            refine ⟨fun r wx hG hs hq hf => ?_, ?_⟩
            · have h0 : r 21 = .slice a L c := hf.1
              clear hs hq hf
              refine wanted_pos rfl ?_
              unfold gives
              go_simp
              exact obC_q (Below.refl _ _) rfl
            -- operation 2: Op.binOp BinOp.eql 3 (tmp 22) (const (Value.int IntKind.i64 0)) 3
            refine ⟨fun r wx hG hs hq hf => ?_, ?_⟩
            · have h1 : r 22 = .int .i64 (L : Nat) := hf.1
              clear hs hq hf
              refine wanted_pos rfl ?_
              unfold gives
              go_simp
              exact obC_q (Below.refl _ _) rfl
            -- operation 3: Op.move (tmp 23)
            refine ⟨fun r wx hG hs hq hf => ?_, ?_⟩
            · have h2 : r 23 = .bool true := hf.1
              clear hs hq hf
              refine wanted_pos rfl ?_
              unfold gives
              go_simp
              exact obC_q (Below.refl _ _) rfl
            -- operation 4: Op.load 35 (tmp 9)
            refine ⟨fun r wx hG hs hq hf => ?_, ?_⟩
            · have e9 : r 9 = .pointer (some ⟨w.heap.size, 0, none⟩) := hs 9 rfl
              have h3 : r 24 = .bool true := hf.1
              have hy : ydD [some 21, some 22, some 23, some 24, some 25, some 26, some 27, some 28, some 29, some 30, some 31, some 32, some 33, some 34, some 35, some 36, some 37, some 38, some 12] r 3 = some true := by show (match r 24 with | .bool b => some b | _ => none) = some true; rw [h3]
              clear hs hq hf
              refine wanted_pos (by simp only [Region.wanted, hy]; rfl) ?_
              unfold gives
              refine gives_load_row 35 _ rfl w.heap.size e9 35 _ (0, 0) _ (hG.row (by simp; try omega) H0.out.1) Tryd.underlying35 rfl (hInfo _ HOL.out) ?_
              exact obC_q (Below.refl _ _) rfl
            -- operation 5: Op.move (tmp 0)
            refine ⟨fun r wx hG hs hq hf => ?_, ?_⟩
            · have e0 : r 0 = .int .i64 W := hs 0 rfl
              have h3 : r 24 = .bool true := hf.1
              have hy : ydD [some 21, some 22, some 23, some 24, some 25, some 26, some 27, some 28, some 29, some 30, some 31, some 32, some 33, some 34, some 35, some 36, some 37, some 38, some 12] r 3 = some true := by show (match r 24 with | .bool b => some b | _ => none) = some true; rw [h3]
              clear hs hq hf
              refine wanted_pos (by simp only [Region.wanted, hy]; rfl) ?_
              unfold gives
              go_simp
              exact obC_q (Below.refl _ _) rfl
            -- operation 6: Op.call ( callee := Callee.value (func 83), args := #[tmp 26], argTypes := #[3] )
            refine ⟨fun r wx hG hs hq hf => ?_, ?_⟩
            · have h5 : r 26 = .int .i64 W := hf.1
              have h3 : r 24 = .bool true := hf.2.1
              have hy : ydD [some 21, some 22, some 23, some 24, some 25, some 26, some 27, some 28, some 29, some 30, some 31, some 32, some 33, some 34, some 35, some 36, some 37, some 38, some 12] r 3 = some true := by show (match r 24 with | .bool b => some b | _ => none) = some true; rw [h3]
              clear hs hq hf
              refine wanted_pos (by simp only [Region.wanted, hy]; rfl) ?_
              unfold gives
              go_simp
              refine (HEM.out wx hG).mono ?_
              rintro e wy ⟨rfl, hb1⟩
              exact ⟨_, rfl, obC_q hb1 rfl⟩
            -- operation 7: Op.binOp BinOp.eql 35 (tmp 25) (tmp 27) 35
            refine ⟨fun r wx hG hs hq hf => ?_, ?_⟩
            · have h4 : r 25 = .agg (bv old).toArray := hf.1
              have h6 : r 27 = .agg (bv e).toArray := hf.2.1
              have h3 : r 24 = .bool true := hf.2.2.1
              have hy : ydD [some 21, some 22, some 23, some 24, some 25, some 26, some 27, some 28, some 29, some 30, some 31, some 32, some 33, some 34, some 35, some 36, some 37, some 38, some 12] r 3 = some true := by show (match r 24 with | .bool b => some b | _ => none) = some true; rw [h3]
              clear hs hq hf
              refine wanted_pos (by simp only [Region.wanted, hy]; rfl) ?_
              unfold gives
              have hqe := eqIn_hash old e HOL.out HE32.out wx
              rw [HB.out] at hqe
              have hgd := eq_guard
              go_simp
              exact obC_q (Below.refl _ _) rfl
            -- operation 8: Op.pick (tmp 24) (tmp 28) (const (Value.bool false))
            refine ⟨fun r wx hG hs hq hf => ?_, ?_⟩
            · have h3 : r 24 = .bool true := hf.1
              have h7 : r 28 = .bool true := hf.2.1
              clear hs hq hf
              refine wanted_pos rfl ?_
              unfold gives
              go_simp
              exact obC_q (Below.refl _ _) rfl
            -- operation 9: Op.move (tmp 29)
            refine ⟨fun r wx hG hs hq hf => ?_, ?_⟩
            · have h8 : r 29 = .bool true := hf.1
              clear hs hq hf
              refine wanted_pos rfl ?_
              unfold gives
              go_simp
              exact obC_q (Below.refl _ _) rfl
            -- operation 10: Op.move (tmp 2)
            refine ⟨fun r wx hG hs hq hf => ?_, ?_⟩
            · have e2 : r 2 = .int .u64 n := hs 2 rfl
              have h9 : r 30 = .bool true := hf.1
              have hy : ydD [some 21, some 22, some 23, some 24, some 25, some 26, some 27, some 28, some 29, some 30, some 31, some 32, some 33, some 34, some 35, some 36, some 37, some 38, some 12] r 9 = some true := by show (match r 30 with | .bool b => some b | _ => none) = some true; rw [h9]
              clear hs hq hf
              refine wanted_pos (by simp only [Region.wanted, hy]; rfl) ?_
              unfold gives
              go_simp
              exact obC_q (Below.refl _ _) rfl
            -- operation 11: Op.binOp BinOp.gtr 33 (tmp 31) (const (Value.int IntKind.u64 0)) 33
            refine ⟨fun r wx hG hs hq hf => ?_, ?_⟩
            · have h10 : r 31 = .int .u64 n := hf.1
              have h9 : r 30 = .bool true := hf.2.1
              have hy : ydD [some 21, some 22, some 23, some 24, some 25, some 26, some 27, some 28, some 29, some 30, some 31, some 32, some 33, some 34, some 35, some 36, some 37, some 38, some 12] r 9 = some true := by show (match r 30 with | .bool b => some b | _ => none) = some true; rw [h9]
              clear hs hq hf
              refine wanted_pos (by simp only [Region.wanted, hy]; rfl) ?_
              unfold gives
              go_simp
              exact obC_q (Below.refl _ _) rfl
            -- operation 12: Op.move (tmp 32)
            refine ⟨fun r wx hG hs hq hf => ?_, ?_⟩
            · have h11 : r 32 = .bool true := hf.1
              have h9 : r 30 = .bool true := hf.2.1
              have hy : ydD [some 21, some 22, some 23, some 24, some 25, some 26, some 27, some 28, some 29, some 30, some 31, some 32, some 33, some 34, some 35, some 36, some 37, some 38, some 12] r 9 = some true := by show (match r 30 with | .bool b => some b | _ => none) = some true; rw [h9]
              clear hs hq hf
              refine wanted_pos (by simp only [Region.wanted, hy]; rfl) ?_
              unfold gives
              go_simp
              exact obC_q (Below.refl _ _) rfl
            -- operation 13: Op.load 35 (tmp 10)
            refine ⟨fun r wx hG hs hq hf => ?_, ?_⟩
            · have e10 : r 10 = .pointer (some ⟨w.heap.size + 1, 0, none⟩) := hs 10 rfl
              have h12 : r 33 = .bool true := hf.1
              have hy : ydD [some 21, some 22, some 23, some 24, some 25, some 26, some 27, some 28, some 29, some 30, some 31, some 32, some 33, some 34, some 35, some 36, some 37, some 38, some 12] r 12 = some true := by show (match r 33 with | .bool b => some b | _ => none) = some true; rw [h12]
              refine wanted_neg (by simp only [Region.wanted, hy]; rfl) ?_
              exact rfl
            -- operation 14: Op.load 35 (tmp 9)
            refine ⟨fun r wx hG hs hq hf => ?_, ?_⟩
            · have e9 : r 9 = .pointer (some ⟨w.heap.size, 0, none⟩) := hs 9 rfl
              have h12 : r 33 = .bool true := hf.1
              have hy : ydD [some 21, some 22, some 23, some 24, some 25, some 26, some 27, some 28, some 29, some 30, some 31, some 32, some 33, some 34, some 35, some 36, some 37, some 38, some 12] r 12 = some true := by show (match r 33 with | .bool b => some b | _ => none) = some true; rw [h12]
              refine wanted_neg (by simp only [Region.wanted, hy]; rfl) ?_
              exact rfl
            -- operation 15: Op.binOp BinOp.eql 35 (tmp 34) (tmp 35) 35
            refine ⟨fun r wx hG hs hq hf => ?_, ?_⟩
            · have h13 : r 34 = undef := hf.1
              have h14 : r 35 = undef := hf.2.1
              have h12 : r 33 = .bool true := hf.2.2.1
              have hy : ydD [some 21, some 22, some 23, some 24, some 25, some 26, some 27, some 28, some 29, some 30, some 31, some 32, some 33, some 34, some 35, some 36, some 37, some 38, some 12] r 12 = some true := by show (match r 33 with | .bool b => some b | _ => none) = some true; rw [h12]
              refine wanted_neg (by simp only [Region.wanted, hy]; rfl) ?_
              exact rfl
            -- operation 16: Op.pick (tmp 33) (const (Value.bool true)) (tmp 36)
            refine ⟨fun r wx hG hs hq hf => ?_, ?_⟩
            · have h12 : r 33 = .bool true := hf.1
              have h15 : r 36 = undef := hf.2.1
              have h9 : r 30 = .bool true := hf.2.2.1
              have hy : ydD [some 21, some 22, some 23, some 24, some 25, some 26, some 27, some 28, some 29, some 30, some 31, some 32, some 33, some 34, some 35, some 36, some 37, some 38, some 12] r 9 = some true := by show (match r 30 with | .bool b => some b | _ => none) = some true; rw [h9]
              clear hs hq hf
              refine wanted_pos (by simp only [Region.wanted, hy]; rfl) ?_
              unfold gives
              go_simp
              exact obC_q (Below.refl _ _) rfl
            -- operation 17: Op.pick (tmp 30) (tmp 37) (const (Value.bool false))
            refine ⟨fun r wx hG hs hq hf => ?_, ?_⟩
            · have h9 : r 30 = .bool true := hf.1
              have h16 : r 37 = .bool true := hf.2.1
              clear hs hq hf
              refine wanted_pos rfl ?_
              unfold gives
              go_simp
              exact obC_q (Below.refl _ _) rfl
            -- operation 18: Op.assign (tmp 38)
            refine ⟨fun r wx hG hs hq hf => ?_, ?_⟩
            · have h17 : r 38 = .bool true := hf.1
              clear hs hq hf
              refine wanted_pos rfl ?_
              unfold gives
              go_simp
              exact obC_q (Below.refl _ _) rfl
            exact trivial
          case hend =>
            intro u wz hG hfin
            have z18 : u 18 = .bool true := hfin 18 (by decide) (by kernel_rfl)
            clear hfin
            simp only [fill]
            go_simp
            go_wp2_with fail
            go_ret
            exact ⟨rfl, H0.out.2.2.trans (hG.below H0.out.2.2.size (by simp))⟩
        · rw [show decide (0 < n) = false from by simp [hn0], Bool.false_or] at hres
          rw [hres]
          have y4 : ¬ (0 : Int) < (n : Int) := by omega
          have y5 : n = 0 := by omega
          clear hres
          go_enter Tryd.func74, Tryd.ntmps74
          go_upto_region 1 with fail
          rw [show (w.alloc (.cells (bv old).toArray 35)).alloc (.cells (bv root).toArray 35) = w0 from HW0.out.symm]
          go_upto_region 4 with fail
          refine wp_region_desc [some 21, some 22, some 23, some 24, some 25, some 26, some 27, some 28, some 29, some 30, some 31, some 32, some 33, some 34, some 35, some 36, some 37, some 38, some 12] [] [] [(0, 0), (0, 0), (0, 0), (0, 0), (0, 0), (0, 0), (0, 0), (0, 0), (0, 0), (0, 0), (0, 0), (0, 0), (0, 0), (0, 0), (0, 0), (0, 0), (0, 0), (0, 0), (0, 0)] [] [] [] [] (rckDP W n L c a old e root w.heap.size) (fun _ _ _ => True) (fun _ => default) (by kernel_rfl) (by kernel_rfl) rfl (by kernel_rfl) (by kernel_rfl) (by kernel_rfl) rfl trivial (by simp; try omega) rfl (fun i hi => (no4 (by kernel_rfl) i hi).elim) ?hstep ?hend
          case hstep =>
            -- operation 0: Op.move (tmp 5)
            refine ⟨fun r wx hG hs hq hf => ?_, ?_⟩
            · have e5 : r 5 = .slice a L c := hs 5 rfl
              clear hs hq hf
              refine wanted_pos rfl ?_
              unfold gives
              go_simp
              exact obC_q (Below.refl _ _) rfl
            -- operation 1: Op.call ( callee := Callee.builtin Builtin.len, args := #[tmp 21], argTypes := #[44] )
            refine ⟨fun r wx hG hs hq hf => ?_, ?_⟩
            · have h0 : r 21 = .slice a L c := hf.1
              clear hs hq hf
              refine wanted_pos rfl ?_
              unfold gives
              go_simp
              exact obC_q (Below.refl _ _) rfl
            -- operation 2: Op.binOp BinOp.eql 3 (tmp 22) (const (Value.int IntKind.i64 0)) 3
            refine ⟨fun r wx hG hs hq hf => ?_, ?_⟩
            · have h1 : r 22 = .int .i64 (L : Nat) := hf.1
              clear hs hq hf
              refine wanted_pos rfl ?_
              unfold gives
              go_simp
              exact obC_q (Below.refl _ _) rfl
            -- operation 3: Op.move (tmp 23)
            refine ⟨fun r wx hG hs hq hf => ?_, ?_⟩
            · have h2 : r 23 = .bool true := hf.1
              clear hs hq hf
              refine wanted_pos rfl ?_
              unfold gives
              go_simp
              exact obC_q (Below.refl _ _) rfl
            -- operation 4: Op.load 35 (tmp 9)
            refine ⟨fun r wx hG hs hq hf => ?_, ?_⟩
            · have e9 : r 9 = .pointer (some ⟨w.heap.size, 0, none⟩) := hs 9 rfl
              have h3 : r 24 = .bool true := hf.1
              have hy : ydD [some 21, some 22, some 23, some 24, some 25, some 26, some 27, some 28, some 29, some 30, some 31, some 32, some 33, some 34, some 35, some 36, some 37, some 38, some 12] r 3 = some true := by show (match r 24 with | .bool b => some b | _ => none) = some true; rw [h3]
              clear hs hq hf
              refine wanted_pos (by simp only [Region.wanted, hy]; rfl) ?_
              unfold gives
              refine gives_load_row 35 _ rfl w.heap.size e9 35 _ (0, 0) _ (hG.row (by simp; try omega) H0.out.1) Tryd.underlying35 rfl (hInfo _ HOL.out) ?_
              exact obC_q (Below.refl _ _) rfl
            -- operation 5: Op.move (tmp 0)
            refine ⟨fun r wx hG hs hq hf => ?_, ?_⟩
            · have e0 : r 0 = .int .i64 W := hs 0 rfl
              have h3 : r 24 = .bool true := hf.1
              have hy : ydD [some 21, some 22, some 23, some 24, some 25, some 26, some 27, some 28, some 29, some 30, some 31, some 32, some 33, some 34, some 35, some 36, some 37, some 38, some 12] r 3 = some true := by show (match r 24 with | .bool b => some b | _ => none) = some true; rw [h3]
              clear hs hq hf
              refine wanted_pos (by simp only [Region.wanted, hy]; rfl) ?_
              unfold gives
              go_simp
              exact obC_q (Below.refl _ _) rfl
            -- operation 6: Op.call ( callee := Callee.value (func 83), args := #[tmp 26], argTypes := #[3] )
            refine ⟨fun r wx hG hs hq hf => ?_, ?_⟩
            · have h5 : r 26 = .int .i64 W := hf.1
              have h3 : r 24 = .bool true := hf.2.1
              have hy : ydD [some 21, some 22, some 23, some 24, some 25, some 26, some 27, some 28, some 29, some 30, some 31, some 32, some 33, some 34, some 35, some 36, some 37, some 38, some 12] r 3 = some true := by show (match r 24 with | .bool b => some b | _ => none) = some true; rw [h3]
              clear hs hq hf
              refine wanted_pos (by simp only [Region.wanted, hy]; rfl) ?_
              unfold gives
              go_simp
              refine (HEM.out wx hG).mono ?_
              rintro e wy ⟨rfl, hb1⟩
              exact ⟨_, rfl, obC_q hb1 rfl⟩
            -- operation 7: Op.binOp BinOp.eql 35 (tmp 25) (tmp 27) 35
            refine ⟨fun r wx hG hs hq hf => ?_, ?_⟩
            · have h4 : r 25 = .agg (bv old).toArray := hf.1
              have h6 : r 27 = .agg (bv e).toArray := hf.2.1
              have h3 : r 24 = .bool true := hf.2.2.1
              have hy : ydD [some 21, some 22, some 23, some 24, some 25, some 26, some 27, some 28, some 29, some 30, some 31, some 32, some 33, some 34, some 35, some 36, some 37, some 38, some 12] r 3 = some true := by show (match r 24 with | .bool b => some b | _ => none) = some true; rw [h3]
              clear hs hq hf
              refine wanted_pos (by simp only [Region.wanted, hy]; rfl) ?_
              unfold gives
              have hqe := eqIn_hash old e HOL.out HE32.out wx
              rw [HB.out] at hqe
              have hgd := eq_guard
              go_simp
              exact obC_q (Below.refl _ _) rfl
            -- operation 8: Op.pick (tmp 24) (tmp 28) (const (Value.bool false))
            refine ⟨fun r wx hG hs hq hf => ?_, ?_⟩
            · have h3 : r 24 = .bool true := hf.1
              have h7 : r 28 = .bool true := hf.2.1
              clear hs hq hf
              refine wanted_pos rfl ?_
              unfold gives
              go_simp
              exact obC_q (Below.refl _ _) rfl
            -- operation 9: Op.move (tmp 29)
            refine ⟨fun r wx hG hs hq hf => ?_, ?_⟩
            · have h8 : r 29 = .bool true := hf.1
              clear hs hq hf
              refine wanted_pos rfl ?_
              unfold gives
              go_simp
              exact obC_q (Below.refl _ _) rfl
            -- operation 10: Op.move (tmp 2)
            refine ⟨fun r wx hG hs hq hf => ?_, ?_⟩
            · have e2 : r 2 = .int .u64 n := hs 2 rfl
              have h9 : r 30 = .bool true := hf.1
              have hy : ydD [some 21, some 22, some 23, some 24, some 25, some 26, some 27, some 28, some 29, some 30, some 31, some 32, some 33, some 34, some 35, some 36, some 37, some 38, some 12] r 9 = some true := by show (match r 30 with | .bool b => some b | _ => none) = some true; rw [h9]
              clear hs hq hf
              refine wanted_pos (by simp only [Region.wanted, hy]; rfl) ?_
              unfold gives
              go_simp
              exact obC_q (Below.refl _ _) rfl
            -- operation 11: Op.binOp BinOp.gtr 33 (tmp 31) (const (Value.int IntKind.u64 0)) 33
            refine ⟨fun r wx hG hs hq hf => ?_, ?_⟩
            · have h10 : r 31 = .int .u64 n := hf.1
              have h9 : r 30 = .bool true := hf.2.1
              have hy : ydD [some 21, some 22, some 23, some 24, some 25, some 26, some 27, some 28, some 29, some 30, some 31, some 32, some 33, some 34, some 35, some 36, some 37, some 38, some 12] r 9 = some true := by show (match r 30 with | .bool b => some b | _ => none) = some true; rw [h9]
              clear hs hq hf
              refine wanted_pos (by simp only [Region.wanted, hy]; rfl) ?_
              unfold gives
              go_simp
              exact obC_q (Below.refl _ _) rfl
            -- operation 12: Op.move (tmp 32)
            refine ⟨fun r wx hG hs hq hf => ?_, ?_⟩
            · have h11 : r 32 = .bool false := hf.1
              have h9 : r 30 = .bool true := hf.2.1
              have hy : ydD [some 21, some 22, some 23, some 24, some 25, some 26, some 27, some 28, some 29, some 30, some 31, some 32, some 33, some 34, some 35, some 36, some 37, some 38, some 12] r 9 = some true := by show (match r 30 with | .bool b => some b | _ => none) = some true; rw [h9]
              clear hs hq hf
              refine wanted_pos (by simp only [Region.wanted, hy]; rfl) ?_
              unfold gives
              go_simp
              exact obC_q (Below.refl _ _) rfl
            -- operation 13: Op.load 35 (tmp 10)
            refine ⟨fun r wx hG hs hq hf => ?_, ?_⟩
            · have e10 : r 10 = .pointer (some ⟨w.heap.size + 1, 0, none⟩) := hs 10 rfl
              have h12 : r 33 = .bool false := hf.1
              have hy : ydD [some 21, some 22, some 23, some 24, some 25, some 26, some 27, some 28, some 29, some 30, some 31, some 32, some 33, some 34, some 35, some 36, some 37, some 38, some 12] r 12 = some false := by show (match r 33 with | .bool b => some b | _ => none) = some false; rw [h12]
              clear hs hq hf
              refine wanted_pos (by simp only [Region.wanted, hy]; rfl) ?_
              unfold gives
              refine gives_load_row 35 _ rfl (w.heap.size + 1) e10 35 _ (0, 0) _ (hG.row (by simp; try omega) H0.out.2.1) Tryd.underlying35 rfl (hInfo _ HRT.out) ?_
              exact obC_q (Below.refl _ _) rfl
            -- operation 14: Op.load 35 (tmp 9)
            refine ⟨fun r wx hG hs hq hf => ?_, ?_⟩
            · have e9 : r 9 = .pointer (some ⟨w.heap.size, 0, none⟩) := hs 9 rfl
              have h12 : r 33 = .bool false := hf.1
              have hy : ydD [some 21, some 22, some 23, some 24, some 25, some 26, some 27, some 28, some 29, some 30, some 31, some 32, some 33, some 34, some 35, some 36, some 37, some 38, some 12] r 12 = some false := by show (match r 33 with | .bool b => some b | _ => none) = some false; rw [h12]
              clear hs hq hf
              refine wanted_pos (by simp only [Region.wanted, hy]; rfl) ?_
              unfold gives
              refine gives_load_row 35 _ rfl w.heap.size e9 35 _ (0, 0) _ (hG.row (by simp; try omega) H0.out.1) Tryd.underlying35 rfl (hInfo _ HOL.out) ?_
              exact obC_q (Below.refl _ _) rfl
            -- operation 15: Op.binOp BinOp.eql 35 (tmp 34) (tmp 35) 35
            refine ⟨fun r wx hG hs hq hf => ?_, ?_⟩
            · have h13 : r 34 = .agg (bv root).toArray := hf.1
              have h14 : r 35 = .agg (bv old).toArray := hf.2.1
              have h12 : r 33 = .bool false := hf.2.2.1
              have hy : ydD [some 21, some 22, some 23, some 24, some 25, some 26, some 27, some 28, some 29, some 30, some 31, some 32, some 33, some 34, some 35, some 36, some 37, some 38, some 12] r 12 = some false := by show (match r 33 with | .bool b => some b | _ => none) = some false; rw [h12]
              clear hs hq hf
              refine wanted_pos (by simp only [Region.wanted, hy]; rfl) ?_
              unfold gives
              have hqe := eqIn_hash root old HRT.out HOL.out wx
              have hgd := eq_guard
              go_simp
              exact obC_q (Below.refl _ _) rfl
            -- operation 16: Op.pick (tmp 33) (const (Value.bool true)) (tmp 36)
            refine ⟨fun r wx hG hs hq hf => ?_, ?_⟩
            · have h12 : r 33 = .bool false := hf.1
              have h15 : r 36 = .bool (root == old) := hf.2.1
              have h9 : r 30 = .bool true := hf.2.2.1
              have hy : ydD [some 21, some 22, some 23, some 24, some 25, some 26, some 27, some 28, some 29, some 30, some 31, some 32, some 33, some 34, some 35, some 36, some 37, some 38, some 12] r 9 = some true := by show (match r 30 with | .bool b => some b | _ => none) = some true; rw [h9]
              clear hs hq hf
              refine wanted_pos (by simp only [Region.wanted, hy]; rfl) ?_
              unfold gives
              go_simp
              exact obC_q (Below.refl _ _) rfl
            -- operation 17: Op.pick (tmp 30) (tmp 37) (const (Value.bool false))
            refine ⟨fun r wx hG hs hq hf => ?_, ?_⟩
            · have h9 : r 30 = .bool true := hf.1
              have h16 : r 37 = .bool (root == old) := hf.2.1
              clear hs hq hf
              refine wanted_pos rfl ?_
              unfold gives
              go_simp
              exact obC_q (Below.refl _ _) rfl
            -- operation 18: Op.assign (tmp 38)
            refine ⟨fun r wx hG hs hq hf => ?_, ?_⟩
            · have h17 : r 38 = .bool (root == old) := hf.1
              clear hs hq hf
              refine wanted_pos rfl ?_
              unfold gives
              go_simp
              exact obC_q (Below.refl _ _) rfl
            exact trivial
          case hend =>
            intro u wz hG hfin
            have z18 : u 18 = .bool (root == old) := hfin 18 (by decide) (by kernel_rfl)
            clear hfin
            simp only [fill]
            go_simp
            go_wp2_with fail
            go_ret
            exact ⟨rfl, H0.out.2.2.trans (hG.below H0.out.2.2.size (by simp))⟩
    · have y3 : ((L : Int) == 0) = false := by simp; omega
      rw [show decide (L = 0) = false from by simp [hL0], Bool.false_and, Bool.false_and] at hres
      rw [hres]
      clear hres
      go_enter Tryd.func74, Tryd.ntmps74
      go_upto_region 1 with fail
      rw [show (w.alloc (.cells (bv old).toArray 35)).alloc (.cells (bv root).toArray 35) = w0 from HW0.out.symm]
      go_upto_region 4 with fail
      refine wp_region_desc [some 21, some 22, some 23, some 24, some 25, some 26, some 27, some 28, some 29, some 30, some 31, some 32, some 33, some 34, some 35, some 36, some 37, some 38, some 12] [] [] [(0, 0), (0, 0), (0, 0), (0, 0), (0, 0), (0, 0), (0, 0), (0, 0), (0, 0), (0, 0), (0, 0), (0, 0), (0, 0), (0, 0), (0, 0), (0, 0), (0, 0), (0, 0), (0, 0)] [] [] [] [] (rckAP W n L c a old e root w.heap.size) (fun _ _ _ => True) (fun _ => default) (by kernel_rfl) (by kernel_rfl) rfl (by kernel_rfl) (by kernel_rfl) (by kernel_rfl) rfl trivial (by simp; try omega) rfl (fun i hi => (no4 (by kernel_rfl) i hi).elim) ?hstep ?hend
      case hstep =>
        -- operation 0: Op.move (tmp 5)
        refine ⟨fun r wx hG hs hq hf => ?_, ?_⟩
        · have e5 : r 5 = .slice a L c := hs 5 rfl
          clear hs hq hf
          refine wanted_pos rfl ?_
          unfold gives
          go_simp
          exact obC_q (Below.refl _ _) rfl
        -- operation 1: Op.call ( callee := Callee.builtin Builtin.len, args := #[tmp 21], argTypes := #[44] )
        refine ⟨fun r wx hG hs hq hf => ?_, ?_⟩
        · have h0 : r 21 = .slice a L c := hf.1
          clear hs hq hf
          refine wanted_pos rfl ?_
          unfold gives
          go_simp
          exact obC_q (Below.refl _ _) rfl
        -- operation 2: Op.binOp BinOp.eql 3 (tmp 22) (const (Value.int IntKind.i64 0)) 3
        refine ⟨fun r wx hG hs hq hf => ?_, ?_⟩
        · have h1 : r 22 = .int .i64 (L : Nat) := hf.1
          clear hs hq hf
          refine wanted_pos rfl ?_
          unfold gives
          go_simp
          exact obC_q (Below.refl _ _) rfl
        -- operation 3: Op.move (tmp 23)
        refine ⟨fun r wx hG hs hq hf => ?_, ?_⟩
        · have h2 : r 23 = .bool false := hf.1
          clear hs hq hf
          refine wanted_pos rfl ?_
          unfold gives
          go_simp
          exact obC_q (Below.refl _ _) rfl
        -- operation 4: Op.load 35 (tmp 9)
        refine ⟨fun r wx hG hs hq hf => ?_, ?_⟩
        · have e9 : r 9 = .pointer (some ⟨w.heap.size, 0, none⟩) := hs 9 rfl
          have h3 : r 24 = .bool false := hf.1
          have hy : ydD [some 21, some 22, some 23, some 24, some 25, some 26, some 27, some 28, some 29, some 30, some 31, some 32, some 33, some 34, some 35, some 36, some 37, some 38, some 12] r 3 = some false := by show (match r 24 with | .bool b => some b | _ => none) = some false; rw [h3]
          refine wanted_neg (by simp only [Region.wanted, hy]; rfl) ?_
          exact rfl
        -- operation 5: Op.move (tmp 0)
        refine ⟨fun r wx hG hs hq hf => ?_, ?_⟩
        · have e0 : r 0 = .int .i64 W := hs 0 rfl
          have h3 : r 24 = .bool false := hf.1
          have hy : ydD [some 21, some 22, some 23, some 24, some 25, some 26, some 27, some 28, some 29, some 30, some 31, some 32, some 33, some 34, some 35, some 36, some 37, some 38, some 12] r 3 = some false := by show (match r 24 with | .bool b => some b | _ => none) = some false; rw [h3]
          refine wanted_neg (by simp only [Region.wanted, hy]; rfl) ?_
          exact rfl
        -- operation 6: Op.call ( callee := Callee.value (func 83), args := #[tmp 26], argTypes := #[3] )
        refine ⟨fun r wx hG hs hq hf => ?_, ?_⟩
        · have h5 : r 26 = undef := hf.1
          have h3 : r 24 = .bool false := hf.2.1
          have hy : ydD [some 21, some 22, some 23, some 24, some 25, some 26, some 27, some 28, some 29, some 30, some 31, some 32, some 33, some 34, some 35, some 36, some 37, some 38, some 12] r 3 = some false := by show (match r 24 with | .bool b => some b | _ => none) = some false; rw [h3]
          refine wanted_neg (by simp only [Region.wanted, hy]; rfl) ?_
          exact rfl
        -- operation 7: Op.binOp BinOp.eql 35 (tmp 25) (tmp 27) 35
        refine ⟨fun r wx hG hs hq hf => ?_, ?_⟩
        · have h4 : r 25 = undef := hf.1
          have h6 : r 27 = undef := hf.2.1
          have h3 : r 24 = .bool false := hf.2.2.1
          have hy : ydD [some 21, some 22, some 23, some 24, some 25, some 26, some 27, some 28, some 29, some 30, some 31, some 32, some 33, some 34, some 35, some 36, some 37, some 38, some 12] r 3 = some false := by show (match r 24 with | .bool b => some b | _ => none) = some false; rw [h3]
          refine wanted_neg (by simp only [Region.wanted, hy]; rfl) ?_
          exact rfl
        -- operation 8: Op.pick (tmp 24) (tmp 28) (const (Value.bool false))
        refine ⟨fun r wx hG hs hq hf => ?_, ?_⟩
        · have h3 : r 24 = .bool false := hf.1
          have h7 : r 28 = undef := hf.2.1
          clear hs hq hf
          refine wanted_pos rfl ?_
          unfold gives
          go_simp
          exact obC_q (Below.refl _ _) rfl
        -- operation 9: Op.move (tmp 29)
        refine ⟨fun r wx hG hs hq hf => ?_, ?_⟩
        · have h8 : r 29 = .bool false := hf.1
          clear hs hq hf
          refine wanted_pos rfl ?_
          unfold gives
          go_simp
          exact obC_q (Below.refl _ _) rfl
        -- operation 10: Op.move (tmp 2)
        refine ⟨fun r wx hG hs hq hf => ?_, ?_⟩
        · have e2 : r 2 = .int .u64 n := hs 2 rfl
          have h9 : r 30 = .bool false := hf.1
          have hy : ydD [some 21, some 22, some 23, some 24, some 25, some 26, some 27, some 28, some 29, some 30, some 31, some 32, some 33, some 34, some 35, some 36, some 37, some 38, some 12] r 9 = some false := by show (match r 30 with | .bool b => some b | _ => none) = some false; rw [h9]
          refine wanted_neg (by simp only [Region.wanted, hy]; rfl) ?_
          exact rfl
        -- operation 11: Op.binOp BinOp.gtr 33 (tmp 31) (const (Value.int IntKind.u64 0)) 33
        refine ⟨fun r wx hG hs hq hf => ?_, ?_⟩
        · have h10 : r 31 = undef := hf.1
          have h9 : r 30 = .bool false := hf.2.1
          have hy : ydD [some 21, some 22, some 23, some 24, some 25, some 26, some 27, some 28, some 29, some 30, some 31, some 32, some 33, some 34, some 35, some 36, some 37, some 38, some 12] r 9 = some false := by show (match r 30 with | .bool b => some b | _ => none) = some false; rw [h9]
          refine wanted_neg (by simp only [Region.wanted, hy]; rfl) ?_
          exact rfl
        -- operation 12: Op.move (tmp 32)
        refine ⟨fun r wx hG hs hq hf => ?_, ?_⟩
        · have h11 : r 32 = undef := hf.1
          have h9 : r 30 = .bool false := hf.2.1
          have hy : ydD [some 21, some 22, some 23, some 24, some 25, some 26, some 27, some 28, some 29, some 30, some 31, some 32, some 33, some 34, some 35, some 36, some 37, some 38, some 12] r 9 = some false := by show (match r 30 with | .bool b => some b | _ => none) = some false; rw [h9]
          refine wanted_neg (by simp only [Region.wanted, hy]; rfl) ?_
          exact rfl
        -- operation 13: Op.load 35 (tmp 10)
        refine ⟨fun r wx hG hs hq hf => ?_, ?_⟩
        · have e10 : r 10 = .pointer (some ⟨w.heap.size + 1, 0, none⟩) := hs 10 rfl
          have h12 : r 33 = undef := hf.1
          have hy : ydD [some 21, some 22, some 23, some 24, some 25, some 26, some 27, some 28, some 29, some 30, some 31, some 32, some 33, some 34, some 35, some 36, some 37, some 38, some 12] r 12 = none := by show (match r 33 with | .bool b => some b | _ => none) = none; rw [h12]; rfl
          refine wanted_neg (by simp only [Region.wanted, hy]; rfl) ?_
          exact rfl
        -- operation 14: Op.load 35 (tmp 9)
        refine ⟨fun r wx hG hs hq hf => ?_, ?_⟩
        · have e9 : r 9 = .pointer (some ⟨w.heap.size, 0, none⟩) := hs 9 rfl
          have h12 : r 33 = undef := hf.1
          have hy : ydD [some 21, some 22, some 23, some 24, some 25, some 26, some 27, some 28, some 29, some 30, some 31, some 32, some 33, some 34, some 35, some 36, some 37, some 38, some 12] r 12 = none := by show (match r 33 with | .bool b => some b | _ => none) = none; rw [h12]; rfl
          refine wanted_neg (by simp only [Region.wanted, hy]; rfl) ?_
          exact rfl
        -- operation 15: Op.binOp BinOp.eql 35 (tmp 34) (tmp 35) 35
        refine ⟨fun r wx hG hs hq hf => ?_, ?_⟩
        · have h13 : r 34 = undef := hf.1
          have h14 : r 35 = undef := hf.2.1
          have h12 : r 33 = undef := hf.2.2.1
          have hy : ydD [some 21, some 22, some 23, some 24, some 25, some 26, some 27, some 28, some 29, some 30, some 31, some 32, some 33, some 34, some 35, some 36, some 37, some 38, some 12] r 12 = none := by show (match r 33 with | .bool b => some b | _ => none) = none; rw [h12]; rfl
          refine wanted_neg (by simp only [Region.wanted, hy]; rfl) ?_
          exact rfl
        -- operation 16: Op.pick (tmp 33) (const (Value.bool true)) (tmp 36)
        refine ⟨fun r wx hG hs hq hf => ?_, ?_⟩
        · have h12 : r 33 = undef := hf.1
          have h15 : r 36 = undef := hf.2.1
          have h9 : r 30 = .bool false := hf.2.2.1
          have hy : ydD [some 21, some 22, some 23, some 24, some 25, some 26, some 27, some 28, some 29, some 30, some 31, some 32, some 33, some 34, some 35, some 36, some 37, some 38, some 12] r 9 = some false := by show (match r 30 with | .bool b => some b | _ => none) = some false; rw [h9]
          refine wanted_neg (by simp only [Region.wanted, hy]; rfl) ?_
          exact rfl
        -- operation 17: Op.pick (tmp 30) (tmp 37) (const (Value.bool false))
        refine ⟨fun r wx hG hs hq hf => ?_, ?_⟩
        · have h9 : r 30 = .bool false := hf.1
          have h16 : r 37 = undef := hf.2.1
          clear hs hq hf
          refine wanted_pos rfl ?_
          unfold gives
          go_simp
          exact obC_q (Below.refl _ _) rfl
        -- operation 18: Op.assign (tmp 38)
        refine ⟨fun r wx hG hs hq hf => ?_, ?_⟩
        · have h17 : r 38 = .bool false := hf.1
          clear hs hq hf
          refine wanted_pos rfl ?_
          unfold gives
          go_simp
          exact obC_q (Below.refl _ _) rfl
        exact trivial
      case hend =>
        intro u wz hG hfin
        have z18 : u 18 = .bool false := hfin 18 (by decide) (by kernel_rfl)
        clear hfin
        simp only [fill]
        go_simp
        go_wp2_with fail
        go_ret
        exact ⟨rfl, H0.out.2.2.trans (hG.below H0.out.2.2.size (by simp))⟩
  · have hres : gB W m n old root ps = (gE m n ps.length == 0 && (gS W m n old ps).1 == old && (gS W m n old ps).2 == root) := by rw [gB, if_neg hnm, if_neg hm0]
    have hcl := refGClimb_any W m n old ps a c w0 hW ho hm hn h32 hl (hr.keep H0.out.2.2) (hT.keepB H0.out.2.2)
    obtain ⟨hx32, hy32⟩ := gS_32 W m n old ps ho h32
    obtain ⟨xx, hx⟩ : ∃ o, o = (gS W m n old ps).1 := ⟨_, rfl⟩
    obtain ⟨yy, hy⟩ : ∃ o, o = (gS W m n old ps).2 := ⟨_, rfl⟩
    obtain ⟨E, hE⟩ : ∃ e, e = gE m n ps.length := ⟨_, rfl⟩
    obtain ⟨L, hL⟩ : ∃ L, L = ps.length := ⟨_, rfl⟩
    rw [← hE, ← hx, ← hy] at hcl hres
    rw [← hx] at hx32
    rw [← hy] at hy32
    rw [← hL] at hcl ⊢
    rw [hres]
    have HC := Lib.hid hcl
    have HX := Lib.hid (And.intro hx32 hy32)
    have y2 : ((m : Int) == 0) = false := by simp; omega
    clear hr hT h32 hL hl hcl hres hx hy hE hx32 hy32
    go_enter Tryd.func74, Tryd.ntmps74
    go_upto_region 1 with fail
    rw [show (w.alloc (.cells (bv old).toArray 35)).alloc (.cells (bv root).toArray 35) = w0 from HW0.out.symm]
    go_wp2_with (with_reducible show wpList _ _ _ (⟨some 43, _, _, _, _, _⟩ :: _) _ _; refine wpList_load_row rfl _ _ rfl w.heap.size rfl _ _ (0, 0) _ H0.out.1 Tryd.underlying35 rfl (hInfo _ HOL.out) ?_)
    refine HC.out.mono ?_
    rintro e w1 ⟨rfl, hb1⟩
    have H1 := Lib.hid (And.intro ((hb1.block _ (Array.getElem?_eq_some_iff.1 H0.out.1).1).trans H0.out.1) (And.intro ((hb1.block _ (Array.getElem?_eq_some_iff.1 H0.out.2.1).1).trans H0.out.2.1) (H0.out.2.2.trans (hb1.mono H0.out.2.2.size))))
    clear hb1
    have Ha := Lib.hid (show ((w1.alloc (.cells (bv (zs 32)).toArray 35)).alloc (.cells (bv (zs 32)).toArray 35)).heap[w1.heap.size]? = some (.cells (bv (zs 32)).toArray 35 (0, 0)) from by rw [heap_alloc_old _ _ (by simp)]; exact heap_alloc_new _ _)
    have Hb := Lib.hid (show ((w1.alloc (.cells (bv (zs 32)).toArray 35)).alloc (.cells (bv (zs 32)).toArray 35)).heap[w1.heap.size + 1]? = some (.cells (bv (zs 32)).toArray 35 (0, 0)) from by
      have := heap_alloc_new (w1.alloc (.cells (bv (zs 32)).toArray 35)) (.cells (bv (zs 32)).toArray 35)
      simpa using this)
    go_upto_region 6 with (first
      | (with_reducible show wpList _ _ _ (⟨none, Op.store _ _ _, _, _, _, _⟩ :: _) _ _; refine wpList_store_whole rfl _ _ _ rfl w1.heap.size (bv xx) rfl rfl (bv (zs 32)) _ Ha.out (hInfo' _ HX.out.1) (by rw [bv_length, bv_length, HX.out.1, HZ32.out]) (bv_one _) ?_; intro w3 HGa hga)
      | (with_reducible show wpList _ _ _ (⟨none, Op.store _ _ _, _, _, _, _⟩ :: _) _ _; refine wpList_store_whole rfl _ _ _ rfl (w1.heap.size + 1) (bv yy) rfl rfl (bv (zs 32)) _ ((hga.block (w1.heap.size + 1) (Array.getElem?_eq_some_iff.1 Hb.out).1 (by simp)).trans Hb.out) (hInfo' _ HX.out.2) (by rw [bv_length, bv_length, HX.out.2, HZ32.out]) (bv_one _) ?_; intro w5 HGb hgb))
    have k3 : Below w1.heap.size w1 w3 := below_grow (((Below.refl _ _).alloc (Nat.le_refl _) _).alloc (by simp) _) hga (Nat.le_refl _) (by simp; omega)
    have k5 : Below w1.heap.size w1 w5 := below_grow k3 hgb (by omega) (Nat.lt_of_lt_of_le (Array.getElem?_eq_some_iff.1 Hb.out).1 hga.size)
    have hra := (hgb.block w1.heap.size (Array.getElem?_eq_some_iff.1 HGa.out).1 (by simp)).trans HGa.out
    have hrb := HGb.out
    have H5 := Lib.hid (And.intro hra (And.intro hrb (And.intro ((k5.block _ (Array.getElem?_eq_some_iff.1 H1.out.1).1).trans H1.out.1) (And.intro ((k5.block _ (Array.getElem?_eq_some_iff.1 H1.out.2.1).1).trans H1.out.2.1) (H1.out.2.2.trans (k5.mono H1.out.2.2.size))))))
    clear hra hrb k3 k5 HGa HGb hga hgb Ha Hb
    have hgd := eq_guard
    by_cases hE : E = 0
    · subst hE
      have hqe := eqIn_hash xx old HX.out.1 HOL.out w5
      have hqf := eqIn_hash yy root HX.out.2 HRT.out w5
      cases hb1 : (xx == old)
      · rw [hb1] at hqe
        go_wp2_with (first
          | (with_reducible show wpList _ _ _ (⟨some 52, _, _, _, _, _⟩ :: _) _ _; refine wpList_guard rfl ?_; refine wpList_load_row rfl _ _ rfl w1.heap.size rfl _ _ (0, 0) _ H5.out.1 Tryd.underlying35 rfl (hInfo _ HX.out.1) ?_)
          | (with_reducible show wpList _ _ _ (⟨some 53, _, _, _, _, _⟩ :: _) _ _; refine wpList_guard rfl ?_; refine wpList_load_row rfl _ _ rfl w.heap.size rfl _ _ (0, 0) _ H5.out.2.2.1 Tryd.underlying35 rfl (hInfo _ HOL.out) ?_))
        go_ret
        exact ⟨by rw [hb1]; simp, H5.out.2.2.2.2⟩
      · rw [hb1] at hqe
        go_wp2_with (first
          | (with_reducible show wpList _ _ _ (⟨some 52, _, _, _, _, _⟩ :: _) _ _; refine wpList_guard rfl ?_; refine wpList_load_row rfl _ _ rfl w1.heap.size rfl _ _ (0, 0) _ H5.out.1 Tryd.underlying35 rfl (hInfo _ HX.out.1) ?_)
          | (with_reducible show wpList _ _ _ (⟨some 53, _, _, _, _, _⟩ :: _) _ _; refine wpList_guard rfl ?_; refine wpList_load_row rfl _ _ rfl w.heap.size rfl _ _ (0, 0) _ H5.out.2.2.1 Tryd.underlying35 rfl (hInfo _ HOL.out) ?_)
          | (with_reducible show wpList _ _ _ (⟨some 57, _, _, _, _, _⟩ :: _) _ _; refine wpList_guard rfl ?_; refine wpList_load_row rfl _ _ rfl (w1.heap.size + 1) rfl _ _ (0, 0) _ H5.out.2.1 Tryd.underlying35 rfl (hInfo _ HX.out.2) ?_)
          | (with_reducible show wpList _ _ _ (⟨some 58, _, _, _, _, _⟩ :: _) _ _; refine wpList_guard rfl ?_; refine wpList_load_row rfl _ _ rfl (w.heap.size + 1) rfl _ _ (0, 0) _ H5.out.2.2.2.1 Tryd.underlying35 rfl (hInfo _ HRT.out) ?_))
        go_ret
        exact ⟨by rw [hb1]; simp, H5.out.2.2.2.2⟩
    · have hEb : (E == 0) = false := by simp [hE]
      go_wp2_with fail
      go_ret
      exact ⟨by simp [hEb], H5.out.2.2.2.2⟩
end Go.Proofs.YtgimblpdmlnfeaaDoor
