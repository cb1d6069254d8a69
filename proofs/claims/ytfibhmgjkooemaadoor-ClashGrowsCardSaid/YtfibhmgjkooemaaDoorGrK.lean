/- growth.Climb, the reference's; growth.Check, the reference's. (printed by gen/grk.py) -/
import Derived.Test.YtfibhmgjkooemaaDoorGrG
import Derived.Test.YtfibhmgjkooemaaDoorGrE
import Derived.Test.YtfibhmgjkooemaaDoorGrJ
namespace Go.Proofs.YtfibhmgjkooemaaDoor
open Go.RowKit Sha Root Path Growth

theorem gClimb_any (W : Int) (m n : Nat) (old : List UInt8) (ps : List (List UInt8)) (a : Option Addr) (c : Nat) (w : World) (hW : -9223372036854775808 ≤ W ∧ W ≤ 9223372036854775807) (ho : old.length = 32) (hm : m < 18446744073709551616) (hn : n < 18446744073709551616)
    (h32 : ∀ p ∈ ps, p.length = 32) (hl : ps.length ≤ 140737488355328) (hr : Rd w 32 (.slice a ps.length c) ps.length (ps.flatMap bv)) (hT : Tabs w) :
    Calls Tryd.prog 31 #[.int .i64 W, .int .u64 m, .int .u64 n, .agg (bv old).toArray, .slice a ps.length c] w fun e w' => e = .returned (.tuple #[.agg (bv (gS W m n old ps).1).toArray, .agg (bv (gS W m n old ps).2).toArray, .int .i64 (gE m n ps.length)]) ∧ Below w.heap.size w w' := by
  by_cases hE : gE m n ps.length = 0
  · rw [gS, if_pos hE, hE]
    cases hw : whole m n with
    | true => exact gClimb_whole W m n old ps a c w hW ho hm hn h32 hl hr hT hE hw
    | false =>
      cases ps with
      | nil =>
        exfalso
        have h0 : ¬ (m = 0 ∨ n < m) := fun h => by rw [gE, if_pos h] at hE; exact absurd hE (by decide)
        have h2 : ¬ [].length (α := List UInt8) < szG m n true := fun h => by rw [gE, if_neg h0, if_pos h] at hE; exact absurd hE (by decide)
        rw [szG, hw, if_neg (by decide)] at h2
        simp at h2
      | cons p0 q => exact gClimb_part W m n old p0 q a c w hW ho hm hn h32 hl hr hT hE hw
  · rw [gS, if_neg hE]
    exact gClimb_bad W m n old a ps.length c w hE hm hn hl
/-- What each operation hands on. -/
def rcl8P (_b10 _b11 _g : Nat) (oa ob : List UInt8) : Nat → Value → Prop
  | 0, v => v = .agg (bv oa).toArray
  | 1, v => v = .agg (bv ob).toArray
  | 4, v => v = .int .i64 0
  | _, _ => True
def rcl8O (_b10 _b11 _g : Nat) (oa ob : List UInt8) : Nat → Obj
  | 2 => .cells (bv oa).toArray 35 (0, 0)
  | 3 => .cells (bv ob).toArray 35 (0, 0)
  | _ => default

set_option maxHeartbeats 16000000 in
set_option maxRecDepth 100000 in
theorem refGClimb_any (W : Int) (m n : Nat) (old : List UInt8) (ps : List (List UInt8)) (a : Option Addr) (c : Nat) (w : World) (hW : -9223372036854775808 ≤ W ∧ W ≤ 9223372036854775807) (ho : old.length = 32) (hm : m < 18446744073709551616) (hn : n < 18446744073709551616)
    (h32 : ∀ p ∈ ps, p.length = 32) (hl : ps.length ≤ 140737488355328) (hr : Rd w 32 (.slice a ps.length c) ps.length (ps.flatMap bv)) (hT : TabsR w) :
    Calls Tryd.prog 34 #[.int .i64 W, .int .u64 m, .int .u64 n, .agg (bv old).toArray, .slice a ps.length c] w fun e w' => e = .returned (.tuple #[.agg (bv (gS W m n old ps).1).toArray, .agg (bv (gS W m n old ps).2).toArray, .int .i64 (gE m n ps.length)]) ∧ Below w.heap.size w w' := by
  have hz := (zero_of_info info32).1
  have HZ32 := Lib.hid (show (zs 32).length = 32 by simp [zs])
  obtain ⟨w0, hw0⟩ : ∃ x : World, x = ((w.alloc (.cells (bv old).toArray 35)).alloc (.cells (bv (zs 32)).toArray 35)).alloc (.cells (bv (zs 32)).toArray 35) := ⟨_, rfl⟩
  have hr0 : w0.heap[w.heap.size]? = some (.cells (bv old).toArray 35 (0, 0)) := by
    rw [hw0, heap_alloc_old _ _ (by simp; omega), heap_alloc_old _ _ (by simp)]; exact heap_alloc_new _ _
  have hr1 : w0.heap[w.heap.size + 1]? = some (.cells (bv (zs 32)).toArray 35 (0, 0)) := by
    rw [hw0, heap_alloc_old _ _ (by simp)]
    have := heap_alloc_new (w.alloc (.cells (bv old).toArray 35)) (.cells (bv (zs 32)).toArray 35)
    simpa using this
  have hr2 : w0.heap[w.heap.size + 1 + 1]? = some (.cells (bv (zs 32)).toArray 35 (0, 0)) := by
    rw [hw0]
    have := heap_alloc_new ((w.alloc (.cells (bv old).toArray 35)).alloc (.cells (bv (zs 32)).toArray 35)) (.cells (bv (zs 32)).toArray 35)
    simpa using this
  have hbw0 : Below w.heap.size w w0 := by rw [hw0]; exact (((Below.refl _ _).alloc (Nat.le_refl _) _).alloc (by simp) _).alloc (by simp; omega) _
  have HW0 := Lib.hid hw0
  have H0 := Lib.hid (And.intro hr0 (And.intro hr1 (And.intro hr2 hbw0)))
  clear hw0 hr0 hr1 hr2 hbw0
  have _hl := hl
  obtain ⟨L, hL⟩ : ∃ L, L = ps.length := ⟨_, rfl⟩
  by_cases h0 : m = 0 ∨ n < m
  · have eE : gE m n ps.length = 9 := if_pos h0
    rw [gS, if_neg (by rw [eE]; decide), eE, ← hL]
    clear hr hT h32 eE hL hl
    by_cases hm0 : m = 0
    · have y1 : ((m : Int) == 0) = true := by simp; omega
      go_enter Tryd.func34, Tryd.ntmps34
      go_upto_region 1 with fail
      rw [show ((w.alloc (.cells (bv old).toArray 35)).alloc (.cells (bv (zs 32)).toArray 35)).alloc (.cells (bv (zs 32)).toArray 35) = w0 from HW0.out.symm]
      go_wp2_with (first
        | (with_reducible show wpList _ _ _ (⟨none, Op.store _ _ _, _, _, _, _⟩ :: _) _ _; refine wpList_store_whole rfl _ _ _ rfl (w.heap.size + 1) (bv (zs 32)) rfl rfl (bv (zs 32)) _ H0.out.2.1 (hInfo' _ HZ32.out) rfl (bv_one _) ?_; intro w8 HG8 hg8)
        | (with_reducible show wpList _ _ _ (⟨none, Op.store _ _ _, _, _, _, _⟩ :: _) _ _; refine wpList_store_whole rfl _ _ _ rfl (w.heap.size + 1 + 1) (bv (zs 32)) rfl rfl (bv (zs 32)) _ ((hg8.block (w.heap.size + 1 + 1) (Array.getElem?_eq_some_iff.1 H0.out.2.2.1).1 (by simp)).trans H0.out.2.2.1) (hInfo' _ HZ32.out) rfl (bv_one _) ?_; intro w9 HG9 hg9))
      have hr1 := (hg9.block (w.heap.size + 1) (Array.getElem?_eq_some_iff.1 HG8.out).1 (by simp)).trans HG8.out
      have hld1 := run_loadVar_row (P := Tryd.prog) w9 (w.heap.size + 1) _ 35 _ (0, 0) _ hr1 Tryd.underlying35 rfl (hInfo _ HZ32.out)
      have hld2 := run_loadVar_row (P := Tryd.prog) w9 (w.heap.size + 1 + 1) _ 35 _ (0, 0) _ HG9.out Tryd.underlying35 rfl (hInfo _ HZ32.out)
      refine bodyPost_ret (v := .tuple #[.agg (bv (zs 32)).toArray, .agg (bv (zs 32)).toArray, .int .i64 9]) ?_ ?_ ?_
      · simp [results, Tryd.results34, asAddr, hld1, hld2]
      · rfl
      · have k1 := below_grow H0.out.2.2.2 hg8 (by omega) (Array.getElem?_eq_some_iff.1 H0.out.2.1).1
        exact ⟨rfl, below_grow k1 hg9 (by omega) (Nat.lt_of_lt_of_le (Array.getElem?_eq_some_iff.1 H0.out.2.2.1).1 hg8.size)⟩
    · have y1 : ((m : Int) == 0) = false := by simp; omega
      have y2 : (n : Int) < (m : Int) := by omega
      go_enter Tryd.func34, Tryd.ntmps34
      go_upto_region 1 with fail
      rw [show ((w.alloc (.cells (bv old).toArray 35)).alloc (.cells (bv (zs 32)).toArray 35)).alloc (.cells (bv (zs 32)).toArray 35) = w0 from HW0.out.symm]
      go_wp2_with (first
        | (with_reducible show wpList _ _ _ (⟨none, Op.store _ _ _, _, _, _, _⟩ :: _) _ _; refine wpList_store_whole rfl _ _ _ rfl (w.heap.size + 1) (bv (zs 32)) rfl rfl (bv (zs 32)) _ H0.out.2.1 (hInfo' _ HZ32.out) rfl (bv_one _) ?_; intro w8 HG8 hg8)
        | (with_reducible show wpList _ _ _ (⟨none, Op.store _ _ _, _, _, _, _⟩ :: _) _ _; refine wpList_store_whole rfl _ _ _ rfl (w.heap.size + 1 + 1) (bv (zs 32)) rfl rfl (bv (zs 32)) _ ((hg8.block (w.heap.size + 1 + 1) (Array.getElem?_eq_some_iff.1 H0.out.2.2.1).1 (by simp)).trans H0.out.2.2.1) (hInfo' _ HZ32.out) rfl (bv_one _) ?_; intro w9 HG9 hg9))
      have hr1 := (hg9.block (w.heap.size + 1) (Array.getElem?_eq_some_iff.1 HG8.out).1 (by simp)).trans HG8.out
      have hld1 := run_loadVar_row (P := Tryd.prog) w9 (w.heap.size + 1) _ 35 _ (0, 0) _ hr1 Tryd.underlying35 rfl (hInfo _ HZ32.out)
      have hld2 := run_loadVar_row (P := Tryd.prog) w9 (w.heap.size + 1 + 1) _ 35 _ (0, 0) _ HG9.out Tryd.underlying35 rfl (hInfo _ HZ32.out)
      refine bodyPost_ret (v := .tuple #[.agg (bv (zs 32)).toArray, .agg (bv (zs 32)).toArray, .int .i64 9]) ?_ ?_ ?_
      · simp [results, Tryd.results34, asAddr, hld1, hld2]
      · rfl
      · have k1 := below_grow H0.out.2.2.2 hg8 (by omega) (Array.getElem?_eq_some_iff.1 H0.out.2.1).1
        exact ⟨rfl, below_grow k1 hg9 (by omega) (Nat.lt_of_lt_of_le (Array.getElem?_eq_some_iff.1 H0.out.2.2.1).1 hg8.size)⟩
  have y1 : ((m : Int) == 0) = false := by simp; omega
  have y2 : ¬ (n : Int) < (m : Int) := by omega
  have hsz := fun wx => refGSize_any m n wx hm hn
  rw [if_neg h0] at hsz
  have hle := szG_le m n true (by omega) (by omega) (by omega)
  by_cases h2 : ps.length < szG m n true
  · have eE : gE m n ps.length = 2 := by rw [gE, if_neg h0, if_pos h2]
    rw [gS, if_neg (by rw [eE]; decide), eE, ← hL]
    rw [← hL] at h2 hl
    obtain ⟨S, hS⟩ : ∃ S, S = szG m n true := ⟨_, rfl⟩
    rw [← hS] at hsz hle h2
    have HSZ := Lib.hid hsz
    have z2 : (L : Int) < (S : Int) := by omega
    clear hr hT h32 eE hL hS hsz
    go_enter Tryd.func34, Tryd.ntmps34
    go_upto_region 1 with fail
    rw [show ((w.alloc (.cells (bv old).toArray 35)).alloc (.cells (bv (zs 32)).toArray 35)).alloc (.cells (bv (zs 32)).toArray 35) = w0 from HW0.out.symm]
    go_wp2_with fail
    refine (HSZ.out _).mono ?_
    rintro e w1 ⟨rfl, hb⟩
    have H1 := Lib.hid (And.intro ((hb.block _ (Array.getElem?_eq_some_iff.1 H0.out.1).1).trans H0.out.1) (And.intro ((hb.block _ (Array.getElem?_eq_some_iff.1 H0.out.2.1).1).trans H0.out.2.1) (And.intro ((hb.block _ (Array.getElem?_eq_some_iff.1 H0.out.2.2.1).1).trans H0.out.2.2.1) (H0.out.2.2.2.trans (hb.mono H0.out.2.2.2.size)))))
    clear hb
    go_wp2_with (first
      | (with_reducible show wpList _ _ _ (⟨none, Op.store _ _ _, _, _, _, _⟩ :: _) _ _; refine wpList_store_whole rfl _ _ _ rfl (w.heap.size + 1) (bv (zs 32)) rfl rfl (bv (zs 32)) _ H1.out.2.1 (hInfo' _ HZ32.out) rfl (bv_one _) ?_; intro w8 HG8 hg8)
      | (with_reducible show wpList _ _ _ (⟨none, Op.store _ _ _, _, _, _, _⟩ :: _) _ _; refine wpList_store_whole rfl _ _ _ rfl (w.heap.size + 1 + 1) (bv (zs 32)) rfl rfl (bv (zs 32)) _ ((hg8.block (w.heap.size + 1 + 1) (Array.getElem?_eq_some_iff.1 H1.out.2.2.1).1 (by simp)).trans H1.out.2.2.1) (hInfo' _ HZ32.out) rfl (bv_one _) ?_; intro w9 HG9 hg9))
    have hr1 := (hg9.block (w.heap.size + 1) (Array.getElem?_eq_some_iff.1 HG8.out).1 (by simp)).trans HG8.out
    have hld1 := run_loadVar_row (P := Tryd.prog) w9 (w.heap.size + 1) _ 35 _ (0, 0) _ hr1 Tryd.underlying35 rfl (hInfo _ HZ32.out)
    have hld2 := run_loadVar_row (P := Tryd.prog) w9 (w.heap.size + 1 + 1) _ 35 _ (0, 0) _ HG9.out Tryd.underlying35 rfl (hInfo _ HZ32.out)
    refine bodyPost_ret (v := .tuple #[.agg (bv (zs 32)).toArray, .agg (bv (zs 32)).toArray, .int .i64 2]) ?_ ?_ ?_
    · simp [results, Tryd.results34, asAddr, hld1, hld2]
    · rfl
    · have k1 := below_grow H1.out.2.2.2 hg8 (by omega) (Array.getElem?_eq_some_iff.1 H1.out.2.1).1
      exact ⟨rfl, below_grow k1 hg9 (by omega) (Nat.lt_of_lt_of_le (Array.getElem?_eq_some_iff.1 H1.out.2.2.1).1 hg8.size)⟩
  by_cases h4 : szG m n true < ps.length
  · have eE : gE m n ps.length = 4 := by rw [gE, if_neg h0, if_neg h2, if_pos h4]
    rw [gS, if_neg (by rw [eE]; decide), eE, ← hL]
    rw [← hL] at h2 h4 hl
    obtain ⟨S, hS⟩ : ∃ S, S = szG m n true := ⟨_, rfl⟩
    rw [← hS] at hsz hle h2 h4
    have HSZ := Lib.hid hsz
    have z2 : ¬ (L : Int) < (S : Int) := by omega
    have z3 : (S : Int) < (L : Int) := by omega
    clear hr hT h32 eE hL hS hsz
    go_enter Tryd.func34, Tryd.ntmps34
    go_upto_region 1 with fail
    rw [show ((w.alloc (.cells (bv old).toArray 35)).alloc (.cells (bv (zs 32)).toArray 35)).alloc (.cells (bv (zs 32)).toArray 35) = w0 from HW0.out.symm]
    go_wp2_with fail
    refine (HSZ.out _).mono ?_
    rintro e w1 ⟨rfl, hb⟩
    have H1 := Lib.hid (And.intro ((hb.block _ (Array.getElem?_eq_some_iff.1 H0.out.1).1).trans H0.out.1) (And.intro ((hb.block _ (Array.getElem?_eq_some_iff.1 H0.out.2.1).1).trans H0.out.2.1) (And.intro ((hb.block _ (Array.getElem?_eq_some_iff.1 H0.out.2.2.1).1).trans H0.out.2.2.1) (H0.out.2.2.2.trans (hb.mono H0.out.2.2.2.size)))))
    clear hb
    go_wp2_with fail
    refine (HSZ.out _).mono ?_
    rintro e w2 ⟨rfl, hb⟩
    have H2 := Lib.hid (And.intro ((hb.block _ (Array.getElem?_eq_some_iff.1 H1.out.1).1).trans H1.out.1) (And.intro ((hb.block _ (Array.getElem?_eq_some_iff.1 H1.out.2.1).1).trans H1.out.2.1) (And.intro ((hb.block _ (Array.getElem?_eq_some_iff.1 H1.out.2.2.1).1).trans H1.out.2.2.1) (H1.out.2.2.2.trans (hb.mono H1.out.2.2.2.size)))))
    clear hb
    go_wp2_with (first
      | (with_reducible show wpList _ _ _ (⟨none, Op.store _ _ _, _, _, _, _⟩ :: _) _ _; refine wpList_store_whole rfl _ _ _ rfl (w.heap.size + 1) (bv (zs 32)) rfl rfl (bv (zs 32)) _ H2.out.2.1 (hInfo' _ HZ32.out) rfl (bv_one _) ?_; intro w8 HG8 hg8)
      | (with_reducible show wpList _ _ _ (⟨none, Op.store _ _ _, _, _, _, _⟩ :: _) _ _; refine wpList_store_whole rfl _ _ _ rfl (w.heap.size + 1 + 1) (bv (zs 32)) rfl rfl (bv (zs 32)) _ ((hg8.block (w.heap.size + 1 + 1) (Array.getElem?_eq_some_iff.1 H2.out.2.2.1).1 (by simp)).trans H2.out.2.2.1) (hInfo' _ HZ32.out) rfl (bv_one _) ?_; intro w9 HG9 hg9))
    have hr1 := (hg9.block (w.heap.size + 1) (Array.getElem?_eq_some_iff.1 HG8.out).1 (by simp)).trans HG8.out
    have hld1 := run_loadVar_row (P := Tryd.prog) w9 (w.heap.size + 1) _ 35 _ (0, 0) _ hr1 Tryd.underlying35 rfl (hInfo _ HZ32.out)
    have hld2 := run_loadVar_row (P := Tryd.prog) w9 (w.heap.size + 1 + 1) _ 35 _ (0, 0) _ HG9.out Tryd.underlying35 rfl (hInfo _ HZ32.out)
    refine bodyPost_ret (v := .tuple #[.agg (bv (zs 32)).toArray, .agg (bv (zs 32)).toArray, .int .i64 4]) ?_ ?_ ?_
    · simp [results, Tryd.results34, asAddr, hld1, hld2]
    · rfl
    · have k1 := below_grow H2.out.2.2.2 hg8 (by omega) (Array.getElem?_eq_some_iff.1 H2.out.2.1).1
      exact ⟨rfl, below_grow k1 hg9 (by omega) (Nat.lt_of_lt_of_le (Array.getElem?_eq_some_iff.1 H2.out.2.2.1).1 hg8.size)⟩
  · have eE : gE m n ps.length = 0 := by rw [gE, if_neg h0, if_neg h2, if_neg h4]
    rw [gS, if_pos eE, eE]
    have hsh := fun wx (hb : Below w.heap.size w wx) => show_any W hW n old m n true ps a c wx (Nat.le_refl _) ho (by omega) (by omega) hn h32 (by omega) (hr.keep hb) (hT.keepB hb)
    have hor := showG_32 W m n old true ps ho h32
    obtain ⟨oo, hoo⟩ : ∃ x, x = showG (nodeH W) m n old true ps := ⟨_, rfl⟩
    rw [← hoo] at hsh hor ⊢
    obtain ⟨oa, ob⟩ := oo
    simp only at hsh hor ⊢
    rw [← hL] at hsh h2 h4 hl ⊢
    obtain ⟨S, hS⟩ : ∃ S, S = szG m n true := ⟨_, rfl⟩
    rw [← hS] at hsz hle h2 h4
    have HSZ := Lib.hid hsz
    have HSH := Lib.hid hsh
    have HO := Lib.hid hor
    have HOL := Lib.hid ho
    have z2 : ¬ (L : Int) < (S : Int) := by omega
    have z3 : ¬ (S : Int) < (L : Int) := by omega
    clear hr hT h32 eE hL hS hsz hsh hor hoo ho
    go_enter Tryd.func34, Tryd.ntmps34
    go_upto_region 1 with fail
    rw [show ((w.alloc (.cells (bv old).toArray 35)).alloc (.cells (bv (zs 32)).toArray 35)).alloc (.cells (bv (zs 32)).toArray 35) = w0 from HW0.out.symm]
    go_wp2_with fail
    refine (HSZ.out _).mono ?_
    rintro e w1 ⟨rfl, hb⟩
    have H1 := Lib.hid (And.intro ((hb.block _ (Array.getElem?_eq_some_iff.1 H0.out.1).1).trans H0.out.1) (And.intro ((hb.block _ (Array.getElem?_eq_some_iff.1 H0.out.2.1).1).trans H0.out.2.1) (And.intro ((hb.block _ (Array.getElem?_eq_some_iff.1 H0.out.2.2.1).1).trans H0.out.2.2.1) (H0.out.2.2.2.trans (hb.mono H0.out.2.2.2.size)))))
    clear hb
    go_wp2_with fail
    refine (HSZ.out _).mono ?_
    rintro e w2 ⟨rfl, hb⟩
    have H2 := Lib.hid (And.intro ((hb.block _ (Array.getElem?_eq_some_iff.1 H1.out.1).1).trans H1.out.1) (And.intro ((hb.block _ (Array.getElem?_eq_some_iff.1 H1.out.2.1).1).trans H1.out.2.1) (And.intro ((hb.block _ (Array.getElem?_eq_some_iff.1 H1.out.2.2.1).1).trans H1.out.2.2.1) (H1.out.2.2.2.trans (hb.mono H1.out.2.2.2.size)))))
    clear hb
    go_wp2_with (with_reducible show wpList _ _ _ (⟨some 44, _, _, _, _, _⟩ :: _) _ _; refine wpList_load_row rfl _ _ rfl w.heap.size rfl _ _ (0, 0) _ H2.out.1 Tryd.underlying35 rfl (hInfo _ HOL.out) ?_)
    refine (HSH.out _ H2.out.2.2.2).mono ?_
    rintro e w3 ⟨rfl, hb⟩
    have H3 := Lib.hid (And.intro ((hb.block _ (Array.getElem?_eq_some_iff.1 H2.out.2.1).1).trans H2.out.2.1) (And.intro ((hb.block _ (Array.getElem?_eq_some_iff.1 H2.out.2.2.1).1).trans H2.out.2.2.1) (H2.out.2.2.2.trans (hb.mono H2.out.2.2.2.size))))
    have hl3 : w.heap.size + 1 + 1 < w3.heap.size := (Array.getElem?_eq_some_iff.1 H3.out.2.1).1
    clear hb
    have Ha := Lib.hid (show ((w3.alloc (.cells (bv (zs 32)).toArray 35)).alloc (.cells (bv (zs 32)).toArray 35)).heap[w3.heap.size]? = some (.cells (bv (zs 32)).toArray 35 (0, 0)) from by rw [heap_alloc_old _ _ (by simp)]; exact heap_alloc_new _ _)
    have Hb := Lib.hid (show ((w3.alloc (.cells (bv (zs 32)).toArray 35)).alloc (.cells (bv (zs 32)).toArray 35)).heap[w3.heap.size + 1]? = some (.cells (bv (zs 32)).toArray 35 (0, 0)) from by
      have := heap_alloc_new (w3.alloc (.cells (bv (zs 32)).toArray 35)) (.cells (bv (zs 32)).toArray 35)
      simpa using this)
    go_upto_region 8 with (first
      | (with_reducible show wpList _ _ _ (⟨none, Op.store _ _ _, _, _, _, _⟩ :: _) _ _; refine wpList_store_whole rfl _ _ _ rfl w3.heap.size (bv oa) rfl rfl (bv (zs 32)) _ Ha.out (hInfo' _ HO.out.1) (by rw [bv_length, bv_length, HO.out.1, HZ32.out]) (bv_one _) ?_; intro w4 HGa hga)
      | (with_reducible show wpList _ _ _ (⟨none, Op.store _ _ _, _, _, _, _⟩ :: _) _ _; refine wpList_store_whole rfl _ _ _ rfl (w3.heap.size + 1) (bv ob) rfl rfl (bv (zs 32)) _ ((hga.block (w3.heap.size + 1) (Array.getElem?_eq_some_iff.1 Hb.out).1 (by simp)).trans Hb.out) (hInfo' _ HO.out.2) (by rw [bv_length, bv_length, HO.out.2, HZ32.out]) (bv_one _) ?_; intro w5 HGb hgb))
    have k3 : Below w3.heap.size w3 w4 := below_grow (((Below.refl _ _).alloc (Nat.le_refl _) _).alloc (by simp) _) hga (Nat.le_refl _) (by simp; omega)
    have k5 : Below w3.heap.size w3 w5 := below_grow k3 hgb (by omega) (Nat.lt_of_lt_of_le (Array.getElem?_eq_some_iff.1 Hb.out).1 hga.size)
    have hra := (hgb.block w3.heap.size (Array.getElem?_eq_some_iff.1 HGa.out).1 (by simp)).trans HGa.out
    have hrb := HGb.out
    have H5 := Lib.hid (And.intro hra (And.intro hrb (And.intro ((k5.block _ (Array.getElem?_eq_some_iff.1 H3.out.1).1).trans H3.out.1) (And.intro ((k5.block _ (Array.getElem?_eq_some_iff.1 H3.out.2.1).1).trans H3.out.2.1) (H3.out.2.2.trans (k5.mono H3.out.2.2.size))))))
    clear hra hrb k3 k5 HGa HGb hga hgb Ha Hb
    refine wp_region_desc [some 49, some 50, none, none, some 12] [] [(2, 0), (3, 1)] [(0, 0), (0, 0), (2, 0), (2, 1), (0, 0)] [] [2, 3] [w.heap.size + 1, w.heap.size + 1 + 1] [.cells (bv ((zs 32))).toArray 35 (0, 0), .cells (bv ((zs 32))).toArray 35 (0, 0)] (rcl8P (w.heap.size + 1) (w.heap.size + 1 + 1) w3.heap.size oa ob) (fun _ _ _ => True) (rcl8O (w.heap.size + 1) (w.heap.size + 1 + 1) w3.heap.size oa ob) (by kernel_rfl) (by kernel_rfl) rfl (by kernel_rfl) (by kernel_rfl) (by kernel_rfl) rfl ⟨H5.out.2.2.1, H5.out.2.2.2.1, trivial⟩ (by simp; try omega) rfl (fun i hi => (no4 (by kernel_rfl) i hi).elim) ?hstep ?hend
    case hstep =>
      refine ⟨fun r wx hG hs hq hf => ?_, ?_⟩
      · have e13 : r 13 = .pointer (some ⟨w3.heap.size, 0, none⟩) := hs 13 rfl
        clear hs hq hf
        refine wanted_pos rfl ?_
        unfold gives
        refine gives_load_row 35 _ rfl w3.heap.size e13 35 _ (0, 0) _ (hG.row (by simp; try omega) H5.out.1) Tryd.underlying35 rfl (hInfo _ HO.out.1) ?_
        exact obC_q (Below.refl _ _) rfl
      refine ⟨fun r wx hG hs hq hf => ?_, ?_⟩
      · have e14 : r 14 = .pointer (some ⟨w3.heap.size + 1, 0, none⟩) := hs 14 rfl
        clear hs hq hf
        refine wanted_pos rfl ?_
        unfold gives
        refine gives_load_row 35 _ rfl (w3.heap.size + 1) e14 35 _ (0, 0) _ (hG.row (by simp; try omega) H5.out.2.1) Tryd.underlying35 rfl (hInfo _ HO.out.2) ?_
        exact obC_q (Below.refl _ _) rfl
      refine ⟨fun r wx hG hs hq hf => ?_, ?_⟩
      · have e10 : r 10 = .pointer (some ⟨w.heap.size + 1, 0, none⟩) := hs 10 rfl
        have h0 : r 49 = .agg (bv oa).toArray := hf.1
        clear hs hf
        refine wanted_pos rfl ?_
        unfold gives
        refine gives_store_row 35 _ _ rfl (w.heap.size + 1) (bv oa) e10 h0 (bv ((zs 32))) 35 (hq 0 rfl) (hInfo' _ HO.out.1) (by rw [bv_length, bv_length, HO.out.1, HZ32.out]) (bv_one _) ?_
        intro wy h1 h2
        exact obC_st h1 h2
      refine ⟨fun r wx hG hs hq hf => ?_, ?_⟩
      · have e11 : r 11 = .pointer (some ⟨w.heap.size + 1 + 1, 0, none⟩) := hs 11 rfl
        have h1 : r 50 = .agg (bv ob).toArray := hf.1
        have h2 : wx.heap[w.heap.size + 1]? = some (.cells (bv oa).toArray 35 (0, 0)) := hf.2.1
        clear hs hf
        refine wanted_pos rfl ?_
        unfold gives
        refine gives_store_row 35 _ _ rfl (w.heap.size + 1 + 1) (bv ob) e11 h1 (bv ((zs 32))) 35 (hq 1 rfl) (hInfo' _ HO.out.2) (by rw [bv_length, bv_length, HO.out.2, HZ32.out]) (bv_one _) ?_
        intro wy h1 h2
        exact obC_st h1 h2
      refine ⟨fun r wx hG hs hq hf => ?_, ?_⟩
      · have h3 : wx.heap[w.heap.size + 1 + 1]? = some (.cells (bv ob).toArray 35 (0, 0)) := hf.1
        clear hs hq hf
        refine wanted_pos rfl ?_
        unfold gives
        go_simp
        exact obC_q (Below.refl _ _) rfl
      exact trivial
    case hend =>
      intro u wz hG hfin
      have z2 : wz.heap[w.heap.size + 1]? = some (.cells (bv oa).toArray 35 (0, 0)) := hfin 2 (by decide) (by kernel_rfl)
      have z3 : wz.heap[w.heap.size + 1 + 1]? = some (.cells (bv ob).toArray 35 (0, 0)) := hfin 3 (by decide) (by kernel_rfl)
      have z4 : u 4 = .int .i64 0 := hfin 4 (by decide) (by kernel_rfl)
      clear hfin
      simp only [fill]
      have HZ := Lib.hid (And.intro z2 (And.intro z3 hG))
      clear z2 z3 hG
      go_simp
      have hld1 := run_loadVar_row (P := Tryd.prog) wz (w.heap.size + 1) _ 35 _ (0, 0) _ HZ.out.1 Tryd.underlying35 rfl (hInfo _ HO.out.1)
      have hld2 := run_loadVar_row (P := Tryd.prog) wz (w.heap.size + 1 + 1) _ 35 _ (0, 0) _ HZ.out.2.1 Tryd.underlying35 rfl (hInfo _ HO.out.2)
      go_wp2_with fail
      refine bodyPost_ret (v := .tuple #[.agg (bv oa).toArray, .agg (bv ob).toArray, .int .i64 0]) ?_ ?_ ?_
      · simp [results, Tryd.results34, asAddr, hld1, hld2]
      · rfl
      · exact ⟨rfl, H5.out.2.2.2.2.trans (HZ.out.2.2.below H5.out.2.2.2.2.size (by simp; try omega))⟩
end Go.Proofs.YtfibhmgjkooemaaDoor
