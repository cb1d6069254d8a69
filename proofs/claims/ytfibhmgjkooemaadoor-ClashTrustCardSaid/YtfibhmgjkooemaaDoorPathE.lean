/- The reference's climb; path.Check. (printed by gen/pathe.py) -/
import Derived.Test.YtfibhmgjkooemaaDoorPathB
import Derived.Test.YtfibhmgjkooemaaDoorLeafRA
namespace Go.Proofs.YtfibhmgjkooemaaDoor
open Go.RowKit Sha Root Ones Path

set_option maxHeartbeats 8000000 in
set_option maxRecDepth 100000 in
theorem Check_any (W : Int) (h root : List UInt8) (i n : Nat) (ps : List (List UInt8)) (a : Option Addr) (c : Nat) (w : World) (hW : -9223372036854775808 ≤ W ∧ W ≤ 9223372036854775807) (hh : h.length = 32) (hrt : root.length = 32) (hi : i < 18446744073709551616) (hn : n < 18446744073709551616)
    (h32 : ∀ p ∈ ps, p.length = 32) (hl : ps.length ≤ 140737488355328) (hr : Rd w 32 (.slice a ps.length c) ps.length (ps.flatMap bv)) (hT : Tabs w) :
    Calls Tryd.prog 21 #[.int .i64 W, .agg (bv h).toArray, .int .u64 i, .int .u64 n, .slice a ps.length c, .agg (bv root).toArray] w fun e w' => e = .returned (.bool (climbE i n ps.length == 0 && climbH W h i n ps == root)) ∧ Below w.heap.size w w' := by
  have hz := (zero_of_info info32).1
  obtain ⟨w0, hw0⟩ : ∃ x : World, x = (w.alloc (.cells (bv h).toArray 35)).alloc (.cells (bv root).toArray 35) := ⟨_, rfl⟩
  have hbox : w0.heap[w.heap.size]? = some (.cells (bv h).toArray 35 (0, 0)) := by
    rw [hw0, heap_alloc_old _ _ (by simp)]; exact heap_alloc_new _ _
  have hrow : w0.heap[w.heap.size + 1]? = some (.cells (bv root).toArray 35 (0, 0)) := by
    rw [hw0]
    have := heap_alloc_new (w.alloc (.cells (bv h).toArray 35)) (.cells (bv root).toArray 35)
    simpa using this
  have hbw0 : Below w.heap.size w w0 := by rw [hw0]; exact ((Below.refl _ _).alloc (Nat.le_refl _) _).alloc (by simp) _
  have hcl := Climb_any W h i n ps a c w0 hW hh hi hn h32 hl (hr.keep hbw0) (hT.keepB hbw0)
  have hc32 := climbH_32 W h i n ps hh
  obtain ⟨out, ho⟩ : ∃ o, o = climbH W h i n ps := ⟨_, rfl⟩
  obtain ⟨E, hE⟩ : ∃ e, e = climbE i n ps.length := ⟨_, rfl⟩
  obtain ⟨m, hm⟩ : ∃ m, m = ps.length := ⟨_, rfl⟩
  rw [← hE] at hcl ⊢
  rw [← ho] at hcl hc32 ⊢
  rw [← hm] at hcl ⊢
  have HW0 := Lib.hid hw0
  have H0 := Lib.hid (And.intro hbox (And.intro hrow hbw0))
  have HH := Lib.hid (And.intro hh (And.intro hrt hc32))
  have hqe := fun w => eqIn_hash out root hc32 hrt w
  have HQ := Lib.hid hqe
  have HC := Lib.hid hcl
  clear hw0 hbox hrow hbw0 hr hT h32 hE ho hm hl hh hrt hc32 hqe hcl
  go_enter Tryd.func21, Tryd.ntmps21
  go_upto_region 1 with fail
  rw [show (w.alloc (.cells (bv h).toArray 35)).alloc (.cells (bv root).toArray 35) = w0 from HW0.out.symm]
  go_wp2_with (with_reducible show wpList _ _ _ (⟨some 17, _, _, _, _, _⟩ :: _) _ _; refine wpList_load_row rfl _ _ rfl w.heap.size rfl _ _ (0, 0) _ H0.out.1 Tryd.underlying35 rfl (hInfo _ HH.out.1) ?_)
  refine HC.out.mono ?_
  rintro e w1 ⟨rfl, hb1⟩
  have hrow1 := (hb1.block _ (Array.getElem?_eq_some_iff.1 H0.out.2.1).1).trans H0.out.2.1
  have hbw1 := H0.out.2.2.trans (hb1.mono H0.out.2.2.size)
  have H1 := Lib.hid (And.intro hrow1 hbw1)
  have H7 := Lib.hid (heap_alloc_new w1 (.cells (bv (zs 32)).toArray 35))
  clear hrow1 hbw1 hb1
  go_upto_region 2 with (with_reducible show wpList _ _ _ (⟨none, Op.store _ _ _, _, _, _, _⟩ :: _) _ _; refine wpList_store_whole rfl _ _ _ rfl w1.heap.size (bv out) rfl rfl (bv (zs 32)) _ H7.out (hInfo' _ HH.out.2.2) (by rw [bv_length, bv_length, HH.out.2.2]; simp [zs]) (bv_one _) ?_; intro w3 HG3 hg3)
  have k3 : Below w1.heap.size w1 w3 := below_grow ((Below.refl _ _).alloc (Nat.le_refl _) _) hg3 (Nat.le_refl _) (by simp)
  have hrow3 := (k3.block _ (Array.getElem?_eq_some_iff.1 H1.out.1).1).trans H1.out.1
  have hbw3 := H1.out.2.trans (k3.mono H1.out.2.size)
  have H3 := Lib.hid (And.intro HG3.out (And.intro hrow3 hbw3))
  clear HG3 hg3 k3 hrow3 hbw3
  by_cases hE : E = 0
  · subst hE
    have hgd := eq_guard
    have hqe := HQ.out w3
    go_wp2_with (first
      | (with_reducible show wpList _ _ _ (⟨some 27, _, _, _, _, _⟩ :: _) _ _; refine wpList_guard rfl ?_; refine wpList_load_row rfl _ _ rfl w1.heap.size rfl _ _ (0, 0) _ H3.out.1 Tryd.underlying35 rfl (hInfo _ HH.out.2.2) ?_)
      | (with_reducible show wpList _ _ _ (⟨some 28, _, _, _, _, _⟩ :: _) _ _; refine wpList_guard rfl ?_; refine wpList_load_row rfl _ _ rfl (w.heap.size + 1) rfl _ _ (0, 0) _ H3.out.2.1 Tryd.underlying35 rfl (hInfo _ HH.out.2.1) ?_))
    go_ret
    exact ⟨by simp, H3.out.2.2⟩
  · have hEb : (E == 0) = false := by simp [hE]
    go_wp2_with fail
    go_ret
    exact ⟨by simp [hEb], H3.out.2.2⟩
end Go.Proofs.YtfibhmgjkooemaaDoor
