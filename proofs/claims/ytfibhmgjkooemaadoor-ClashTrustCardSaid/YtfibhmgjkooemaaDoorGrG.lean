/- growth.Climb: two rows that are stored one behind the other; the regions' facts. (printed by gen/grf.py; the walk itself is not written yet) · growth.Climb where it refuses. (printed by gen/grg.py) -/
import Derived.Test.YtfibhmgjkooemaaDoorGrA
import Derived.Test.YtfibhmgjkooemaaDoorPathC
import Derived.Test.YtfibhmgjkooemaaDoorLeafRA
namespace Go.Proofs.YtfibhmgjkooemaaDoor
open Go.RowKit Sha Root Path Growth

/-- What a climb hands back: the error; the two hashes. -/
def gE (m n L : Nat) : Int := if m = 0 ∨ n < m then 9 else if L < szG m n true then 2 else if szG m n true < L then 4 else 0
def gS (W : Int) (m n : Nat) (old : List UInt8) (ps : List (List UInt8)) : List UInt8 × List UInt8 := if gE m n ps.length = 0 then showG (nodeH W) m n old true ps else (zs 32, zs 32)
theorem runW_32 (W : Int) : ∀ (wy : List Bool) (ps : List (List UInt8)) (s : List UInt8 × List UInt8), s.1.length = 32 → s.2.length = 32 → (runW (nodeH W) wy ps s).1.length = 32 ∧ (runW (nodeH W) wy ps s).2.length = 32
  | [], _, s, h1, h2 => by rw [runW]; exact ⟨h1, h2⟩
  | _ :: _, [], s, h1, h2 => by rw [runW]; exact ⟨h1, h2⟩
  | true :: wy, p :: r, (a, b), _, _ => by rw [runW]; exact runW_32 W wy r _ (nodeH_length _ _ _) (nodeH_length _ _ _)
  | false :: wy, p :: r, (a, b), h1, _ => by rw [runW]; exact runW_32 W wy r _ h1 (nodeH_length _ _ _)
theorem gS_32 (W : Int) (m n : Nat) (old : List UInt8) (ps : List (List UInt8)) (ho : old.length = 32) (h32 : ∀ p ∈ ps, p.length = 32) : (gS W m n old ps).1.length = 32 ∧ (gS W m n old ps).2.length = 32 := by
  have hh : (ps.headD old).length = 32 := by
    cases ps with
    | nil => exact ho
    | cons x r => exact h32 x (by simp)
  unfold gS
  split
  · unfold showG
    split
    · exact runW_32 W _ _ _ ho ho
    · exact runW_32 W _ _ _ hh hh
  · exact ⟨by simp [zs], by simp [zs]⟩
/-- One operation stores a row at g1, another one at g2. -/
def kC (A g1 E g2 : Nat) (j : Nat) (w w' : World) : Prop := if j = A then w.grownBy w' (some g1) else if j = E then w.grownBy w' (some g2) ∧ ((∃ l : List UInt8, l.length = 32 ∧ w.heap[g2]? = some (.cells (bv l).toArray 35 (0, 0))) → ∃ l : List UInt8, l.length = 32 ∧ w'.heap[g2]? = some (.cells (bv l).toArray 35 (0, 0))) else Below w.heap.size w w'
theorem kC_refl {A g1 E g2 j : Nat} (w : World) : kC A g1 E g2 j w w := by
  unfold kC; split
  · exact World.grownBy.refl _ _
  · split
    · exact ⟨World.grownBy.refl _ _, id⟩
    · exact Below.refl _ _
theorem kC_of {A g1 E g2 j : Nat} {w w' : World} (hA : (j == A) = false) (hE : (j == E) = false) (h : Below w.heap.size w w') : kC A g1 E g2 j w w' := by
  unfold kC; rw [if_neg (by simpa using hA), if_neg (by simpa using hE)]; exact h
theorem kC_at1 {A g1 E g2 : Nat} {w w' : World} (h : w.grownBy w' (some g1)) : kC A g1 E g2 A w w' := by
  unfold kC; rwa [if_pos rfl]
theorem kC_at2 {A g1 E g2 : Nat} {w w' : World} (hne : E ≠ A) (h : w.grownBy w' (some g2)) (h2 : ∃ l : List UInt8, l.length = 32 ∧ w'.heap[g2]? = some (.cells (bv l).toArray 35 (0, 0))) : kC A g1 E g2 E w w' := by
  unfold kC; rw [if_neg hne, if_pos rfl]; exact ⟨h, fun _ => h2⟩
theorem kC_below {A g1 E g2 j : Nat} {w w' : World} (hA : j ≠ A) (hE : j ≠ E) (k : kC A g1 E g2 j w w') : Below w.heap.size w w' := by
  unfold kC at k; rwa [if_neg hA, if_neg hE] at k
theorem kC_row1 {A g1 E g2 j : Nat} {w w' : World} {o : Obj} (hA : j ≠ A) (hne : g1 ≠ g2) (k : kC A g1 E g2 j w w') (h : w.heap[g1]? = some o) : w'.heap[g1]? = some o := by
  unfold kC at k
  rw [if_neg hA] at k
  split at k
  · exact (k.1.block g1 (Array.getElem?_eq_some_iff.1 h).1 (by simpa using hne)).trans h
  · exact (k.block g1 (Array.getElem?_eq_some_iff.1 h).1).trans h
theorem kC_row2 {A g1 E g2 j : Nat} {w w' : World} {o : Obj} (hE : j ≠ E) (hne : g1 ≠ g2) (k : kC A g1 E g2 j w w') (h : w.heap[g2]? = some o) : w'.heap[g2]? = some o := by
  unfold kC at k
  split at k
  · exact (k.block g2 (Array.getElem?_eq_some_iff.1 h).1 (by simpa using fun e => hne e.symm)).trans h
  · exact ((show Below w.heap.size w w' by first | exact k | (rw [if_neg hE] at k; exact k)).block g2 (Array.getElem?_eq_some_iff.1 h).1).trans h
/-- What each operation hands on. -/
def gc19F (W : Int) (b o L c k b16 b17 : Nat) (x ra rb na nb : List UInt8) : Nat → Value → World → Prop
  | 0, v, _ => v = .int .i64 W
  | 1, v, _ => v = .slice (some ⟨b, o, none⟩) L c
  | 2, v, _ => v = .int .i64 (k : Nat)
  | 3, v, _ => v = .pointer (some ⟨b, o + k * 32, none⟩)
  | 4, v, _ => v = .agg (bv x).toArray
  | 5, v, _ => v = .agg (bv ra).toArray
  | 6, v, _ => v = .agg (bv na).toArray
  | 7, v, _ => v = .int .i64 W
  | 8, v, _ => v = .slice (some ⟨b, o, none⟩) L c
  | 9, v, _ => v = .int .i64 (k : Nat)
  | 10, v, _ => v = .pointer (some ⟨b, o + k * 32, none⟩)
  | 11, v, _ => v = .agg (bv x).toArray
  | 12, v, _ => v = .agg (bv rb).toArray
  | 13, v, _ => v = .agg (bv nb).toArray
  | 14, _, w => w.heap[b16]? = some (.cells (bv na).toArray 35 (0, 0))
  | 15, _, w => w.heap[b17]? = some (.cells (bv nb).toArray 35 (0, 0))
  | _, _, _ => True

/-- What each operation hands on. -/
def gc20F (W : Int) (b o L c k _b16 b17 : Nat) (x _ra rb _na nb : List UInt8) : Nat → Value → World → Prop
  | 0, v, _ => v = .int .i64 W
  | 1, v, _ => v = .agg (bv rb).toArray
  | 2, v, _ => v = .slice (some ⟨b, o, none⟩) L c
  | 3, v, _ => v = .int .i64 (k : Nat)
  | 4, v, _ => v = .pointer (some ⟨b, o + k * 32, none⟩)
  | 5, v, _ => v = .agg (bv x).toArray
  | 6, v, _ => v = .agg (bv nb).toArray
  | 7, _, w => w.heap[b17]? = some (.cells (bv nb).toArray 35 (0, 0))
  | _, _, _ => True

end Go.Proofs.YtfibhmgjkooemaaDoor
namespace Go.Proofs.YtfibhmgjkooemaaDoor
open Go.RowKit Sha Root Path Growth

set_option maxHeartbeats 8000000 in
set_option maxRecDepth 100000 in
theorem gClimb_bad (W : Int) (m n : Nat) (old : List UInt8) (a : Option Addr) (L c : Nat) (w : World) (hE : gE m n L ≠ 0) (hm : m < 18446744073709551616) (hn : n < 18446744073709551616) (_hL : L ≤ 140737488355328) :
    Calls Tryd.prog 31 #[.int .i64 W, .int .u64 m, .int .u64 n, .agg (bv old).toArray, .slice a L c] w fun e w' => e = .returned (.tuple #[.agg (bv (zs 32)).toArray, .agg (bv (zs 32)).toArray, .int .i64 (gE m n L)]) ∧ Below w.heap.size w w' := by
  have hz := (zero_of_info info32).1
  have HZ := Lib.hid (show (zs 32).length = 32 by simp [zs])
  obtain ⟨w0, hw0⟩ : ∃ x : World, x = ((w.alloc (.cells (bv old).toArray 35)).alloc (.cells (bv (zs 32)).toArray 35)).alloc (.cells (bv (zs 32)).toArray 35) := ⟨_, rfl⟩
  have hr1 : w0.heap[w.heap.size + 1]? = some (.cells (bv (zs 32)).toArray 35 (0, 0)) := by
    rw [hw0, heap_alloc_old _ _ (by simp)]
    have := heap_alloc_new (w.alloc (.cells (bv old).toArray 35)) (.cells (bv (zs 32)).toArray 35)
    simpa using this
  have hr2 : w0.heap[w.heap.size + 1 + 1]? = some (.cells (bv (zs 32)).toArray 35 (0, 0)) := by
    rw [hw0]
    have := heap_alloc_new ((w.alloc (.cells (bv old).toArray 35)).alloc (.cells (bv (zs 32)).toArray 35)) (.cells (bv (zs 32)).toArray 35)
    simpa using this
  have hbw0 : Below w.heap.size w w0 := by rw [hw0]; exact (((Below.refl _ _).alloc (Nat.le_refl _) _).alloc (by simp) _).alloc (by simp; omega) _
  have HW0 := Lib.hid hw0
  have H0 := Lib.hid (And.intro hr1 (And.intro hr2 hbw0))
  clear hw0 hr1 hr2 hbw0
  by_cases h0 : m = 0 ∨ n < m
  · have eE : gE m n L = 9 := if_pos h0
    rw [eE]
    by_cases hm0 : m = 0
    · have y1 : ((m : Int) == 0) = true := by simp; omega
      go_enter Tryd.func31, Tryd.ntmps31
      go_upto_region 1 with fail
      rw [show ((w.alloc (.cells (bv old).toArray 35)).alloc (.cells (bv (zs 32)).toArray 35)).alloc (.cells (bv (zs 32)).toArray 35) = w0 from HW0.out.symm]
      go_wp2_with (first
        | (with_reducible show wpList _ _ _ (⟨none, Op.store _ _ _, _, _, _, _⟩ :: _) _ _; refine wpList_store_whole rfl _ _ _ rfl (w.heap.size + 1) (bv (zs 32)) rfl rfl (bv (zs 32)) _ H0.out.1 (hInfo' _ HZ.out) rfl (bv_one _) ?_; intro w8 HG8 hg8)
        | (with_reducible show wpList _ _ _ (⟨none, Op.store _ _ _, _, _, _, _⟩ :: _) _ _; refine wpList_store_whole rfl _ _ _ rfl (w.heap.size + 1 + 1) (bv (zs 32)) rfl rfl (bv (zs 32)) _ ((hg8.block (w.heap.size + 1 + 1) (Array.getElem?_eq_some_iff.1 H0.out.2.1).1 (by simp)).trans H0.out.2.1) (hInfo' _ HZ.out) rfl (bv_one _) ?_; intro w9 HG9 hg9))
      have hr1 := (hg9.block (w.heap.size + 1) (Array.getElem?_eq_some_iff.1 HG8.out).1 (by simp)).trans HG8.out
      have hld1 := run_loadVar_row (P := Tryd.prog) w9 (w.heap.size + 1) _ 35 _ (0, 0) _ hr1 Tryd.underlying35 rfl (hInfo _ HZ.out)
      have hld2 := run_loadVar_row (P := Tryd.prog) w9 (w.heap.size + 1 + 1) _ 35 _ (0, 0) _ HG9.out Tryd.underlying35 rfl (hInfo _ HZ.out)
      refine bodyPost_ret (v := .tuple #[.agg (bv (zs 32)).toArray, .agg (bv (zs 32)).toArray, .int .i64 9]) ?_ ?_ ?_
      · simp [results, Tryd.results31, asAddr, hld1, hld2]
      · rfl
      · have k1 := below_grow H0.out.2.2 hg8 (by omega) (Array.getElem?_eq_some_iff.1 H0.out.1).1
        exact ⟨rfl, below_grow k1 hg9 (by omega) (Nat.lt_of_lt_of_le (Array.getElem?_eq_some_iff.1 H0.out.2.1).1 hg8.size)⟩
    · have y1 : ((m : Int) == 0) = false := by simp; omega
      have y2 : (n : Int) < (m : Int) := by omega
      go_enter Tryd.func31, Tryd.ntmps31
      go_upto_region 1 with fail
      rw [show ((w.alloc (.cells (bv old).toArray 35)).alloc (.cells (bv (zs 32)).toArray 35)).alloc (.cells (bv (zs 32)).toArray 35) = w0 from HW0.out.symm]
      go_wp2_with (first
        | (with_reducible show wpList _ _ _ (⟨none, Op.store _ _ _, _, _, _, _⟩ :: _) _ _; refine wpList_store_whole rfl _ _ _ rfl (w.heap.size + 1) (bv (zs 32)) rfl rfl (bv (zs 32)) _ H0.out.1 (hInfo' _ HZ.out) rfl (bv_one _) ?_; intro w8 HG8 hg8)
        | (with_reducible show wpList _ _ _ (⟨none, Op.store _ _ _, _, _, _, _⟩ :: _) _ _; refine wpList_store_whole rfl _ _ _ rfl (w.heap.size + 1 + 1) (bv (zs 32)) rfl rfl (bv (zs 32)) _ ((hg8.block (w.heap.size + 1 + 1) (Array.getElem?_eq_some_iff.1 H0.out.2.1).1 (by simp)).trans H0.out.2.1) (hInfo' _ HZ.out) rfl (bv_one _) ?_; intro w9 HG9 hg9))
      have hr1 := (hg9.block (w.heap.size + 1) (Array.getElem?_eq_some_iff.1 HG8.out).1 (by simp)).trans HG8.out
      have hld1 := run_loadVar_row (P := Tryd.prog) w9 (w.heap.size + 1) _ 35 _ (0, 0) _ hr1 Tryd.underlying35 rfl (hInfo _ HZ.out)
      have hld2 := run_loadVar_row (P := Tryd.prog) w9 (w.heap.size + 1 + 1) _ 35 _ (0, 0) _ HG9.out Tryd.underlying35 rfl (hInfo _ HZ.out)
      refine bodyPost_ret (v := .tuple #[.agg (bv (zs 32)).toArray, .agg (bv (zs 32)).toArray, .int .i64 9]) ?_ ?_ ?_
      · simp [results, Tryd.results31, asAddr, hld1, hld2]
      · rfl
      · have k1 := below_grow H0.out.2.2 hg8 (by omega) (Array.getElem?_eq_some_iff.1 H0.out.1).1
        exact ⟨rfl, below_grow k1 hg9 (by omega) (Nat.lt_of_lt_of_le (Array.getElem?_eq_some_iff.1 H0.out.2.1).1 hg8.size)⟩
  have y1 : ((m : Int) == 0) = false := by simp; omega
  have y2 : ¬ (n : Int) < (m : Int) := by omega
  have hwl := way_length n m n 64 (Nat.le_refl _) (by omega) (by omega) (by omega)
  have htu := fun wx (hb : Below w.heap.size w wx) => turns_any m n wx (by omega) (by omega) hn
  have hsz : szG m n true = (way m n).length + if (true && whole m n) = true then 0 else 1 := rfl
  obtain ⟨WY, hWY⟩ : ∃ x, x = way m n := ⟨_, rfl⟩
  rw [← hWY] at htu hsz hwl
  obtain ⟨Lw, hLw⟩ : ∃ x, x = WY.length := ⟨_, rfl⟩
  rw [← hLw] at htu hsz hwl
  have HTU := Lib.hid htu
  clear htu hWY hLw
  by_cases h2 : L < szG m n true
  · have eE : gE m n L = 2 := by rw [gE, if_neg h0, if_pos h2]
    rw [eE]
    cases hw : whole m n
    all_goals
      rw [hw] at HTU hsz
      have hlw : L < Lw + 1 := by simp at hsz; omega
      have z2 : (L : Int) < (Lw : Int) ∨ (L : Int) < (Lw : Int) + 1 := by omega
      have z3 : (L : Int) < (Lw : Int) + 1 := by omega
      try (have z4 : (L : Int) < (Lw : Int) := by simp at hsz; omega)
      have zw : IntKind.i64.wrap ((Lw : Int) + 1) = (Lw : Int) + 1 := IntWalk.i64_in _ (by omega)
      clear z2 hlw hsz
      go_enter Tryd.func31, Tryd.ntmps31
      go_upto_region 1 with fail
      rw [show ((w.alloc (.cells (bv old).toArray 35)).alloc (.cells (bv (zs 32)).toArray 35)).alloc (.cells (bv (zs 32)).toArray 35) = w0 from HW0.out.symm]
      go_wp2_with fail
      refine (HTU.out _ H0.out.2.2).mono ?_
      rintro e w1 ⟨va, vc, rfl, ho1, hb1⟩
      have H1 := Lib.hid (And.intro ((hb1.block _ (Array.getElem?_eq_some_iff.1 H0.out.1).1).trans H0.out.1) (And.intro ((hb1.block _ (Array.getElem?_eq_some_iff.1 H0.out.2.1).1).trans H0.out.2.1) (H0.out.2.2.trans (hb1.mono H0.out.2.2.size))))
      clear ho1 hb1
      go_wp2_with (first
        | (with_reducible show wpList _ _ _ (⟨none, Op.store _ _ _, _, _, _, _⟩ :: _) _ _; refine wpList_store_whole rfl _ _ _ rfl (w.heap.size + 1) (bv (zs 32)) rfl rfl (bv (zs 32)) _ H1.out.1 (hInfo' _ HZ.out) rfl (bv_one _) ?_; intro w8 HG8 hg8)
        | (with_reducible show wpList _ _ _ (⟨none, Op.store _ _ _, _, _, _, _⟩ :: _) _ _; refine wpList_store_whole rfl _ _ _ rfl (w.heap.size + 1 + 1) (bv (zs 32)) rfl rfl (bv (zs 32)) _ ((hg8.block (w.heap.size + 1 + 1) (Array.getElem?_eq_some_iff.1 H1.out.2.1).1 (by simp)).trans H1.out.2.1) (hInfo' _ HZ.out) rfl (bv_one _) ?_; intro w9 HG9 hg9))
      have hr1 := (hg9.block (w.heap.size + 1) (Array.getElem?_eq_some_iff.1 HG8.out).1 (by simp)).trans HG8.out
      have hld1 := run_loadVar_row (P := Tryd.prog) w9 (w.heap.size + 1) _ 35 _ (0, 0) _ hr1 Tryd.underlying35 rfl (hInfo _ HZ.out)
      have hld2 := run_loadVar_row (P := Tryd.prog) w9 (w.heap.size + 1 + 1) _ 35 _ (0, 0) _ HG9.out Tryd.underlying35 rfl (hInfo _ HZ.out)
      refine bodyPost_ret (v := .tuple #[.agg (bv (zs 32)).toArray, .agg (bv (zs 32)).toArray, .int .i64 2]) ?_ ?_ ?_
      · simp [results, Tryd.results31, asAddr, hld1, hld2]
      · rfl
      · have k1 := below_grow H1.out.2.2 hg8 (by omega) (Array.getElem?_eq_some_iff.1 H1.out.1).1
        exact ⟨rfl, below_grow k1 hg9 (by omega) (Nat.lt_of_lt_of_le (Array.getElem?_eq_some_iff.1 H1.out.2.1).1 hg8.size)⟩
  by_cases h4 : szG m n true < L
  · have eE : gE m n L = 4 := by rw [gE, if_neg h0, if_neg h2, if_pos h4]
    rw [eE]
    cases hw : whole m n
    all_goals
      rw [hw] at HTU hsz
      have z3 : ¬ (L : Int) < (Lw : Int) := by simp at hsz; omega
      try (have z5 : ¬ (L : Int) < (Lw : Int) + 1 := by simp at hsz; omega)
      have z6 : (Lw : Int) < (L : Int) := by simp at hsz; omega
      try (have z7 : (Lw : Int) + 1 < (L : Int) := by simp at hsz; omega)
      have zw : IntKind.i64.wrap ((Lw : Int) + 1) = (Lw : Int) + 1 := IntWalk.i64_in _ (by omega)
      clear hsz
      go_enter Tryd.func31, Tryd.ntmps31
      go_upto_region 1 with fail
      rw [show ((w.alloc (.cells (bv old).toArray 35)).alloc (.cells (bv (zs 32)).toArray 35)).alloc (.cells (bv (zs 32)).toArray 35) = w0 from HW0.out.symm]
      go_wp2_with fail
      refine (HTU.out _ H0.out.2.2).mono ?_
      rintro e w1 ⟨va, vc, rfl, ho1, hb1⟩
      have H1 := Lib.hid (And.intro ((hb1.block _ (Array.getElem?_eq_some_iff.1 H0.out.1).1).trans H0.out.1) (And.intro ((hb1.block _ (Array.getElem?_eq_some_iff.1 H0.out.2.1).1).trans H0.out.2.1) (H0.out.2.2.trans (hb1.mono H0.out.2.2.size))))
      clear ho1 hb1
      go_wp2_with (first
        | (with_reducible show wpList _ _ _ (⟨none, Op.store _ _ _, _, _, _, _⟩ :: _) _ _; refine wpList_store_whole rfl _ _ _ rfl (w.heap.size + 1) (bv (zs 32)) rfl rfl (bv (zs 32)) _ H1.out.1 (hInfo' _ HZ.out) rfl (bv_one _) ?_; intro w8 HG8 hg8)
        | (with_reducible show wpList _ _ _ (⟨none, Op.store _ _ _, _, _, _, _⟩ :: _) _ _; refine wpList_store_whole rfl _ _ _ rfl (w.heap.size + 1 + 1) (bv (zs 32)) rfl rfl (bv (zs 32)) _ ((hg8.block (w.heap.size + 1 + 1) (Array.getElem?_eq_some_iff.1 H1.out.2.1).1 (by simp)).trans H1.out.2.1) (hInfo' _ HZ.out) rfl (bv_one _) ?_; intro w9 HG9 hg9))
      have hr1 := (hg9.block (w.heap.size + 1) (Array.getElem?_eq_some_iff.1 HG8.out).1 (by simp)).trans HG8.out
      have hld1 := run_loadVar_row (P := Tryd.prog) w9 (w.heap.size + 1) _ 35 _ (0, 0) _ hr1 Tryd.underlying35 rfl (hInfo _ HZ.out)
      have hld2 := run_loadVar_row (P := Tryd.prog) w9 (w.heap.size + 1 + 1) _ 35 _ (0, 0) _ HG9.out Tryd.underlying35 rfl (hInfo _ HZ.out)
      refine bodyPost_ret (v := .tuple #[.agg (bv (zs 32)).toArray, .agg (bv (zs 32)).toArray, .int .i64 4]) ?_ ?_ ?_
      · simp [results, Tryd.results31, asAddr, hld1, hld2]
      · rfl
      · have k1 := below_grow H1.out.2.2 hg8 (by omega) (Array.getElem?_eq_some_iff.1 H1.out.1).1
        exact ⟨rfl, below_grow k1 hg9 (by omega) (Nat.lt_of_lt_of_le (Array.getElem?_eq_some_iff.1 H1.out.2.1).1 hg8.size)⟩
  · exact absurd (show gE m n L = 0 by rw [gE, if_neg h0, if_neg h2, if_neg h4]) hE
end Go.Proofs.YtfibhmgjkooemaaDoor
