/- The law RowsOrder: its walk. -/
import Derived.Test.YteflpphpbecciaaMergeM
namespace Go.Proofs.Yteflpphpbecciaa
open Go.RowKit

theorem Rd.new (w : World) (e : TypeId) (size n : Nat) (xs : List Value) (hx : xs.length = n * size) (hm : n ≤ 140737488355328) (h1 : ∀ u ∈ xs, u.oneCell' = true) : Rd (w.alloc (.cells xs.toArray e)) size (.slice (some ⟨w.heap.size, 0, none⟩) n n) n xs :=
  own_rd (own_new w e size n 0 xs hx hm (by omega)) h1
def e0 (t : Nat) : EE := ⟨t, 0, 0, 0, .slice none 0 0, .slice none 0 0⟩
theorem e0_one (l : List Nat) : ∀ u ∈ ecells (l.map e0), u.oneCell' = true := by
  intro u hu
  obtain ⟨e, he, hu⟩ := List.mem_flatMap.1 hu
  obtain ⟨t, _, rfl⟩ := List.mem_map.1 he
  simp only [EE.cells, e0, List.mem_cons, List.not_mem_nil, or_false] at hu
  rcases hu with rfl | rfl | rfl | rfl | rfl | rfl <;> rfl

set_option maxHeartbeats 2000000 in
theorem awake21_any (w : World) : Calls Try.prog 7 #[] w fun e w' => e = .returned (.bool true) ∧ Below w.heap.size w w' := by
  go_enter Try.func7, Try.ntmps7
  go_wp2_with fail
  have hm : mergeP 0 0 ([1, 1, 2].map e0) 1 1 ([3].map e0) = ⟨0, 0, [e0 1, e0 3], 2, 2, true⟩ := by kernel_rfl
  have r1 := Rd.new w 31 6 3 (ecells ([1, 1, 2].map e0)) rfl (by omega) (e0_one _)
  have HR1 := Lib.hid r1
  clear r1
  refine (Merge_any 0 0 (.slice (some ⟨w.heap.size, 0, none⟩) 3 3) ([1, 1, 2].map e0) 1 1 (.slice (some ⟨w.heap.size + 1 + 1, 0, none⟩) 1 1) ([3].map e0) _ (by omega) (by omega) ((HR1.out.alloc _).alloc _) (by
    have := Rd.new ((w.alloc (.cells (ecells ([1, 1, 2].map e0)).toArray 31)).alloc (.cells #[.int .u64 0, .int .u64 0, .slice (some ⟨w.heap.size, 0, none⟩) 3 3] 25)) 31 6 1 (ecells ([3].map e0)) rfl (by omega) (e0_one _)
    simp only [World.size_alloc] at this
    exact this) (by decide)).mono ?_
  rw [hm]
  rintro e w1 ⟨v1, rfl, hr1, hb1⟩
  have hbl : Below w.heap.size w w1 := ((((Below.refl _ _).alloc (Nat.le_refl _) _).alloc (by simp) _).alloc (by simp; omega) _).trans (hb1.mono (by simp; omega))
  have hz := hb1.size
  have d0 : w1.cell? ⟨w.heap.size + 1, 0, none⟩ = some (.int .u64 0) := by rw [hb1.cell (by simp)]; simp [go_sem]
  have d1 : w1.cell? ⟨w.heap.size + 1, 1, none⟩ = some (.int .u64 0) := by rw [hb1.cell (by simp)]; simp [go_sem]
  have d2 : w1.cell? ⟨w.heap.size + 1, 2, none⟩ = some (.slice (some ⟨w.heap.size, 0, none⟩) 3 3) := by rw [hb1.cell (by simp)]; simp [go_sem]
  have hr0 := ((HR1.out.alloc (.cells #[.int .u64 0, .int .u64 0, .slice (some ⟨w.heap.size, 0, none⟩) 3 3] 25)).alloc (.cells (ecells ([3].map e0)).toArray 31)).keep hb1
  have HR0 := Lib.hid hr0
  have hz1 : w.heap.size + 1 < w1.heap.size := by simp at hz; omega
  have hne : ¬ w1.heap.size = w.heap.size + 1 := by omega
  obtain ⟨a1, c1, rfl⟩ := hr1.form
  have hlen : [e0 1, e0 3].length = 2 := rfl
  rw [hlen]
  clear hm hb1 hr0 hr1 hz hlen HR1
  have hn : newerP 0 0 ([1, 1, 2].map e0) 3 2 = true := by kernel_rfl
  have HN := Lib.hid hn
  clear hn
  go_wp2_with fail
  refine (Last_any 0 0 3 3 (some ⟨w.heap.size, 0, none⟩) _ (by omega) (by omega)).mono ?_
  rintro e w2 ⟨rfl, hb2⟩
  have hbB : Below w1.heap.size w1 w2 := ((Below.refl _ _).alloc (Nat.le_refl _) _).trans (hb2.mono (by simp))
  have k0 := (hbB.cell (p := ⟨w.heap.size + 1, 0, none⟩) hz1).trans d0
  have k1 := (hbB.cell (p := ⟨w.heap.size + 1, 1, none⟩) hz1).trans d1
  have k2 := (hbB.cell (p := ⟨w.heap.size + 1, 2, none⟩) hz1).trans d2
  have HR2 := Lib.hid ((HR0.out.alloc (.cells #[.int .u64 0, .int .u64 0, .slice a1 2 c1] 25)).keep hb2)
  have hbl2 : Below w.heap.size w w2 := (hbl.alloc hbl.size _).trans (hb2.mono (by have := hbl.size; simp; omega))
  clear hb2 d0 d1 d2 HR0 hbl hbB
  go_wp2_with fail
  refine (Newer_any 0 0 (.slice (some ⟨w.heap.size, 0, none⟩) 3 3) ([1, 1, 2].map e0) 3 2 _ (by omega) (by simp) HR2.out).mono ?_
  rw [HN.out]
  rintro e w3 ⟨rfl, hb3⟩
  go_wp2_with fail
  go_ret
  exact ⟨rfl, hbl2.trans (hb3.mono hbl2.size)⟩

set_option maxHeartbeats 4000000 in
theorem rowsOrder_walk (b1 t1 : Nat) (v1 : Value) (e1 : List EE) (b2 t2 : Nat) (v2 : Value) (e2 : List EE) (b3 t3 : Nat) (v3 : Value) (e3 : List EE) (w : World)
    (l1 : e1.length ≤ 140737488355328) (r1 : Rd w 6 v1 e1.length (ecells e1)) (l2 : e2.length ≤ 140737488355328) (r2 : Rd w 6 v2 e2.length (ecells e2)) (l3 : e3.length ≤ 140737488355328) (r3 : Rd w 6 v3 e3.length (ecells e3)) :
    Calls Try.prog 5 #[.agg #[.int .u64 b1, .int .u64 t1, v1], .agg #[.int .u64 b2, .int .u64 t2, v2], .agg #[.int .u64 b3, .int .u64 t3, v3]] w fun e w' => e = .returned (.bool true) ∧ Below w.heap.size w w' := by
  obtain ⟨a1, c1, rfl⟩ := r1.form
  obtain ⟨a2, c2, rfl⟩ := r2.form
  obtain ⟨a3, c3, rfl⟩ := r3.form
  have hb0 : Below w.heap.size w (((w.alloc (.cells #[.int .u64 b1, .int .u64 t1, .slice a1 e1.length c1] 25)).alloc (.cells #[.int .u64 b2, .int .u64 t2, .slice a2 e2.length c2] 25)).alloc (.cells #[.int .u64 b3, .int .u64 t3, .slice a3 e3.length c3] 25)) :=
    (((Below.refl _ _).alloc (Nat.le_refl _) _).alloc (by simp) _).alloc (by simp; omega) _
  go_enter Try.func5, Try.ntmps5
  go_wp2_with fail
  refine (awake21_any _).mono ?_
  rintro e w1 ⟨rfl, hb1⟩
  have hbl := hb0.trans (hb1.mono (by simp; omega))
  have hz := hb1.size
  simp at hz
  have p0 : w1.cell? ⟨w.heap.size, 0, none⟩ = some (.int .u64 b1) := by rw [hb1.cell (by simp; omega)]; simp [go_sem]
  have p1 : w1.cell? ⟨w.heap.size, 1, none⟩ = some (.int .u64 t1) := by rw [hb1.cell (by simp; omega)]; simp [go_sem]
  have p2 : w1.cell? ⟨w.heap.size, 2, none⟩ = some (.slice a1 e1.length c1) := by rw [hb1.cell (by simp; omega)]; simp [go_sem]
  have q0 : w1.cell? ⟨w.heap.size + 1, 0, none⟩ = some (.int .u64 b2) := by rw [hb1.cell (by simp)]; simp [go_sem]
  have q1 : w1.cell? ⟨w.heap.size + 1, 1, none⟩ = some (.int .u64 t2) := by rw [hb1.cell (by simp)]; simp [go_sem]
  have q2 : w1.cell? ⟨w.heap.size + 1, 2, none⟩ = some (.slice a2 e2.length c2) := by rw [hb1.cell (by simp)]; simp [go_sem]
  have s0 : w1.cell? ⟨w.heap.size + 1 + 1, 0, none⟩ = some (.int .u64 b3) := by rw [hb1.cell (by simp)]; simp [go_sem]
  have s1 : w1.cell? ⟨w.heap.size + 1 + 1, 1, none⟩ = some (.int .u64 t3) := by rw [hb1.cell (by simp)]; simp [go_sem]
  have s2 : w1.cell? ⟨w.heap.size + 1 + 1, 2, none⟩ = some (.slice a3 e3.length c3) := by rw [hb1.cell (by simp)]; simp [go_sem]
  clear hb1 hb0
  by_cases h1 : b1 ≤ 4611686018427387904 ∧ b2 ≤ 4611686018427387904 ∧ b3 ≤ 4611686018427387904
  · obtain ⟨g1, g2, g3⟩ := h1
    have x1 : decide ((4611686018427387904 : Int) < (b1 : Int)) = false := by simp; omega
    have x2 : decide ((4611686018427387904 : Int) < (b2 : Int)) = false := by simp; omega
    have x3 : decide ((4611686018427387904 : Int) < (b3 : Int)) = false := by simp; omega
    have n12 : ∀ wx, Below w.heap.size w wx → Calls Try.prog 16 #[.agg #[.int .u64 b1, .int .u64 t1, .slice a1 e1.length c1], .agg #[.int .u64 b2, .int .u64 t2, .slice a2 e2.length c2]] wx fun e w' => e = .returned (.bool (newerP b2 t2 e2 (b1 + e1.length) (lastT t1 e1))) ∧ Below wx.heap.size wx w' := fun wx h => newer_any b1 t1 _ e1 b2 t2 _ e2 wx g1 l1 (r1.keep h) g2 l2 (r2.keep h)
    have n21 : ∀ wx, Below w.heap.size w wx → Calls Try.prog 16 #[.agg #[.int .u64 b2, .int .u64 t2, .slice a2 e2.length c2], .agg #[.int .u64 b1, .int .u64 t1, .slice a1 e1.length c1]] wx fun e w' => e = .returned (.bool (newerP b1 t1 e1 (b2 + e2.length) (lastT t2 e2))) ∧ Below wx.heap.size wx w' := fun wx h => newer_any b2 t2 _ e2 b1 t1 _ e1 wx g2 l2 (r2.keep h) g1 l1 (r1.keep h)
    have n23 : ∀ wx, Below w.heap.size w wx → Calls Try.prog 16 #[.agg #[.int .u64 b2, .int .u64 t2, .slice a2 e2.length c2], .agg #[.int .u64 b3, .int .u64 t3, .slice a3 e3.length c3]] wx fun e w' => e = .returned (.bool (newerP b3 t3 e3 (b2 + e2.length) (lastT t2 e2))) ∧ Below wx.heap.size wx w' := fun wx h => newer_any b2 t2 _ e2 b3 t3 _ e3 wx g2 l2 (r2.keep h) g3 l3 (r3.keep h)
    have n13 : ∀ wx, Below w.heap.size w wx → Calls Try.prog 16 #[.agg #[.int .u64 b1, .int .u64 t1, .slice a1 e1.length c1], .agg #[.int .u64 b3, .int .u64 t3, .slice a3 e3.length c3]] wx fun e w' => e = .returned (.bool (newerP b3 t3 e3 (b1 + e1.length) (lastT t1 e1))) ∧ Below wx.heap.size wx w' := fun wx h => newer_any b1 t1 _ e1 b3 t3 _ e3 wx g1 l1 (r1.keep h) g3 l3 (r3.keep h)
    have n11 : ∀ wx, Below w.heap.size w wx → Calls Try.prog 16 #[.agg #[.int .u64 b1, .int .u64 t1, .slice a1 e1.length c1], .agg #[.int .u64 b1, .int .u64 t1, .slice a1 e1.length c1]] wx fun e w' => e = .returned (.bool true) ∧ Below wx.heap.size wx w' := fun wx h => by
      have := newer_any b1 t1 _ e1 b1 t1 _ e1 wx g1 l1 (r1.keep h) g1 l1 (r1.keep h)
      rw [newer_refl] at this
      exact this
    have tot := newer_total b1 t1 e1 b2 t2 e2
    have tr := newer_trans b1 t1 e1 b2 t2 e2 b3 t3 e3
    generalize newerP b2 t2 e2 (b1 + e1.length) (lastT t1 e1) = ab at *
    generalize newerP b1 t1 e1 (b2 + e2.length) (lastT t2 e2) = ba at *
    generalize newerP b3 t3 e3 (b2 + e2.length) (lastT t2 e2) = bc at *
    generalize newerP b3 t3 e3 (b1 + e1.length) (lastT t1 e1) = ac at *
    have N12 := Lib.hid n12
    have N21 := Lib.hid n21
    have N23 := Lib.hid n23
    have N13 := Lib.hid n13
    have N11 := Lib.hid n11
    have hW : w.heap.size + 1 + 1 < w1.heap.size := by omega
    clear n12 n21 n23 n13 n11 r1 r2 r3 g1 g2 g3 hz
    have HB := Lib.hid hbl
    clear hbl
    have key : ∀ wx, Below w1.heap.size w1 wx → (wx.cell? ⟨w.heap.size, 0, none⟩ = some (.int .u64 b1) ∧ wx.cell? ⟨w.heap.size, 1, none⟩ = some (.int .u64 t1) ∧ wx.cell? ⟨w.heap.size, 2, none⟩ = some (.slice a1 e1.length c1) ∧
        wx.cell? ⟨w.heap.size + 1, 0, none⟩ = some (.int .u64 b2) ∧ wx.cell? ⟨w.heap.size + 1, 1, none⟩ = some (.int .u64 t2) ∧ wx.cell? ⟨w.heap.size + 1, 2, none⟩ = some (.slice a2 e2.length c2) ∧
        wx.cell? ⟨w.heap.size + 1 + 1, 0, none⟩ = some (.int .u64 b3) ∧ wx.cell? ⟨w.heap.size + 1 + 1, 1, none⟩ = some (.int .u64 t3) ∧ wx.cell? ⟨w.heap.size + 1 + 1, 2, none⟩ = some (.slice a3 e3.length c3)) := fun wx h =>
      ⟨(h.cell (p := ⟨w.heap.size, 0, none⟩) (by show w.heap.size < _; omega)).trans p0, (h.cell (p := ⟨w.heap.size, 1, none⟩) (by show w.heap.size < _; omega)).trans p1, (h.cell (p := ⟨w.heap.size, 2, none⟩) (by show w.heap.size < _; omega)).trans p2,
        (h.cell (p := ⟨w.heap.size + 1, 0, none⟩) (by show w.heap.size + 1 < _; omega)).trans q0, (h.cell (p := ⟨w.heap.size + 1, 1, none⟩) (by show w.heap.size + 1 < _; omega)).trans q1, (h.cell (p := ⟨w.heap.size + 1, 2, none⟩) (by show w.heap.size + 1 < _; omega)).trans q2,
        (h.cell (p := ⟨w.heap.size + 1 + 1, 0, none⟩) (by show w.heap.size + 1 + 1 < _; omega)).trans s0, (h.cell (p := ⟨w.heap.size + 1 + 1, 1, none⟩) (by show w.heap.size + 1 + 1 < _; omega)).trans s1, (h.cell (p := ⟨w.heap.size + 1 + 1, 2, none⟩) (by show w.heap.size + 1 + 1 < _; omega)).trans s2⟩
    have KEY := Lib.hid key
    clear key hW
    go_wp2_with fail
    refine (N12.out _ HB.out).mono ?_
    rintro e w2 ⟨rfl, hc2⟩
    obtain ⟨p0', p1', p2', q0', q1', q2', s0', s1', s2'⟩ := KEY.out w2 hc2
    have HB2 := Lib.hid (HB.out.trans (hc2.mono HB.out.size))
    have HC2 := Lib.hid hc2
    clear p0 p1 p2 q0 q1 q2 s0 s1 s2 hc2
    go_wp2_with fail
    refine (N21.out _ HB2.out).mono ?_
    rintro e w3 ⟨rfl, hc3⟩
    have hc3' := HC2.out.trans (hc3.mono HC2.out.size)
    obtain ⟨p0, p1, p2, q0, q1, q2, s0, s1, s2⟩ := KEY.out w3 hc3'
    have HB3 := Lib.hid (HB2.out.trans (hc3.mono HB2.out.size))
    have HC3 := Lib.hid hc3'
    clear p0' p1' p2' q0' q1' q2' s0' s1' s2' hc3 hc3'
    cases ab with
    | false =>
      simp only [Bool.false_or] at tot
      subst tot
      clear tr
      go_wp2_with fail
      refine (N11.out _ HB3.out).mono ?_
      rintro e w4 ⟨rfl, hc4⟩
      go_wp2_with fail
      go_ret
      exact ⟨rfl, HB3.out.trans (hc4.mono HB3.out.size)⟩
    | true =>
      clear tot
      cases bc with
      | false =>
        clear tr
        go_wp2_with fail
        refine (N23.out _ HB3.out).mono ?_
        rintro e w4 ⟨rfl, hc4⟩
        have hc4' := HC3.out.trans (hc4.mono HC3.out.size)
        obtain ⟨p0', p1', p2', q0', q1', q2', s0', s1', s2'⟩ := KEY.out w4 hc4'
        have HB4 := Lib.hid (HB3.out.trans (hc4.mono HB3.out.size))
        clear p0 p1 p2 q0 q1 q2 s0 s1 s2 hc4 hc4'
        go_wp2_with fail
        refine (N11.out _ HB4.out).mono ?_
        rintro e w5 ⟨rfl, hc5⟩
        go_wp2_with fail
        go_ret
        exact ⟨rfl, HB4.out.trans (hc5.mono HB4.out.size)⟩
      | true =>
        obtain rfl : ac = true := tr rfl rfl
        clear tr
        go_wp2_with fail
        refine (N23.out _ HB3.out).mono ?_
        rintro e w4 ⟨rfl, hc4⟩
        have hc4' := HC3.out.trans (hc4.mono HC3.out.size)
        obtain ⟨p0', p1', p2', q0', q1', q2', s0', s1', s2'⟩ := KEY.out w4 hc4'
        have HB4 := Lib.hid (HB3.out.trans (hc4.mono HB3.out.size))
        have HC4 := Lib.hid hc4'
        clear p0 p1 p2 q0 q1 q2 s0 s1 s2 hc4 hc4'
        go_wp2_with fail
        refine (N13.out _ HB4.out).mono ?_
        rintro e w5 ⟨rfl, hc5⟩
        have hc5' := HC4.out.trans (hc5.mono HC4.out.size)
        obtain ⟨p0, p1, p2, q0, q1, q2, s0, s1, s2⟩ := KEY.out w5 hc5'
        have HB5 := Lib.hid (HB4.out.trans (hc5.mono HB4.out.size))
        clear p0' p1' p2' q0' q1' q2' s0' s1' s2' hc5 hc5'
        go_wp2_with fail
        refine (N11.out _ HB5.out).mono ?_
        rintro e w6 ⟨rfl, hc6⟩
        go_wp2_with fail
        go_ret
        exact ⟨rfl, HB5.out.trans (hc6.mono HB5.out.size)⟩
  · have hx : (decide ((4611686018427387904 : Int) < (b1 : Int)) = true) ∨ (decide ((4611686018427387904 : Int) < (b1 : Int)) = false ∧ decide ((4611686018427387904 : Int) < (b2 : Int)) = true) ∨
        (decide ((4611686018427387904 : Int) < (b1 : Int)) = false ∧ decide ((4611686018427387904 : Int) < (b2 : Int)) = false ∧ decide ((4611686018427387904 : Int) < (b3 : Int)) = true) := by
      simp only [decide_eq_true_eq, decide_eq_false_iff_not]; omega
    clear h1 r1 r2 r3 l1 l2 l3
    rcases hx with x1 | ⟨x1, x2⟩ | ⟨x1, x2, x3⟩
    all_goals
      go_wp2_with fail
      go_ret
      exact ⟨rfl, hbl⟩
end Go.Proofs.Yteflpphpbecciaa
