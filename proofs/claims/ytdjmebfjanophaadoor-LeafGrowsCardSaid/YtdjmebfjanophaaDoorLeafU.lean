/- leaf.Push. (printed by gen/leafp.py) -/
import Derived.Test.YtdjmebfjanophaaDoorLeafQ
import Derived.Test.YtdjmebfjanophaaDoorSlHash
namespace Go.Proofs.YtdjmebfjanophaaDoor
open Go.RowKit Sha Root Ones

theorem gives_build1 {P : Program} {r : Nat → Value} {o : Oper} {w : World} {R : Value → World → Prop} (t e : TypeId) (x : Operand) (ho : o.op = .buildSlice t 1 #[(0, x)])
    (cs : List Value) (hx : rd r x = .agg cs.toArray) (hu : P.underlying t = some (.slice e)) {z : Value} {size bytes : Nat} (hinfo : (P.info? e).map (fun i => (i.zero, i.size, i.bytes)) = some (some z, size, bytes)) (hs : cs.length = size) (h0 : 0 < size) (h24 : size ≤ 16777216)
    (h : R (.slice (some ⟨w.heap.size, 0, none⟩) 1 1) (w.alloc (.cells cs.toArray e))) : gives P r o w R := by
  obtain ⟨i, hi, hz, hsize, _⟩ := info_parts hinfo
  have hrun := run_buildSlice (P := P) w t e 1 #[(0, .agg cs.toArray)] cs.toArray i z hu hi hz (by rw [hsize]; omega) (by rw [hsize]; omega) (fill_one cs _ (by simp [hsize, hs]) _ (by rw [hsize, hs]))
  have e1 : Array.map (fun q : Nat × Operand => match q with | (i, q) => (i, rd r q)) #[(0, x)] = #[(0, Value.agg cs.toArray)] := by simp [hx]
  unfold gives execOp
  simp only [ho, Sem.run_bind, e1, hrun, Result.andThen_ok]
  exact h

/-- What each operation hands on. -/
def pu3F (g m c B : Nat) (a : Option Addr) (fl : List Value) (hx : List UInt8) : Nat → Value → World → Prop
  | 0, v, _ => v = .pointer (some ⟨g, 1, none⟩)
  | 1, v, _ => v = .slice a m c
  | 2, v, w => w.ownsRow B 33 32 v m fl
  | 3, v, _ => v = .agg (bv hx).toArray
  | 4, v, w => Rd w 32 v 1 (bv hx)
  | 5, v, w => w.ownsRow B 33 32 v (m + 1) (fl ++ bv hx)
  | 6, v, w => w.ownsRow B 33 32 v (m + 1) (fl ++ bv hx)
  | _, _, _ => True

/-- How an operation of the last region may change the world. -/
def pk4 (B g2 : Nat) (j : Nat) (w w' : World) : Prop :=
  if j = 9 then Below B w w' else if j = 11 then w.grownBy w' (some g2) ∧ ((∃ x y, w.heap[g2]? = some (.cells #[x, y] 31 (0, 0))) → ∃ x y, w'.heap[g2]? = some (.cells #[x, y] 31 (0, 0))) else Below w.heap.size w w'
theorem pk4_refl (B g2 j : Nat) (w : World) : pk4 B g2 j w w := by
  unfold pk4
  split
  · exact Below.refl _ _
  · split
    · exact ⟨World.grownBy.refl _ _, id⟩
    · exact Below.refl _ _
theorem pk4_of {B g2 j : Nat} {w w' : World} (h9 : j ≠ 9) (h11 : j ≠ 11) (h : Below w.heap.size w w') : pk4 B g2 j w w' := by
  unfold pk4; rwa [if_neg h9, if_neg h11]
theorem pk4_nine {B g2 : Nat} {w w' : World} (h : Below B w w') : pk4 B g2 9 w w' := by
  unfold pk4; rwa [if_pos rfl]
theorem pk4_elev {B g2 : Nat} {w w' : World} (h : w.grownBy w' (some g2)) (h2 : ∃ x y, w'.heap[g2]? = some (.cells #[x, y] 31 (0, 0))) : pk4 B g2 11 w w' := by
  unfold pk4; rw [if_neg (by decide), if_pos rfl]; exact ⟨h, fun _ => h2⟩
theorem own_pk4 {B g2 j n : Nat} {e : TypeId} {size : Nat} {v : Value} {xs : List Value} {w w' : World} (hgB : g2 < B) (hj : j ≠ 9) (k : pk4 B g2 j w w') (h : w.ownsRow B e size v n xs) : w'.ownsRow B e size v n xs := by
  unfold pk4 at k
  rw [if_neg hj] at k
  split at k
  · exact h.kept k.1 (.inr fun e => by have := own_block h _ e; omega)
  · exact own_keep h k
theorem row_pk4 {B g2 j : Nat} {o : Obj} {w w' : World} (hgB : g2 < B) (hj : j ≠ 9) (hj2 : j ≠ 11) (k : pk4 B g2 j w w') (h : w.heap[g2]? = some o) : w'.heap[g2]? = some o := by
  unfold pk4 at k
  rw [if_neg hj, if_neg hj2] at k
  exact (k.block _ (Array.getElem?_eq_some_iff.1 h).1).trans h
theorem pk4_G {B g2 j : Nat} {w0 w w' : World} (hgB : g2 < B) (hB : B ≤ w0.heap.size) (h : Below g2 w0 w ∧ (∃ x y, w.heap[g2]? = some (.cells #[x, y] 31 (0, 0))) ∧ w0.heap.size ≤ w.heap.size) (k : pk4 B g2 j w w') :
    Below g2 w0 w' ∧ (∃ x y, w'.heap[g2]? = some (.cells #[x, y] 31 (0, 0))) ∧ w0.heap.size ≤ w'.heap.size := by
  obtain ⟨h1, h2, h3⟩ := h
  unfold pk4 at k
  split at k
  · obtain ⟨x, y, h2⟩ := h2
    exact ⟨h1.trans (k.mono (by omega)), ⟨x, y, (k.block _ hgB).trans h2⟩, Nat.le_trans h3 k.size⟩
  · split at k
    · exact ⟨h1.trans ⟨k.1.os, k.1.tape, k.1.output, k.1.size, fun i hi => k.1.block i (by omega) (fun e => by simp at e; omega)⟩, k.2 h2, Nat.le_trans h3 k.1.size⟩
    · obtain ⟨x, y, h2⟩ := h2
      exact ⟨h1.trans (k.mono (by omega)), ⟨x, y, (k.block _ (by omega)).trans h2⟩, Nat.le_trans h3 k.size⟩
theorem tz1_le_pop : ∀ (f n : Nat), n < 2 ^ f → tz1 n ≤ pop f n
  | 0, n, h => by
    obtain rfl : n = 0 := by omega
    exact Nat.le_refl _
  | f + 1, n, h => by
    have := tz1_le_pop f (n / 2) (by rw [Nat.pow_succ] at h; omega)
    rw [pop]
    by_cases h1 : n % 2 = 1
    · rw [tz1_odd n h1]; omega
    · rw [tz1_even n (by omega)]; omega
theorem infoR3 {x y : Value} : (Tryd.prog.info? 31).map (·.size) = some (#[x, y] : Array Value).size := by kernel_rfl
theorem infoR2 {x y : Value} : (Tryd.prog.info? 31).map (·.size) = some [x, y].length := by kernel_rfl
/-- What each operation hands on. -/
def pu4F (n : Int) (g sz B N : Nat) (v8 : Value) (F : List Value) : Nat → Value → World → Prop
  | 0, v, _ => v = .pointer (some ⟨g, 0, none⟩)
  | 1, v, _ => v = .int .u64 sz
  | 2, v, _ => v = .int .u64 ((sz + 1 : Nat) : Int)
  | 3, v, _ => v = .int .i64 n
  | 4, v, _ => v = v8
  | 5, v, _ => v = .pointer (some ⟨g, 0, none⟩)
  | 6, v, _ => v = .int .u64 sz
  | 7, v, _ => v = .int .u64 ((18446744073709551615 - sz : Nat) : Int)
  | 8, v, _ => v = .int .i64 ((tz1 sz : Nat) : Int)
  | 9, v, w => (∃ a n c, v = .slice a n c) ∧ w.ownsRow B 33 32 v N F
  | 10, v, w => ∃ vv, v = .agg #[.int .u64 ((sz + 1 : Nat) : Int), vv] ∧ (∃ a n c, vv = .slice a n c) ∧ w.ownsRow B 33 32 vv N F
  | 11, _, w => ∃ vv, w.ownsRow B 33 32 vv N F ∧ (∃ a n c, vv = .slice a n c) ∧ w.heap[g + 1 + 1]? = some (.cells #[.int .u64 ((sz + 1 : Nat) : Int), vv] 31 (0, 0))
  | 12, v, _ => v = .int .i64 0
  | _, _, _ => True

set_option maxHeartbeats 8000000 in
set_option maxRecDepth 100000 in
theorem Push_ok (n : Int) (sz : Nat) (a : Option Addr) (c : Nat) (ps : List (List UInt8)) (hx : List UInt8) (w : World) (hn : -9223372036854775808 ≤ n ∧ n ≤ 9223372036854775807) (hs : sz < 9223372036854775808) (h32 : ∀ p ∈ ps, p.length = 32) (hl : (ps.length + 1) * 32 ≤ 140737488355328) (hx32 : hx.length = 32)
    (hr : Rd w 32 (.slice a ps.length c) ps.length (ps.flatMap bv)) (hT : Tabs w) (hD : TabD w) (hright : ps.length = pop 64 sz) :
    Calls Tryd.prog 20 #[.int .i64 n, .agg #[.int .u64 sz, .slice a ps.length c], .agg (bv hx).toArray] w fun e w' =>
      ∃ v', e = .returned (.tuple #[.agg #[.int .u64 ((sz + 1 : Nat) : Int), v'], .int .i64 0]) ∧ w'.ownsRow w.heap.size 33 32 v' (foldT (nodeH n) (tz1 sz) (ps ++ [hx])).length ((foldT (nodeH n) (tz1 sz) (ps ++ [hx])).flatMap bv) ∧ Below w.heap.size w w' := by
  have hz := (zero_of_info info32).1
  have hri := fun wx => Right_any sz a ps.length c wx (by omega) (by omega)
  rw [decide_eq_true hright] at hri
  obtain ⟨fl, hfl⟩ : ∃ l, l = ps.flatMap bv := ⟨_, rfl⟩
  rw [← hfl] at hr
  have hcl := fun wx (h : Below w.heap.size w wx) => CloneHash_any _ ps.length fl wx (hr.keep h) (by omega)
  obtain ⟨g, hg⟩ : ∃ g, g = w.heap.size := ⟨_, rfl⟩
  obtain ⟨w0, hw0⟩ : ∃ x : World, x = ((w.alloc (.cells #[.int .u64 sz, .slice a ps.length c] 31)).alloc (.cells (bv hx).toArray 33)).alloc (.cells #[.int .u64 0, .slice none 0 0] 31) := ⟨_, rfl⟩
  have hc0 : w0.cell? ⟨g, 0, none⟩ = some (.int .u64 sz) := by rw [hw0, hg]; simp [go_sem]
  have hc1 : w0.cell? ⟨g, 1, none⟩ = some (.slice a ps.length c) := by rw [hw0, hg]; simp [go_sem]
  have hrow : w0.heap[g + 1]? = some (.cells (bv hx).toArray 33 (0, 0)) := by
    rw [hw0, hg, heap_alloc_old _ _ (by simp)]
    have := heap_alloc_new (w.alloc (.cells #[.int .u64 sz, .slice a ps.length c] 31)) (.cells (bv hx).toArray 33)
    simpa using this
  have hz0 : w0.cell? ⟨g + 1 + 1, 0, none⟩ = some (.int .u64 0) := by rw [hw0, hg]; simp [go_sem]
  have hz1 : w0.cell? ⟨g + 1 + 1, 1, none⟩ = some (.slice none 0 0) := by rw [hw0, hg]; simp [go_sem]
  have hf0 : w0.frozen? ⟨g + 1 + 1, 0, none⟩ = false := by rw [hw0, hg]; simp [go_sem]
  have hf1 : w0.frozen? ⟨g + 1 + 1, 1, none⟩ = false := by rw [hw0, hg]; simp [go_sem]
  have hb0 : Below w.heap.size w w0 := by rw [hw0]; exact (((Below.refl _ _).alloc (Nat.le_refl _) _).alloc (by simp) _).alloc (by simp; omega) _
  have hgl : g + 1 + 1 < w0.heap.size := by rw [hw0, hg]; simp
  have HC0 := Lib.hid (And.intro hc0 (And.intro hc1 hrow))
  have HZ := Lib.hid (And.intro hz0 (And.intro hz1 (And.intro hf0 hf1)))
  have HCL0 := Lib.hid hcl
  have HX := Lib.hid hx32
  have HW := Lib.hid hw0
  have HB0 := Lib.hid hb0
  have HFL := Lib.hid hfl
  have HG := Lib.hid hg
  have hzrow : w0.heap[g + 1 + 1]? = some (.cells #[.int .u64 0, .slice none 0 0] 31 (0, 0)) := by
    rw [hw0, hg]
    have := heap_alloc_new ((w.alloc (.cells #[.int .u64 sz, .slice a ps.length c] 31)).alloc (.cells (bv hx).toArray 33)) (.cells #[.int .u64 0, .slice none 0 0] 31)
    simpa using this
  have HZR := Lib.hid hzrow
  have HRT := Lib.hid (And.intro hright h32)
  have HTT := Lib.hid (And.intro hT hD)
  obtain ⟨m, hm⟩ : ∃ m, m = ps.length := ⟨_, rfl⟩
  have HM := Lib.hid hm
  have hsh : ((sz : Int) / 9223372036854775808 == 1) = false := by simp; omega
  clear hzrow hT hD hc1 hrow hz0 hz1 hf0 hf1 hcl hx32 hw0 hb0 hfl hr h32 hright
  go_enter Tryd.func20, Tryd.ntmps20
  go_upto_region 1 with fail
  rw [← hg, show ((w.alloc (.cells #[.int .u64 sz, .slice a ps.length c] 31)).alloc (.cells (bv hx).toArray 33)).alloc (.cells #[.int .u64 0, .slice none 0 0] 31) = w0 from HW.out.symm]
  clear hg
  have hc1 := HC0.out.2.1
  go_wp2_with fail
  refine (hri _).mono ?_
  rintro e w1 ⟨rfl, hb1⟩
  have hc0' := (hb1.cell (p := ⟨g, 0, none⟩) (show g < w0.heap.size by omega)).trans hc0
  obtain ⟨B, hB⟩ : ∃ B, B = w1.heap.size := ⟨_, rfl⟩
  have hBs : B ≤ w1.heap.size := by omega
  have hgB : g + 1 + 1 < B := by have := hb1.size; omega
  have hc1' := (hb1.cell (p := ⟨g, 1, none⟩) (show g < w0.heap.size by omega)).trans hc1
  have hrow' := (hb1.block _ (Array.getElem?_eq_some_iff.1 HC0.out.2.2).1).trans HC0.out.2.2
  rw [← HM.out] at hc1'
  have hbw1 := HB0.out.trans (hb1.mono HB0.out.size)
  have hgl1 : g < w1.heap.size := by omega
  have HC := Lib.hid (And.intro hc0' (And.intro hc1' hrow'))
  have HCL := Lib.hid (fun wx (h : Below B w1 wx) => show Calls Tryd.prog _ #[.slice a m c] wx (fun e w' => ∃ v', e = .returned v' ∧ w'.ownsRow wx.heap.size 33 32 v' m fl ∧ Below wx.heap.size wx w') by
    have := HCL0.out wx (hbw1.trans (h.mono (by rw [hB]; exact hbw1.size)))
    rwa [← HM.out] at this)
  have HBW := Lib.hid hbw1
  have HBE := Lib.hid hB
  have hzr1 := (hb1.block _ (Array.getElem?_eq_some_iff.1 HZR.out).1).trans HZR.out
  have HZR1 := Lib.hid hzr1
  clear hzr1
  have hm32 : (m + 1) * 32 ≤ 140737488355328 := by rw [HM.out]; exact hl
  clear hc0 hc1 hc0' hc1' hrow' hbw1 hb1 hri HCL0 HC0 hB hgl hm
  have hgl := hgl1
  clear hgl1 hl
  have hc0v := HC.out.1
  go_upto_region 3 with fail
  clear hc0v
  refine wp_region_steps [some 19, some 20, some 21, some 22, some 23, some 24, some 8] [] (pu3F g m c B a fl hx) (kSet [5] B) (fun wx => Below B w1 wx) (by kernel_rfl) (by kernel_rfl) rfl (by kernel_rfl) (Below.refl _ _).drew (fun _ _ => kSet_refl _ _ _ _) (fun _ _ _ h k => h.trans (kSet_base (Nat.le_trans hBs h.size) k)) ?hF ?hstep ?hend
  case hF =>
    exact ⟨fun _ _ _ _ _ _ h => h, ⟨fun _ _ _ _ _ _ h => h, ⟨fun j hg _ _ _ k h => own_keep h (kSet_below (fun e => by
      simp only [List.mem_cons, List.not_mem_nil, or_false] at e
      subst e
      exact absurd hg (by rw [show goneB _ 2 5 = true by kernel_rfl]; simp)) k), ⟨fun _ _ _ _ _ _ h => h, ⟨fun j hg _ _ _ k h => Rd.keep h (kSet_below (fun e => by
      simp only [List.mem_cons, List.not_mem_nil, or_false] at e
      subst e
      exact absurd hg (by rw [show goneB _ 4 5 = true by kernel_rfl]; simp)) k), ⟨fun j hg _ _ _ k h => own_keep h (kSet_below (fun e => by
      simp only [List.mem_cons, List.not_mem_nil, or_false] at e
      subst e
      exact absurd hg (by rw [show goneB _ 5 5 = true by kernel_rfl]; simp)) k), ⟨fun j hg _ _ _ k h => own_keep h (kSet_below (fun e => by
      simp only [List.mem_cons, List.not_mem_nil, or_false] at e
      subst e
      exact absurd hg (by rw [show goneB _ 6 5 = true by kernel_rfl]; simp)) k), trivial⟩⟩⟩⟩⟩⟩⟩
  case hstep =>
    -- operation 0: Op.fieldAddr 39 (tmp 4) 1
    refine ⟨fun r wx hG hs hq hf => ?_, ?_⟩
    · have e4 : r 4 = .pointer (some ⟨g, 0, none⟩) := hs 4 rfl
      refine (if_pos rfl).symm ▸ ?_
      clear hs hq hf
      unfold gives
      go_simp
      exact ⟨kSet_refl _ _ _ _, rfl⟩
    -- operation 1: Op.load 30 (tmp 19)
    refine ⟨fun r wx hG hs hq hf => ?_, ?_⟩
    · have h0 : r 19 = .pointer (some ⟨g, 1, none⟩) := hf.1
      refine (if_pos rfl).symm ▸ ?_
      clear hs hq hf
      unfold gives
      have hc1 := (hG.cell (p := ⟨g, 1, none⟩) (show g < B by omega)).trans HC.out.2.1
      go_simp
      exact ⟨kSet_refl _ _ _ _, rfl⟩
    -- operation 2: Op.call ( callee := Callee.value (func 37), args := #[tmp 20], argTypes := #[30] )
    refine ⟨fun r wx hG hs hq hf => ?_, ?_⟩
    · have h1 : r 20 = .slice a m c := hf.1
      refine (if_pos rfl).symm ▸ ?_
      clear hs hq hf
      unfold gives
      go_simp
      refine (HCL.out wx hG).mono ?_
      rintro e wy ⟨v', rfl, ho, hb1⟩
      exact ⟨_, rfl, kSet_of (by decide) hb1, own_base ho (Nat.le_trans hBs hG.size)⟩
    -- operation 3: Op.load 24 (tmp 5)
    refine ⟨fun r wx hG hs hq hf => ?_, ?_⟩
    · have e5 : r 5 = .pointer (some ⟨g + 1, 0, none⟩) := hs 5 rfl
      refine (if_pos rfl).symm ▸ ?_
      clear hs hq hf
      unfold gives
      refine gives_load_row 33 _ rfl (g + 1) e5 33 _ (0, 0) _ ((hG.block _ (show g + 1 < B by omega)).trans HC.out.2.2) Tryd.underlying33 rfl (hInfo _ HX.out) ⟨kSet_refl _ _ _ _, rfl⟩
    -- operation 4: Op.buildSlice 30 1 #[(0, tmp 22)]
    refine ⟨fun r wx hG hs hq hf => ?_, ?_⟩
    · have h3 : r 22 = .agg (bv hx).toArray := hf.1
      refine (if_pos rfl).symm ▸ ?_
      clear hs hq hf
      unfold gives
      refine gives_build1 22 33 _ rfl (bv hx) h3 Tryd.underlying22 infoHb (by rw [bv_length]; exact HX.out) (by decide) (by decide) ?_
      exact ⟨kSet_of (by decide) ((Below.refl _ _).alloc (Nat.le_refl _) _), Rd.row wx 33 32 (bv hx) (by rw [bv_length]; exact HX.out) (bv_one hx)⟩
    -- operation 5: Op.call ( callee := Callee.builtin Builtin.append, args := #[tmp 21, tmp 23], argTypes := #[30, 30] )
    refine ⟨fun r wx hG hs hq hf => ?_, ?_⟩
    · have h2 : wx.ownsRow B 33 32 (r 21) m fl := hf.1
      have h4 : Rd wx 32 (r 23) 1 (bv hx) := hf.2.1
      refine (if_pos rfl).symm ▸ ?_
      clear hs hq hf
      unfold gives
      refine gives_app Tryd.underlying22 infoHb rfl (by decide) _ _ rfl rfl rfl h2 h4 (by omega) (by omega) (Nat.le_trans hBs hG.size) ?_
      intro v' wy ho hg _
      exact ⟨kSet_at (by decide) (hg.below (Nat.le_trans hBs hG.size) (own_block h2)), ho⟩
    -- operation 6: Op.assign (tmp 24)
    refine ⟨fun r wx hG hs hq hf => ?_, ?_⟩
    · have h5 : wx.ownsRow B 33 32 (r 24) (m + 1) (fl ++ bv hx) := hf.1
      refine (if_pos rfl).symm ▸ ?_
      clear hs hq hf
      unfold gives
      go_simp
      exact ⟨kSet_refl _ _ _ _, h5⟩
    exact trivial
  case hend =>
    intro u wz hG hfin
    have z6 : wz.ownsRow B 33 32 (u 6) (m + 1) (fl ++ bv hx) := hfin 6 (by decide) (by kernel_rfl)
    clear hfin
    simp only [fill]
    go_simp
    obtain ⟨v8, hv8⟩ : ∃ q, q = u 6 := ⟨_, rfl⟩
    rw [← hv8] at z6 ⊢
    obtain ⟨w2, hw2⟩ : ∃ x : World, x = wz := ⟨_, rfl⟩
    rw [← hw2] at z6 hG ⊢
    clear hw2 hv8
    have hgB4 : g + 1 + 1 < B := hgB
    have hBs4 : B ≤ w2.heap.size := Nat.le_trans hBs hG.size
    have hbw2 : Below g w w2 := (HG.out ▸ HBW.out).trans (hG.mono (by omega))
    have HC4 := Lib.hid ((hG.cell (p := ⟨g, 0, none⟩) (show g < B by omega)).trans HC.out.1)
    have HZ4 := Lib.hid ((hG.block _ hgB).trans HZR1.out)
    have HO4 := Lib.hid z6
    have htz : Lib.ctz 64 (18446744073709551615 - sz) = tz1 sz := by
      unfold Lib.ctz
      rw [if_neg (by omega)]
      exact ctz_ones 64 sz (by omega)
    have hbx : ∀ wx, Below (g + 1 + 1) w2 wx → Below w.heap.size w wx := fun wx h => by
      have := hbw2.trans (h.mono (by omega))
      rwa [HG.out] at this
    have HTZ := Lib.hid (fun wx (h : Below (g + 1 + 1) w2 wx) => htz ▸ tz64_any (18446744073709551615 - sz) (by omega) (by omega) wx (HTT.out.2.keepB (hbx wx h)))
    obtain ⟨qs, hqs⟩ : ∃ qs, qs = ps ++ [hx] := ⟨_, rfl⟩
    obtain ⟨N, hN⟩ : ∃ N, N = (foldT (nodeH n) (tz1 sz) qs).length := ⟨_, rfl⟩
    obtain ⟨F, hF⟩ : ∃ F, F = (foldT (nodeH n) (tz1 sz) qs).flatMap bv := ⟨_, rfl⟩
    have hq1 : qs.length = m + 1 := by rw [hqs, HM.out]; simp
    have hq2 : qs.flatMap bv = fl ++ bv hx := by rw [hqs, HFL.out]; simp
    have hq3 : ∀ p ∈ qs, p.length = 32 := by
      intro p hp
      rw [hqs] at hp
      rcases List.mem_append.1 hp with hp | hp
      · exact HRT.out.2 p hp
      · rw [List.mem_singleton.1 hp]; exact HX.out
    have hq4 : tz1 sz < qs.length := by
      have h1 := tz1_le_pop 64 sz (by omega)
      have h2 := HRT.out.1
      have h3 := HM.out
      omega
    have HFO := Lib.hid (fun wx (h : Below (g + 1 + 1) w2 wx) (ho : wx.ownsRow B 33 32 v8 (m + 1) (fl ++ bv hx)) (hs : w2.heap.size ≤ wx.heap.size) => by
      have := fold_any n qs (tz1 sz) v8 wx B hn hq3 hq4 (by omega) (by rw [hq1, hq2]; exact ho) (by omega) (by omega) (HTT.out.1.keepB (hbx wx h))
      rw [← hN, ← hF] at this
      exact this)
    have HQ := Lib.hid (And.intro hqs (And.intro hN (And.intro hF hbw2)))
    clear z6 hG hbw2 htz hbx hqs hN hF hq1 hq2 hq3 hq4
    go_upto_region 4 with fail
    refine wp_region_until [some 25, some 26, some 27, some 28, some 29, some 30, some 31, some 32, some 33, some 34, some 35, none, some 7] [] 9 (fun wx => wx.ownsRow B 33 32 v8 (m + 1) (fl ++ bv hx)) [3, 4, 5, 6, 7, 8, 9] (pu4F n g sz B N v8 F) (pk4 B (g + 1 + 1)) (fun wx => Below (g + 1 + 1) w2 wx ∧ (∃ x y, wx.heap[g + 1 + 1]? = some (.cells #[x, y] 31 (0, 0))) ∧ w2.heap.size ≤ wx.heap.size) (by kernel_rfl) (by kernel_rfl) rfl (by kernel_rfl) (by kernel_rfl) ⟨(Below.refl _ _).drew, ⟨_, _, HZ4.out⟩, Nat.le_refl _⟩ HO4.out ((fun _ hj _ _ k h => own_pk4 hgB4 hj k h)) (fun _ _ => pk4_refl _ _ _ _) (fun _ _ _ h k => pk4_G hgB4 hBs4 h k) ?hF ?hstep ?hend
    case hF =>
      exact ⟨fun _ _ _ _ _ _ h => h, ⟨fun _ _ _ _ _ _ h => h, ⟨fun _ _ _ _ _ _ h => h, ⟨fun _ _ _ _ _ _ h => h, ⟨fun _ _ _ _ _ _ h => h, ⟨fun _ _ _ _ _ _ h => h, ⟨fun _ _ _ _ _ _ h => h, ⟨fun _ _ _ _ _ _ h => h, ⟨fun _ _ _ _ _ _ h => h, ⟨fun j hg _ _ _ k h => ⟨h.1, own_pk4 hgB4 (by rintro rfl; exact absurd hg (by rw [show goneB _ 9 9 = true by kernel_rfl]; simp)) k h.2⟩, ⟨fun j hg _ _ _ k h => by obtain ⟨vv, h1, h2, h3⟩ := h; exact ⟨vv, h1, h2, own_pk4 hgB4 (by rintro rfl; exact absurd hg (by rw [show goneB _ 10 9 = true by kernel_rfl]; simp)) k h3⟩, ⟨fun j hg _ _ _ k h => by obtain ⟨vv, h1, h3, h2⟩ := h; exact ⟨vv, own_pk4 hgB4 (by rintro rfl; exact absurd hg (by rw [show goneB _ 11 9 = true by kernel_rfl]; simp)) k h1, h3, row_pk4 hgB4 (by rintro rfl; exact absurd hg (by rw [show goneB _ 11 9 = true by kernel_rfl]; simp)) (by rintro rfl; exact absurd hg (by rw [show goneB _ 11 11 = true by kernel_rfl]; simp)) k h2⟩, ⟨fun _ _ _ _ _ _ h => h, trivial⟩⟩⟩⟩⟩⟩⟩⟩⟩⟩⟩⟩⟩
    case hstep =>
      -- operation 0: Op.fieldAddr 39 (tmp 4) 0
      refine ⟨fun r wx hG hs hq hf => ?_, ?_⟩
      · have e4 : r 4 = .pointer (some ⟨g, 0, none⟩) := hs 4 rfl
        refine (if_pos rfl).symm ▸ ?_
        clear hs hq hf
        unfold gives
        go_simp
        exact ⟨pk4_refl _ _ _ _, rfl⟩
      -- operation 1: Op.load 37 (tmp 25)
      refine ⟨fun r wx hG hs hq hf => ?_, ?_⟩
      · have h0 : r 25 = .pointer (some ⟨g, 0, none⟩) := hf.1
        refine (if_pos rfl).symm ▸ ?_
        clear hs hq hf
        unfold gives
        have hc0 := (hG.1.cell (p := ⟨g, 0, none⟩) (show g < g + 1 + 1 by omega)).trans HC4.out
        go_simp
        exact ⟨pk4_refl _ _ _ _, rfl⟩
      -- operation 2: Op.binOp BinOp.add 37 (tmp 26) (const (Value.int IntKind.u64 1)) 37
      refine ⟨fun r wx hG hs hq hf => ?_, ?_⟩
      · have h1 : r 26 = .int .u64 sz := hf.1
        refine (if_pos rfl).symm ▸ ?_
        clear hs hq hf
        unfold gives
        have hs1 : IntKind.u64.wrap ((sz : Int) + 1) = ((sz + 1 : Nat) : Int) := (IntWalk.u64_in _ (by omega)).trans (by omega)
        go_simp
        exact ⟨pk4_refl _ _ _ _, rfl⟩
      -- operation 3: Op.move (tmp 0)
      refine ⟨fun r wx hG hs hq hf => ?_, ?_⟩
      · have hQ := hq rfl
        have e0 : r 0 = .int .i64 n := hs 0 rfl
        refine (if_pos rfl).symm ▸ ?_
        clear hs hq hf
        unfold gives
        go_simp
        exact ⟨pk4_refl _ _ _ _, rfl⟩
      -- operation 4: Op.move (tmp 8)
      refine ⟨fun r wx hG hs hq hf => ?_, ?_⟩
      · have hQ := hq rfl
        have e8 : r 8 = v8 := hs 8 rfl
        refine (if_pos rfl).symm ▸ ?_
        clear hs hq hf
        unfold gives
        go_simp
        exact ⟨pk4_refl _ _ _ _, rfl⟩
      -- operation 5: Op.fieldAddr 39 (tmp 4) 0
      refine ⟨fun r wx hG hs hq hf => ?_, ?_⟩
      · have hQ := hq rfl
        have e4 : r 4 = .pointer (some ⟨g, 0, none⟩) := hs 4 rfl
        refine (if_pos rfl).symm ▸ ?_
        clear hs hq hf
        unfold gives
        go_simp
        exact ⟨pk4_refl _ _ _ _, rfl⟩
      -- operation 6: Op.load 37 (tmp 30)
      refine ⟨fun r wx hG hs hq hf => ?_, ?_⟩
      · have hQ := hq rfl
        have h5 : r 30 = .pointer (some ⟨g, 0, none⟩) := hf.1
        refine (if_pos rfl).symm ▸ ?_
        clear hs hq hf
        unfold gives
        have hc0 := (hG.1.cell (p := ⟨g, 0, none⟩) (show g < g + 1 + 1 by omega)).trans HC4.out
        go_simp
        exact ⟨pk4_refl _ _ _ _, rfl⟩
      -- operation 7: Op.unOp UnOp.xor 37 (tmp 31)
      refine ⟨fun r wx hG hs hq hf => ?_, ?_⟩
      · have hQ := hq rfl
        have h6 : r 31 = .int .u64 sz := hf.1
        refine (if_pos rfl).symm ▸ ?_
        clear hs hq hf
        unfold gives
        have hs1 := not_u64 sz (by omega)
        go_simp
        exact ⟨pk4_refl _ _ _ _, congrArg (Value.int .u64) hs1⟩
      -- operation 8: Op.call ( callee := Callee.value (func 38), args := #[tmp 32], argTypes := #[37] )
      refine ⟨fun r wx hG hs hq hf => ?_, ?_⟩
      · have hQ := hq rfl
        have h7 : r 32 = .int .u64 ((18446744073709551615 - sz : Nat) : Int) := hf.1
        refine (if_pos rfl).symm ▸ ?_
        clear hs hq hf
        unfold gives
        go_simp
        refine (HTZ.out wx hG.1).mono ?_
        rintro e wy ⟨rfl, hb1⟩
        exact ⟨_, rfl, pk4_of (by decide) (by decide) hb1, rfl⟩
      -- operation 9: Op.call ( callee := Callee.value (func 33), args := #[tmp 28, tmp 29, tmp 33], argTypes := #[3, 30, 3] )
      refine ⟨fun r wx hG hs hq hf => ?_, ?_⟩
      · have hQ := hq rfl
        have h3 : r 28 = .int .i64 n := hf.1
        have h4 : r 29 = v8 := hf.2.1
        have h8 : r 33 = .int .i64 ((tz1 sz : Nat) : Int) := hf.2.2.1
        refine (if_pos rfl).symm ▸ ?_
        clear hs hq hf
        unfold gives
        have hFO := HFO.out wx hG.1 hQ hG.2.2
        clear hQ
        go_simp
        refine hFO.mono ?_
        rintro e wy ⟨v', rfl, ho1, hb1⟩
        exact ⟨_, rfl, pk4_nine hb1, own_form ho1 |>.elim fun a h => h.elim fun c h => ⟨a, _, c, h⟩, ho1⟩
      -- operation 10: Op.build 39 #[(0, tmp 27), (1, tmp 34)]
      refine ⟨fun r wx hG hs hq hf => ?_, ?_⟩
      · have h2 : r 27 = .int .u64 ((sz + 1 : Nat) : Int) := hf.1
        have h9 : (∃ a n c, (r 34) = .slice a n c) ∧ wx.ownsRow B 33 32 (r 34) N F := hf.2.1
        refine (if_pos rfl).symm ▸ ?_
        clear hs hq hf
        unfold gives
        obtain ⟨⟨xa, xn, xc, hx⟩, ho⟩ := h9
        rw [hx] at ho
        go_simp
        exact ⟨pk4_refl _ _ _ _, _, rfl, ⟨_, _, _, rfl⟩, ho⟩
      -- operation 11: Op.store 39 (tmp 6) (tmp 35)
      refine ⟨fun r wx hG hs hq hf => ?_, ?_⟩
      · have e6 : r 6 = .pointer (some ⟨g + 1 + 1, 0, none⟩) := hs 6 rfl
        have h10 : ∃ vv, (r 35) = .agg #[.int .u64 ((sz + 1 : Nat) : Int), vv] ∧ (∃ a n c, vv = .slice a n c) ∧ wx.ownsRow B 33 32 vv N F := hf.1
        have h9 : (∃ a n c, (r 34) = .slice a n c) ∧ wx.ownsRow B 33 32 (r 34) N F := hf.2.1
        refine (if_pos rfl).symm ▸ ?_
        clear hs hq hf
        unfold gives
        obtain ⟨vv, hv, ⟨xa, xn, xc, rfl⟩, ho⟩ := h10
        obtain ⟨x0, y0, hrow⟩ := hG.2.1
        refine gives_store_row 31 _ _ rfl (g + 1 + 1) [.int .u64 ((sz + 1 : Nat) : Int), .slice xa xn xc] e6 hv [x0, y0] 31 hrow infoR2 rfl (by intro u hu; simp only [List.mem_cons, List.not_mem_nil, or_false] at hu; rcases hu with rfl | rfl <;> rfl) ?_
        intro wy h1 h2
        exact ⟨pk4_elev h2 ⟨_, _, h1⟩, _, ho.kept h2 (.inr fun e => by have := own_block ho _ e; omega), ⟨_, _, _, rfl⟩, h1⟩
      -- operation 12: Op.assign (const (Value.int IntKind.i64 0))
      refine ⟨fun r wx hG hs hq hf => ?_, ?_⟩
      · have h11 : ∃ vv, wx.ownsRow B 33 32 vv N F ∧ (∃ a n c, vv = .slice a n c) ∧ wx.heap[g + 1 + 1]? = some (.cells #[.int .u64 ((sz + 1 : Nat) : Int), vv] 31 (0, 0)) := hf.1
        refine (if_pos rfl).symm ▸ ?_
        clear hs hq hf
        unfold gives
        go_simp
        exact ⟨pk4_refl _ _ _ _, rfl⟩
      exact trivial
    case hend =>
      intro u wz hG hfin
      have z11 : ∃ vv, wz.ownsRow B 33 32 vv N F ∧ (∃ a n c, vv = .slice a n c) ∧ wz.heap[g + 1 + 1]? = some (.cells #[.int .u64 ((sz + 1 : Nat) : Int), vv] 31 (0, 0)) := hfin 11 (by decide) (by kernel_rfl)
      have z12 : u 12 = .int .i64 0 := hfin 12 (by decide) (by kernel_rfl)
      clear hfin
      simp only [fill]
      obtain ⟨vv, ho, ⟨xa, xn, xc, rfl⟩, hrow⟩ := z11
      have HF := Lib.hid (And.intro ho (And.intro hrow hG))
      clear ho hrow hG
      go_simp
      go_wp2_with fail
      refine bodyPost_ret (v := .tuple #[.agg #[.int .u64 ((sz + 1 : Nat) : Int), .slice xa xn xc], .int .i64 0]) ?_ rfl ?_
      · rw [results_cell_tmp rfl]
        simp [asAddr, run_loadVar_row wz (g + 1 + 1) 31 31 _ (0, 0) _ HF.out.2.1 Tryd.underlying31 rfl infoR3]
      · obtain ⟨hqs, hN, hF, hbw2⟩ := HQ.out
        obtain ⟨ho, hrow, hG⟩ := HF.out
        refine ⟨_, rfl, ?_, ?_⟩
        · rw [← hqs, ← hN, ← hF]
          exact own_base ho (by have := HG.out; omega)
        · have := hbw2.trans (hG.1.mono (by omega))
          rwa [HG.out] at this
end Go.Proofs.YtdjmebfjanophaaDoor
