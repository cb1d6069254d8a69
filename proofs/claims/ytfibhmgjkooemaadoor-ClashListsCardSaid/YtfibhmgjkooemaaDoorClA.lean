/- What is hashed for a leaf, and for a node; a tree on the heap. (printed by gen/cla.py) -/
import Derived.Test.YtfibhmgjkooemaaDoorLeafJ
import Derived.Test.YtfibhmgjkooemaaDoorSlC
import Derived.Test.YtfibhmgjkooemaaDoorClP
import Derived.Test.YtfibhmgjkooemaaDoorLeafRA
namespace Go.Proofs.YtfibhmgjkooemaaDoor
open Go.RowKit Sha Root Clash

theorem nodeH_nd (W : Int) : nodeH W = nd (hw W) := rfl
theorem leafH_lf (W : Int) : leafH W = lf (hw W) := rfl
theorem rootH_rt (W : Int) (l : List (List UInt8)) : rootH W (l.map (leafH W)) = rt (hw W) l := rfl
theorem hw32 (W : Int) : ∀ t, (hw W t).length = 32 := hw_length W
theorem rt32 (W : Int) (l : List (List UInt8)) : (rt (hw W) l).length = 32 := rt_32 _ (hw32 W) l

set_option maxHeartbeats 4000000 in
theorem leafText_any (t : List UInt8) (v : Value) (w : World) (hl : t.length ≤ 140737488355000) (hr : Rd w 1 v t.length (bv t)) :
    Calls Tryd.prog 41 #[v] w fun e w' => ∃ v', e = .returned v' ∧ Rd w' 1 v' (0 :: t).length (bv (0 :: t)) ∧ Below w.heap.size w w' := by
  obtain ⟨a, c, rfl⟩ := hr.form
  have HR := Lib.hid hr
  clear hr
  go_enter Tryd.func41, Tryd.ntmps41
  have hown0 := own_new w 5 1 1 w.heap.size [.int .u8 0] rfl (by omega) (Nat.le_refl _)
  have hra := HR.out.alloc (.cells #[.int .u8 0] 5)
  go_wp2_with (at_builtin; go_loud (refine wpList_app Tryd.underlying25 infoU8w rfl (by decide) rfl _ _ rfl rfl rfl hown0 hra (by omega) (by omega) (by simp) ?_))
  intro v2 w2 ho hg _
  have hb2 : Below w.heap.size w w2 := ((Below.refl _ _).alloc (Nat.le_refl _) _).trans (hg.below (by simp) (own_block hown0))
  have hr2 := own_rd ho (fun u hu => (List.mem_cons.1 hu).elim (fun h => h ▸ rfl) (fun h => bv_one _ _ h))
  obtain ⟨a2, c2, rfl⟩ := own_form ho
  have HR2 := Lib.hid hr2
  clear hown0 hra ho hg hr2
  go_wp2_with fail
  go_ret
  refine ⟨_, rfl, ?_, hb2⟩
  have := HR2.out
  rw [show t.length + 1 = 1 + t.length by omega]
  exact this

/-- What each operation hands on. -/
def ntcF (xs ys : List UInt8) (g : Nat) : Nat → Value → World → Prop
  | 0, v, w => Rd w 1 v 1 (bv [1])
  | 1, v, _ => v = .slice (some ⟨g, 0, none⟩) 32 32
  | 2, v, _ => v = .slice (some ⟨g + 1, 0, none⟩) 32 32
  | 3, v, w => ∃ s0, Rd w 1 s0 1 (bv [1]) ∧ Rd w 1 v 3 [s0, .slice (some ⟨g, 0, none⟩) 32 32, .slice (some ⟨g + 1, 0, none⟩) 32 32]
  | 4, v, w => Rd w 1 v 65 (bv (1 :: (xs ++ ys)))
  | 5, v, w => Rd w 1 v 65 (bv (1 :: (xs ++ ys)))
  | _, _, _ => True

set_option maxHeartbeats 4000000 in
set_option maxRecDepth 100000 in
theorem nodeText_any (xs ys : List UInt8) (w : World) (hl : xs.length = 32) (hr : ys.length = 32) :
    Calls Tryd.prog 44 #[.agg (bv xs).toArray, .agg (bv ys).toArray] w fun e w' => ∃ v', e = .returned v' ∧ Rd w' 1 v' (1 :: (xs ++ ys)).length (bv (1 :: (xs ++ ys))) ∧ Below w.heap.size w w' := by
  obtain ⟨g, hg⟩ : ∃ g, g = w.heap.size := ⟨_, rfl⟩
  obtain ⟨w0, hw0⟩ : ∃ x : World, x = (w.alloc (.cells (bv xs).toArray 35)).alloc (.cells (bv ys).toArray 35) := ⟨_, rfl⟩
  have hrow1 : w0.heap[g]? = some (.cells (bv xs).toArray 35 (0, 0)) := by
    rw [hw0, hg, heap_alloc_old _ _ (by simp)]
    exact heap_alloc_new _ _
  have hrow2 : w0.heap[g + 1]? = some (.cells (bv ys).toArray 35 (0, 0)) := by
    rw [hw0, hg]
    have := heap_alloc_new (w.alloc (.cells (bv xs).toArray 35)) (.cells (bv ys).toArray 35)
    simpa using this
  have hbw0 : Below w.heap.size w w0 := by rw [hw0]; exact ((Below.refl _ _).alloc (Nat.le_refl _) _).alloc (by simp) _
  have HR1 := Lib.hid (show Rd w0 1 (.slice (some ⟨g, 0, none⟩) 32 32) 32 (bv xs) by have := rd_row hrow1 hl; rwa [hl] at this)
  have HR2 := Lib.hid (show Rd w0 1 (.slice (some ⟨g + 1, 0, none⟩) 32 32) 32 (bv ys) by have := rd_row hrow2 hr; rwa [hr] at this)
  have HB0 := Lib.hid hbw0
  have HW1 := Lib.hid hw0
  clear hrow1 hrow2 hbw0 hw0
  go_enter Tryd.func44, Tryd.ntmps44
  go_upto_region 1 with fail
  rw [← hg, show (w.alloc (.cells (bv xs).toArray 35)).alloc (.cells (bv ys).toArray 35) = w0 from HW1.out.symm]
  refine wp_region_steps [some 5, some 6, some 7, some 8, some 9, some 4] [] (ntcF xs ys g) (fun _ wx wy => Below wx.heap.size wx wy) (fun wx => Below w0.heap.size w0 wx) (by kernel_rfl) (by kernel_rfl) rfl (by kernel_rfl) (Below.refl _ _).drew (fun _ wx => Below.refl _ _) (fun _ wx wy h k => h.trans (k.mono h.size)) ?hF ?hstep ?hend
  case hF =>
    exact ⟨fun _ _ _ _ _ k h => Rd.keep h k, ⟨fun _ _ _ _ _ _ h => h, ⟨fun _ _ _ _ _ _ h => h, ⟨fun _ _ _ _ _ k h => by obtain ⟨s0, a, b⟩ := h; exact ⟨s0, a.keep k, b.keep k⟩, ⟨fun _ _ _ _ _ k h => Rd.keep h k, ⟨fun _ _ _ _ _ k h => Rd.keep h k, trivial⟩⟩⟩⟩⟩⟩
  case hstep =>
    -- operation 0: Op.buildSlice 25 1 #[(0, const (Value.int IntKind.u8 1))]
    refine ⟨fun r wx hG hs hq hf => ?_, ?_⟩
    · refine (if_pos rfl).symm ▸ ?_
      clear hs hq hf
      unfold gives
      go_simp
      exact ⟨(Below.refl _ _).alloc (Nat.le_refl _) _, Rd.one _ _ _ rfl⟩
    -- operation 1: Op.slice 35 (tmp 2) none none none
    refine ⟨fun r wx hG hs hq hf => ?_, ?_⟩
    · have e2 : r 2 = .pointer (some ⟨g, 0, none⟩) := hs 2 rfl
      refine (if_pos rfl).symm ▸ ?_
      clear hs hq hf
      unfold gives
      go_simp
      exact ⟨Below.refl _ _, rfl⟩
    -- operation 2: Op.slice 35 (tmp 3) none none none
    refine ⟨fun r wx hG hs hq hf => ?_, ?_⟩
    · have e3 : r 3 = .pointer (some ⟨g + 1, 0, none⟩) := hs 3 rfl
      refine (if_pos rfl).symm ▸ ?_
      clear hs hq hf
      unfold gives
      go_simp
      exact ⟨Below.refl _ _, rfl⟩
    -- operation 3: Op.buildSlice 22 3 #[(0, tmp 5), (1, tmp 6), (2, tmp 7)]
    refine ⟨fun r wx hG hs hq hf => ?_, ?_⟩
    · have h0 : Rd wx 1 (r 5) 1 (bv [1]) := hf.1
      have h1 : r 6 = .slice (some ⟨g, 0, none⟩) 32 32 := hf.2.1
      have h2 : r 7 = .slice (some ⟨g + 1, 0, none⟩) 32 32 := hf.2.2.1
      refine (if_pos rfl).symm ▸ ?_
      clear hs hq hf
      unfold gives
      obtain ⟨a0, c0, hf0⟩ := h0.form
      rw [hf0] at h0
      go_simp
      exact ⟨(Below.refl _ _).alloc (Nat.le_refl _) _, _, h0.alloc _, own_rd (own_new wx 25 1 3 0 _ rfl (by omega) (Nat.zero_le _)) (by intro u hu; simp only [List.mem_cons, List.not_mem_nil, or_false] at hu; rcases hu with rfl | rfl | rfl <;> rfl)⟩
    -- operation 4: Op.call ( callee := Callee.value (func 69), args := #[tmp 8], argTypes := #[22] )
    refine ⟨fun r wx hG hs hq hf => ?_, ?_⟩
    · have h3 : ∃ s0, Rd wx 1 s0 1 (bv [1]) ∧ Rd wx 1 (r 8) 3 [s0, .slice (some ⟨g, 0, none⟩) 32 32, .slice (some ⟨g + 1, 0, none⟩) 32 32] := hf.1
      refine (if_pos rfl).symm ▸ ?_
      clear hs hq hf
      unfold gives
      obtain ⟨s0, hs0, hs3⟩ := h3
      have hcc := ConcatC8_any (r 8) [(s0, 1, bv [1]), (.slice (some ⟨g, 0, none⟩) 32 32, 32, bv xs), (.slice (some ⟨g + 1, 0, none⟩) 32 32, 32, bv ys)] wx hs3 (by
        intro p hp
        simp only [List.mem_cons, List.not_mem_nil, or_false] at hp
        rcases hp with rfl | rfl | rfl
        · exact hs0
        · exact HR1.out.keep hG
        · exact HR2.out.keep hG) (by simp [sumNC8]) (by simp)
      go_simp
      refine hcc.mono ?_
      rintro e wy ⟨v', rfl, ho, hb⟩
      refine ⟨_, rfl, hb, ?_⟩
      have ho' := own_rd ho (fun u hu => by
        simp only [List.flatMap_cons, List.flatMap_nil, List.append_nil, List.mem_append] at hu
        rcases hu with hu | hu | hu <;> exact bv_one _ _ hu)
      have e2 : bv (1 :: (xs ++ ys)) = bv [1] ++ (bv xs ++ bv ys) := by simp [bv]
      show Rd wy 1 v' 65 _
      rw [e2]
      simp only [List.flatMap_cons, List.flatMap_nil, List.append_nil, sumNC8, List.map_cons, List.map_nil, List.sum_cons, List.sum_nil] at ho'
      exact ho'
    -- operation 5: Op.assign (tmp 9)
    refine ⟨fun r wx hG hs hq hf => ?_, ?_⟩
    · have h4 : Rd wx 1 (r 9) 65 (bv (1 :: (xs ++ ys))) := hf.1
      refine (if_pos rfl).symm ▸ ?_
      clear hs hq hf
      unfold gives
      go_simp
      exact ⟨Below.refl _ _, h4⟩
    exact trivial
  case hend =>
    intro u wz hG hfin
    have z5 : Rd wz 1 (u 5) 65 (bv (1 :: (xs ++ ys))) := hfin 5 (by decide) (by kernel_rfl)
    clear hfin
    simp only [fill]
    have HZ := Lib.hid (And.intro z5 (HB0.out.trans (hG.mono HB0.out.size)))
    obtain ⟨a5, c5, h5⟩ := z5.form
    rw [h5] at HZ ⊢
    clear z5 hG h5
    go_simp
    go_wp2_with fail
    go_ret
    exact ⟨_, rfl, by rw [show (xs ++ ys).length + 1 = 65 by simp; omega]; exact HZ.out.1, HZ.out.2⟩


/-- The lists below. -/
def lo (l : List (List UInt8)) : List (List UInt8) := if l.length ≤ 1 then [] else l.take (top l.length)
def ro (l : List (List UInt8)) : List (List UInt8) := if l.length ≤ 1 then [] else l.drop (top l.length)
theorem lo_more (l : List (List UInt8)) (h : 2 ≤ l.length) : lo l = l.take (top l.length) := if_neg (by omega)
theorem ro_more (l : List (List UInt8)) (h : 2 ≤ l.length) : ro l = l.drop (top l.length) := if_neg (by omega)
theorem lo_one (l : List (List UInt8)) (h : l.length ≤ 1) : lo l = [] := if_pos h
theorem ro_one (l : List (List UInt8)) (h : l.length ≤ 1) : ro l = [] := if_pos h
def tcs (h : List UInt8) (v pl pr : Value) : List Value := bv h ++ [v, pl, pr]
def trow (W : Int) (l : List (List UInt8)) (v pl pr : Value) : Obj := .cells (tcs (rt (hw W) l) v pl pr).toArray 63 (0, 0)
/-- A pointer to a tree over texts. -/
inductive Tr (w : World) (W : Int) : Value → List (List UInt8) → Prop
  | nil : Tr w W (.pointer none) []
  | node (g : Nat) (l : List (List UInt8)) (a : Option Addr) (c : Nat) (pl pr : Value) : 0 < l.length → w.heap[g]? = some (trow W l (.slice a (tx (hw W) l).length c) pl pr) →
      Rd w 1 (.slice a (tx (hw W) l).length c) (tx (hw W) l).length (bv (tx (hw W) l)) → Tr w W pl (lo l) → Tr w W pr (ro l) → Tr w W (.pointer (some ⟨g, 0, none⟩)) l
theorem Tr.keep {w w' : World} {W : Int} {p : Value} {l : List (List UInt8)} (h : Tr w W p l) (hb : Below w.heap.size w w') : Tr w' W p l := by
  induction h with
  | nil => exact .nil
  | node g l a c pl pr h0 hg hr _ _ ih1 ih2 => exact .node g l a c pl pr h0 ((hb.block _ (Array.getElem?_eq_some_iff.1 hg).1).trans hg) (hr.keep hb) ih1 ih2
theorem Tr.form {w : World} {W : Int} {p : Value} {l : List (List UInt8)} (h : Tr w W p l) : ∃ x, p = .pointer x := by cases h <;> exact ⟨_, rfl⟩
theorem Tr.empty {w : World} {W : Int} {p : Value} (h : Tr w W p []) : p = .pointer none := by
  generalize he : ([] : List (List UInt8)) = l at h
  cases h with
  | nil => rfl
  | node g l a c pl pr h0 => subst he; simp at h0
theorem trow_cell (W : Int) {w : World} {l : List (List UInt8)} {g : Nat} {v pl pr : Value} (h : w.heap[g]? = some (trow W l v pl pr)) : w.cell? ⟨g, 32, none⟩ = some v ∧ w.cell? ⟨g, 33, none⟩ = some pl ∧ w.cell? ⟨g, 34, none⟩ = some pr := by
  have hl : (bv (rt (hw W) l)).length = 32 := by rw [bv_length, rt32]
  refine ⟨?_, ?_, ?_⟩ <;> simp [World.cell?, h, trow, tcs, hl]
theorem trow_rng (W : Int) {w : World} {l : List (List UInt8)} {g : Nat} {v pl pr : Value} (h : w.heap[g]? = some (trow W l v pl pr)) : w.rangeAt g 0 (bv (rt (hw W) l)) := fun j u hu => by
  have hl : (bv (rt (hw W) l)).length = 32 := by rw [bv_length, rt32]
  have hj := (List.getElem?_eq_some_iff.1 hu).1
  rw [Nat.zero_add]
  simp only [World.cell?, h, trow, tcs]
  simp only [Nat.sub_zero, List.getElem?_toArray]
  rw [List.getElem?_append_left hj, hu]
  simp
end Go.Proofs.YtfibhmgjkooemaaDoor
