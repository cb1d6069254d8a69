/- clash.grown: where its blocks lie. (printed by gen/clm.py) -/
import Derived.Test.YtfibhmgjkooemaaDoorClG
namespace Go.Proofs.YtfibhmgjkooemaaDoor
open Go.RowKit Sha Root Path Clash

/-- Bytes that lie in blocks from B on. -/
def RdB (w : World) (B : Nat) (v : Value) (n : Nat) (xs : List Value) : Prop := Rd w 1 v n xs ∧ ∀ q, v.ownBlock = some q → B ≤ q
theorem RdB.keep {w w' : World} {B : Nat} {v : Value} {n : Nat} {xs : List Value} (h : RdB w B v n xs) (k : Below w.heap.size w w') : RdB w' B v n xs := ⟨h.1.keep k, h.2⟩
theorem RdB.alloc {w : World} {B : Nat} {v : Value} {n : Nat} {xs : List Value} (h : RdB w B v n xs) (o : Obj) : RdB (w.alloc o) B v n xs := ⟨h.1.alloc o, h.2⟩
theorem RdB.form {w : World} {B : Nat} {v : Value} {n : Nat} {xs : List Value} (h : RdB w B v n xs) : ∃ a c, v = .slice a n c := h.1.form
inductive TrB (w : World) (W : Int) (B : Nat) : Value → List (List UInt8) → Prop
  | nil : TrB w W B (.pointer none) []
  | node (g : Nat) (l : List (List UInt8)) (a : Option Addr) (c : Nat) (pl pr : Value) : 0 < l.length → B ≤ g → w.heap[g]? = some (trow W l (.slice a (tx (hw W) l).length c) pl pr) →
      RdB w B (.slice a (tx (hw W) l).length c) (tx (hw W) l).length (bv (tx (hw W) l)) → TrB w W B pl (lo l) → TrB w W B pr (ro l) → TrB w W B (.pointer (some ⟨g, 0, none⟩)) l
theorem TrB.tr {w : World} {W : Int} {B : Nat} {p : Value} {l : List (List UInt8)} (h : TrB w W B p l) : Tr w W p l := by
  induction h with
  | nil => exact .nil
  | node g l a c pl pr h0 _ hg hr _ _ ih1 ih2 => exact .node g l a c pl pr h0 hg hr.1 ih1 ih2
theorem TrB.keep {w w' : World} {W : Int} {B : Nat} {p : Value} {l : List (List UInt8)} (h : TrB w W B p l) (hb : Below w.heap.size w w') : TrB w' W B p l := by
  induction h with
  | nil => exact .nil
  | node g l a c pl pr h0 h1 hg hr _ _ ih1 ih2 => exact .node g l a c pl pr h0 h1 ((hb.block _ (Array.getElem?_eq_some_iff.1 hg).1).trans hg) (hr.keep hb) ih1 ih2
/-- What lies from B on, and stays, leaves the tree alone. -/
theorem TrB.from {w w' : World} {W : Int} {B : Nat} {p : Value} {l : List (List UInt8)} (h : TrB w W B p l) (hb : ∀ k, B ≤ k → k < w.heap.size → w'.heap[k]? = w.heap[k]?) : TrB w' W B p l := by
  induction h with
  | nil => exact .nil
  | node g l a c pl pr h0 h1 hg hr _ _ ih1 ih2 =>
    refine .node g l a c pl pr h0 h1 ((hb _ h1 (Array.getElem?_eq_some_iff.1 hg).1).trans hg) ⟨?_, hr.2⟩ ih1 ih2
    obtain ⟨k1, k2, k3 | ⟨ad, c', hv, hc, hcell⟩⟩ := hr.1
    · exact ⟨k1, k2, .inl k3⟩
    · refine ⟨k1, k2, .inr ⟨ad, c', hv, hc, fun j u hu => ?_⟩⟩
      have h3 := hcell j u hu
      have he : (ad.add j).block = ad.block := by unfold Addr.add; split <;> rfl
      rw [← h3]
      refine World.cell?_of_block (hb _ ?_ (World.block_lt_of_cell? w _ h3))
      rw [he]
      exact hr.2 _ (by rw [hv]; rfl)
theorem TrB.form {w : World} {W : Int} {B : Nat} {p : Value} {l : List (List UInt8)} (h : TrB w W B p l) : ∃ x, p = .pointer x := h.tr.form
theorem TrB.inv {w : World} {W : Int} {B : Nat} {p : Value} {l : List (List UInt8)} (h : TrB w W B p l) (h0 : 0 < l.length) : ∃ g a c pl pr, p = .pointer (some ⟨g, 0, none⟩) ∧ w.heap[g]? = some (trow W l (.slice a (tx (hw W) l).length c) pl pr) ∧
    RdB w B (.slice a (tx (hw W) l).length c) (tx (hw W) l).length (bv (tx (hw W) l)) ∧ TrB w W B pl (lo l) ∧ TrB w W B pr (ro l) := by
  cases h with
  | nil => simp at h0
  | node g l a c pl pr _ _ h1 h2 h3 h4 => exact ⟨g, a, c, pl, pr, rfl, h1, h2, h3, h4⟩
set_option maxHeartbeats 4000000 in
theorem leafTextB_any (B : Nat) (t : List UInt8) (v : Value) (w : World) (hB : B ≤ w.heap.size) (hl : t.length ≤ 140737488355000) (hr : Rd w 1 v t.length (bv t)) :
    Calls Tryd.prog 41 #[v] w fun e w' => ∃ v', e = .returned v' ∧ RdB w' B v' (0 :: t).length (bv (0 :: t)) ∧ Below w.heap.size w w' := by
  obtain ⟨a, c, rfl⟩ := hr.form
  have HR := Lib.hid hr
  clear hr
  go_enter Tryd.func41, Tryd.ntmps41
  have hown0 := own_new w 5 1 1 w.heap.size [.int .u8 0] rfl (by omega) (Nat.le_refl _)
  have hra := HR.out.alloc (.cells #[.int .u8 0] 5)
  go_wp2_with (at_builtin; go_loud (refine wpList_app Tryd.underlying25 infoU8w rfl (by decide) rfl _ _ rfl rfl rfl hown0 hra (by omega) (by omega) (by simp) ?_))
  intro v2 w2 ho hg _
  have hb2 : Below w.heap.size w w2 := ((Below.refl _ _).alloc (Nat.le_refl _) _).trans (hg.below (by simp) (own_block hown0))
  have hr2 := own_rd ho (fun u hu => (List.mem_cons.1 hu).elim (fun h => h ▸ rfl) (fun h => bv_one _ _ h))
  obtain ⟨a2, c2, rfl⟩ := own_form ho
  have HR2 := Lib.hid (show RdB w2 B (.slice a2 (1 + t.length) c2) (1 + t.length) _ from ⟨hr2, fun q hq => Nat.le_trans hB (own_block ho q hq)⟩)
  clear hown0 hra ho hg hr2
  go_wp2_with fail
  go_ret
  refine ⟨_, rfl, ?_, hb2⟩
  have := HR2.out
  rw [show t.length + 1 = 1 + t.length by omega]
  exact this

/-- What each operation hands on. -/
def ntdF (xs ys : List UInt8) (B g : Nat) : Nat → Value → World → Prop
  | 0, v, w => Rd w 1 v 1 (bv [1])
  | 1, v, _ => v = .slice (some ⟨g, 0, none⟩) 32 32
  | 2, v, _ => v = .slice (some ⟨g + 1, 0, none⟩) 32 32
  | 3, v, w => ∃ s0, Rd w 1 s0 1 (bv [1]) ∧ Rd w 1 v 3 [s0, .slice (some ⟨g, 0, none⟩) 32 32, .slice (some ⟨g + 1, 0, none⟩) 32 32]
  | 4, v, w => RdB w B v 65 (bv (1 :: (xs ++ ys)))
  | 5, v, w => RdB w B v 65 (bv (1 :: (xs ++ ys)))
  | _, _, _ => True
set_option maxHeartbeats 4000000 in
set_option maxRecDepth 100000 in
theorem nodeTextB_any (B : Nat) (xs ys : List UInt8) (w : World) (hB : B ≤ w.heap.size) (hl : xs.length = 32) (hr : ys.length = 32) :
    Calls Tryd.prog 44 #[.agg (bv xs).toArray, .agg (bv ys).toArray] w fun e w' => ∃ v', e = .returned v' ∧ RdB w' B v' (1 :: (xs ++ ys)).length (bv (1 :: (xs ++ ys))) ∧ Below w.heap.size w w' := by
  obtain ⟨g, hg⟩ : ∃ g, g = w.heap.size := ⟨_, rfl⟩
  obtain ⟨w0, hw0⟩ : ∃ x : World, x = (w.alloc (.cells (bv xs).toArray 35)).alloc (.cells (bv ys).toArray 35) := ⟨_, rfl⟩
  have hrow1 : w0.heap[g]? = some (.cells (bv xs).toArray 35 (0, 0)) := by
    rw [hw0, hg, heap_alloc_old _ _ (by simp)]
    exact heap_alloc_new _ _
  have hrow2 : w0.heap[g + 1]? = some (.cells (bv ys).toArray 35 (0, 0)) := by
    rw [hw0, hg]
    have := heap_alloc_new (w.alloc (.cells (bv xs).toArray 35)) (.cells (bv ys).toArray 35)
    simpa using this
  have hbw0 : Below w.heap.size w w0 := by rw [hw0]; exact ((Below.refl _ _).alloc (Nat.le_refl _) _).alloc (by simp) _
  have HR1 := Lib.hid (show Rd w0 1 (.slice (some ⟨g, 0, none⟩) 32 32) 32 (bv xs) by have := rd_row hrow1 hl; rwa [hl] at this)
  have HR2 := Lib.hid (show Rd w0 1 (.slice (some ⟨g + 1, 0, none⟩) 32 32) 32 (bv ys) by have := rd_row hrow2 hr; rwa [hr] at this)
  have HB0 := Lib.hid hbw0
  have hB0 : B ≤ w0.heap.size := Nat.le_trans hB hbw0.size
  have HW1 := Lib.hid hw0
  clear hrow1 hrow2 hbw0 hw0
  go_enter Tryd.func44, Tryd.ntmps44
  go_upto_region 1 with fail
  rw [← hg, show (w.alloc (.cells (bv xs).toArray 35)).alloc (.cells (bv ys).toArray 35) = w0 from HW1.out.symm]
  refine wp_region_steps [some 5, some 6, some 7, some 8, some 9, some 4] [] (ntdF xs ys B g) (fun _ wx wy => Below wx.heap.size wx wy) (fun wx => Below w0.heap.size w0 wx) (by kernel_rfl) (by kernel_rfl) rfl (by kernel_rfl) (Below.refl _ _).drew (fun _ wx => Below.refl _ _) (fun _ wx wy h k => h.trans (k.mono h.size)) ?hF ?hstep ?hend
  case hF =>
    exact ⟨fun _ _ _ _ _ k h => Rd.keep h k, ⟨fun _ _ _ _ _ _ h => h, ⟨fun _ _ _ _ _ _ h => h, ⟨fun _ _ _ _ _ k h => by obtain ⟨s0, a, b⟩ := h; exact ⟨s0, a.keep k, b.keep k⟩, ⟨fun _ _ _ _ _ k h => RdB.keep h k, ⟨fun _ _ _ _ _ k h => RdB.keep h k, trivial⟩⟩⟩⟩⟩⟩
  case hstep =>
    refine ⟨fun r wx hG hs hq hf => ?_, ?_⟩
    · refine (if_pos rfl).symm ▸ ?_
      clear hs hq hf
      unfold gives
      go_simp
      exact ⟨(Below.refl _ _).alloc (Nat.le_refl _) _, Rd.one _ _ _ rfl⟩
    refine ⟨fun r wx hG hs hq hf => ?_, ?_⟩
    · have e2 : r 2 = .pointer (some ⟨g, 0, none⟩) := hs 2 rfl
      refine (if_pos rfl).symm ▸ ?_
      clear hs hq hf
      unfold gives
      go_simp
      exact ⟨Below.refl _ _, rfl⟩
    refine ⟨fun r wx hG hs hq hf => ?_, ?_⟩
    · have e3 : r 3 = .pointer (some ⟨g + 1, 0, none⟩) := hs 3 rfl
      refine (if_pos rfl).symm ▸ ?_
      clear hs hq hf
      unfold gives
      go_simp
      exact ⟨Below.refl _ _, rfl⟩
    refine ⟨fun r wx hG hs hq hf => ?_, ?_⟩
    · have h0 : Rd wx 1 (r 5) 1 (bv [1]) := hf.1
      have h1 : r 6 = .slice (some ⟨g, 0, none⟩) 32 32 := hf.2.1
      have h2 : r 7 = .slice (some ⟨g + 1, 0, none⟩) 32 32 := hf.2.2.1
      refine (if_pos rfl).symm ▸ ?_
      clear hs hq hf
      unfold gives
      obtain ⟨a0, c0, hf0⟩ := h0.form
      rw [hf0] at h0
      go_simp
      exact ⟨(Below.refl _ _).alloc (Nat.le_refl _) _, _, h0.alloc _, own_rd (own_new wx 25 1 3 0 _ rfl (by omega) (Nat.zero_le _)) (by intro u hu; simp only [List.mem_cons, List.not_mem_nil, or_false] at hu; rcases hu with rfl | rfl | rfl <;> rfl)⟩
    refine ⟨fun r wx hG hs hq hf => ?_, ?_⟩
    · have h3 : ∃ s0, Rd wx 1 s0 1 (bv [1]) ∧ Rd wx 1 (r 8) 3 [s0, .slice (some ⟨g, 0, none⟩) 32 32, .slice (some ⟨g + 1, 0, none⟩) 32 32] := hf.1
      refine (if_pos rfl).symm ▸ ?_
      clear hs hq hf
      unfold gives
      obtain ⟨s0, hs0, hs3⟩ := h3
      have hcc := ConcatC8_any (r 8) [(s0, 1, bv [1]), (.slice (some ⟨g, 0, none⟩) 32 32, 32, bv xs), (.slice (some ⟨g + 1, 0, none⟩) 32 32, 32, bv ys)] wx hs3 (by
        intro p hp
        simp only [List.mem_cons, List.not_mem_nil, or_false] at hp
        rcases hp with rfl | rfl | rfl
        · exact hs0
        · exact HR1.out.keep hG
        · exact HR2.out.keep hG) (by simp [sumNC8]) (by simp)
      go_simp
      refine hcc.mono ?_
      rintro e wy ⟨v', rfl, ho, hb⟩
      refine ⟨_, rfl, hb, ?_⟩
      have ho' := own_rd ho (fun u hu => by
        simp only [List.flatMap_cons, List.flatMap_nil, List.append_nil, List.mem_append] at hu
        rcases hu with hu | hu | hu <;> exact bv_one _ _ hu)
      have e2 : bv (1 :: (xs ++ ys)) = bv [1] ++ (bv xs ++ bv ys) := by simp [bv]
      refine ⟨?_, fun q hq => Nat.le_trans hB0 (Nat.le_trans hG.size (own_block ho q hq))⟩
      rw [e2]
      simp only [List.flatMap_cons, List.flatMap_nil, List.append_nil, sumNC8, List.map_cons, List.map_nil, List.sum_cons, List.sum_nil] at ho'
      exact ho'
    refine ⟨fun r wx hG hs hq hf => ?_, ?_⟩
    · have h4 : RdB wx B (r 9) 65 (bv (1 :: (xs ++ ys))) := hf.1
      refine (if_pos rfl).symm ▸ ?_
      clear hs hq hf
      unfold gives
      go_simp
      exact ⟨Below.refl _ _, h4⟩
    exact trivial
  case hend =>
    intro u wz hG hfin
    have z5 : RdB wz B (u 5) 65 (bv (1 :: (xs ++ ys))) := hfin 5 (by decide) (by kernel_rfl)
    clear hfin
    simp only [fill]
    have HZ := Lib.hid (And.intro z5 (HB0.out.trans (hG.mono HB0.out.size)))
    obtain ⟨a5, c5, h5⟩ := z5.form
    rw [h5] at HZ ⊢
    clear z5 hG h5
    go_simp
    go_wp2_with fail
    go_ret
    exact ⟨_, rfl, by rw [show (xs ++ ys).length + 1 = 65 by simp; omega]; exact HZ.out.1, HZ.out.2⟩

/-- What each operation hands on. -/
def hr9F (W : Int) (B b off c : Nat) (x : List UInt8) (xa : Option Addr) (xc : Nat) : Nat → Value → World → Prop
  | 0, v, _ => v = .int .i64 W
  | 1, v, _ => v = .slice (some ⟨b, off, none⟩) 1 c
  | 2, v, _ => v = .pointer (some ⟨b, off, none⟩)
  | 3, v, _ => v = .slice xa x.length xc
  | 4, v, _ => v = .agg (bv (leafH W x)).toArray
  | 5, v, _ => v = .slice (some ⟨b, off, none⟩) 1 c
  | 6, v, _ => v = .pointer (some ⟨b, off, none⟩)
  | 7, v, _ => v = .slice xa x.length xc
  | 8, v, w => RdB w B v (x.length + 1) (bv (0 :: x))
  | 9, v, w => ∃ a c, v = .agg (tcs (leafH W x) (.slice a (x.length + 1) c) (.pointer none) (.pointer none)).toArray ∧ RdB w B (.slice a (x.length + 1) c) (x.length + 1) (bv (0 :: x))
  | 10, v, w => TrB w W B v [x]
  | 11, v, w => TrB w W B v [x]
  | _, _, _ => True
/-- What each operation hands on. -/
def hr4F (W : Int) (B b off c n K : Nat) (l : List (List UInt8)) : Nat → Value → World → Prop
  | 0, v, _ => v = .int .i64 W
  | 1, v, _ => v = .slice (some ⟨b, off, none⟩) n c
  | 2, v, _ => v = .int .i64 K
  | 3, v, _ => v = .slice (some ⟨b, off, none⟩) K c
  | 4, v, w => TrB w W B v (l.take K)
  | 5, v, _ => v = .int .i64 W
  | 6, v, _ => v = .slice (some ⟨b, off, none⟩) n c
  | 7, v, _ => v = .int .i64 K
  | 8, v, _ => v = .slice (some ⟨b, off + K, none⟩) (n - K) (c - K)
  | 9, v, w => TrB w W B v (l.drop K)
  | 10, v, w => TrB w W B v (l.take K)
  | 11, v, w => TrB w W B v (l.drop K)
  | _, _, _ => True
/-- What each operation hands on. -/
def hr5F (W : Int) (B g1 g2 : Nat) (l : List (List UInt8)) (ra rb : List UInt8) : Nat → Value → World → Prop
  | 0, v, _ => v = .int .i64 W
  | 1, v, _ => v = .pointer (some ⟨g1, 0, none⟩)
  | 2, v, _ => v = .pointer (some ⟨g1, 0, none⟩)
  | 3, v, _ => v = .pointer (some ⟨g1, 0, none⟩)
  | 4, v, _ => v = .agg (bv ra).toArray
  | 5, v, _ => v = .pointer (some ⟨g2, 0, none⟩)
  | 6, v, _ => v = .pointer (some ⟨g2, 0, none⟩)
  | 7, v, _ => v = .pointer (some ⟨g2, 0, none⟩)
  | 8, v, _ => v = .agg (bv rb).toArray
  | 9, v, _ => v = .agg (bv (nodeH W ra rb)).toArray
  | 10, v, _ => v = .pointer (some ⟨g1, 0, none⟩)
  | 11, v, _ => v = .pointer (some ⟨g1, 0, none⟩)
  | 12, v, _ => v = .pointer (some ⟨g1, 0, none⟩)
  | 13, v, _ => v = .agg (bv ra).toArray
  | 14, v, _ => v = .pointer (some ⟨g2, 0, none⟩)
  | 15, v, _ => v = .pointer (some ⟨g2, 0, none⟩)
  | 16, v, _ => v = .pointer (some ⟨g2, 0, none⟩)
  | 17, v, _ => v = .agg (bv rb).toArray
  | 18, v, w => RdB w B v 65 (bv (1 :: (ra ++ rb)))
  | 19, v, _ => v = .pointer (some ⟨g1, 0, none⟩)
  | 20, v, _ => v = .pointer (some ⟨g2, 0, none⟩)
  | 21, v, w => ∃ a c, v = .agg (tcs (nodeH W ra rb) (.slice a 65 c) (.pointer (some ⟨g1, 0, none⟩)) (.pointer (some ⟨g2, 0, none⟩))).toArray ∧ RdB w B (.slice a 65 c) 65 (bv (1 :: (ra ++ rb)))
  | 22, v, w => TrB w W B v l
  | 23, v, w => TrB w W B v l
  | _, _, _ => True

set_option maxHeartbeats 8000000 in
set_option maxRecDepth 100000 in
theorem grownB_any (W : Int) (hW : -9223372036854775808 ≤ W ∧ W ≤ 9223372036854775807) : ∀ (f : Nat) (B : Nat) (l : List (List UInt8)) (v : Value) (w : World), l.length ≤ f → B ≤ w.heap.size → l.length ≤ 4294967296 → (∀ t ∈ l, t.length ≤ 140737488351232) → Txw w v l → Tabs w →
    Calls Tryd.prog 24 #[.int .i64 W, v] w fun e w' => ∃ p, e = .returned p ∧ TrB w' W B p l ∧ Below w.heap.size w w' := by
  intro f
  induction f with
  | zero =>
    intro B l v w hf hBs hn hts hv hT
    have : l = [] := List.eq_nil_of_length_eq_zero (by omega)
    subst this
    obtain ⟨a, c, rfl⟩ := hv.form
    go_enter Tryd.func24, Tryd.ntmps24
    go_wp2_with fail
    go_ret
    exact ⟨_, rfl, TrB.nil, Below.refl _ _⟩
  | succ f ih =>
    intro B l v w hf hBs hn hts hv hT
    by_cases h0 : l.length = 0
    · have : l = [] := List.eq_nil_of_length_eq_zero h0
      subst this
      obtain ⟨a, c, rfl⟩ := hv.form
      clear ih
      go_enter Tryd.func24, Tryd.ntmps24
      go_wp2_with fail
      go_ret
      exact ⟨_, rfl, TrB.nil, Below.refl _ _⟩
    obtain ⟨b, off, c, rfl, hc, hat⟩ := hv.at (by omega)
    by_cases h1 : l.length = 1
    · obtain ⟨x, rfl⟩ := List.length_eq_one_iff.1 h1
      obtain ⟨xa, xc, hcx, hrx⟩ := hat 0 x rfl
      rw [Nat.add_zero] at hcx
      have HC := Lib.hid (fun wx (hb : Below w.heap.size w wx) => (hb.cell (p := ⟨b, off, none⟩) (World.block_lt_of_cell? w _ hcx)).trans hcx)
      have hxl := hts x (by simp)
      have HLF := Lib.hid (fun wx (hb : Below w.heap.size w wx) => Leaf_any W x (.slice xa x.length xc) wx hW (by omega) (hrx.keep hb) (hT.keepB hb))
      have HLT := Lib.hid (fun wx (hb : Below w.heap.size w wx) => leafTextB_any B x (.slice xa x.length xc) wx (by have := hb.size; omega) (by omega) (hrx.keep hb))
      clear hat hcx hrx hT hv ih hts hf hn
      rw [show ([x] : List (List UInt8)).length = 1 from rfl] at hc ⊢
      go_enter Tryd.func24, Tryd.ntmps24
      go_upto_region 9 with fail
      refine wp_region_steps [some 55, some 56, some 57, some 58, some 59, some 60, some 61, some 62, some 63, some 64, some 65, some 4] [] (hr9F W B b off c x xa xc) (fun _ wx wy => Below wx.heap.size wx wy) (fun wx => Below w.heap.size w wx) (by kernel_rfl) (by kernel_rfl) rfl (by kernel_rfl) (Below.refl _ _).drew (fun _ wx => Below.refl _ _) (fun _ wx wy h k => h.trans (k.mono h.size)) ?hF ?hstep ?hend
      case hF =>
        exact ⟨fun _ _ _ _ _ _ h => h, ⟨fun _ _ _ _ _ _ h => h, ⟨fun _ _ _ _ _ _ h => h, ⟨fun _ _ _ _ _ _ h => h, ⟨fun _ _ _ _ _ _ h => h, ⟨fun _ _ _ _ _ _ h => h, ⟨fun _ _ _ _ _ _ h => h, ⟨fun _ _ _ _ _ _ h => h, ⟨fun _ _ _ _ _ k h => RdB.keep h k, ⟨fun _ _ _ _ _ k h => by obtain ⟨a, c, e, q⟩ := h; exact ⟨a, c, e, q.keep k⟩, ⟨fun _ _ _ _ _ k h => TrB.keep h k, ⟨fun _ _ _ _ _ k h => TrB.keep h k, trivial⟩⟩⟩⟩⟩⟩⟩⟩⟩⟩⟩⟩
      case hstep =>
        refine ⟨fun r wx hG hs hq hf => ?_, ?_⟩
        · have e0 : r 0 = .int .i64 W := hs 0 rfl
          refine (if_pos rfl).symm ▸ ?_
          clear hs hq hf
          unfold gives
          go_simp
          exact ⟨Below.refl _ _, rfl⟩
        refine ⟨fun r wx hG hs hq hf => ?_, ?_⟩
        · have e1 : r 1 = .slice (some ⟨b, off, none⟩) 1 c := hs 1 rfl
          refine (if_pos rfl).symm ▸ ?_
          clear hs hq hf
          unfold gives
          go_simp
          exact ⟨Below.refl _ _, rfl⟩
        refine ⟨fun r wx hG hs hq hf => ?_, ?_⟩
        · have h1 : r 56 = .slice (some ⟨b, off, none⟩) 1 c := hf.1
          refine (if_pos rfl).symm ▸ ?_
          clear hs hq hf
          unfold gives
          go_simp
          exact ⟨Below.refl _ _, rfl⟩
        refine ⟨fun r wx hG hs hq hf => ?_, ?_⟩
        · have h2 : r 57 = .pointer (some ⟨b, off, none⟩) := hf.1
          refine (if_pos rfl).symm ▸ ?_
          clear hs hq hf
          unfold gives
          have hcl := HC.out wx hG
          go_simp
          exact ⟨Below.refl _ _, rfl⟩
        refine ⟨fun r wx hG hs hq hf => ?_, ?_⟩
        · have h0 : r 55 = .int .i64 W := hf.1
          have h3 : r 58 = .slice xa x.length xc := hf.2.1
          refine (if_pos rfl).symm ▸ ?_
          clear hs hq hf
          unfold gives
          go_simp
          refine (HLF.out wx hG).mono ?_
          rintro e wy ⟨rfl, hb1⟩
          exact ⟨_, rfl, hb1, rfl⟩
        refine ⟨fun r wx hG hs hq hf => ?_, ?_⟩
        · have e1 : r 1 = .slice (some ⟨b, off, none⟩) 1 c := hs 1 rfl
          refine (if_pos rfl).symm ▸ ?_
          clear hs hq hf
          unfold gives
          go_simp
          exact ⟨Below.refl _ _, rfl⟩
        refine ⟨fun r wx hG hs hq hf => ?_, ?_⟩
        · have h5 : r 60 = .slice (some ⟨b, off, none⟩) 1 c := hf.1
          refine (if_pos rfl).symm ▸ ?_
          clear hs hq hf
          unfold gives
          go_simp
          exact ⟨Below.refl _ _, rfl⟩
        refine ⟨fun r wx hG hs hq hf => ?_, ?_⟩
        · have h6 : r 61 = .pointer (some ⟨b, off, none⟩) := hf.1
          refine (if_pos rfl).symm ▸ ?_
          clear hs hq hf
          unfold gives
          have hcl := HC.out wx hG
          go_simp
          exact ⟨Below.refl _ _, rfl⟩
        refine ⟨fun r wx hG hs hq hf => ?_, ?_⟩
        · have h7 : r 62 = .slice xa x.length xc := hf.1
          refine (if_pos rfl).symm ▸ ?_
          clear hs hq hf
          unfold gives
          go_simp
          refine (HLT.out wx hG).mono ?_
          rintro e wy ⟨v', rfl, hq1, hb1⟩
          exact ⟨_, rfl, hb1, hq1⟩
        refine ⟨fun r wx hG hs hq hf => ?_, ?_⟩
        · have h4 : r 59 = .agg (bv (leafH W x)).toArray := hf.1
          have h8 : RdB wx B (r 63) (x.length + 1) (bv (0 :: x)) := hf.2.1
          refine (if_pos rfl).symm ▸ ?_
          clear hs hq hf
          unfold gives
          obtain ⟨a, c, hv⟩ := h8.form
          rw [hv] at h8
          refine gives_buildt 63 _ rfl (tcs (leafH W x) (.slice a (x.length + 1) c) (.pointer none) (.pointer none)).toArray (by simp only [List.map_toArray, List.map_cons, List.map_nil, rd_tmp, h4, hv]; exact built_tree2 _ _ _ _ (leafH_length W x)) ?_
          exact ⟨Below.refl _ _, a, c, rfl, h8⟩
        refine ⟨fun r wx hG hs hq hf => ?_, ?_⟩
        · have h9 : ∃ a c, (r 64) = .agg (tcs (leafH W x) (.slice a (x.length + 1) c) (.pointer none) (.pointer none)).toArray ∧ RdB wx B (.slice a (x.length + 1) c) (x.length + 1) (bv (0 :: x)) := hf.1
          refine (if_pos rfl).symm ▸ ?_
          clear hs hq hf
          unfold gives
          obtain ⟨a, c, hv, hq⟩ := h9
          go_simp
          have hb9 : Below wx.heap.size wx (wx.alloc (.cells (tcs (leafH W x) (.slice a (x.length + 1) c) (.pointer none) (.pointer none)).toArray 63)) := (Below.refl _ _).alloc (Nat.le_refl _) _
          exact ⟨hb9, TrB.node _ [x] a c (.pointer none) (.pointer none) (by simp) (by first | omega | (have := hG.size; omega)) (heap_alloc_new _ _) (hq.alloc _) TrB.nil TrB.nil⟩
        refine ⟨fun r wx hG hs hq hf => ?_, ?_⟩
        · have h10 : TrB wx W B (r 65) [x] := hf.1
          have h8 : RdB wx B (r 63) (x.length + 1) (bv (0 :: x)) := hf.2.1
          refine (if_pos rfl).symm ▸ ?_
          clear hs hq hf
          unfold gives
          go_simp
          exact ⟨Below.refl _ _, h10⟩
        exact trivial
      case hend =>
        intro u wz hG hfin
        have z11 : TrB wz W B (u 11) [x] := hfin 11 (by decide) (by kernel_rfl)
        clear hfin
        simp only [fill]
        have HZ := Lib.hid (And.intro z11 hG)
        obtain ⟨p11, e11⟩ := z11.form
        rw [e11] at HZ ⊢
        clear z11 hG e11
        go_simp
        go_wp2_with fail
        go_ret
        exact ⟨_, rfl, HZ.out.1, HZ.out.2⟩

    · obtain ⟨n, hln⟩ : ∃ n, n = l.length := ⟨_, rfl⟩
      have z1 : ((n : Int) == 0) = false := by simp; omega
      have z1b : ((n : Int) == 1) = false := by simp; omega
      have z2 : IntKind.i64.wrap ((n : Int) - 1) = ((n - 1 : Nat) : Int) := (IntWalk.i64_in _ (by omega)).trans (by omega)
      have z2b : IntKind.u64.wrap ((n - 1 : Nat) : Int) = ((n - 1 : Nat) : Int) := IntWalk.u64_in _ (by omega)
      obtain ⟨hb1, hb64, htop⟩ := top_len n (by omega) (by omega)
      have hlen2 := fun wx => Tryd.bits_Len ((n - 1 : Nat) : Int) wx (by omega) (by omega)
      rw [Int.toNat_natCast] at hlen2
      have htl := top_lt n (by omega)
      have htp := top_pos n
      obtain ⟨K, hK⟩ : ∃ k, k = top n := ⟨_, rfl⟩
      rw [← hK] at htop htl htp
      obtain ⟨d, hd⟩ : ∃ d, Lib.bitLen (n - 1) = d + 1 := ⟨Lib.bitLen (n - 1) - 1, by omega⟩
      rw [hd] at hlen2 hb64
      rw [hd, Nat.add_sub_cancel] at htop
      have z3 : (1 : Int) * 2 ^ d = (K : Int) := by rw [htop]; simp
      have z3b : (2 : Int) ^ d = (K : Int) := by rw [htop]; simp
      have z4 : IntKind.i64.wrap (K : Int) = (K : Int) := IntWalk.i64_in _ (by omega)
      have z5 : IntKind.i64.wrap (((d + 1 : Nat) : Int) - 1) = (d : Int) := (IntWalk.i64_in _ (by omega)).trans (by omega)
      have z5b : IntKind.i64.wrap ((d : Int) + 1 - 1) = (d : Int) := (IntWalk.i64_in _ (by omega)).trans (by omega)
      have z6 : (d : Int) ≤ 64 := by omega
      have htk : (l.take K).length = K := by rw [List.length_take]; omega
      have hdk : (l.drop K).length = n - K := by rw [List.length_drop, hln]
      have HL0 := Lib.hid (fun wx (hb : Below w.heap.size w wx) => ih B (l.take K) (.slice (some ⟨b, off, none⟩) K c) wx (by omega) (by have := hb.size; omega) (by omega) (fun t ht => hts t (List.mem_of_mem_take ht)) ((hv.take rfl K (by omega)).keep hb) (hT.keepB hb))
      have HR0 := Lib.hid (fun wx (hb : Below w.heap.size w wx) => ih B (l.drop K) (.slice (some ⟨b, off + K, none⟩) (l.length - K) (c - K)) wx (by omega) (by have := hb.size; omega) (by omega) (fun t ht => hts t (List.mem_of_mem_drop ht)) ((hv.drop rfl K (by omega)).keep hb) (hT.keepB hb))
      rw [← hln] at HR0 hc ⊢
      have HLT := Lib.hid (And.intro (show 0 < (l.take K).length by omega) (show 0 < (l.drop K).length by omega))
      have HLL := Lib.hid (show 2 ≤ l.length ∧ K = top l.length from ⟨by omega, by rw [hK, hln]⟩)
      have HT := Lib.hid hT
      have HBS := Lib.hid hBs
      have HW := Lib.hid hW
      have hnn : n ≤ 4294967296 := by omega
      clear hat hT hW hv ih hts hf h0 h1 htop hd hln hK htk hdk hn
      go_enter Tryd.func24, Tryd.ntmps24
      go_wp2_with fail
      refine (hlen2 _).mono ?_
      rintro e w1 ⟨rfl, rfl⟩
      go_upto_region 4 with fail
      refine wp_region_steps [some 18, some 19, some 20, some 21, some 22, some 23, some 24, some 25, some 26, some 27, some 7, some 8] [] (hr4F W B b off c n K l) (fun _ wx wy => Below wx.heap.size wx wy) (fun wx => Below w1.heap.size w1 wx) (by kernel_rfl) (by kernel_rfl) rfl (by kernel_rfl) (Below.refl _ _).drew (fun _ wx => Below.refl _ _) (fun _ wx wy h k => h.trans (k.mono h.size)) ?hF ?hstep ?hend
      case hF =>
        exact ⟨fun _ _ _ _ _ _ h => h, ⟨fun _ _ _ _ _ _ h => h, ⟨fun _ _ _ _ _ _ h => h, ⟨fun _ _ _ _ _ _ h => h, ⟨fun _ _ _ _ _ k h => TrB.keep h k, ⟨fun _ _ _ _ _ _ h => h, ⟨fun _ _ _ _ _ _ h => h, ⟨fun _ _ _ _ _ _ h => h, ⟨fun _ _ _ _ _ _ h => h, ⟨fun _ _ _ _ _ k h => TrB.keep h k, ⟨fun _ _ _ _ _ k h => TrB.keep h k, ⟨fun _ _ _ _ _ k h => TrB.keep h k, trivial⟩⟩⟩⟩⟩⟩⟩⟩⟩⟩⟩⟩
      case hstep =>
        refine ⟨fun r wx hG hs hq hf => ?_, ?_⟩
        · have e0 : r 0 = .int .i64 W := hs 0 rfl
          refine (if_pos rfl).symm ▸ ?_
          clear hs hq hf
          unfold gives
          go_simp
          exact ⟨Below.refl _ _, rfl⟩
        refine ⟨fun r wx hG hs hq hf => ?_, ?_⟩
        · have e1 : r 1 = .slice (some ⟨b, off, none⟩) n c := hs 1 rfl
          refine (if_pos rfl).symm ▸ ?_
          clear hs hq hf
          unfold gives
          go_simp
          exact ⟨Below.refl _ _, rfl⟩
        refine ⟨fun r wx hG hs hq hf => ?_, ?_⟩
        · have e6 : r 6 = .int .i64 K := hs 6 rfl
          refine (if_pos rfl).symm ▸ ?_
          clear hs hq hf
          unfold gives
          go_simp
          exact ⟨Below.refl _ _, rfl⟩
        refine ⟨fun r wx hG hs hq hf => ?_, ?_⟩
        · have h1 : r 19 = .slice (some ⟨b, off, none⟩) n c := hf.1
          have h2 : r 20 = .int .i64 K := hf.2.1
          refine (if_pos rfl).symm ▸ ?_
          clear hs hq hf
          unfold gives
          have y1 : (0 : Int) ≤ (K : Int) := by omega
          have y2 : (K : Int) ≤ (c : Int) := by omega
          go_simp
          exact ⟨Below.refl _ _, rfl⟩
        refine ⟨fun r wx hG hs hq hf => ?_, ?_⟩
        · have h0 : r 18 = .int .i64 W := hf.1
          have h3 : r 21 = .slice (some ⟨b, off, none⟩) K c := hf.2.1
          refine (if_pos rfl).symm ▸ ?_
          clear hs hq hf
          unfold gives
          go_simp
          refine (HL0.out wx hG).mono ?_
          rintro e wy ⟨p, rfl, hq1, hb1⟩
          exact ⟨_, rfl, hb1, hq1⟩
        refine ⟨fun r wx hG hs hq hf => ?_, ?_⟩
        · have e0 : r 0 = .int .i64 W := hs 0 rfl
          refine (if_pos rfl).symm ▸ ?_
          clear hs hq hf
          unfold gives
          go_simp
          exact ⟨Below.refl _ _, rfl⟩
        refine ⟨fun r wx hG hs hq hf => ?_, ?_⟩
        · have e1 : r 1 = .slice (some ⟨b, off, none⟩) n c := hs 1 rfl
          refine (if_pos rfl).symm ▸ ?_
          clear hs hq hf
          unfold gives
          go_simp
          exact ⟨Below.refl _ _, rfl⟩
        refine ⟨fun r wx hG hs hq hf => ?_, ?_⟩
        · have e6 : r 6 = .int .i64 K := hs 6 rfl
          refine (if_pos rfl).symm ▸ ?_
          clear hs hq hf
          unfold gives
          go_simp
          exact ⟨Below.refl _ _, rfl⟩
        refine ⟨fun r wx hG hs hq hf => ?_, ?_⟩
        · have h6 : r 24 = .slice (some ⟨b, off, none⟩) n c := hf.1
          have h7 : r 25 = .int .i64 K := hf.2.1
          refine (if_pos rfl).symm ▸ ?_
          clear hs hq hf
          unfold gives
          have y1 : (0 : Int) ≤ (K : Int) := by omega
          have y2 : (K : Int) ≤ (n : Int) := by omega
          have y3 : (n : Int) ≤ (c : Int) := by omega
          have y4 : ¬ (c = K) := by omega
          go_simp
          exact ⟨Below.refl _ _, rfl⟩
        refine ⟨fun r wx hG hs hq hf => ?_, ?_⟩
        · have h5 : r 23 = .int .i64 W := hf.1
          have h8 : r 26 = .slice (some ⟨b, off + K, none⟩) (n - K) (c - K) := hf.2.1
          have h4 : TrB wx W B (r 22) (l.take K) := hf.2.2.1
          refine (if_pos rfl).symm ▸ ?_
          clear hs hq hf
          unfold gives
          go_simp
          refine (HR0.out wx hG).mono ?_
          rintro e wy ⟨p, rfl, hq1, hb1⟩
          exact ⟨_, rfl, hb1, hq1⟩
        refine ⟨fun r wx hG hs hq hf => ?_, ?_⟩
        · have h4 : TrB wx W B (r 22) (l.take K) := hf.1
          have h9 : TrB wx W B (r 27) (l.drop K) := hf.2.1
          refine (if_pos rfl).symm ▸ ?_
          clear hs hq hf
          unfold gives
          go_simp
          exact ⟨Below.refl _ _, h4⟩
        refine ⟨fun r wx hG hs hq hf => ?_, ?_⟩
        · have h9 : TrB wx W B (r 27) (l.drop K) := hf.1
          have h10 : TrB wx W B (r 7) (l.take K) := hf.2.1
          refine (if_pos rfl).symm ▸ ?_
          clear hs hq hf
          unfold gives
          go_simp
          exact ⟨Below.refl _ _, h9⟩
        exact trivial
      case hend =>
        intro u wz hG hfin
        have z10 : TrB wz W B (u 10) (l.take K) := hfin 10 (by decide) (by kernel_rfl)
        have z11 : TrB wz W B (u 11) (l.drop K) := hfin 11 (by decide) (by kernel_rfl)
        clear hfin
        simp only [fill]
        obtain ⟨g1, a1, c1, pl1, pr1, e1, hg1, hrd1, _, _⟩ := z10.inv (HLT.out.1)
        obtain ⟨g2, a2, c2, pl2, pr2, e2, hg2, hrd2, _, _⟩ := z11.inv (HLT.out.2)
        rw [e1] at z10
        rw [e2] at z11
        rw [e1, e2]
        have HRG1 := Lib.hid (fun wx (hb : Below wz.heap.size wz wx) => trow_rng W ((hb.block _ (Array.getElem?_eq_some_iff.1 hg1).1).trans hg1))
        have HRG2 := Lib.hid (fun wx (hb : Below wz.heap.size wz wx) => trow_rng W ((hb.block _ (Array.getElem?_eq_some_iff.1 hg2).1).trans hg2))
        have HTL := Lib.hid (And.intro z10 z11)
        have HBZ := Lib.hid hG
        have HND := Lib.hid (fun wx (hb : Below wz.heap.size wz wx) => Node_any W (rt (hw W) (l.take K)) (rt (hw W) (l.drop K)) wx (rt32 W _) (rt32 W _) HW.out (HT.out.keepB (HBZ.out.trans (hb.mono HBZ.out.size))))
        have HNT := Lib.hid (fun wx (hb : Below wz.heap.size wz wx) => nodeTextB_any B (rt (hw W) (l.take K)) (rt (hw W) (l.drop K)) wx (by have := hb.size; have := HBZ.out.size; have := HBS.out; omega) (rt32 W _) (rt32 W _))
        clear hg1 hg2 hrd1 hrd2 z10 z11 hG e1 e2
        go_simp
        go_upto_region 5 with fail
        obtain ⟨w4, hw4⟩ : ∃ x, x = wz := ⟨_, rfl⟩
        subst hw4
        have HLK := Lib.hid (show 2 ≤ l.length ∧ (tx (hw W) l).length = 65 ∧ rt (hw W) l = nodeH W (rt (hw W) (l.take K)) (rt (hw W) (l.drop K)) ∧ tx (hw W) l = 1 :: (rt (hw W) (l.take K) ++ rt (hw W) (l.drop K)) from ⟨HLL.out.1, tx_length _ (hw32 W) l HLL.out.1, by rw [rt_more _ _ HLL.out.1, ← HLL.out.2]; rfl, by rw [tx_more _ _ HLL.out.1, txN, ← HLL.out.2]⟩)
        have HRAB := Lib.hid (And.intro (rt32 W (l.take K)) (rt32 W (l.drop K)))
        generalize rt (hw W) (l.take K) = ra at *
        generalize rt (hw W) (l.drop K) = rb at *
        refine wp_region_steps [some 28, some 29, some 30, some 31, some 32, some 33, some 34, some 35, some 36, some 37, some 38, some 39, some 40, some 41, some 42, some 43, some 44, some 45, some 46, some 47, some 48, some 49, some 50, some 4] [] (hr5F W B g1 g2 l ra rb) (fun _ wx wy => Below wx.heap.size wx wy) (fun wx => Below w4.heap.size w4 wx) (by kernel_rfl) (by kernel_rfl) rfl (by kernel_rfl) (Below.refl _ _).drew (fun _ wx => Below.refl _ _) (fun _ wx wy h k => h.trans (k.mono h.size)) ?hF ?hstep ?hend
        case hF =>
          exact ⟨fun _ _ _ _ _ _ h => h, ⟨fun _ _ _ _ _ _ h => h, ⟨fun _ _ _ _ _ _ h => h, ⟨fun _ _ _ _ _ _ h => h, ⟨fun _ _ _ _ _ _ h => h, ⟨fun _ _ _ _ _ _ h => h, ⟨fun _ _ _ _ _ _ h => h, ⟨fun _ _ _ _ _ _ h => h, ⟨fun _ _ _ _ _ _ h => h, ⟨fun _ _ _ _ _ _ h => h, ⟨fun _ _ _ _ _ _ h => h, ⟨fun _ _ _ _ _ _ h => h, ⟨fun _ _ _ _ _ _ h => h, ⟨fun _ _ _ _ _ _ h => h, ⟨fun _ _ _ _ _ _ h => h, ⟨fun _ _ _ _ _ _ h => h, ⟨fun _ _ _ _ _ _ h => h, ⟨fun _ _ _ _ _ _ h => h, ⟨fun _ _ _ _ _ k h => RdB.keep h k, ⟨fun _ _ _ _ _ _ h => h, ⟨fun _ _ _ _ _ _ h => h, ⟨fun _ _ _ _ _ k h => by obtain ⟨a, c, e, q⟩ := h; exact ⟨a, c, e, q.keep k⟩, ⟨fun _ _ _ _ _ k h => TrB.keep h k, ⟨fun _ _ _ _ _ k h => TrB.keep h k, trivial⟩⟩⟩⟩⟩⟩⟩⟩⟩⟩⟩⟩⟩⟩⟩⟩⟩⟩⟩⟩⟩⟩⟩⟩
        case hstep =>
          refine ⟨fun r wx hG hs hq hf => ?_, ?_⟩
          · have e0 : r 0 = .int .i64 W := hs 0 rfl
            refine (if_pos rfl).symm ▸ ?_
            clear hs hq hf
            unfold gives
            go_simp
            exact ⟨Below.refl _ _, rfl⟩
          refine ⟨fun r wx hG hs hq hf => ?_, ?_⟩
          · have e7 : r 7 = .pointer (some ⟨g1, 0, none⟩) := hs 7 rfl
            refine (if_pos rfl).symm ▸ ?_
            clear hs hq hf
            unfold gives
            go_simp
            exact ⟨Below.refl _ _, rfl⟩
          refine ⟨fun r wx hG hs hq hf => ?_, ?_⟩
          · have h1 : r 29 = .pointer (some ⟨g1, 0, none⟩) := hf.1
            refine (if_pos rfl).symm ▸ ?_
            clear hs hq hf
            unfold gives
            go_simp
            exact ⟨Below.refl _ _, rfl⟩
          refine ⟨fun r wx hG hs hq hf => ?_, ?_⟩
          · have h2 : r 30 = .pointer (some ⟨g1, 0, none⟩) := hf.1
            refine (if_pos rfl).symm ▸ ?_
            clear hs hq hf
            unfold gives
            go_simp
            exact ⟨Below.refl _ _, rfl⟩
          refine ⟨fun r wx hG hs hq hf => ?_, ?_⟩
          · have h3 : r 31 = .pointer (some ⟨g1, 0, none⟩) := hf.1
            refine (if_pos rfl).symm ▸ ?_
            clear hs hq hf
            unfold gives
            refine gives_load_mid 35 _ rfl g1 0 h3 (bv _) _ (HRG1.out wx hG) Tryd.underlying35 rfl (hInfo' _ HRAB.out.1) ?_
            exact ⟨Below.refl _ _, rfl⟩
          refine ⟨fun r wx hG hs hq hf => ?_, ?_⟩
          · have e8 : r 8 = .pointer (some ⟨g2, 0, none⟩) := hs 8 rfl
            refine (if_pos rfl).symm ▸ ?_
            clear hs hq hf
            unfold gives
            go_simp
            exact ⟨Below.refl _ _, rfl⟩
          refine ⟨fun r wx hG hs hq hf => ?_, ?_⟩
          · have h5 : r 33 = .pointer (some ⟨g2, 0, none⟩) := hf.1
            refine (if_pos rfl).symm ▸ ?_
            clear hs hq hf
            unfold gives
            go_simp
            exact ⟨Below.refl _ _, rfl⟩
          refine ⟨fun r wx hG hs hq hf => ?_, ?_⟩
          · have h6 : r 34 = .pointer (some ⟨g2, 0, none⟩) := hf.1
            refine (if_pos rfl).symm ▸ ?_
            clear hs hq hf
            unfold gives
            go_simp
            exact ⟨Below.refl _ _, rfl⟩
          refine ⟨fun r wx hG hs hq hf => ?_, ?_⟩
          · have h7 : r 35 = .pointer (some ⟨g2, 0, none⟩) := hf.1
            refine (if_pos rfl).symm ▸ ?_
            clear hs hq hf
            unfold gives
            refine gives_load_mid 35 _ rfl g2 0 h7 (bv _) _ (HRG2.out wx hG) Tryd.underlying35 rfl (hInfo' _ HRAB.out.2) ?_
            exact ⟨Below.refl _ _, rfl⟩
          refine ⟨fun r wx hG hs hq hf => ?_, ?_⟩
          · have h0 : r 28 = .int .i64 W := hf.1
            have h4 : r 32 = .agg (bv ra).toArray := hf.2.1
            have h8 : r 36 = .agg (bv rb).toArray := hf.2.2.1
            refine (if_pos rfl).symm ▸ ?_
            clear hs hq hf
            unfold gives
            go_simp
            refine (HND.out wx hG).mono ?_
            rintro e wy ⟨rfl, hb1⟩
            exact ⟨_, rfl, hb1, rfl⟩
          refine ⟨fun r wx hG hs hq hf => ?_, ?_⟩
          · have e7 : r 7 = .pointer (some ⟨g1, 0, none⟩) := hs 7 rfl
            refine (if_pos rfl).symm ▸ ?_
            clear hs hq hf
            unfold gives
            go_simp
            exact ⟨Below.refl _ _, rfl⟩
          refine ⟨fun r wx hG hs hq hf => ?_, ?_⟩
          · have h10 : r 38 = .pointer (some ⟨g1, 0, none⟩) := hf.1
            refine (if_pos rfl).symm ▸ ?_
            clear hs hq hf
            unfold gives
            go_simp
            exact ⟨Below.refl _ _, rfl⟩
          refine ⟨fun r wx hG hs hq hf => ?_, ?_⟩
          · have h11 : r 39 = .pointer (some ⟨g1, 0, none⟩) := hf.1
            refine (if_pos rfl).symm ▸ ?_
            clear hs hq hf
            unfold gives
            go_simp
            exact ⟨Below.refl _ _, rfl⟩
          refine ⟨fun r wx hG hs hq hf => ?_, ?_⟩
          · have h12 : r 40 = .pointer (some ⟨g1, 0, none⟩) := hf.1
            refine (if_pos rfl).symm ▸ ?_
            clear hs hq hf
            unfold gives
            refine gives_load_mid 35 _ rfl g1 0 h12 (bv _) _ (HRG1.out wx hG) Tryd.underlying35 rfl (hInfo' _ HRAB.out.1) ?_
            exact ⟨Below.refl _ _, rfl⟩
          refine ⟨fun r wx hG hs hq hf => ?_, ?_⟩
          · have e8 : r 8 = .pointer (some ⟨g2, 0, none⟩) := hs 8 rfl
            refine (if_pos rfl).symm ▸ ?_
            clear hs hq hf
            unfold gives
            go_simp
            exact ⟨Below.refl _ _, rfl⟩
          refine ⟨fun r wx hG hs hq hf => ?_, ?_⟩
          · have h14 : r 42 = .pointer (some ⟨g2, 0, none⟩) := hf.1
            refine (if_pos rfl).symm ▸ ?_
            clear hs hq hf
            unfold gives
            go_simp
            exact ⟨Below.refl _ _, rfl⟩
          refine ⟨fun r wx hG hs hq hf => ?_, ?_⟩
          · have h15 : r 43 = .pointer (some ⟨g2, 0, none⟩) := hf.1
            refine (if_pos rfl).symm ▸ ?_
            clear hs hq hf
            unfold gives
            go_simp
            exact ⟨Below.refl _ _, rfl⟩
          refine ⟨fun r wx hG hs hq hf => ?_, ?_⟩
          · have h16 : r 44 = .pointer (some ⟨g2, 0, none⟩) := hf.1
            refine (if_pos rfl).symm ▸ ?_
            clear hs hq hf
            unfold gives
            refine gives_load_mid 35 _ rfl g2 0 h16 (bv _) _ (HRG2.out wx hG) Tryd.underlying35 rfl (hInfo' _ HRAB.out.2) ?_
            exact ⟨Below.refl _ _, rfl⟩
          refine ⟨fun r wx hG hs hq hf => ?_, ?_⟩
          · have h13 : r 41 = .agg (bv ra).toArray := hf.1
            have h17 : r 45 = .agg (bv rb).toArray := hf.2.1
            refine (if_pos rfl).symm ▸ ?_
            clear hs hq hf
            unfold gives
            go_simp
            refine (HNT.out wx hG).mono ?_
            rintro e wy ⟨v', rfl, hq1, hb1⟩
            rw [show (1 :: (ra ++ rb)).length = 65 by simp [HRAB.out.1, HRAB.out.2]] at hq1
            exact ⟨_, rfl, hb1, hq1⟩
          refine ⟨fun r wx hG hs hq hf => ?_, ?_⟩
          · have e7 : r 7 = .pointer (some ⟨g1, 0, none⟩) := hs 7 rfl
            refine (if_pos rfl).symm ▸ ?_
            clear hs hq hf
            unfold gives
            go_simp
            exact ⟨Below.refl _ _, rfl⟩
          refine ⟨fun r wx hG hs hq hf => ?_, ?_⟩
          · have e8 : r 8 = .pointer (some ⟨g2, 0, none⟩) := hs 8 rfl
            refine (if_pos rfl).symm ▸ ?_
            clear hs hq hf
            unfold gives
            go_simp
            exact ⟨Below.refl _ _, rfl⟩
          refine ⟨fun r wx hG hs hq hf => ?_, ?_⟩
          · have h9 : r 37 = .agg (bv (nodeH W ra rb)).toArray := hf.1
            have h18 : RdB wx B (r 46) 65 (bv (1 :: (ra ++ rb))) := hf.2.1
            have h19 : r 47 = .pointer (some ⟨g1, 0, none⟩) := hf.2.2.1
            have h20 : r 48 = .pointer (some ⟨g2, 0, none⟩) := hf.2.2.2.1
            refine (if_pos rfl).symm ▸ ?_
            clear hs hq hf
            unfold gives
            obtain ⟨a, c, hv⟩ := h18.form
            rw [hv] at h18
            refine gives_buildt 63 _ rfl (tcs (nodeH W ra rb) (.slice a 65 c) (.pointer (some ⟨g1, 0, none⟩)) (.pointer (some ⟨g2, 0, none⟩))).toArray (by simp only [List.map_toArray, List.map_cons, List.map_nil, rd_tmp, h9, hv, h19, h20]; exact built_tree4 _ _ _ _ _ _ (nodeH_length W ra rb)) ?_
            exact ⟨Below.refl _ _, a, c, rfl, h18⟩
          refine ⟨fun r wx hG hs hq hf => ?_, ?_⟩
          · have h21 : ∃ a c, (r 49) = .agg (tcs (nodeH W ra rb) (.slice a 65 c) (.pointer (some ⟨g1, 0, none⟩)) (.pointer (some ⟨g2, 0, none⟩))).toArray ∧ RdB wx B (.slice a 65 c) 65 (bv (1 :: (ra ++ rb))) := hf.1
            refine (if_pos rfl).symm ▸ ?_
            clear hs hq hf
            unfold gives
            obtain ⟨a, c, hv, hq⟩ := h21
            go_simp
            have hb9 : Below wx.heap.size wx (wx.alloc (.cells (tcs (nodeH W ra rb) (.slice a 65 c) (.pointer (some ⟨g1, 0, none⟩)) (.pointer (some ⟨g2, 0, none⟩))).toArray 63)) := (Below.refl _ _).alloc (Nat.le_refl _) _
            exact ⟨hb9, (by
              have hlk := HLK.out
              have hx := TrB.node (w := wx.alloc (.cells (tcs (nodeH W ra rb) (.slice a 65 c) (.pointer (some ⟨g1, 0, none⟩)) (.pointer (some ⟨g2, 0, none⟩))).toArray 63)) (W := W) (B := B) wx.heap.size l a c (.pointer (some ⟨g1, 0, none⟩)) (.pointer (some ⟨g2, 0, none⟩)) (by omega) (by have := hG.size; have := HBS.out; have := HBZ.out.size; omega) (by rw [trow, hlk.2.1, hlk.2.2.1]; exact heap_alloc_new _ _) (by rw [hlk.2.1, hlk.2.2.2]; exact hq.alloc _) (by rw [lo_more l hlk.1, ← HLL.out.2]; exact (HTL.out.1.keep hG).keep hb9) (by rw [ro_more l hlk.1, ← HLL.out.2]; exact (HTL.out.2.keep hG).keep hb9)
              exact hx)⟩
          refine ⟨fun r wx hG hs hq hf => ?_, ?_⟩
          · have h22 : TrB wx W B (r 50) l := hf.1
            have h18 : RdB wx B (r 46) 65 (bv (1 :: (ra ++ rb))) := hf.2.1
            refine (if_pos rfl).symm ▸ ?_
            clear hs hq hf
            unfold gives
            go_simp
            exact ⟨Below.refl _ _, h22⟩
          exact trivial
        case hend =>
          intro u wz hG hfin
          have z23 : TrB wz W B (u 23) l := hfin 23 (by decide) (by kernel_rfl)
          clear hfin
          simp only [fill]
          have HZ := Lib.hid (And.intro z23 (HBZ.out.trans (hG.mono HBZ.out.size)))
          obtain ⟨p23, e23⟩ := z23.form
          rw [e23] at HZ ⊢
          clear z23 hG e23
          go_simp
          go_wp2_with fail
          go_ret
          exact ⟨_, rfl, HZ.out.1, HZ.out.2⟩
end Go.Proofs.YtfibhmgjkooemaaDoor
