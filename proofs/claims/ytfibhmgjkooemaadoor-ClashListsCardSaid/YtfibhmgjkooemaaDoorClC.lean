/- clash: differ, meet, caught; bytes.Equal; a tree's root. (printed by gen/clc.py) -/
import Derived.Test.YtfibhmgjkooemaaDoorClB
import Derived.Test.YtfibhmgjkooemaaDoorRegE
import Derived.Recover
import Derived.Tactics2
namespace Go.Proofs.YtfibhmgjkooemaaDoor
open Go.RowKit Sha Root Path Clash

set_option maxRecDepth 100000 in
theorem bytesEqual_any (x y : List UInt8) (v u : Value) (w : World) (h1 : Rd w 1 v x.length (bv x)) (h2 : Rd w 1 u y.length (bv y)) :
    Calls Tryd.prog 40 #[v, u] w fun e w' => e = .returned (.bool (x == y)) ∧ w' = w := by
  have hs1 := string_of_bytes (P := Tryd.prog) (w := w) Tryd.underlying25 Tryd.underlying5 Tryd.underlying9 h1
  have hs2 := string_of_bytes (P := Tryd.prog) (w := w) Tryd.underlying25 Tryd.underlying5 Tryd.underlying9 h2
  obtain ⟨a, c, rfl⟩ := h1.form
  obtain ⟨a2, c2, rfl⟩ := h2.form
  clear h1 h2
  go_enter Tryd.func40, Tryd.ntmps40
  go_wp2_with fail
  go_ret
  exact ⟨rfl, rfl⟩

/-- What a clash panics with. -/
def fndP (va vb : Value) : List PanicEntry := [{ v := .iface 92 (.agg #[va, vb]), recovered := false }]
set_option maxRecDepth 100000 in
theorem differ_any (x y : List UInt8) (a a2 : Option Addr) (c c2 : Nat) (w : World) (h1 : Rd w 1 (.slice a x.length c) x.length (bv x)) (h2 : Rd w 1 (.slice a2 y.length c2) y.length (bv y)) :
    Calls Tryd.prog 47 #[.slice a x.length c, .slice a2 y.length c2] w fun e w' => e = (if x = y then .returned (.tuple #[]) else .panicked (fndP (.slice a x.length c) (.slice a2 y.length c2))) ∧ Below w.heap.size w w' := by
  have hq := bytesEqual_any x y _ _ w h1 h2
  generalize x.length = n at *
  generalize y.length = m at *
  clear h1 h2
  by_cases h : x = y
  · rw [if_pos h]
    rw [show (x == y) = true from beq_iff_eq.2 h] at hq
    clear h
    go_enter Tryd.func47, Tryd.ntmps47
    go_wp2_with fail
    refine hq.mono ?_
    rintro e w1 ⟨rfl, rfl⟩
    go_wp2_with fail
    go_end0
    exact ⟨rfl, Below.refl _ _⟩
  · rw [if_neg h]
    rw [show (x == y) = false from beq_eq_false_iff_ne.2 h] at hq
    clear h
    go_enter Tryd.func47, Tryd.ntmps47
    go_wp2_with fail
    refine hq.mono ?_
    rintro e w1 ⟨rfl, rfl⟩
    go_wp2_with fail
    exact ⟨rfl, rfl, Below.refl _ _⟩

set_option maxRecDepth 100000 in
set_option maxHeartbeats 1000000 in
theorem troot_any (W : Int) (p : Value) (l : List (List UInt8)) (w : World) (hW : -9223372036854775808 ≤ W ∧ W ≤ 9223372036854775807) (h : Tr w W p l) (hT : Tabs w) :
    Calls Tryd.prog 25 #[p, .int .i64 W] w fun e w' => e = .returned (.agg (bv (rt (hw W) l)).toArray) ∧ Below w.heap.size w w' := by
  have hz := (zero_of_info info32).1
  have hol := rt32 W l
  have HZ := Lib.hid (show (zs 32).length = 32 by simp [zs])
  by_cases h0 : l.length = 0
  · have : l = [] := List.eq_nil_of_length_eq_zero h0
    subst this
    obtain rfl := h.empty
    have H0 := Lib.hid (fun w' (hb : Below w.heap.size w w') => Empty_any W w' hW (hT.keepB hb))
    rw [show emptyH W = rt (hw W) [] from rfl] at H0
    generalize rt (hw W) [] = out at *
    clear h hT hW h0
    go_enter Tryd.func25, Tryd.ntmps25
    go_upto_region 1 with fail
    obtain ⟨w0, hw0⟩ : ∃ x : World, x = w.alloc (.cells (bv (zs 32)).toArray 35) := ⟨_, rfl⟩
    have hres0 : w0.heap[w.heap.size]? = some (.cells (bv (zs 32)).toArray 35 (0, 0)) := by rw [hw0]; exact heap_alloc_new _ _
    have hbw0 : Below w.heap.size w w0 := by rw [hw0]; exact (Below.refl _ _).alloc (Nat.le_refl _) _
    rw [← hw0]
    clear hw0
    have HX0 := Lib.hid (And.intro hres0 hbw0)
    clear hres0 hbw0
    go_wp2_with fail
    refine (H0.out _ HX0.out.2).mono ?_
    rintro e w1 ⟨rfl, hb1⟩
    have HX := Lib.hid (And.intro ((hb1.block _ (Array.getElem?_eq_some_iff.1 HX0.out.1).1).trans HX0.out.1) (And.intro (HX0.out.2.trans (hb1.mono HX0.out.2.size)) hol))
    clear hb1 HX0 hol
    go_wp2_with (with_reducible show wpList _ _ _ (⟨none, Op.store _ _ _, _, _, _, _⟩ :: _) _ _; refine wpList_store_whole rfl _ _ _ rfl w.heap.size _ rfl rfl _ _ HX.out.1 (hInfo' _ HX.out.2.2) (by rw [bv_length, bv_length, HX.out.2.2]; simp [zs]) (bv_one _) ?_; intro w9 HG9 hg9)
    refine bodyPost_ret (v := .agg (bv out).toArray) ?_ ?_ ?_
    · exact results_cell_row Tryd.results25 _ _ w.heap.size 35 _ (0, 0) _ rfl HG9.out Tryd.underlying35 rfl (hInfo _ HX.out.2.2)
    · rfl
    · exact ⟨rfl, below_grow HX.out.2.1 hg9 (Nat.le_refl _) (Array.getElem?_eq_some_iff.1 HX.out.1).1⟩
  · obtain ⟨g, a, c, pl, pr, rfl, hg, _, _, _⟩ := h.inv (by omega)
    have hgl := (Array.getElem?_eq_some_iff.1 hg).1
    have HRG := Lib.hid (trow_rng W ((heap_alloc_old w (.cells (bv (zs 32)).toArray 35) hgl).trans hg))
    generalize rt (hw W) l = out at *
    clear h hT hW h0 hg
    have HOL := Lib.hid hol
    clear hol
    go_enter Tryd.func25, Tryd.ntmps25
    go_upto_region 1 with fail
    have H7 := Lib.hid (heap_alloc_new w (.cells (bv (zs 32)).toArray 35))
    obtain ⟨w0, hw0⟩ : ∃ x : World, x = w.alloc (.cells (bv (zs 32)).toArray 35) := ⟨_, rfl⟩
    have hbw0 : Below w.heap.size w w0 := by rw [hw0]; exact (Below.refl _ _).alloc (Nat.le_refl _) _
    rw [← hw0] at HRG H7 ⊢
    have HB := Lib.hid hbw0
    clear hw0 hbw0
    go_wp2_with (first
      | (with_reducible show wpList _ _ _ (⟨some 12, _, _, _, _, _⟩ :: _) _ _; refine wpList_load_mid rfl _ _ rfl g 0 rfl (bv out) _ HRG.out Tryd.underlying35 rfl (hInfo' _ HOL.out) ?_)
      | (with_reducible show wpList _ _ _ (⟨none, Op.store _ _ _, _, _, _, _⟩ :: _) _ _; refine wpList_store_whole rfl _ _ _ rfl w.heap.size _ rfl rfl _ _ H7.out (hInfo' _ HOL.out) (by rw [bv_length, bv_length, HOL.out]; simp [zs]) (bv_one _) ?_; intro w9 HG9 hg9))
    refine bodyPost_ret (v := .agg (bv out).toArray) ?_ ?_ ?_
    · exact results_cell_row Tryd.results25 _ _ w.heap.size 35 _ (0, 0) _ rfl HG9.out Tryd.underlying35 rfl (hInfo _ HOL.out)
    · rfl
    · exact ⟨rfl, below_grow HB.out hg9 (Nat.le_refl _) (Array.getElem?_eq_some_iff.1 H7.out).1⟩

theorem lo_length (a b : List (List UInt8)) (h : a.length = b.length) : (lo a).length = (lo b).length ∧ (ro a).length = (ro b).length := by
  unfold lo ro
  rw [h]
  split
  · exact ⟨rfl, rfl⟩
  · exact ⟨by rw [List.length_take, List.length_take, h], by rw [List.length_drop, List.length_drop, h]⟩
theorem lo_lt (a : List (List UInt8)) (h : 0 < a.length) : (lo a).length < a.length ∧ (ro a).length < a.length := by
  unfold lo ro
  split
  · exact ⟨h, h⟩
  · have := top_lt a.length (by omega)
    have := top_pos a.length
    rw [List.length_take, List.length_drop]
    omega
theorem meet_lo (W : Int) (f : Nat) (a b : List (List UInt8)) (h0 : 0 < a.length) (hl : a.length = b.length) (ht : tx (hw W) a = tx (hw W) b) (p : List UInt8 × List UInt8) (hm : meetF (hw W) f (lo a) (lo b) = some p) : meetF (hw W) (f + 1) a b = some p := by
  by_cases h1 : a.length ≤ 1
  · rw [lo_one a h1, meet_nil] at hm; simp at hm
  · rw [lo_more a (by omega), lo_more b (by omega)] at hm
    exact meet_left _ f a b (by omega) ht p hm
theorem meet_ro (W : Int) (f : Nat) (a b : List (List UInt8)) (h0 : 0 < a.length) (hl : a.length = b.length) (ht : tx (hw W) a = tx (hw W) b) (hm : meetF (hw W) f (lo a) (lo b) = none) : meetF (hw W) (f + 1) a b = meetF (hw W) f (ro a) (ro b) := by
  by_cases h1 : a.length ≤ 1
  · rw [ro_one a h1, meet_nil]
    exact meet_one _ f a b (by omega) ht
  · rw [lo_more a (by omega), lo_more b (by omega)] at hm
    rw [ro_more a (by omega), ro_more b (by omega)]
    exact meet_right _ f a b (by omega) ht hm
/-- How meet ends. -/
def MeetE (w : World) (o : Option (List UInt8 × List UInt8)) (e : Ending) : Prop :=
  match o with
  | none => e = .returned (.tuple #[])
  | some p => ∃ va vb, e = .panicked (fndP va vb) ∧ Rd w 1 va p.1.length (bv p.1) ∧ Rd w 1 vb p.2.length (bv p.2)
/-- What each operation hands on. -/
def me1F (W : Int) (g1 g2 n c1 n2 c2 : Nat) (a1 a2 : Option Addr) (a b : List (List UInt8)) : Nat → Value → World → Prop
  | 0, v, _ => v = .pointer (some ⟨g1, 0, none⟩)
  | 1, v, _ => v = .pointer (some ⟨g1, 0, none⟩)
  | 2, v, _ => v = .pointer (some ⟨g1, 32, none⟩)
  | 3, v, _ => v = .slice a1 n c1
  | 4, v, _ => v = .pointer (some ⟨g2, 0, none⟩)
  | 5, v, _ => v = .pointer (some ⟨g2, 0, none⟩)
  | 6, v, _ => v = .pointer (some ⟨g2, 32, none⟩)
  | 7, v, _ => v = .slice a2 n2 c2
  | 8, v, _ => v = .tuple #[] ∧ tx (hw W) a = tx (hw W) b
  | _, _, _ => True
/-- What each operation hands on. -/
def me2F (W : Int) (f g1 g2 : Nat) (pl1 pl2 : Option Addr) (a b : List (List UInt8)) : Nat → Value → World → Prop
  | 0, v, _ => v = .pointer (some ⟨g1, 0, none⟩)
  | 1, v, _ => v = .pointer (some ⟨g1, 0, none⟩)
  | 2, v, _ => v = .pointer (some ⟨g1, 33, none⟩)
  | 3, v, _ => v = .pointer pl1
  | 4, v, _ => v = .pointer (some ⟨g2, 0, none⟩)
  | 5, v, _ => v = .pointer (some ⟨g2, 0, none⟩)
  | 6, v, _ => v = .pointer (some ⟨g2, 33, none⟩)
  | 7, v, _ => v = .pointer pl2
  | 8, v, _ => v = .tuple #[] ∧ meetF (hw W) f (lo a) (lo b) = none
  | _, _, _ => True
/-- What each operation hands on. -/
def me3F (W : Int) (f g1 g2 : Nat) (pr1 pr2 : Option Addr) (a b : List (List UInt8)) : Nat → Value → World → Prop
  | 0, v, _ => v = .pointer (some ⟨g1, 0, none⟩)
  | 1, v, _ => v = .pointer (some ⟨g1, 0, none⟩)
  | 2, v, _ => v = .pointer (some ⟨g1, 34, none⟩)
  | 3, v, _ => v = .pointer pr1
  | 4, v, _ => v = .pointer (some ⟨g2, 0, none⟩)
  | 5, v, _ => v = .pointer (some ⟨g2, 0, none⟩)
  | 6, v, _ => v = .pointer (some ⟨g2, 34, none⟩)
  | 7, v, _ => v = .pointer pr2
  | 8, v, _ => v = .tuple #[] ∧ meetF (hw W) f (ro a) (ro b) = none
  | _, _, _ => True

set_option maxHeartbeats 4000000 in
set_option maxRecDepth 100000 in
theorem meet_any (W : Int) : ∀ (f : Nat) (a b : List (List UInt8)) (pa pb : Value) (w : World), a.length ≤ f → a.length = b.length → Tr w W pa a → Tr w W pb b →
    Calls Tryd.prog 28 #[pa, pb] w fun e w' => MeetE w' (meetF (hw W) f a b) e ∧ Below w.heap.size w w' := by
  intro f
  induction f with
  | zero =>
    intro a b pa pb w hf hl ha hb
    have e1 : a = [] := List.eq_nil_of_length_eq_zero (by omega)
    subst e1
    obtain rfl := ha.empty
    have e2 : b = [] := List.eq_nil_of_length_eq_zero (by simpa using hl.symm)
    subst e2
    obtain rfl := hb.empty
    clear ha hb
    go_enter Tryd.func28, Tryd.ntmps28
    go_wp2_with fail
    go_end0
    exact ⟨rfl, Below.refl _ _⟩
  | succ f ih =>
    intro a b pa pb w hf hl ha hb
    by_cases h0 : a.length = 0
    · have e1 : a = [] := List.eq_nil_of_length_eq_zero h0
      subst e1
      obtain rfl := ha.empty
      have e2 : b = [] := List.eq_nil_of_length_eq_zero (by simpa using hl.symm)
      subst e2
      obtain rfl := hb.empty
      clear ha hb
      go_enter Tryd.func28, Tryd.ntmps28
      go_wp2_with fail
      go_end0
      exact ⟨by rw [meet_nil]; rfl, Below.refl _ _⟩
    · have hll := lo_length a b hl
      have hlt := lo_lt a (by omega)
      obtain ⟨g1, a1, c1, pl1, pr1, rfl, hg1, hr1, hpl1, hpr1⟩ := ha.inv (by omega)
      obtain ⟨g2, a2, c2, pl2, pr2, rfl, hg2, hr2, hpl2, hpr2⟩ := hb.inv (by omega)
      have HDF := Lib.hid (fun wx (hb : Below w.heap.size w wx) => differ_any (tx (hw W) a) (tx (hw W) b) a1 a2 c1 c2 wx (hr1.keep hb) (hr2.keep hb))
      have HIHl0 := Lib.hid (fun wx (hb : Below w.heap.size w wx) => ih (lo a) (lo b) pl1 pl2 wx (by omega) hll.1 (hpl1.keep hb) (hpl2.keep hb))
      have HIHr0 := Lib.hid (fun wx (hb : Below w.heap.size w wx) => ih (ro a) (ro b) pr1 pr2 wx (by omega) hll.2 (hpr1.keep hb) (hpr2.keep hb))
      have HRT := Lib.hid (And.intro hr1 hr2)
      have HLN := Lib.hid (show 0 < a.length ∧ a.length = b.length from ⟨by omega, hl⟩)
      obtain ⟨n, hn⟩ : ∃ n, n = (tx (hw W) a).length := ⟨_, rfl⟩
      obtain ⟨n2, hn2⟩ : ∃ n, n = (tx (hw W) b).length := ⟨_, rfl⟩
      rw [← hn] at HDF HRT hg1
      rw [← hn2] at HDF HRT hg2
      have HC0 := Lib.hid (fun wx (hb : Below w.heap.size w wx) => And.intro (trow_cell W ((hb.block _ (Array.getElem?_eq_some_iff.1 hg1).1).trans hg1)) (trow_cell W ((hb.block _ (Array.getElem?_eq_some_iff.1 hg2).1).trans hg2)))
      obtain ⟨pl1, rfl⟩ := hpl1.form
      obtain ⟨pl2, rfl⟩ := hpl2.form
      obtain ⟨pr1, rfl⟩ := hpr1.form
      obtain ⟨pr2, rfl⟩ := hpr2.form
      have HC := HC0
      have HNN := Lib.hid (And.intro hn hn2)
      clear ih ha hb hll hlt hg1 hg2 hr1 hr2 hpl1 hpl2 hpr1 hpr2 hf hl h0 hn hn2
      go_enter Tryd.func28, Tryd.ntmps28
      go_upto_region 1 with fail
      refine wp_region_stepsE (fun c wz => MeetE wz (meetF (hw W) (f + 1) a b) (.panicked c) ∧ Below w.heap.size w wz) [some 6, some 7, some 8, some 9, some 10, some 11, some 12, some 13, some 14] [] (me1F W g1 g2 n c1 n2 c2 a1 a2 a b) (fun _ wx wy => Below wx.heap.size wx wy) (fun wx => Below w.heap.size w wx) ?hE (by kernel_rfl) (by kernel_rfl) rfl (by kernel_rfl) (Below.refl _ _).drew (fun _ wx => Below.refl _ _) (fun _ wx wy h k => h.trans (k.mono h.size)) ?hF ?hstep ?hend
      case hE =>
        intro c act wz hd _ hc
        exact ⟨hd, hc⟩
      case hF =>
        exact ⟨fun _ _ _ _ _ _ h => h, ⟨fun _ _ _ _ _ _ h => h, ⟨fun _ _ _ _ _ _ h => h, ⟨fun _ _ _ _ _ _ h => h, ⟨fun _ _ _ _ _ _ h => h, ⟨fun _ _ _ _ _ _ h => h, ⟨fun _ _ _ _ _ _ h => h, ⟨fun _ _ _ _ _ _ h => h, ⟨fun _ _ _ _ _ _ h => h, trivial⟩⟩⟩⟩⟩⟩⟩⟩⟩
      case hstep =>
        -- operation 0: Op.move (tmp 0)
        refine ⟨fun r wx hG hs hq hf => ?_, ?_⟩
        · have e0 : r 0 = .pointer (some ⟨g1, 0, none⟩) := hs 0 rfl
          refine (if_pos rfl).symm ▸ ?_
          clear hs hq hf
          refine givesE_of ?_
          unfold gives
          go_simp
          exact ⟨Below.refl _ _, rfl⟩
        -- operation 1: Op.nilCheck (tmp 6)
        refine ⟨fun r wx hG hs hq hf => ?_, ?_⟩
        · have h0 : r 6 = .pointer (some ⟨g1, 0, none⟩) := hf.1
          refine (if_pos rfl).symm ▸ ?_
          clear hs hq hf
          refine givesE_of ?_
          unfold gives
          go_simp
          exact ⟨Below.refl _ _, rfl⟩
        -- operation 2: Op.fieldAddr 63 (tmp 7) 1
        refine ⟨fun r wx hG hs hq hf => ?_, ?_⟩
        · have h1 : r 7 = .pointer (some ⟨g1, 0, none⟩) := hf.1
          refine (if_pos rfl).symm ▸ ?_
          clear hs hq hf
          refine givesE_of ?_
          unfold gives
          go_simp
          exact ⟨Below.refl _ _, rfl⟩
        -- operation 3: Op.load 25 (tmp 8)
        refine ⟨fun r wx hG hs hq hf => ?_, ?_⟩
        · have h2 : r 8 = .pointer (some ⟨g1, 32, none⟩) := hf.1
          refine (if_pos rfl).symm ▸ ?_
          clear hs hq hf
          refine givesE_of ?_
          unfold gives
          have hcl := (HC.out wx hG).1.1
          go_simp
          exact ⟨Below.refl _ _, rfl⟩
        -- operation 4: Op.move (tmp 1)
        refine ⟨fun r wx hG hs hq hf => ?_, ?_⟩
        · have e1 : r 1 = .pointer (some ⟨g2, 0, none⟩) := hs 1 rfl
          refine (if_pos rfl).symm ▸ ?_
          clear hs hq hf
          refine givesE_of ?_
          unfold gives
          go_simp
          exact ⟨Below.refl _ _, rfl⟩
        -- operation 5: Op.nilCheck (tmp 10)
        refine ⟨fun r wx hG hs hq hf => ?_, ?_⟩
        · have h4 : r 10 = .pointer (some ⟨g2, 0, none⟩) := hf.1
          refine (if_pos rfl).symm ▸ ?_
          clear hs hq hf
          refine givesE_of ?_
          unfold gives
          go_simp
          exact ⟨Below.refl _ _, rfl⟩
        -- operation 6: Op.fieldAddr 63 (tmp 11) 1
        refine ⟨fun r wx hG hs hq hf => ?_, ?_⟩
        · have h5 : r 11 = .pointer (some ⟨g2, 0, none⟩) := hf.1
          refine (if_pos rfl).symm ▸ ?_
          clear hs hq hf
          refine givesE_of ?_
          unfold gives
          go_simp
          exact ⟨Below.refl _ _, rfl⟩
        -- operation 7: Op.load 25 (tmp 12)
        refine ⟨fun r wx hG hs hq hf => ?_, ?_⟩
        · have h6 : r 12 = .pointer (some ⟨g2, 32, none⟩) := hf.1
          refine (if_pos rfl).symm ▸ ?_
          clear hs hq hf
          refine givesE_of ?_
          unfold gives
          have hcl := (HC.out wx hG).2.1
          go_simp
          exact ⟨Below.refl _ _, rfl⟩
        -- operation 8: Op.call ( callee := Callee.value (func 47), args := #[tmp 9, tmp 13], argTypes := #[25, 25] )
        refine ⟨fun r wx hG hs hq hf => ?_, ?_⟩
        · have h3 : r 9 = .slice a1 n c1 := hf.1
          have h7 : r 13 = .slice a2 n2 c2 := hf.2.1
          refine (if_pos rfl).symm ▸ ?_
          clear hs hq hf
          unfold givesE
          go_simp
          refine (HDF.out wx hG).mono ?_
          rintro e wy ⟨he, hb1⟩
          by_cases hq : tx (hw W) a = tx (hw W) b
          · rw [if_pos hq] at he
            exact .inl ⟨_, he, hb1, rfl, hq⟩
          · rw [if_neg hq] at he
            refine .inr ⟨_, he, ?_, hG.trans (hb1.mono hG.size)⟩
            rw [meet_at _ _ _ _ HLN.out.1 hq]
            exact ⟨_, _, rfl, by show Rd wy 1 _ (tx (hw W) a).length _; rw [← HNN.out.1]; exact (HRT.out.1.keep hG).keep hb1, by show Rd wy 1 _ (tx (hw W) b).length _; rw [← HNN.out.2]; exact (HRT.out.2.keep hG).keep hb1⟩
        exact trivial
      case hend =>
        intro u wz hG hfin
        have z8 : (u 8) = .tuple #[] ∧ tx (hw W) a = tx (hw W) b := hfin 8 (by decide) (by kernel_rfl)
        clear hfin
        simp only [fill]
        have HBW := Lib.hid hG
        clear hG
        obtain ⟨w1, hw1⟩ : ∃ x, x = wz := ⟨_, rfl⟩
        subst hw1
        have HTX := Lib.hid z8.2
        have hz8 := z8.1
        have HC := Lib.hid (fun wx (hb : Below w1.heap.size w1 wx) => HC0.out wx (HBW.out.trans (hb.mono HBW.out.size)))
        have HIHl := Lib.hid (fun wx (hb : Below w1.heap.size w1 wx) => HIHl0.out wx (HBW.out.trans (hb.mono HBW.out.size)))
        clear z8
        rw [hz8]
        clear hz8
        go_simp
        go_upto_region 2 with fail
        refine wp_region_stepsE (fun c wz => MeetE wz (meetF (hw W) (f + 1) a b) (.panicked c) ∧ Below w.heap.size w wz) [some 15, some 16, some 17, some 18, some 19, some 20, some 21, some 22, some 23] [] (me2F W f g1 g2 pl1 pl2 a b) (fun _ wx wy => Below wx.heap.size wx wy) (fun wx => Below w1.heap.size w1 wx) ?hE (by kernel_rfl) (by kernel_rfl) rfl (by kernel_rfl) (Below.refl _ _).drew (fun _ wx => Below.refl _ _) (fun _ wx wy h k => h.trans (k.mono h.size)) ?hF ?hstep ?hend
        case hE =>
          intro c act wz hd _ hc
          exact ⟨hd, hc⟩
        case hF =>
          exact ⟨fun _ _ _ _ _ _ h => h, ⟨fun _ _ _ _ _ _ h => h, ⟨fun _ _ _ _ _ _ h => h, ⟨fun _ _ _ _ _ _ h => h, ⟨fun _ _ _ _ _ _ h => h, ⟨fun _ _ _ _ _ _ h => h, ⟨fun _ _ _ _ _ _ h => h, ⟨fun _ _ _ _ _ _ h => h, ⟨fun _ _ _ _ _ _ h => h, trivial⟩⟩⟩⟩⟩⟩⟩⟩⟩
        case hstep =>
          -- operation 0: Op.move (tmp 0)
          refine ⟨fun r wx hG hs hq hf => ?_, ?_⟩
          · have e0 : r 0 = .pointer (some ⟨g1, 0, none⟩) := hs 0 rfl
            refine (if_pos rfl).symm ▸ ?_
            clear hs hq hf
            refine givesE_of ?_
            unfold gives
            go_simp
            exact ⟨Below.refl _ _, rfl⟩
          -- operation 1: Op.nilCheck (tmp 15)
          refine ⟨fun r wx hG hs hq hf => ?_, ?_⟩
          · have h0 : r 15 = .pointer (some ⟨g1, 0, none⟩) := hf.1
            refine (if_pos rfl).symm ▸ ?_
            clear hs hq hf
            refine givesE_of ?_
            unfold gives
            go_simp
            exact ⟨Below.refl _ _, rfl⟩
          -- operation 2: Op.fieldAddr 63 (tmp 16) 2
          refine ⟨fun r wx hG hs hq hf => ?_, ?_⟩
          · have h1 : r 16 = .pointer (some ⟨g1, 0, none⟩) := hf.1
            refine (if_pos rfl).symm ▸ ?_
            clear hs hq hf
            refine givesE_of ?_
            unfold gives
            go_simp
            exact ⟨Below.refl _ _, rfl⟩
          -- operation 3: Op.load 50 (tmp 17)
          refine ⟨fun r wx hG hs hq hf => ?_, ?_⟩
          · have h2 : r 17 = .pointer (some ⟨g1, 33, none⟩) := hf.1
            refine (if_pos rfl).symm ▸ ?_
            clear hs hq hf
            refine givesE_of ?_
            unfold gives
            have hcl := (HC.out wx hG).1.2.1
            go_simp
            exact ⟨Below.refl _ _, rfl⟩
          -- operation 4: Op.move (tmp 1)
          refine ⟨fun r wx hG hs hq hf => ?_, ?_⟩
          · have e1 : r 1 = .pointer (some ⟨g2, 0, none⟩) := hs 1 rfl
            refine (if_pos rfl).symm ▸ ?_
            clear hs hq hf
            refine givesE_of ?_
            unfold gives
            go_simp
            exact ⟨Below.refl _ _, rfl⟩
          -- operation 5: Op.nilCheck (tmp 19)
          refine ⟨fun r wx hG hs hq hf => ?_, ?_⟩
          · have h4 : r 19 = .pointer (some ⟨g2, 0, none⟩) := hf.1
            refine (if_pos rfl).symm ▸ ?_
            clear hs hq hf
            refine givesE_of ?_
            unfold gives
            go_simp
            exact ⟨Below.refl _ _, rfl⟩
          -- operation 6: Op.fieldAddr 63 (tmp 20) 2
          refine ⟨fun r wx hG hs hq hf => ?_, ?_⟩
          · have h5 : r 20 = .pointer (some ⟨g2, 0, none⟩) := hf.1
            refine (if_pos rfl).symm ▸ ?_
            clear hs hq hf
            refine givesE_of ?_
            unfold gives
            go_simp
            exact ⟨Below.refl _ _, rfl⟩
          -- operation 7: Op.load 50 (tmp 21)
          refine ⟨fun r wx hG hs hq hf => ?_, ?_⟩
          · have h6 : r 21 = .pointer (some ⟨g2, 33, none⟩) := hf.1
            refine (if_pos rfl).symm ▸ ?_
            clear hs hq hf
            refine givesE_of ?_
            unfold gives
            have hcl := (HC.out wx hG).2.2.1
            go_simp
            exact ⟨Below.refl _ _, rfl⟩
          -- operation 8: Op.call ( callee := Callee.value (func 28), args := #[tmp 18, tmp 22], argTypes := #[50, 50] )
          refine ⟨fun r wx hG hs hq hf => ?_, ?_⟩
          · have h3 : r 18 = .pointer pl1 := hf.1
            have h7 : r 22 = .pointer pl2 := hf.2.1
            refine (if_pos rfl).symm ▸ ?_
            clear hs hq hf
            unfold givesE
            go_simp
            refine (HIHl.out wx hG).mono ?_
            rintro e wy ⟨he, hb1⟩
            cases hm : meetF (hw W) f (lo a) (lo b) with
            | none =>
              rw [hm] at he
              exact .inl ⟨_, he, hb1, rfl, hm⟩
            | some p =>
              rw [hm] at he
              obtain ⟨va, vb, he, h1, h2⟩ := he
              subst he
              refine .inr ⟨_, rfl, ?_, (HBW.out.trans (hG.mono HBW.out.size)).trans (hb1.mono (HBW.out.trans (hG.mono HBW.out.size)).size)⟩
              rw [meet_lo W f a b HLN.out.1 HLN.out.2 HTX.out p hm]
              exact ⟨va, vb, rfl, h1, h2⟩
          exact trivial
        case hend =>
          intro u wz hG hfin
          have z8 : (u 8) = .tuple #[] ∧ meetF (hw W) f (lo a) (lo b) = none := hfin 8 (by decide) (by kernel_rfl)
          clear hfin
          simp only [fill]
          have HBW2 := Lib.hid (HBW.out.trans (hG.mono HBW.out.size))
          clear hG
          obtain ⟨w2, hw2⟩ : ∃ x, x = wz := ⟨_, rfl⟩
          subst hw2
          have HM := Lib.hid z8.2
          have hz8 := z8.1
          have HC := Lib.hid (fun wx (hb : Below w2.heap.size w2 wx) => HC0.out wx (HBW2.out.trans (hb.mono HBW2.out.size)))
          have HIHr := Lib.hid (fun wx (hb : Below w2.heap.size w2 wx) => HIHr0.out wx (HBW2.out.trans (hb.mono HBW2.out.size)))
          have HBW := HBW2
          clear z8
          rw [hz8]
          clear hz8
          go_simp
          go_upto_region 3 with fail
          refine wp_region_stepsE (fun c wz => MeetE wz (meetF (hw W) (f + 1) a b) (.panicked c) ∧ Below w.heap.size w wz) [some 24, some 25, some 26, some 27, some 28, some 29, some 30, some 31, some 32] [] (me3F W f g1 g2 pr1 pr2 a b) (fun _ wx wy => Below wx.heap.size wx wy) (fun wx => Below w2.heap.size w2 wx) ?hE (by kernel_rfl) (by kernel_rfl) rfl (by kernel_rfl) (Below.refl _ _).drew (fun _ wx => Below.refl _ _) (fun _ wx wy h k => h.trans (k.mono h.size)) ?hF ?hstep ?hend
          case hE =>
            intro c act wz hd _ hc
            exact ⟨hd, hc⟩
          case hF =>
            exact ⟨fun _ _ _ _ _ _ h => h, ⟨fun _ _ _ _ _ _ h => h, ⟨fun _ _ _ _ _ _ h => h, ⟨fun _ _ _ _ _ _ h => h, ⟨fun _ _ _ _ _ _ h => h, ⟨fun _ _ _ _ _ _ h => h, ⟨fun _ _ _ _ _ _ h => h, ⟨fun _ _ _ _ _ _ h => h, ⟨fun _ _ _ _ _ _ h => h, trivial⟩⟩⟩⟩⟩⟩⟩⟩⟩
          case hstep =>
            -- operation 0: Op.move (tmp 0)
            refine ⟨fun r wx hG hs hq hf => ?_, ?_⟩
            · have e0 : r 0 = .pointer (some ⟨g1, 0, none⟩) := hs 0 rfl
              refine (if_pos rfl).symm ▸ ?_
              clear hs hq hf
              refine givesE_of ?_
              unfold gives
              go_simp
              exact ⟨Below.refl _ _, rfl⟩
            -- operation 1: Op.nilCheck (tmp 24)
            refine ⟨fun r wx hG hs hq hf => ?_, ?_⟩
            · have h0 : r 24 = .pointer (some ⟨g1, 0, none⟩) := hf.1
              refine (if_pos rfl).symm ▸ ?_
              clear hs hq hf
              refine givesE_of ?_
              unfold gives
              go_simp
              exact ⟨Below.refl _ _, rfl⟩
            -- operation 2: Op.fieldAddr 63 (tmp 25) 3
            refine ⟨fun r wx hG hs hq hf => ?_, ?_⟩
            · have h1 : r 25 = .pointer (some ⟨g1, 0, none⟩) := hf.1
              refine (if_pos rfl).symm ▸ ?_
              clear hs hq hf
              refine givesE_of ?_
              unfold gives
              go_simp
              exact ⟨Below.refl _ _, rfl⟩
            -- operation 3: Op.load 50 (tmp 26)
            refine ⟨fun r wx hG hs hq hf => ?_, ?_⟩
            · have h2 : r 26 = .pointer (some ⟨g1, 34, none⟩) := hf.1
              refine (if_pos rfl).symm ▸ ?_
              clear hs hq hf
              refine givesE_of ?_
              unfold gives
              have hcl := (HC.out wx hG).1.2.2
              go_simp
              exact ⟨Below.refl _ _, rfl⟩
            -- operation 4: Op.move (tmp 1)
            refine ⟨fun r wx hG hs hq hf => ?_, ?_⟩
            · have e1 : r 1 = .pointer (some ⟨g2, 0, none⟩) := hs 1 rfl
              refine (if_pos rfl).symm ▸ ?_
              clear hs hq hf
              refine givesE_of ?_
              unfold gives
              go_simp
              exact ⟨Below.refl _ _, rfl⟩
            -- operation 5: Op.nilCheck (tmp 28)
            refine ⟨fun r wx hG hs hq hf => ?_, ?_⟩
            · have h4 : r 28 = .pointer (some ⟨g2, 0, none⟩) := hf.1
              refine (if_pos rfl).symm ▸ ?_
              clear hs hq hf
              refine givesE_of ?_
              unfold gives
              go_simp
              exact ⟨Below.refl _ _, rfl⟩
            -- operation 6: Op.fieldAddr 63 (tmp 29) 3
            refine ⟨fun r wx hG hs hq hf => ?_, ?_⟩
            · have h5 : r 29 = .pointer (some ⟨g2, 0, none⟩) := hf.1
              refine (if_pos rfl).symm ▸ ?_
              clear hs hq hf
              refine givesE_of ?_
              unfold gives
              go_simp
              exact ⟨Below.refl _ _, rfl⟩
            -- operation 7: Op.load 50 (tmp 30)
            refine ⟨fun r wx hG hs hq hf => ?_, ?_⟩
            · have h6 : r 30 = .pointer (some ⟨g2, 34, none⟩) := hf.1
              refine (if_pos rfl).symm ▸ ?_
              clear hs hq hf
              refine givesE_of ?_
              unfold gives
              have hcl := (HC.out wx hG).2.2.2
              go_simp
              exact ⟨Below.refl _ _, rfl⟩
            -- operation 8: Op.call ( callee := Callee.value (func 28), args := #[tmp 27, tmp 31], argTypes := #[50, 50] )
            refine ⟨fun r wx hG hs hq hf => ?_, ?_⟩
            · have h3 : r 27 = .pointer pr1 := hf.1
              have h7 : r 31 = .pointer pr2 := hf.2.1
              refine (if_pos rfl).symm ▸ ?_
              clear hs hq hf
              unfold givesE
              go_simp
              refine (HIHr.out wx hG).mono ?_
              rintro e wy ⟨he, hb1⟩
              cases hm : meetF (hw W) f (ro a) (ro b) with
              | none =>
                rw [hm] at he
                exact .inl ⟨_, he, hb1, rfl, hm⟩
              | some p =>
                rw [hm] at he
                obtain ⟨va, vb, he, h1, h2⟩ := he
                subst he
                refine .inr ⟨_, rfl, ?_, (HBW.out.trans (hG.mono HBW.out.size)).trans (hb1.mono (HBW.out.trans (hG.mono HBW.out.size)).size)⟩
                rw [meet_ro W f a b HLN.out.1 HLN.out.2 HTX.out HM.out, hm]
                exact ⟨va, vb, rfl, h1, h2⟩
            exact trivial
          case hend =>
            intro u wz hG hfin
            have z8 : (u 8) = .tuple #[] ∧ meetF (hw W) f (ro a) (ro b) = none := hfin 8 (by decide) (by kernel_rfl)
            clear hfin
            simp only [fill]
            have HB9 := Lib.hid (HBW.out.trans (hG.mono HBW.out.size))
            have HM2 := Lib.hid z8.2
            have hz8 := z8.1
            clear hG z8
            rw [hz8]
            clear hz8
            go_simp
            go_wp2_with fail
            go_end0
            refine ⟨?_, HB9.out⟩
            rw [meet_ro W f a b HLN.out.1 HLN.out.2 HTX.out HM.out, HM2.out]
            exact rfl

set_option maxRecDepth 100000 in
/-- What was caught: the two texts, and no error. -/
theorem found_some (w : World) (p q : Nat) (va vb o1 o2 : Value) (e0 : Int) (hp : w.heap[p]? = some (.cells #[o1, o2] 27 (0, 0))) (hq : w.heap[q]? = some (.cells #[.int .i64 e0] 28 (0, 0))) (hpq : p ≠ q)
    (a1 a2 : Option Addr) (n1 n2 c1 c2 : Nat) (ha : va = .slice a1 n1 c1) (hb : vb = .slice a2 n2 c2) :
    Calls Tryd.prog 27 #[.iface 92 (.agg #[va, vb]), .pointer (some ⟨p, 0, none⟩), .pointer (some ⟨q, 0, none⟩)] w fun e w' => e = .returned (.tuple #[]) ∧
      w' = (((w.alloc (.cells #[va, vb] 92)).setCell ⟨p, 0, none⟩ va).setCell ⟨p, 1, none⟩ vb).setCell ⟨q, 0, none⟩ (.int .i64 0) := by
  have hpl := (Array.getElem?_eq_some_iff.1 hp).1
  have hql := (Array.getElem?_eq_some_iff.1 hq).1
  obtain ⟨w0, hw0⟩ : ∃ x, x = w.alloc (.cells #[va, vb] 92) := ⟨_, rfl⟩
  have hp' : w0.heap[p]? = some (.cells #[o1, o2] 27 (0, 0)) := by rw [hw0, heap_alloc_old _ _ hpl]; exact hp
  have hq' : w0.heap[q]? = some (.cells #[.int .i64 e0] 28 (0, 0)) := by rw [hw0, heap_alloc_old _ _ hql]; exact hq
  have hn' : w0.heap[w.heap.size]? = some (.cells #[va, vb] 92 (0, 0)) := by rw [hw0]; exact heap_alloc_new _ _
  have f0 : w0.cell? ⟨w.heap.size, 0, none⟩ = some va := by simp [World.cell?, hn']
  have f1 : w0.cell? ⟨w.heap.size, 1, none⟩ = some vb := by simp [World.cell?, hn']
  have h0 : w0.cell? ⟨p, 0, none⟩ = some o1 := by simp [World.cell?, hp']
  have h1 : w0.cell? ⟨p, 1, none⟩ = some o2 := by simp [World.cell?, hp']
  have h2 : w0.cell? ⟨q, 0, none⟩ = some (.int .i64 e0) := by simp [World.cell?, hq']
  have z0 : w0.frozen? ⟨p, 0, none⟩ = false := by simp [World.frozen?, hp']
  have z1 : w0.frozen? ⟨p, 1, none⟩ = false := by simp [World.frozen?, hp']
  have z2 : w0.frozen? ⟨q, 0, none⟩ = false := by simp [World.frozen?, hq']
  have hta : ∀ wx : World, (Instr.typeAssert (.iface 92 (.agg #[va, vb])) 20 92 true).run Tryd.prog wx = .ok (.tuple #[.agg #[va, vb], .bool true]) wx := fun _ => by first | rfl | kernel_rfl
  have hqp : q ≠ p := fun e => hpq e.symm
  have hwp : w.heap.size ≠ p := by omega
  have hwq : w.heap.size ≠ q := by omega
  subst ha
  subst hb
  have HW := Lib.hid hw0
  clear hp hq hp' hq' hn' hw0
  go_enter Tryd.func27, Tryd.ntmps27
  go_upto_region 1 with fail
  rw [show w.alloc (.cells #[.slice a1 n1 c1, .slice a2 n2 c2] 92) = w0 from HW.out.symm]
  go_wp2_with fail
  go_end0
  exact ⟨rfl, by rw [HW.out]⟩
set_option maxRecDepth 100000 in
theorem found_none (w : World) (p q : Nat) :
    Calls Tryd.prog 27 #[.nilIface, .pointer (some ⟨p, 0, none⟩), .pointer (some ⟨q, 0, none⟩)] w fun e w' => e = .returned (.tuple #[]) ∧ Below w.heap.size w w' := by
  have hta : ∀ wx : World, (Instr.typeAssert .nilIface 20 92 true).run Tryd.prog wx = .ok (.tuple #[.agg #[.slice none 0 0, .slice none 0 0], .bool false]) wx := fun _ => by first | rfl | kernel_rfl
  go_enter Tryd.func27, Tryd.ntmps27
  go_wp2_with fail
  go_end0
  exact ⟨rfl, (Below.refl _ _).alloc (Nat.le_refl _) _⟩
end Go.Proofs.YtfibhmgjkooemaaDoor
