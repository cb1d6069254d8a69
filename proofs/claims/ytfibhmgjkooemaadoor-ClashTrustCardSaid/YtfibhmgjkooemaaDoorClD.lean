/- clash: differ, meet, caught; bytes.Equal; a tree's root. (printed by gen/clc.py) · clash: its closures; Lists. (printed by gen/cld.py) -/
import Derived.Test.YtfibhmgjkooemaaDoorClB
import Derived.Test.YtfibhmgjkooemaaDoorRegE
import Derived.Recover
import Derived.Tactics2
import Derived.Orders
import Derived.Defers
namespace Go.Proofs.YtfibhmgjkooemaaDoor
open Go.RowKit Sha Root Path Clash

set_option maxRecDepth 100000 in
theorem bytesEqual_any (x y : List UInt8) (v u : Value) (w : World) (h1 : Rd w 1 v x.length (bv x)) (h2 : Rd w 1 u y.length (bv y)) :
    Calls Tryd.prog 40 #[v, u] w fun e w' => e = .returned (.bool (x == y)) ∧ w' = w := by
  have hs1 := string_of_bytes (P := Tryd.prog) (w := w) Tryd.underlying25 Tryd.underlying5 Tryd.underlying9 h1
  have hs2 := string_of_bytes (P := Tryd.prog) (w := w) Tryd.underlying25 Tryd.underlying5 Tryd.underlying9 h2
  obtain ⟨a, c, rfl⟩ := h1.form
  obtain ⟨a2, c2, rfl⟩ := h2.form
  clear h1 h2
  go_enter Tryd.func40, Tryd.ntmps40
  go_wp2_with fail
  go_ret
  exact ⟨rfl, rfl⟩

/-- What a clash panics with. -/
def fndP (va vb : Value) : List PanicEntry := [{ v := .iface 92 (.agg #[va, vb]), recovered := false }]
set_option maxRecDepth 100000 in
theorem differ_any (x y : List UInt8) (a a2 : Option Addr) (c c2 : Nat) (w : World) (h1 : Rd w 1 (.slice a x.length c) x.length (bv x)) (h2 : Rd w 1 (.slice a2 y.length c2) y.length (bv y)) :
    Calls Tryd.prog 47 #[.slice a x.length c, .slice a2 y.length c2] w fun e w' => e = (if x = y then .returned (.tuple #[]) else .panicked (fndP (.slice a x.length c) (.slice a2 y.length c2))) ∧ Below w.heap.size w w' := by
  have hq := bytesEqual_any x y _ _ w h1 h2
  generalize x.length = n at *
  generalize y.length = m at *
  clear h1 h2
  by_cases h : x = y
  · rw [if_pos h]
    rw [show (x == y) = true from beq_iff_eq.2 h] at hq
    clear h
    go_enter Tryd.func47, Tryd.ntmps47
    go_wp2_with fail
    refine hq.mono ?_
    rintro e w1 ⟨rfl, rfl⟩
    go_wp2_with fail
    go_end0
    exact ⟨rfl, Below.refl _ _⟩
  · rw [if_neg h]
    rw [show (x == y) = false from beq_eq_false_iff_ne.2 h] at hq
    clear h
    go_enter Tryd.func47, Tryd.ntmps47
    go_wp2_with fail
    refine hq.mono ?_
    rintro e w1 ⟨rfl, rfl⟩
    go_wp2_with fail
    exact ⟨rfl, rfl, Below.refl _ _⟩

set_option maxRecDepth 100000 in
set_option maxHeartbeats 1000000 in
theorem troot_any (W : Int) (p : Value) (l : List (List UInt8)) (w : World) (hW : -9223372036854775808 ≤ W ∧ W ≤ 9223372036854775807) (h : Tr w W p l) (hT : Tabs w) :
    Calls Tryd.prog 25 #[p, .int .i64 W] w fun e w' => e = .returned (.agg (bv (rt (hw W) l)).toArray) ∧ Below w.heap.size w w' := by
  have hz := (zero_of_info info32).1
  have hol := rt32 W l
  have HZ := Lib.hid (show (zs 32).length = 32 by simp [zs])
  by_cases h0 : l.length = 0
  · have : l = [] := List.eq_nil_of_length_eq_zero h0
    subst this
    obtain rfl := h.empty
    have H0 := Lib.hid (fun w' (hb : Below w.heap.size w w') => Empty_any W w' hW (hT.keepB hb))
    rw [show emptyH W = rt (hw W) [] from rfl] at H0
    generalize rt (hw W) [] = out at *
    clear h hT hW h0
    go_enter Tryd.func25, Tryd.ntmps25
    go_upto_region 1 with fail
    obtain ⟨w0, hw0⟩ : ∃ x : World, x = w.alloc (.cells (bv (zs 32)).toArray 35) := ⟨_, rfl⟩
    have hres0 : w0.heap[w.heap.size]? = some (.cells (bv (zs 32)).toArray 35 (0, 0)) := by rw [hw0]; exact heap_alloc_new _ _
    have hbw0 : Below w.heap.size w w0 := by rw [hw0]; exact (Below.refl _ _).alloc (Nat.le_refl _) _
    rw [← hw0]
    clear hw0
    have HX0 := Lib.hid (And.intro hres0 hbw0)
    clear hres0 hbw0
    go_wp2_with fail
    refine (H0.out _ HX0.out.2).mono ?_
    rintro e w1 ⟨rfl, hb1⟩
    have HX := Lib.hid (And.intro ((hb1.block _ (Array.getElem?_eq_some_iff.1 HX0.out.1).1).trans HX0.out.1) (And.intro (HX0.out.2.trans (hb1.mono HX0.out.2.size)) hol))
    clear hb1 HX0 hol
    go_wp2_with (with_reducible show wpList _ _ _ (⟨none, Op.store _ _ _, _, _, _, _⟩ :: _) _ _; refine wpList_store_whole rfl _ _ _ rfl w.heap.size _ rfl rfl _ _ HX.out.1 (hInfo' _ HX.out.2.2) (by rw [bv_length, bv_length, HX.out.2.2]; simp [zs]) (bv_one _) ?_; intro w9 HG9 hg9)
    refine bodyPost_ret (v := .agg (bv out).toArray) ?_ ?_ ?_
    · exact results_cell_row Tryd.results25 _ _ w.heap.size 35 _ (0, 0) _ rfl HG9.out Tryd.underlying35 rfl (hInfo _ HX.out.2.2)
    · rfl
    · exact ⟨rfl, below_grow HX.out.2.1 hg9 (Nat.le_refl _) (Array.getElem?_eq_some_iff.1 HX.out.1).1⟩
  · obtain ⟨g, a, c, pl, pr, rfl, hg, _, _, _⟩ := h.inv (by omega)
    have hgl := (Array.getElem?_eq_some_iff.1 hg).1
    have HRG := Lib.hid (trow_rng W ((heap_alloc_old w (.cells (bv (zs 32)).toArray 35) hgl).trans hg))
    generalize rt (hw W) l = out at *
    clear h hT hW h0 hg
    have HOL := Lib.hid hol
    clear hol
    go_enter Tryd.func25, Tryd.ntmps25
    go_upto_region 1 with fail
    have H7 := Lib.hid (heap_alloc_new w (.cells (bv (zs 32)).toArray 35))
    obtain ⟨w0, hw0⟩ : ∃ x : World, x = w.alloc (.cells (bv (zs 32)).toArray 35) := ⟨_, rfl⟩
    have hbw0 : Below w.heap.size w w0 := by rw [hw0]; exact (Below.refl _ _).alloc (Nat.le_refl _) _
    rw [← hw0] at HRG H7 ⊢
    have HB := Lib.hid hbw0
    clear hw0 hbw0
    go_wp2_with (first
      | (with_reducible show wpList _ _ _ (⟨some 12, _, _, _, _, _⟩ :: _) _ _; refine wpList_load_mid rfl _ _ rfl g 0 rfl (bv out) _ HRG.out Tryd.underlying35 rfl (hInfo' _ HOL.out) ?_)
      | (with_reducible show wpList _ _ _ (⟨none, Op.store _ _ _, _, _, _, _⟩ :: _) _ _; refine wpList_store_whole rfl _ _ _ rfl w.heap.size _ rfl rfl _ _ H7.out (hInfo' _ HOL.out) (by rw [bv_length, bv_length, HOL.out]; simp [zs]) (bv_one _) ?_; intro w9 HG9 hg9))
    refine bodyPost_ret (v := .agg (bv out).toArray) ?_ ?_ ?_
    · exact results_cell_row Tryd.results25 _ _ w.heap.size 35 _ (0, 0) _ rfl HG9.out Tryd.underlying35 rfl (hInfo _ HOL.out)
    · rfl
    · exact ⟨rfl, below_grow HB.out hg9 (Nat.le_refl _) (Array.getElem?_eq_some_iff.1 H7.out).1⟩

theorem lo_length (a b : List (List UInt8)) (h : a.length = b.length) : (lo a).length = (lo b).length ∧ (ro a).length = (ro b).length := by
  unfold lo ro
  rw [h]
  split
  · exact ⟨rfl, rfl⟩
  · exact ⟨by rw [List.length_take, List.length_take, h], by rw [List.length_drop, List.length_drop, h]⟩
theorem lo_lt (a : List (List UInt8)) (h : 0 < a.length) : (lo a).length < a.length ∧ (ro a).length < a.length := by
  unfold lo ro
  split
  · exact ⟨h, h⟩
  · have := top_lt a.length (by omega)
    have := top_pos a.length
    rw [List.length_take, List.length_drop]
    omega
theorem meet_lo (W : Int) (f : Nat) (a b : List (List UInt8)) (h0 : 0 < a.length) (hl : a.length = b.length) (ht : tx (hw W) a = tx (hw W) b) (p : List UInt8 × List UInt8) (hm : meetF (hw W) f (lo a) (lo b) = some p) : meetF (hw W) (f + 1) a b = some p := by
  by_cases h1 : a.length ≤ 1
  · rw [lo_one a h1, meet_nil] at hm; simp at hm
  · rw [lo_more a (by omega), lo_more b (by omega)] at hm
    exact meet_left _ f a b (by omega) ht p hm
theorem meet_ro (W : Int) (f : Nat) (a b : List (List UInt8)) (h0 : 0 < a.length) (hl : a.length = b.length) (ht : tx (hw W) a = tx (hw W) b) (hm : meetF (hw W) f (lo a) (lo b) = none) : meetF (hw W) (f + 1) a b = meetF (hw W) f (ro a) (ro b) := by
  by_cases h1 : a.length ≤ 1
  · rw [ro_one a h1, meet_nil]
    exact meet_one _ f a b (by omega) ht
  · rw [lo_more a (by omega), lo_more b (by omega)] at hm
    rw [ro_more a (by omega), ro_more b (by omega)]
    exact meet_right _ f a b (by omega) ht hm
/-- How meet ends. -/
def MeetE (w : World) (o : Option (List UInt8 × List UInt8)) (e : Ending) : Prop :=
  match o with
  | none => e = .returned (.tuple #[])
  | some p => ∃ va vb, e = .panicked (fndP va vb) ∧ Rd w 1 va p.1.length (bv p.1) ∧ Rd w 1 vb p.2.length (bv p.2)
/-- What each operation hands on. -/
def me1F (W : Int) (g1 g2 n c1 n2 c2 : Nat) (a1 a2 : Option Addr) (a b : List (List UInt8)) : Nat → Value → World → Prop
  | 0, v, _ => v = .pointer (some ⟨g1, 0, none⟩)
  | 1, v, _ => v = .pointer (some ⟨g1, 0, none⟩)
  | 2, v, _ => v = .pointer (some ⟨g1, 32, none⟩)
  | 3, v, _ => v = .slice a1 n c1
  | 4, v, _ => v = .pointer (some ⟨g2, 0, none⟩)
  | 5, v, _ => v = .pointer (some ⟨g2, 0, none⟩)
  | 6, v, _ => v = .pointer (some ⟨g2, 32, none⟩)
  | 7, v, _ => v = .slice a2 n2 c2
  | 8, v, _ => v = .tuple #[] ∧ tx (hw W) a = tx (hw W) b
  | _, _, _ => True
/-- What each operation hands on. -/
def me2F (W : Int) (f g1 g2 : Nat) (pl1 pl2 : Option Addr) (a b : List (List UInt8)) : Nat → Value → World → Prop
  | 0, v, _ => v = .pointer (some ⟨g1, 0, none⟩)
  | 1, v, _ => v = .pointer (some ⟨g1, 0, none⟩)
  | 2, v, _ => v = .pointer (some ⟨g1, 33, none⟩)
  | 3, v, _ => v = .pointer pl1
  | 4, v, _ => v = .pointer (some ⟨g2, 0, none⟩)
  | 5, v, _ => v = .pointer (some ⟨g2, 0, none⟩)
  | 6, v, _ => v = .pointer (some ⟨g2, 33, none⟩)
  | 7, v, _ => v = .pointer pl2
  | 8, v, _ => v = .tuple #[] ∧ meetF (hw W) f (lo a) (lo b) = none
  | _, _, _ => True
/-- What each operation hands on. -/
def me3F (W : Int) (f g1 g2 : Nat) (pr1 pr2 : Option Addr) (a b : List (List UInt8)) : Nat → Value → World → Prop
  | 0, v, _ => v = .pointer (some ⟨g1, 0, none⟩)
  | 1, v, _ => v = .pointer (some ⟨g1, 0, none⟩)
  | 2, v, _ => v = .pointer (some ⟨g1, 34, none⟩)
  | 3, v, _ => v = .pointer pr1
  | 4, v, _ => v = .pointer (some ⟨g2, 0, none⟩)
  | 5, v, _ => v = .pointer (some ⟨g2, 0, none⟩)
  | 6, v, _ => v = .pointer (some ⟨g2, 34, none⟩)
  | 7, v, _ => v = .pointer pr2
  | 8, v, _ => v = .tuple #[] ∧ meetF (hw W) f (ro a) (ro b) = none
  | _, _, _ => True

set_option maxHeartbeats 4000000 in
set_option maxRecDepth 100000 in
theorem meet_any (W : Int) : ∀ (f : Nat) (a b : List (List UInt8)) (pa pb : Value) (w : World), a.length ≤ f → a.length = b.length → Tr w W pa a → Tr w W pb b →
    Calls Tryd.prog 28 #[pa, pb] w fun e w' => MeetE w' (meetF (hw W) f a b) e ∧ Below w.heap.size w w' := by
  intro f
  induction f with
  | zero =>
    intro a b pa pb w hf hl ha hb
    have e1 : a = [] := List.eq_nil_of_length_eq_zero (by omega)
    subst e1
    obtain rfl := ha.empty
    have e2 : b = [] := List.eq_nil_of_length_eq_zero (by simpa using hl.symm)
    subst e2
    obtain rfl := hb.empty
    clear ha hb
    go_enter Tryd.func28, Tryd.ntmps28
    go_wp2_with fail
    go_end0
    exact ⟨rfl, Below.refl _ _⟩
  | succ f ih =>
    intro a b pa pb w hf hl ha hb
    by_cases h0 : a.length = 0
    · have e1 : a = [] := List.eq_nil_of_length_eq_zero h0
      subst e1
      obtain rfl := ha.empty
      have e2 : b = [] := List.eq_nil_of_length_eq_zero (by simpa using hl.symm)
      subst e2
      obtain rfl := hb.empty
      clear ha hb
      go_enter Tryd.func28, Tryd.ntmps28
      go_wp2_with fail
      go_end0
      exact ⟨by rw [meet_nil]; rfl, Below.refl _ _⟩
    · have hll := lo_length a b hl
      have hlt := lo_lt a (by omega)
      obtain ⟨g1, a1, c1, pl1, pr1, rfl, hg1, hr1, hpl1, hpr1⟩ := ha.inv (by omega)
      obtain ⟨g2, a2, c2, pl2, pr2, rfl, hg2, hr2, hpl2, hpr2⟩ := hb.inv (by omega)
      have HDF := Lib.hid (fun wx (hb : Below w.heap.size w wx) => differ_any (tx (hw W) a) (tx (hw W) b) a1 a2 c1 c2 wx (hr1.keep hb) (hr2.keep hb))
      have HIHl0 := Lib.hid (fun wx (hb : Below w.heap.size w wx) => ih (lo a) (lo b) pl1 pl2 wx (by omega) hll.1 (hpl1.keep hb) (hpl2.keep hb))
      have HIHr0 := Lib.hid (fun wx (hb : Below w.heap.size w wx) => ih (ro a) (ro b) pr1 pr2 wx (by omega) hll.2 (hpr1.keep hb) (hpr2.keep hb))
      have HRT := Lib.hid (And.intro hr1 hr2)
      have HLN := Lib.hid (show 0 < a.length ∧ a.length = b.length from ⟨by omega, hl⟩)
      obtain ⟨n, hn⟩ : ∃ n, n = (tx (hw W) a).length := ⟨_, rfl⟩
      obtain ⟨n2, hn2⟩ : ∃ n, n = (tx (hw W) b).length := ⟨_, rfl⟩
      rw [← hn] at HDF HRT hg1
      rw [← hn2] at HDF HRT hg2
      have HC0 := Lib.hid (fun wx (hb : Below w.heap.size w wx) => And.intro (trow_cell W ((hb.block _ (Array.getElem?_eq_some_iff.1 hg1).1).trans hg1)) (trow_cell W ((hb.block _ (Array.getElem?_eq_some_iff.1 hg2).1).trans hg2)))
      obtain ⟨pl1, rfl⟩ := hpl1.form
      obtain ⟨pl2, rfl⟩ := hpl2.form
      obtain ⟨pr1, rfl⟩ := hpr1.form
      obtain ⟨pr2, rfl⟩ := hpr2.form
      have HC := HC0
      have HNN := Lib.hid (And.intro hn hn2)
      clear ih ha hb hll hlt hg1 hg2 hr1 hr2 hpl1 hpl2 hpr1 hpr2 hf hl h0 hn hn2
      go_enter Tryd.func28, Tryd.ntmps28
      go_upto_region 1 with fail
      refine wp_region_stepsE (fun c wz => MeetE wz (meetF (hw W) (f + 1) a b) (.panicked c) ∧ Below w.heap.size w wz) [some 6, some 7, some 8, some 9, some 10, some 11, some 12, some 13, some 14] [] (me1F W g1 g2 n c1 n2 c2 a1 a2 a b) (fun _ wx wy => Below wx.heap.size wx wy) (fun wx => Below w.heap.size w wx) ?hE (by kernel_rfl) (by kernel_rfl) rfl (by kernel_rfl) (Below.refl _ _).drew (fun _ wx => Below.refl _ _) (fun _ wx wy h k => h.trans (k.mono h.size)) ?hF ?hstep ?hend
      case hE =>
        intro c act wz hd _ hc
        exact ⟨hd, hc⟩
      case hF =>
        exact ⟨fun _ _ _ _ _ _ h => h, ⟨fun _ _ _ _ _ _ h => h, ⟨fun _ _ _ _ _ _ h => h, ⟨fun _ _ _ _ _ _ h => h, ⟨fun _ _ _ _ _ _ h => h, ⟨fun _ _ _ _ _ _ h => h, ⟨fun _ _ _ _ _ _ h => h, ⟨fun _ _ _ _ _ _ h => h, ⟨fun _ _ _ _ _ _ h => h, trivial⟩⟩⟩⟩⟩⟩⟩⟩⟩
      case hstep =>
        refine ⟨fun r wx hG hs hq hf => ?_, ?_⟩
        · have e0 : r 0 = .pointer (some ⟨g1, 0, none⟩) := hs 0 rfl
          refine (if_pos rfl).symm ▸ ?_
          clear hs hq hf
          refine givesE_of ?_
          unfold gives
          go_simp
          exact ⟨Below.refl _ _, rfl⟩
        refine ⟨fun r wx hG hs hq hf => ?_, ?_⟩
        · have h0 : r 6 = .pointer (some ⟨g1, 0, none⟩) := hf.1
          refine (if_pos rfl).symm ▸ ?_
          clear hs hq hf
          refine givesE_of ?_
          unfold gives
          go_simp
          exact ⟨Below.refl _ _, rfl⟩
        refine ⟨fun r wx hG hs hq hf => ?_, ?_⟩
        · have h1 : r 7 = .pointer (some ⟨g1, 0, none⟩) := hf.1
          refine (if_pos rfl).symm ▸ ?_
          clear hs hq hf
          refine givesE_of ?_
          unfold gives
          go_simp
          exact ⟨Below.refl _ _, rfl⟩
        refine ⟨fun r wx hG hs hq hf => ?_, ?_⟩
        · have h2 : r 8 = .pointer (some ⟨g1, 32, none⟩) := hf.1
          refine (if_pos rfl).symm ▸ ?_
          clear hs hq hf
          refine givesE_of ?_
          unfold gives
          have hcl := (HC.out wx hG).1.1
          go_simp
          exact ⟨Below.refl _ _, rfl⟩
        refine ⟨fun r wx hG hs hq hf => ?_, ?_⟩
        · have e1 : r 1 = .pointer (some ⟨g2, 0, none⟩) := hs 1 rfl
          refine (if_pos rfl).symm ▸ ?_
          clear hs hq hf
          refine givesE_of ?_
          unfold gives
          go_simp
          exact ⟨Below.refl _ _, rfl⟩
        refine ⟨fun r wx hG hs hq hf => ?_, ?_⟩
        · have h4 : r 10 = .pointer (some ⟨g2, 0, none⟩) := hf.1
          refine (if_pos rfl).symm ▸ ?_
          clear hs hq hf
          refine givesE_of ?_
          unfold gives
          go_simp
          exact ⟨Below.refl _ _, rfl⟩
        refine ⟨fun r wx hG hs hq hf => ?_, ?_⟩
        · have h5 : r 11 = .pointer (some ⟨g2, 0, none⟩) := hf.1
          refine (if_pos rfl).symm ▸ ?_
          clear hs hq hf
          refine givesE_of ?_
          unfold gives
          go_simp
          exact ⟨Below.refl _ _, rfl⟩
        refine ⟨fun r wx hG hs hq hf => ?_, ?_⟩
        · have h6 : r 12 = .pointer (some ⟨g2, 32, none⟩) := hf.1
          refine (if_pos rfl).symm ▸ ?_
          clear hs hq hf
          refine givesE_of ?_
          unfold gives
          have hcl := (HC.out wx hG).2.1
          go_simp
          exact ⟨Below.refl _ _, rfl⟩
        refine ⟨fun r wx hG hs hq hf => ?_, ?_⟩
        · have h3 : r 9 = .slice a1 n c1 := hf.1
          have h7 : r 13 = .slice a2 n2 c2 := hf.2.1
          refine (if_pos rfl).symm ▸ ?_
          clear hs hq hf
          unfold givesE
          go_simp
          refine (HDF.out wx hG).mono ?_
          rintro e wy ⟨he, hb1⟩
          by_cases hq : tx (hw W) a = tx (hw W) b
          · rw [if_pos hq] at he
            exact .inl ⟨_, he, hb1, rfl, hq⟩
          · rw [if_neg hq] at he
            refine .inr ⟨_, he, ?_, hG.trans (hb1.mono hG.size)⟩
            rw [meet_at _ _ _ _ HLN.out.1 hq]
            exact ⟨_, _, rfl, by show Rd wy 1 _ (tx (hw W) a).length _; rw [← HNN.out.1]; exact (HRT.out.1.keep hG).keep hb1, by show Rd wy 1 _ (tx (hw W) b).length _; rw [← HNN.out.2]; exact (HRT.out.2.keep hG).keep hb1⟩
        exact trivial
      case hend =>
        intro u wz hG hfin
        have z8 : (u 8) = .tuple #[] ∧ tx (hw W) a = tx (hw W) b := hfin 8 (by decide) (by kernel_rfl)
        clear hfin
        simp only [fill]
        have HBW := Lib.hid hG
        clear hG
        obtain ⟨w1, hw1⟩ : ∃ x, x = wz := ⟨_, rfl⟩
        subst hw1
        have HTX := Lib.hid z8.2
        have hz8 := z8.1
        have HC := Lib.hid (fun wx (hb : Below w1.heap.size w1 wx) => HC0.out wx (HBW.out.trans (hb.mono HBW.out.size)))
        have HIHl := Lib.hid (fun wx (hb : Below w1.heap.size w1 wx) => HIHl0.out wx (HBW.out.trans (hb.mono HBW.out.size)))
        clear z8
        rw [hz8]
        clear hz8
        go_simp
        go_upto_region 2 with fail
        refine wp_region_stepsE (fun c wz => MeetE wz (meetF (hw W) (f + 1) a b) (.panicked c) ∧ Below w.heap.size w wz) [some 15, some 16, some 17, some 18, some 19, some 20, some 21, some 22, some 23] [] (me2F W f g1 g2 pl1 pl2 a b) (fun _ wx wy => Below wx.heap.size wx wy) (fun wx => Below w1.heap.size w1 wx) ?hE (by kernel_rfl) (by kernel_rfl) rfl (by kernel_rfl) (Below.refl _ _).drew (fun _ wx => Below.refl _ _) (fun _ wx wy h k => h.trans (k.mono h.size)) ?hF ?hstep ?hend
        case hE =>
          intro c act wz hd _ hc
          exact ⟨hd, hc⟩
        case hF =>
          exact ⟨fun _ _ _ _ _ _ h => h, ⟨fun _ _ _ _ _ _ h => h, ⟨fun _ _ _ _ _ _ h => h, ⟨fun _ _ _ _ _ _ h => h, ⟨fun _ _ _ _ _ _ h => h, ⟨fun _ _ _ _ _ _ h => h, ⟨fun _ _ _ _ _ _ h => h, ⟨fun _ _ _ _ _ _ h => h, ⟨fun _ _ _ _ _ _ h => h, trivial⟩⟩⟩⟩⟩⟩⟩⟩⟩
        case hstep =>
          refine ⟨fun r wx hG hs hq hf => ?_, ?_⟩
          · have e0 : r 0 = .pointer (some ⟨g1, 0, none⟩) := hs 0 rfl
            refine (if_pos rfl).symm ▸ ?_
            clear hs hq hf
            refine givesE_of ?_
            unfold gives
            go_simp
            exact ⟨Below.refl _ _, rfl⟩
          refine ⟨fun r wx hG hs hq hf => ?_, ?_⟩
          · have h0 : r 15 = .pointer (some ⟨g1, 0, none⟩) := hf.1
            refine (if_pos rfl).symm ▸ ?_
            clear hs hq hf
            refine givesE_of ?_
            unfold gives
            go_simp
            exact ⟨Below.refl _ _, rfl⟩
          refine ⟨fun r wx hG hs hq hf => ?_, ?_⟩
          · have h1 : r 16 = .pointer (some ⟨g1, 0, none⟩) := hf.1
            refine (if_pos rfl).symm ▸ ?_
            clear hs hq hf
            refine givesE_of ?_
            unfold gives
            go_simp
            exact ⟨Below.refl _ _, rfl⟩
          refine ⟨fun r wx hG hs hq hf => ?_, ?_⟩
          · have h2 : r 17 = .pointer (some ⟨g1, 33, none⟩) := hf.1
            refine (if_pos rfl).symm ▸ ?_
            clear hs hq hf
            refine givesE_of ?_
            unfold gives
            have hcl := (HC.out wx hG).1.2.1
            go_simp
            exact ⟨Below.refl _ _, rfl⟩
          refine ⟨fun r wx hG hs hq hf => ?_, ?_⟩
          · have e1 : r 1 = .pointer (some ⟨g2, 0, none⟩) := hs 1 rfl
            refine (if_pos rfl).symm ▸ ?_
            clear hs hq hf
            refine givesE_of ?_
            unfold gives
            go_simp
            exact ⟨Below.refl _ _, rfl⟩
          refine ⟨fun r wx hG hs hq hf => ?_, ?_⟩
          · have h4 : r 19 = .pointer (some ⟨g2, 0, none⟩) := hf.1
            refine (if_pos rfl).symm ▸ ?_
            clear hs hq hf
            refine givesE_of ?_
            unfold gives
            go_simp
            exact ⟨Below.refl _ _, rfl⟩
          refine ⟨fun r wx hG hs hq hf => ?_, ?_⟩
          · have h5 : r 20 = .pointer (some ⟨g2, 0, none⟩) := hf.1
            refine (if_pos rfl).symm ▸ ?_
            clear hs hq hf
            refine givesE_of ?_
            unfold gives
            go_simp
            exact ⟨Below.refl _ _, rfl⟩
          refine ⟨fun r wx hG hs hq hf => ?_, ?_⟩
          · have h6 : r 21 = .pointer (some ⟨g2, 33, none⟩) := hf.1
            refine (if_pos rfl).symm ▸ ?_
            clear hs hq hf
            refine givesE_of ?_
            unfold gives
            have hcl := (HC.out wx hG).2.2.1
            go_simp
            exact ⟨Below.refl _ _, rfl⟩
          refine ⟨fun r wx hG hs hq hf => ?_, ?_⟩
          · have h3 : r 18 = .pointer pl1 := hf.1
            have h7 : r 22 = .pointer pl2 := hf.2.1
            refine (if_pos rfl).symm ▸ ?_
            clear hs hq hf
            unfold givesE
            go_simp
            refine (HIHl.out wx hG).mono ?_
            rintro e wy ⟨he, hb1⟩
            cases hm : meetF (hw W) f (lo a) (lo b) with
            | none =>
              rw [hm] at he
              exact .inl ⟨_, he, hb1, rfl, hm⟩
            | some p =>
              rw [hm] at he
              obtain ⟨va, vb, he, h1, h2⟩ := he
              subst he
              refine .inr ⟨_, rfl, ?_, (HBW.out.trans (hG.mono HBW.out.size)).trans (hb1.mono (HBW.out.trans (hG.mono HBW.out.size)).size)⟩
              rw [meet_lo W f a b HLN.out.1 HLN.out.2 HTX.out p hm]
              exact ⟨va, vb, rfl, h1, h2⟩
          exact trivial
        case hend =>
          intro u wz hG hfin
          have z8 : (u 8) = .tuple #[] ∧ meetF (hw W) f (lo a) (lo b) = none := hfin 8 (by decide) (by kernel_rfl)
          clear hfin
          simp only [fill]
          have HBW2 := Lib.hid (HBW.out.trans (hG.mono HBW.out.size))
          clear hG
          obtain ⟨w2, hw2⟩ : ∃ x, x = wz := ⟨_, rfl⟩
          subst hw2
          have HM := Lib.hid z8.2
          have hz8 := z8.1
          have HC := Lib.hid (fun wx (hb : Below w2.heap.size w2 wx) => HC0.out wx (HBW2.out.trans (hb.mono HBW2.out.size)))
          have HIHr := Lib.hid (fun wx (hb : Below w2.heap.size w2 wx) => HIHr0.out wx (HBW2.out.trans (hb.mono HBW2.out.size)))
          have HBW := HBW2
          clear z8
          rw [hz8]
          clear hz8
          go_simp
          go_upto_region 3 with fail
          refine wp_region_stepsE (fun c wz => MeetE wz (meetF (hw W) (f + 1) a b) (.panicked c) ∧ Below w.heap.size w wz) [some 24, some 25, some 26, some 27, some 28, some 29, some 30, some 31, some 32] [] (me3F W f g1 g2 pr1 pr2 a b) (fun _ wx wy => Below wx.heap.size wx wy) (fun wx => Below w2.heap.size w2 wx) ?hE (by kernel_rfl) (by kernel_rfl) rfl (by kernel_rfl) (Below.refl _ _).drew (fun _ wx => Below.refl _ _) (fun _ wx wy h k => h.trans (k.mono h.size)) ?hF ?hstep ?hend
          case hE =>
            intro c act wz hd _ hc
            exact ⟨hd, hc⟩
          case hF =>
            exact ⟨fun _ _ _ _ _ _ h => h, ⟨fun _ _ _ _ _ _ h => h, ⟨fun _ _ _ _ _ _ h => h, ⟨fun _ _ _ _ _ _ h => h, ⟨fun _ _ _ _ _ _ h => h, ⟨fun _ _ _ _ _ _ h => h, ⟨fun _ _ _ _ _ _ h => h, ⟨fun _ _ _ _ _ _ h => h, ⟨fun _ _ _ _ _ _ h => h, trivial⟩⟩⟩⟩⟩⟩⟩⟩⟩
          case hstep =>
            refine ⟨fun r wx hG hs hq hf => ?_, ?_⟩
            · have e0 : r 0 = .pointer (some ⟨g1, 0, none⟩) := hs 0 rfl
              refine (if_pos rfl).symm ▸ ?_
              clear hs hq hf
              refine givesE_of ?_
              unfold gives
              go_simp
              exact ⟨Below.refl _ _, rfl⟩
            refine ⟨fun r wx hG hs hq hf => ?_, ?_⟩
            · have h0 : r 24 = .pointer (some ⟨g1, 0, none⟩) := hf.1
              refine (if_pos rfl).symm ▸ ?_
              clear hs hq hf
              refine givesE_of ?_
              unfold gives
              go_simp
              exact ⟨Below.refl _ _, rfl⟩
            refine ⟨fun r wx hG hs hq hf => ?_, ?_⟩
            · have h1 : r 25 = .pointer (some ⟨g1, 0, none⟩) := hf.1
              refine (if_pos rfl).symm ▸ ?_
              clear hs hq hf
              refine givesE_of ?_
              unfold gives
              go_simp
              exact ⟨Below.refl _ _, rfl⟩
            refine ⟨fun r wx hG hs hq hf => ?_, ?_⟩
            · have h2 : r 26 = .pointer (some ⟨g1, 34, none⟩) := hf.1
              refine (if_pos rfl).symm ▸ ?_
              clear hs hq hf
              refine givesE_of ?_
              unfold gives
              have hcl := (HC.out wx hG).1.2.2
              go_simp
              exact ⟨Below.refl _ _, rfl⟩
            refine ⟨fun r wx hG hs hq hf => ?_, ?_⟩
            · have e1 : r 1 = .pointer (some ⟨g2, 0, none⟩) := hs 1 rfl
              refine (if_pos rfl).symm ▸ ?_
              clear hs hq hf
              refine givesE_of ?_
              unfold gives
              go_simp
              exact ⟨Below.refl _ _, rfl⟩
            refine ⟨fun r wx hG hs hq hf => ?_, ?_⟩
            · have h4 : r 28 = .pointer (some ⟨g2, 0, none⟩) := hf.1
              refine (if_pos rfl).symm ▸ ?_
              clear hs hq hf
              refine givesE_of ?_
              unfold gives
              go_simp
              exact ⟨Below.refl _ _, rfl⟩
            refine ⟨fun r wx hG hs hq hf => ?_, ?_⟩
            · have h5 : r 29 = .pointer (some ⟨g2, 0, none⟩) := hf.1
              refine (if_pos rfl).symm ▸ ?_
              clear hs hq hf
              refine givesE_of ?_
              unfold gives
              go_simp
              exact ⟨Below.refl _ _, rfl⟩
            refine ⟨fun r wx hG hs hq hf => ?_, ?_⟩
            · have h6 : r 30 = .pointer (some ⟨g2, 34, none⟩) := hf.1
              refine (if_pos rfl).symm ▸ ?_
              clear hs hq hf
              refine givesE_of ?_
              unfold gives
              have hcl := (HC.out wx hG).2.2.2
              go_simp
              exact ⟨Below.refl _ _, rfl⟩
            refine ⟨fun r wx hG hs hq hf => ?_, ?_⟩
            · have h3 : r 27 = .pointer pr1 := hf.1
              have h7 : r 31 = .pointer pr2 := hf.2.1
              refine (if_pos rfl).symm ▸ ?_
              clear hs hq hf
              unfold givesE
              go_simp
              refine (HIHr.out wx hG).mono ?_
              rintro e wy ⟨he, hb1⟩
              cases hm : meetF (hw W) f (ro a) (ro b) with
              | none =>
                rw [hm] at he
                exact .inl ⟨_, he, hb1, rfl, hm⟩
              | some p =>
                rw [hm] at he
                obtain ⟨va, vb, he, h1, h2⟩ := he
                subst he
                refine .inr ⟨_, rfl, ?_, (HBW.out.trans (hG.mono HBW.out.size)).trans (hb1.mono (HBW.out.trans (hG.mono HBW.out.size)).size)⟩
                rw [meet_ro W f a b HLN.out.1 HLN.out.2 HTX.out HM.out, hm]
                exact ⟨va, vb, rfl, h1, h2⟩
            exact trivial
          case hend =>
            intro u wz hG hfin
            have z8 : (u 8) = .tuple #[] ∧ meetF (hw W) f (ro a) (ro b) = none := hfin 8 (by decide) (by kernel_rfl)
            clear hfin
            simp only [fill]
            have HB9 := Lib.hid (HBW.out.trans (hG.mono HBW.out.size))
            have HM2 := Lib.hid z8.2
            have hz8 := z8.1
            clear hG z8
            rw [hz8]
            clear hz8
            go_simp
            go_wp2_with fail
            go_end0
            refine ⟨?_, HB9.out⟩
            rw [meet_ro W f a b HLN.out.1 HLN.out.2 HTX.out HM.out, HM2.out]
            exact rfl

set_option maxRecDepth 100000 in
/-- What was caught: the two texts, and no error. -/
theorem found_some (w : World) (p q : Nat) (va vb o1 o2 : Value) (e0 : Int) (hp : w.heap[p]? = some (.cells #[o1, o2] 27 (0, 0))) (hq : w.heap[q]? = some (.cells #[.int .i64 e0] 28 (0, 0))) (hpq : p ≠ q)
    (a1 a2 : Option Addr) (n1 n2 c1 c2 : Nat) (ha : va = .slice a1 n1 c1) (hb : vb = .slice a2 n2 c2) :
    Calls Tryd.prog 27 #[.iface 92 (.agg #[va, vb]), .pointer (some ⟨p, 0, none⟩), .pointer (some ⟨q, 0, none⟩)] w fun e w' => e = .returned (.tuple #[]) ∧
      w' = (((w.alloc (.cells #[va, vb] 92)).setCell ⟨p, 0, none⟩ va).setCell ⟨p, 1, none⟩ vb).setCell ⟨q, 0, none⟩ (.int .i64 0) := by
  have hpl := (Array.getElem?_eq_some_iff.1 hp).1
  have hql := (Array.getElem?_eq_some_iff.1 hq).1
  obtain ⟨w0, hw0⟩ : ∃ x, x = w.alloc (.cells #[va, vb] 92) := ⟨_, rfl⟩
  have hp' : w0.heap[p]? = some (.cells #[o1, o2] 27 (0, 0)) := by rw [hw0, heap_alloc_old _ _ hpl]; exact hp
  have hq' : w0.heap[q]? = some (.cells #[.int .i64 e0] 28 (0, 0)) := by rw [hw0, heap_alloc_old _ _ hql]; exact hq
  have hn' : w0.heap[w.heap.size]? = some (.cells #[va, vb] 92 (0, 0)) := by rw [hw0]; exact heap_alloc_new _ _
  have f0 : w0.cell? ⟨w.heap.size, 0, none⟩ = some va := by simp [World.cell?, hn']
  have f1 : w0.cell? ⟨w.heap.size, 1, none⟩ = some vb := by simp [World.cell?, hn']
  have h0 : w0.cell? ⟨p, 0, none⟩ = some o1 := by simp [World.cell?, hp']
  have h1 : w0.cell? ⟨p, 1, none⟩ = some o2 := by simp [World.cell?, hp']
  have h2 : w0.cell? ⟨q, 0, none⟩ = some (.int .i64 e0) := by simp [World.cell?, hq']
  have z0 : w0.frozen? ⟨p, 0, none⟩ = false := by simp [World.frozen?, hp']
  have z1 : w0.frozen? ⟨p, 1, none⟩ = false := by simp [World.frozen?, hp']
  have z2 : w0.frozen? ⟨q, 0, none⟩ = false := by simp [World.frozen?, hq']
  have hta : ∀ wx : World, (Instr.typeAssert (.iface 92 (.agg #[va, vb])) 20 92 true).run Tryd.prog wx = .ok (.tuple #[.agg #[va, vb], .bool true]) wx := fun _ => by first | rfl | kernel_rfl
  have hqp : q ≠ p := fun e => hpq e.symm
  have hwp : w.heap.size ≠ p := by omega
  have hwq : w.heap.size ≠ q := by omega
  subst ha
  subst hb
  have HW := Lib.hid hw0
  clear hp hq hp' hq' hn' hw0
  go_enter Tryd.func27, Tryd.ntmps27
  go_upto_region 1 with fail
  rw [show w.alloc (.cells #[.slice a1 n1 c1, .slice a2 n2 c2] 92) = w0 from HW.out.symm]
  go_wp2_with fail
  go_end0
  exact ⟨rfl, by rw [HW.out]⟩
set_option maxRecDepth 100000 in
theorem found_none (w : World) (p q : Nat) :
    Calls Tryd.prog 27 #[.nilIface, .pointer (some ⟨p, 0, none⟩), .pointer (some ⟨q, 0, none⟩)] w fun e w' => e = .returned (.tuple #[]) ∧ Below w.heap.size w w' := by
  have hta : ∀ wx : World, (Instr.typeAssert .nilIface 20 92 true).run Tryd.prog wx = .ok (.tuple #[.agg #[.slice none 0 0, .slice none 0 0], .bool false]) wx := fun _ => by first | rfl | kernel_rfl
  go_enter Tryd.func27, Tryd.ntmps27
  go_wp2_with fail
  go_end0
  exact ⟨rfl, (Below.refl _ _).alloc (Nat.le_refl _) _⟩
end Go.Proofs.YtfibhmgjkooemaaDoor
namespace Go.Proofs.YtfibhmgjkooemaaDoor
open Go.RowKit Sha Root Path Clash

theorem cell_of_rowp {w : World} {g : Nat} {xs : Array Value} {t : TypeId} {v : Value} {i : Nat} (h : w.heap[g]? = some (.cells xs t (0, 0))) (hv : xs[i]? = some v) : w.cell? ⟨g, i, none⟩ = some v := by
  simp [World.cell?, h, hv]
/-- A pair and an error are set. -/
def st2 (w : World) (p q : Nat) (a b e : Value) : World := ((w.setCell ⟨p, 0, none⟩ a).setCell ⟨p, 1, none⟩ b).setCell ⟨q, 0, none⟩ e
theorem st2_facts {w : World} {p q : Nat} {o1 o2 o3 a b e : Value} {T T' : TypeId} (hp : w.heap[p]? = some (.cells #[o1, o2] T (0, 0))) (hq : w.heap[q]? = some (.cells #[o3] T' (0, 0))) (hpq : p ≠ q) :
    (st2 w p q a b e).heap[p]? = some (.cells #[a, b] T (0, 0)) ∧ (st2 w p q a b e).heap[q]? = some (.cells #[e] T' (0, 0)) ∧ (∀ k, k ≠ p → k ≠ q → (st2 w p q a b e).heap[k]? = w.heap[k]?) ∧
      (∀ B, B ≤ p → B ≤ q → Below B w (st2 w p q a b e)) := by
  unfold st2
  have h1 := heap_setCell_same w p 0 _ _ a hp
  have h2 := heap_setCell_same _ p 1 _ _ b h1
  have h3 : ((w.setCell ⟨p, 0, none⟩ a).setCell ⟨p, 1, none⟩ b).heap[q]? = some (.cells #[o3] T' (0, 0)) := by
    rw [heap_setCell_other _ _ _ _ (fun e => hpq e.symm), heap_setCell_other _ _ _ _ (fun e => hpq e.symm)]; exact hq
  have h4 : ∀ k, k ≠ p → k ≠ q → (((w.setCell ⟨p, 0, none⟩ a).setCell ⟨p, 1, none⟩ b).setCell ⟨q, 0, none⟩ e).heap[k]? = w.heap[k]? := fun k hkp hkq => by
    rw [heap_setCell_other _ _ _ _ hkq, heap_setCell_other _ _ _ _ hkp, heap_setCell_other _ _ _ _ hkp]
  refine ⟨?_, ?_, h4, fun B h5 h6 => ⟨rfl, rfl, rfl, by simp [World.setCell], fun k hk => h4 k (by omega) (by omega)⟩⟩
  · rw [heap_setCell_other _ _ _ _ hpq, h2]; rfl
  · rw [heap_setCell_same _ q 0 _ _ e h3]; rfl
/-- Bytes stand, where a pair and an error are set. -/
theorem Rd.st2 {w : World} {p q : Nat} {a1 a2 : Option Addr} {n1 n2 c1 c2 : Nat} {e0 : Int} {a b e : Value} {T T' : TypeId} {v : Value} {n : Nat} {l : List UInt8} (h : Rd w 1 v n (bv l)) (hp : w.heap[p]? = some (.cells #[.slice a1 n1 c1, .slice a2 n2 c2] T (0, 0))) (hq : w.heap[q]? = some (.cells #[.int .i64 e0] T' (0, 0))) (hpq : p ≠ q) :
    Rd (st2 w p q a b e) 1 v n (bv l) := by
  have hf := (st2_facts (a := a) (b := b) (e := e) hp hq hpq).2.2.1
  by_cases h0 : n = 0
  · obtain ⟨hl, h1, h2 | ⟨ad, c, hv, hc, hcell⟩⟩ := h
    · exact ⟨hl, h1, .inl h2⟩
    · refine ⟨hl, h1, .inr ⟨ad, c, hv, hc, fun j u hu => ?_⟩⟩
      have hj := (List.getElem?_eq_some_iff.1 hu).1
      rw [hl, h0] at hj
      omega
  · obtain ⟨blk, off, c, hv, hc, hcell⟩ := h.at (by omega)
    refine ⟨h.1, h.2.1, .inr ⟨⟨blk, off, none⟩, c, hv, hc, fun j u hu => ?_⟩⟩
    have h3 := hcell j u hu
    rw [Addr.add_lit]
    obtain ⟨x, rfl⟩ : ∃ x : UInt8, u = .int .u8 x.toNat := by
      unfold bv at hu
      rw [List.getElem?_map] at hu
      obtain ⟨x, _, rfl⟩ := Option.map_eq_some_iff.1 hu
      exact ⟨x, rfl⟩
    rw [← h3]
    refine World.cell?_of_block (hf _ (fun e1 => ?_) (fun e1 => ?_))
    · have e1 : blk = p := e1
      subst e1
      simp only [World.cell?, hp] at h3
      match hj : off + j with
      | 0 => rw [hj] at h3; simp at h3
      | 1 => rw [hj] at h3; simp at h3
      | k + 2 => rw [hj] at h3; simp at h3
    · have e1 : blk = q := e1
      subst e1
      simp only [World.cell?, hq] at h3
      match hj : off + j with
      | 0 => rw [hj] at h3; simp at h3
      | k + 1 => rw [hj] at h3; simp at h3

set_option maxRecDepth 100000 in
theorem close_foundL (w : World) (p q : Nat) (o1 o2 : Value) (e0 : Int) (older : List PanicEntry) (hp : w.heap[p]? = some (.cells #[o1, o2] 27 (0, 0))) (hq : w.heap[q]? = some (.cells #[.int .i64 e0] 28 (0, 0))) (hpq : p ≠ q)
    (a1 a2 : Option Addr) (n1 n2 c1 c2 : Nat) :
    CallsD Tryd.prog 26 #[.pointer (some ⟨p, 0, none⟩), .pointer (some ⟨q, 0, none⟩)] (.panicking ({ v := .iface 92 (.agg #[.slice a1 n1 c1, .slice a2 n2 c2]), recovered := false } :: older)) w fun e u' w' =>
      e = .returned (.tuple #[]) ∧ u' = .panicking ({ v := .iface 92 (.agg #[.slice a1 n1 c1, .slice a2 n2 c2]), recovered := true } :: older) ∧
        w' = st2 (w.alloc (.cells #[.slice a1 n1 c1, .slice a2 n2 c2] 92)) p q (.slice a1 n1 c1) (.slice a2 n2 c2) (.int .i64 0) := by
  have hc := found_some w p q (.slice a1 n1 c1) (.slice a2 n2 c2) o1 o2 e0 hp hq hpq a1 a2 n1 n2 c1 c2 rfl rfl
  refine callsD_of_wpS Tryd.func26 rfl fun c₀ cs hu => ?_
  apply wpS_region
  simp [wpOpsS, go_sem, recoverD, hu, Tryd.ntmps26, Region.wanted]
  refine hc.mono ?_
  rintro e w' ⟨rfl, rfl⟩
  simp [wpOpsS, bodyPostS, results, Tryd.results26, go_sem, st2]
set_option maxRecDepth 100000 in
theorem close_quietL (w : World) (p q : Nat) :
    CallsD Tryd.prog 26 #[.pointer (some ⟨p, 0, none⟩), .pointer (some ⟨q, 0, none⟩)] .returning w fun e u' w' => e = .returned (.tuple #[]) ∧ u' = .returning ∧ Below w.heap.size w w' := by
  have hc := found_none w p q
  refine callsD_of_wpS Tryd.func26 rfl fun c₀ cs hu => ?_
  apply wpS_region
  simp [wpOpsS, go_sem, recoverD, hu, Tryd.ntmps26, Region.wanted]
  refine hc.mono ?_
  rintro e w' ⟨rfl, hb⟩
  cases c₀
  simp_all [wpOpsS, bodyPostS, results, Tryd.results26, go_sem]

set_option maxRecDepth 100000 in
theorem close_foundG (w : World) (p q : Nat) (o1 o2 : Value) (e0 : Int) (older : List PanicEntry) (hp : w.heap[p]? = some (.cells #[o1, o2] 27 (0, 0))) (hq : w.heap[q]? = some (.cells #[.int .i64 e0] 28 (0, 0))) (hpq : p ≠ q)
    (a1 a2 : Option Addr) (n1 n2 c1 c2 : Nat) :
    CallsD Tryd.prog 32 #[.pointer (some ⟨p, 0, none⟩), .pointer (some ⟨q, 0, none⟩)] (.panicking ({ v := .iface 92 (.agg #[.slice a1 n1 c1, .slice a2 n2 c2]), recovered := false } :: older)) w fun e u' w' =>
      e = .returned (.tuple #[]) ∧ u' = .panicking ({ v := .iface 92 (.agg #[.slice a1 n1 c1, .slice a2 n2 c2]), recovered := true } :: older) ∧
        w' = st2 (w.alloc (.cells #[.slice a1 n1 c1, .slice a2 n2 c2] 92)) p q (.slice a1 n1 c1) (.slice a2 n2 c2) (.int .i64 0) := by
  have hc := found_some w p q (.slice a1 n1 c1) (.slice a2 n2 c2) o1 o2 e0 hp hq hpq a1 a2 n1 n2 c1 c2 rfl rfl
  refine callsD_of_wpS Tryd.func32 rfl fun c₀ cs hu => ?_
  apply wpS_region
  simp [wpOpsS, go_sem, recoverD, hu, Tryd.ntmps32, Region.wanted]
  refine hc.mono ?_
  rintro e w' ⟨rfl, rfl⟩
  simp [wpOpsS, bodyPostS, results, Tryd.results32, go_sem, st2]
set_option maxRecDepth 100000 in
theorem close_quietG (w : World) (p q : Nat) :
    CallsD Tryd.prog 32 #[.pointer (some ⟨p, 0, none⟩), .pointer (some ⟨q, 0, none⟩)] .returning w fun e u' w' => e = .returned (.tuple #[]) ∧ u' = .returning ∧ Below w.heap.size w w' := by
  have hc := found_none w p q
  refine callsD_of_wpS Tryd.func32 rfl fun c₀ cs hu => ?_
  apply wpS_region
  simp [wpOpsS, go_sem, recoverD, hu, Tryd.ntmps32, Region.wanted]
  refine hc.mono ?_
  rintro e w' ⟨rfl, hb⟩
  cases c₀
  simp_all [wpOpsS, bodyPostS, results, Tryd.results32, go_sem]

set_option maxRecDepth 100000 in
theorem close_foundP (w : World) (p q : Nat) (o1 o2 : Value) (e0 : Int) (older : List PanicEntry) (hp : w.heap[p]? = some (.cells #[o1, o2] 27 (0, 0))) (hq : w.heap[q]? = some (.cells #[.int .i64 e0] 28 (0, 0))) (hpq : p ≠ q)
    (a1 a2 : Option Addr) (n1 n2 c1 c2 : Nat) :
    CallsD Tryd.prog 46 #[.pointer (some ⟨p, 0, none⟩), .pointer (some ⟨q, 0, none⟩)] (.panicking ({ v := .iface 92 (.agg #[.slice a1 n1 c1, .slice a2 n2 c2]), recovered := false } :: older)) w fun e u' w' =>
      e = .returned (.tuple #[]) ∧ u' = .panicking ({ v := .iface 92 (.agg #[.slice a1 n1 c1, .slice a2 n2 c2]), recovered := true } :: older) ∧
        w' = st2 (w.alloc (.cells #[.slice a1 n1 c1, .slice a2 n2 c2] 92)) p q (.slice a1 n1 c1) (.slice a2 n2 c2) (.int .i64 0) := by
  have hc := found_some w p q (.slice a1 n1 c1) (.slice a2 n2 c2) o1 o2 e0 hp hq hpq a1 a2 n1 n2 c1 c2 rfl rfl
  refine callsD_of_wpS Tryd.func46 rfl fun c₀ cs hu => ?_
  apply wpS_region
  simp [wpOpsS, go_sem, recoverD, hu, Tryd.ntmps46, Region.wanted]
  refine hc.mono ?_
  rintro e w' ⟨rfl, rfl⟩
  simp [wpOpsS, bodyPostS, results, Tryd.results46, go_sem, st2]

/-- What is answered: an error and two texts. -/
def PairE (w w' : World) (r : Int × List UInt8 × List UInt8) (e : Ending) : Prop := ∃ a1 c1 a2 c2, e = .returned (.tuple #[.agg #[.slice a1 r.2.1.length c1, .slice a2 r.2.2.length c2], .int .i64 r.1]) ∧ Rd w' 1 (.slice a1 r.2.1.length c1) r.2.1.length (bv r.2.1) ∧ Rd w' 1 (.slice a2 r.2.2.length c2) r.2.2.length (bv r.2.2) ∧ Below w.heap.size w w'
def ansL (W : Int) (a b : List (List UInt8)) : Int × List UInt8 × List UInt8 := if a.length ≠ b.length then (9, [], []) else if rt (hw W) a ≠ rt (hw W) b then (3, [], []) else
  match meetF (hw W) a.length a b with
  | none => (8, [], [])
  | some p => (0, p.1, p.2)

set_option maxHeartbeats 8000000 in
set_option maxRecDepth 100000 in
theorem cLists_any (W : Int) (la lb : List (List UInt8)) (v u : Value) (w : World) (hW : -9223372036854775808 ≤ W ∧ W ≤ 9223372036854775807) (hla : la.length ≤ 4294967296) (hlb : lb.length ≤ 4294967296) (hta : ∀ t ∈ la, t.length ≤ 140737488351232) (htb : ∀ t ∈ lb, t.length ≤ 140737488351232) (hv : Txw w v la) (hu : Txw w u lb) (hT : Tabs w) :
    Calls Tryd.prog 10 #[.int .i64 W, v, u] w fun e w' => PairE w w' (ansL W la lb) e := by
  have hmf : ∀ (fn : Fn) (first cap : Array Value) (w : World), (Instr.makeFunc fn first cap).run Tryd.prog w = .ok (.func fn first cap) w := fun _ _ _ _ => rfl
  obtain ⟨a1, c1, rfl⟩ := hv.form
  obtain ⟨a2, c2, rfl⟩ := hu.form
  obtain ⟨n, hn⟩ : ∃ n, n = la.length := ⟨_, rfl⟩
  obtain ⟨m, hm⟩ : ∃ n, n = lb.length := ⟨_, rfl⟩
  obtain ⟨w1, hw1⟩ : ∃ x : World, x = (w.alloc (.cells #[.slice none 0 0, .slice none 0 0] 27)).alloc (.cells #[.int .i64 0] 28) := ⟨_, rfl⟩
  have hB : Below w.heap.size w w1 := by rw [hw1]; exact ((Below.refl _ _).alloc (Nat.le_refl _) _).alloc (by simp) _
  have r1 : w1.heap[w.heap.size]? = some (.cells #[.slice none 0 0, .slice none 0 0] 27 (0, 0)) := by
    rw [hw1, heap_alloc_old _ _ (by simp)]; exact heap_alloc_new _ _
  have r2 : w1.heap[w.heap.size + 1]? = some (.cells #[.int .i64 0] 28 (0, 0)) := by
    rw [hw1]
    have := heap_alloc_new (w.alloc (.cells #[.slice none 0 0, .slice none 0 0] 27)) (.cells #[.int .i64 0] 28)
    simpa using this
  have HW1 := Lib.hid hw1
  have H1 := Lib.hid (And.intro hB (And.intro r1 r2))
  have HG1 := Lib.hid (fun wx (hb : Below w1.heap.size w1 wx) => grown_any W hW la.length la (.slice a1 la.length c1) wx (Nat.le_refl _) hla hta (hv.keep (hB.trans (hb.mono hB.size))) (hT.keepB (hB.trans (hb.mono hB.size))))
  have HG2 := Lib.hid (fun wx (hb : Below w1.heap.size w1 wx) => grown_any W hW lb.length lb (.slice a2 lb.length c2) wx (Nat.le_refl _) hlb htb (hu.keep (hB.trans (hb.mono hB.size))) (hT.keepB (hB.trans (hb.mono hB.size))))
  have HT := Lib.hid (fun wx (hb : Below w1.heap.size w1 wx) => hT.keepB (hB.trans (hb.mono hB.size)))
  have HWW := Lib.hid hW
  rw [← hn] at HG1 ⊢
  rw [← hm] at HG2 ⊢
  have HN := Lib.hid (And.intro hn hm)
  have hee : ansL W la lb = (if n ≠ m then (9, [], []) else if rt (hw W) la ≠ rt (hw W) lb then (3, [], []) else (match meetF (hw W) n la lb with
    | none => (8, [], [])
    | some p => (0, p.1, p.2)) : Int × List UInt8 × List UInt8) := by rw [ansL, ← hn, ← hm]
  obtain ⟨A, hA⟩ : ∃ A, A = ansL W la lb := ⟨_, rfl⟩
  have HEE := Lib.hid (hA.trans hee)
  rw [← hA]
  clear hA hee hw1 hB r1 r2 hv hu hT hW hn hm hla hlb hta htb
  go_enter_defers Tryd.func10, Tryd.ntmps10
  go_upto_region 1 with fail
  rw [show (w.alloc (.cells #[.slice none 0 0, .slice none 0 0] 27)).alloc (.cells #[.int .i64 0] 28) = w1 from HW1.out.symm]
  have finish : ∀ (wz : World) (E : Int), wz.heap[w.heap.size]? = some (.cells #[.slice none 0 0, .slice none 0 0] 27 (0, 0)) → wz.heap[w.heap.size + 1]? = some (.cells #[.int .i64 0] 28 (0, 0)) → Below w.heap.size w wz →
      (st2 wz w.heap.size (w.heap.size + 1) (.slice none 0 0) (.slice none 0 0) (.int .i64 E)).heap[w.heap.size]? = some (.cells #[.slice none 0 0, .slice none 0 0] 27 (0, 0)) ∧
      (st2 wz w.heap.size (w.heap.size + 1) (.slice none 0 0) (.slice none 0 0) (.int .i64 E)).heap[w.heap.size + 1]? = some (.cells #[.int .i64 E] 28 (0, 0)) ∧ Below w.heap.size w (st2 wz w.heap.size (w.heap.size + 1) (.slice none 0 0) (.slice none 0 0) (.int .i64 E)) := by
    intro wz E h1 h2 h3
    have hst := st2_facts (a := .slice none 0 0) (b := .slice none 0 0) (e := .int .i64 E) h1 h2 (by omega)
    exact ⟨hst.1, hst.2.1, h3.trans (hst.2.2.2 _ (Nat.le_refl _) (by omega))⟩
  have FIN := Lib.hid finish
  clear finish
  by_cases hnm : n = m
  · subst hnm
    have y1 : ((n : Int) != (n : Int)) = false := by simp
    go_wp2_with fail
    refine (HG1.out _ (Below.refl _ _)).mono ?_
    rintro e w2 ⟨p1, rfl, ht1, hb2⟩
    obtain ⟨q1, rfl⟩ := ht1.form
    have H2 := Lib.hid (And.intro ht1 hb2)
    clear ht1 hb2
    go_wp2_with fail
    refine (HG2.out _ H2.out.2).mono ?_
    rintro e w3 ⟨p2, rfl, ht2, hb3⟩
    obtain ⟨q2, rfl⟩ := ht2.form
    have H3 := Lib.hid (And.intro (H2.out.1.keep hb3) (And.intro ht2 (H2.out.2.trans (hb3.mono H2.out.2.size))))
    clear ht2 hb3 H2
    go_wp2_with fail
    refine (troot_any W _ la w3 HWW.out H3.out.1 (HT.out _ H3.out.2.2)).mono ?_
    rintro e w4 ⟨rfl, hb4⟩
    have H4 := Lib.hid (And.intro (H3.out.1.keep hb4) (And.intro (H3.out.2.1.keep hb4) (H3.out.2.2.trans (hb4.mono H3.out.2.2.size))))
    clear hb4 H3
    go_wp2_with fail
    refine (troot_any W _ lb w4 HWW.out H4.out.2.1 (HT.out _ H4.out.2.2)).mono ?_
    rintro e w5 ⟨rfl, hb5⟩
    have H5 := Lib.hid (And.intro (H4.out.1.keep hb5) (And.intro (H4.out.2.1.keep hb5) (H4.out.2.2.trans (hb5.mono H4.out.2.2.size))))
    clear hb5 H4
    have hqe := fun wx => eqIn_hash (rt (hw W) la) (rt (hw W) lb) (rt32 W la) (rt32 W lb) wx
    have hgd := eq_guard
    have R5 := Lib.hid (And.intro ((H5.out.2.2.block _ (Array.getElem?_eq_some_iff.1 H1.out.2.1).1).trans H1.out.2.1) (And.intro ((H5.out.2.2.block _ (Array.getElem?_eq_some_iff.1 H1.out.2.2).1).trans H1.out.2.2) (H1.out.1.trans (H5.out.2.2.mono H1.out.1.size))))
    by_cases hrr : rt (hw W) la = rt (hw W) lb
    · have hrb : (rt (hw W) la == rt (hw W) lb) = true := by simp [hrr]
      rw [hrb] at hqe
      have HR9 := Lib.hid hrr
      clear hrr hrb
      go_wp2_with fail
      refine (meet_any W n la lb _ _ w5 (by rw [HN.out.1]; exact Nat.le_refl _) (HN.out.1.symm.trans HN.out.2) H5.out.1 H5.out.2.1).mono ?_
      rintro e w6 ⟨he, hb6⟩
      have q1' := (hb6.block _ (Array.getElem?_eq_some_iff.1 R5.out.1).1).trans R5.out.1
      have q2' := (hb6.block _ (Array.getElem?_eq_some_iff.1 R5.out.2.1).1).trans R5.out.2.1
      have qB : Below w.heap.size w w6 := R5.out.2.2.trans (hb6.mono R5.out.2.2.size)
      cases hmt : meetF (hw W) n la lb with
      | none =>
        rw [hmt] at he
        have he : e = .returned (.tuple #[]) := he
        subst he
        have h0 : w6.cell? ⟨w.heap.size, 0, none⟩ = some (.slice none 0 0) := cell_of_rowp q1' rfl
        have h1 : w6.cell? ⟨w.heap.size, 1, none⟩ = some (.slice none 0 0) := cell_of_rowp q1' rfl
        have h2 : w6.cell? ⟨w.heap.size + 1, 0, none⟩ = some (.int .i64 0) := cell_of_rowp q2' rfl
        have z0 : w6.frozen? ⟨w.heap.size, 0, none⟩ = false := by simp [World.frozen?, q1']
        have z1 : w6.frozen? ⟨w.heap.size, 1, none⟩ = false := by simp [World.frozen?, q1']
        have z2 : w6.frozen? ⟨w.heap.size + 1, 0, none⟩ = false := by simp [World.frozen?, q2']
        have F := FIN.out w6 8 q1' q2' qB
        have HF := Lib.hid F
        have hwm : w.heap.size + 1 ≠ w.heap.size := by omega
        have HRR := Lib.hid (And.intro HR9.out hmt)
        clear F q1' q2' qB hb6 hmt
        go_wp2_with fail
        refine leaves_cons (f := 26) (args := #[.pointer (some ⟨w.heap.size, 0, none⟩), .pointer (some ⟨w.heap.size + 1, 0, none⟩)]) (by simp) (by simp [go_sem]) ?_
        refine (close_quietL (st2 w6 w.heap.size (w.heap.size + 1) (.slice none 0 0) (.slice none 0 0) (.int .i64 8)) w.heap.size (w.heap.size + 1)).mono ?_
        rintro e u' w9 ⟨rfl, rfl, hb9⟩
        have q1 := (hb9.block _ (Array.getElem?_eq_some_iff.1 HF.out.1).1).trans HF.out.1
        have q2 := (hb9.block _ (Array.getElem?_eq_some_iff.1 HF.out.2.1).1).trans HF.out.2.1
        have hc0 := cell_of_rowp (i := 0) q1 rfl
        have hc1 := cell_of_rowp (i := 1) q1 rfl
        have hce := cell_of_rowp (i := 0) (v := .int .i64 8) q2 rfl
        have fin : PairE w w9 A (.returned (.tuple #[.agg #[.slice none 0 0, .slice none 0 0], .int .i64 8])) := by
          rw [HEE.out, if_neg (by simp), if_neg (by simp [HRR.out.1]), HRR.out.2]
          exact ⟨none, 0, none, 0, rfl, Rd.nil _ _, Rd.nil _ _, HF.out.2.2.trans (hb9.mono HF.out.2.2.size)⟩
        simp [Leaves, settle, results, Tryd.results10, go_sem, hc0, hc1, hce]
        exact fin
      | some P =>
        rw [hmt] at he
        obtain ⟨va, vb, rfl, hra, hrb2⟩ := he
        obtain ⟨xa, xc, rfl⟩ := hra.form
        obtain ⟨ya, yc, rfl⟩ := hrb2.form
        refine leaves_cons (f := 26) (args := #[.pointer (some ⟨w.heap.size, 0, none⟩), .pointer (some ⟨w.heap.size + 1, 0, none⟩)]) (by simp) (by simp [go_sem]) ?_
        refine (close_foundL w6 w.heap.size (w.heap.size + 1) _ _ 0 [] q1' q2' (by omega) xa ya _ _ xc yc).mono ?_
        rintro e u' w9 ⟨rfl, rfl, rfl⟩
        have k1 := (heap_alloc_old w6 (.cells #[.slice xa P.1.length xc, .slice ya P.2.length yc] 92) (Array.getElem?_eq_some_iff.1 q1').1).trans q1'
        have k2 := (heap_alloc_old w6 (.cells #[.slice xa P.1.length xc, .slice ya P.2.length yc] 92) (Array.getElem?_eq_some_iff.1 q2').1).trans q2'
        have hst := st2_facts (a := .slice xa P.1.length xc) (b := .slice ya P.2.length yc) (e := .int .i64 0) k1 k2 (by omega)
        have g1 := (hra.alloc (.cells #[.slice xa P.1.length xc, .slice ya P.2.length yc] 92)).st2 (a := .slice xa P.1.length xc) (b := .slice ya P.2.length yc) (e := .int .i64 0) k1 k2 (by omega)
        have g2 := (hrb2.alloc (.cells #[.slice xa P.1.length xc, .slice ya P.2.length yc] 92)).st2 (a := .slice xa P.1.length xc) (b := .slice ya P.2.length yc) (e := .int .i64 0) k1 k2 (by omega)
        have gB := (qB.alloc qB.size (.cells #[.slice xa P.1.length xc, .slice ya P.2.length yc] 92)).trans (hst.2.2.2 w.heap.size (Nat.le_refl _) (by omega))
        have s1 := hst.1
        have s2 := hst.2.1
        obtain ⟨w9, hw9⟩ : ∃ x, x = st2 (w6.alloc (.cells #[.slice xa P.1.length xc, .slice ya P.2.length yc] 92)) w.heap.size (w.heap.size + 1) (.slice xa P.1.length xc) (.slice ya P.2.length yc) (.int .i64 0) := ⟨_, rfl⟩
        rw [← hw9] at s1 s2 g1 g2 gB ⊢
        have hc0 := cell_of_rowp (i := 0) s1 rfl
        have hc1 := cell_of_rowp (i := 1) s1 rfl
        have hce := cell_of_rowp (i := 0) (v := .int .i64 0) s2 rfl
        have fin : PairE w w9 A (.returned (.tuple #[.agg #[.slice xa P.1.length xc, .slice ya P.2.length yc], .int .i64 0])) := by
          rw [HEE.out, if_neg (by simp), if_neg (by simp [HR9.out]), hmt]
          exact ⟨xa, xc, ya, yc, rfl, g1, g2, gB⟩
        simp [Leaves, settle, results, Tryd.results10, go_sem, hc0, hc1, hce]
        exact fin
    · have hrb : (rt (hw W) la == rt (hw W) lb) = false := by simpa using hrr
      rw [hrb] at hqe
      have h0 : w5.cell? ⟨w.heap.size, 0, none⟩ = some (.slice none 0 0) := cell_of_rowp R5.out.1 rfl
      have h1 : w5.cell? ⟨w.heap.size, 1, none⟩ = some (.slice none 0 0) := cell_of_rowp R5.out.1 rfl
      have h2 : w5.cell? ⟨w.heap.size + 1, 0, none⟩ = some (.int .i64 0) := cell_of_rowp R5.out.2.1 rfl
      have z0 : w5.frozen? ⟨w.heap.size, 0, none⟩ = false := by simp [World.frozen?, R5.out.1]
      have z1 : w5.frozen? ⟨w.heap.size, 1, none⟩ = false := by simp [World.frozen?, R5.out.1]
      have z2 : w5.frozen? ⟨w.heap.size + 1, 0, none⟩ = false := by simp [World.frozen?, R5.out.2.1]
      have HF := Lib.hid (FIN.out w5 3 R5.out.1 R5.out.2.1 R5.out.2.2)
      have hwm : w.heap.size + 1 ≠ w.heap.size := by omega
      have HRR := Lib.hid (show rt (hw W) la ≠ rt (hw W) lb from hrr)
      clear hrr hrb
      go_wp2_with fail
      have hc0 := cell_of_rowp (i := 0) HF.out.1 rfl
      have hc1 := cell_of_rowp (i := 1) HF.out.1 rfl
      have hce := cell_of_rowp (i := 0) (v := .int .i64 3) HF.out.2.1 rfl
      change Leaves _ _ _ _ _ _ (st2 w5 w.heap.size (w.heap.size + 1) (.slice none 0 0) (.slice none 0 0) (.int .i64 3))
      have fin : PairE w (st2 w5 w.heap.size (w.heap.size + 1) (.slice none 0 0) (.slice none 0 0) (.int .i64 3)) A (.returned (.tuple #[.agg #[.slice none 0 0, .slice none 0 0], .int .i64 3])) := by
        rw [HEE.out, if_neg (by simp), if_pos HRR.out]
        exact ⟨none, 0, none, 0, rfl, Rd.nil _ _, Rd.nil _ _, HF.out.2.2⟩
      simp [Leaves, settle, results, Tryd.results10, go_sem, hc0, hc1, hce]
      exact fin
  · have y1 : ((n : Int) != (m : Int)) = true := by simp; omega
    have HNM := Lib.hid hnm
    have h0 : w1.cell? ⟨w.heap.size, 0, none⟩ = some (.slice none 0 0) := cell_of_rowp H1.out.2.1 rfl
    have h1 : w1.cell? ⟨w.heap.size, 1, none⟩ = some (.slice none 0 0) := cell_of_rowp H1.out.2.1 rfl
    have h2 : w1.cell? ⟨w.heap.size + 1, 0, none⟩ = some (.int .i64 0) := cell_of_rowp H1.out.2.2 rfl
    have z0 : w1.frozen? ⟨w.heap.size, 0, none⟩ = false := by simp [World.frozen?, H1.out.2.1]
    have z1 : w1.frozen? ⟨w.heap.size, 1, none⟩ = false := by simp [World.frozen?, H1.out.2.1]
    have z2 : w1.frozen? ⟨w.heap.size + 1, 0, none⟩ = false := by simp [World.frozen?, H1.out.2.2]
    have HF := Lib.hid (FIN.out w1 9 H1.out.2.1 H1.out.2.2 H1.out.1)
    have hwm : w.heap.size + 1 ≠ w.heap.size := by omega
    clear hnm
    go_wp2_with fail
    have hc0 := cell_of_rowp (i := 0) HF.out.1 rfl
    have hc1 := cell_of_rowp (i := 1) HF.out.1 rfl
    have hce := cell_of_rowp (i := 0) (v := .int .i64 9) HF.out.2.1 rfl
    change Leaves _ _ _ _ _ _ (st2 w1 w.heap.size (w.heap.size + 1) (.slice none 0 0) (.slice none 0 0) (.int .i64 9))
    have fin : PairE w (st2 w1 w.heap.size (w.heap.size + 1) (.slice none 0 0) (.slice none 0 0) (.int .i64 9)) A (.returned (.tuple #[.agg #[.slice none 0 0, .slice none 0 0], .int .i64 9])) := by
      rw [HEE.out, if_pos HNM.out]
      exact ⟨none, 0, none, 0, rfl, Rd.nil _ _, Rd.nil _ _, HF.out.2.2⟩
    simp [Leaves, settle, results, Tryd.results10, go_sem, hc0, hc1, hce]
    exact fin
end Go.Proofs.YtfibhmgjkooemaaDoor
