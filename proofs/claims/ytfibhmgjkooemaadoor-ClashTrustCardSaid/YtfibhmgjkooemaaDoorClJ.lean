/- clash.Growth. (printed by gen/clj.py) -/
import Derived.Test.YtfibhmgjkooemaaDoorClI
namespace Go.Proofs.YtfibhmgjkooemaaDoor
open Go.RowKit Sha Root Path Growth Clash

theorem s1_facts {w : World} {p : Nat} {o a : Value} {T : TypeId} (hp : w.heap[p]? = some (.cells #[o] T (0, 0))) :
    (w.setCell ⟨p, 0, none⟩ a).heap[p]? = some (.cells #[a] T (0, 0)) ∧ w.grownBy (w.setCell ⟨p, 0, none⟩ a) (some p) := by
  have h1 := heap_setCell_same w p 0 _ _ a hp
  refine ⟨by rw [h1]; rfl, ⟨rfl, rfl, rfl, by simp [World.setCell], fun k _ hk => ?_⟩⟩
  have hkp : k ≠ p := fun e => hk (by rw [e])
  rw [heap_setCell_other _ _ _ _ hkp]
theorem below_growp {w w1 w2 : World} {B p : Nat} (hb : Below B w w1) (hp : B ≤ p) (hg : w1.grownBy w2 (some p)) (hBw : B ≤ w.heap.size := by first | exact Nat.le_refl _ | omega) : Below B w w2 :=
  ⟨hg.os.trans hb.os, hg.tape.trans hb.tape, hg.output.trans hb.output, Nat.le_trans hb.size hg.size, fun k hk => (hg.block k (by have := hb.size; omega) (fun e => by simp only [Option.some.injEq] at e; omega)).trans (hb.block k hk)⟩
def ansT (o : Option (List UInt8 × List UInt8)) : Int × List UInt8 × List UInt8 := match o with
  | none => (8, [], [])
  | some p => (0, p.1, p.2)
/-- What Growth answers. -/
def ansG (W : Int) (l : List (List UInt8)) (m : Nat) (old : List UInt8) (ps : List (List UInt8)) : Int × List UInt8 × List UInt8 := if gE m l.length ps.length ≠ 0 then (gE m l.length ps.length, [], []) else
  if (gS W m l.length old ps).1 ≠ old ∨ (gS W m l.length old ps).2 ≠ rt (hw W) l then (3, [], []) else if old = rt (hw W) (l.take m) then (8, [], []) else ansT (growF (hw W) l.length l m old ps true)

/-- What each operation hands on. -/
def g6aF (W : Int) (B g13 g14 gt : Nat) (ga gb old rl : List UInt8) : Nat → Value → World → Prop
  | 0, v, _ => v = .agg (bv ga).toArray
  | 1, v, _ => v = .agg (bv old).toArray
  | 2, v, _ => v = .bool true
  | 3, v, _ => v = .bool true
  | 4, v, _ => v = undef
  | 5, v, _ => v = undef
  | 6, v, _ => v = undef
  | 7, v, _ => v = undef
  | 8, v, _ => v = undef
  | 9, v, _ => v = undef
  | 10, v, _ => v = .bool true
  | 11, v, _ => v = .bool true
  | _, _, _ => True
/-- What each operation hands on. -/
def g6bF (W : Int) (B g13 g14 gt : Nat) (ga gb old rl : List UInt8) : Nat → Value → World → Prop
  | 0, v, _ => v = .agg (bv ga).toArray
  | 1, v, _ => v = .agg (bv old).toArray
  | 2, v, _ => v = .bool false
  | 3, v, _ => v = .bool false
  | 4, v, _ => v = .agg (bv gb).toArray
  | 5, v, _ => v = .pointer (some ⟨gt, 0, none⟩)
  | 6, v, _ => v = .pointer (some ⟨gt, 0, none⟩)
  | 7, v, _ => v = .pointer (some ⟨gt, 0, none⟩)
  | 8, v, _ => v = .agg (bv rl).toArray
  | 9, v, _ => v = .bool true
  | 10, v, _ => v = .bool true
  | 11, v, _ => v = .bool true
  | _, _, _ => True
/-- What each operation hands on. -/
def g6cF (W : Int) (B g13 g14 gt : Nat) (ga gb old rl : List UInt8) : Nat → Value → World → Prop
  | 0, v, _ => v = .agg (bv ga).toArray
  | 1, v, _ => v = .agg (bv old).toArray
  | 2, v, _ => v = .bool false
  | 3, v, _ => v = .bool false
  | 4, v, _ => v = .agg (bv gb).toArray
  | 5, v, _ => v = .pointer (some ⟨gt, 0, none⟩)
  | 6, v, _ => v = .pointer (some ⟨gt, 0, none⟩)
  | 7, v, _ => v = .pointer (some ⟨gt, 0, none⟩)
  | 8, v, _ => v = .agg (bv rl).toArray
  | 9, v, _ => v = .bool false
  | 10, v, _ => v = .bool false
  | 11, v, _ => v = .bool false
  | _, _, _ => True
/-- What each operation hands on. -/
def g8yF (W : Int) (B tb tf tc n m : Nat) (old rm : List UInt8) (lm : List (List UInt8)) : Nat → Value → World → Prop
  | 0, v, _ => v = .agg (bv old).toArray
  | 1, v, _ => v = .int .i64 W
  | 2, v, _ => v = .slice (some ⟨tb, tf, none⟩) n tc
  | 3, v, _ => v = .int .u64 m
  | 4, v, _ => v = .slice (some ⟨tb, tf, none⟩) m tc
  | 5, v, w => Tr w W v lm
  | 6, v, _ => v = .int .i64 W
  | 7, v, _ => v = .agg (bv rm).toArray
  | 8, v, _ => v = .bool true
  | 9, v, _ => v = .bool true
  | _, _, _ => True
/-- What each operation hands on. -/
def g8nF (W : Int) (B tb tf tc n m : Nat) (old rm : List UInt8) (lm : List (List UInt8)) : Nat → Value → World → Prop
  | 0, v, _ => v = .agg (bv old).toArray
  | 1, v, _ => v = .int .i64 W
  | 2, v, _ => v = .slice (some ⟨tb, tf, none⟩) n tc
  | 3, v, _ => v = .int .u64 m
  | 4, v, _ => v = .slice (some ⟨tb, tf, none⟩) m tc
  | 5, v, w => Tr w W v lm
  | 6, v, _ => v = .int .i64 W
  | 7, v, _ => v = .agg (bv rm).toArray
  | 8, v, _ => v = .bool false
  | 9, v, _ => v = .bool false
  | _, _, _ => True

set_option maxHeartbeats 16000000 in
set_option maxRecDepth 100000 in
theorem cGrowth_any (W : Int) (l : List (List UInt8)) (m : Nat) (old : List UInt8) (ps : List (List UInt8)) (v : Value) (a : Option Addr) (c : Nat) (w : World) (hW : -9223372036854775808 ≤ W ∧ W ≤ 9223372036854775807) (hl : l.length ≤ 1000000) (hts : ∀ t ∈ l, t.length ≤ 140737488351232) (hm64 : m < 18446744073709551616) (ho : old.length = 32) (h32 : ∀ p ∈ ps, p.length = 32) (hpl : ps.length ≤ 140737488355328)
    (hv : Txw w v l) (hr : Rd w 32 (.slice a ps.length c) ps.length (ps.flatMap bv)) (hT : Tabs w) :
    Calls Tryd.prog 13 #[.int .i64 W, v, .int .u64 m, .agg (bv old).toArray, .slice a ps.length c] w fun e w' => PairE w w' (ansG W l m old ps) e := by
  have hmf : ∀ (fn : Fn) (first cap : Array Value) (w : World), (Instr.makeFunc fn first cap).run Tryd.prog w = .ok (.func fn first cap) w := fun _ _ _ _ => rfl
  have hz := (zero_of_info info32).1
  have HZ32 := Lib.hid (show (zs 32).length = 32 by simp [zs])
  obtain ⟨va, vc, rfl⟩ := hv.form
  obtain ⟨n, hn⟩ : ∃ n, n = l.length := ⟨_, rfl⟩
  obtain ⟨L, hL⟩ : ∃ n, n = ps.length := ⟨_, rfl⟩
  obtain ⟨w1, hw1⟩ : ∃ x : World, x = ((w.alloc (.cells (bv old).toArray 35)).alloc (.cells #[.slice none 0 0, .slice none 0 0] 27)).alloc (.cells #[.int .i64 0] 28) := ⟨_, rfl⟩
  have hB : Below w.heap.size w w1 := by rw [hw1]; exact (((Below.refl _ _).alloc (Nat.le_refl _) _).alloc (by simp) _).alloc (by simp; omega) _
  have r0 : w1.heap[w.heap.size]? = some (.cells (bv old).toArray 35 (0, 0)) := by
    rw [hw1, heap_alloc_old _ _ (by simp; omega), heap_alloc_old _ _ (by simp)]; exact heap_alloc_new _ _
  have r1 : w1.heap[w.heap.size + 1]? = some (.cells #[.slice none 0 0, .slice none 0 0] 27 (0, 0)) := by
    rw [hw1, heap_alloc_old _ _ (by simp)]
    have := heap_alloc_new (w.alloc (.cells (bv old).toArray 35)) (.cells #[.slice none 0 0, .slice none 0 0] 27)
    simpa using this
  have r2 : w1.heap[w.heap.size + 1 + 1]? = some (.cells #[.int .i64 0] 28 (0, 0)) := by
    rw [hw1]
    have := heap_alloc_new ((w.alloc (.cells (bv old).toArray 35)).alloc (.cells #[.slice none 0 0, .slice none 0 0] 27)) (.cells #[.int .i64 0] 28)
    simpa using this
  have HW1 := Lib.hid hw1
  have R1 := Lib.hid (And.intro r0 (And.intro r1 (And.intro r2 hB)))
  have HCL := Lib.hid (gClimb_any W m n old ps a c w1 hW ho hm64 (by omega) h32 hpl (hr.keep hB) (hT.keepB hB))
  have HGR := Lib.hid (fun wx (hb : Below w.heap.size w wx) => grown_any W hW l.length l (.slice va l.length vc) wx (Nat.le_refl _) (by omega) hts (hv.keep hb) (hT.keepB hb))
  have hgs := gS_32 W m n old ps ho h32
  have HARG := Lib.hid (And.intro hv (And.intro hr (And.intro hT (And.intro hts (And.intro h32 (And.intro hW (And.intro hn hL)))))))
  rw [← hn] at HGR hl ⊢
  rw [← hL] at HCL hpl ⊢
  have HO := Lib.hid ho
  obtain ⟨ER, hER⟩ : ∃ x, x = gE m n L := ⟨_, rfl⟩
  obtain ⟨gab, hgab⟩ : ∃ x, x = gS W m n old ps := ⟨_, rfl⟩
  rw [← hgab] at HCL hgs
  rw [← hER] at HCL
  obtain ⟨ga, gb⟩ := gab
  simp only at HCL hgs
  obtain ⟨rl, hrl⟩ : ∃ x, x = rt (hw W) l := ⟨_, rfl⟩
  obtain ⟨lm, hlm⟩ : ∃ x, x = l.take m := ⟨_, rfl⟩
  obtain ⟨rm, hrm⟩ : ∃ x, x = rt (hw W) lm := ⟨_, rfl⟩
  obtain ⟨GF, hGF⟩ : ∃ x, x = growF (hw W) n l m old ps true := ⟨_, rfl⟩
  obtain ⟨AN, hAN⟩ : ∃ x, x = ansG W l m old ps := ⟨_, rfl⟩
  have hee : AN = (if ER ≠ 0 then (ER, [], []) else if ga ≠ old ∨ gb ≠ rl then (3, [], []) else if old = rm then (8, [], []) else ansT GF : Int × List UInt8 × List UInt8) := by
    rw [hAN, ansG, ← hn, ← hL, ← hER, ← hgab, ← hlm, ← hrm, ← hrl, ← hGF]
  rw [← hAN]
  have HEE := Lib.hid hee
  have HLN := Lib.hid (And.intro hgs.1 (And.intro hgs.2 (And.intro ho (show rl.length = 32 by rw [hrl]; exact rt32 W l))))
  have HRL := Lib.hid (And.intro hrl (And.intro hlm (And.intro hrm hGF)))
  have HER := Lib.hid hER
  have HGS := Lib.hid hgab
  have zc : IntKind.u64.wrap (n : Int) = (n : Int) := IntWalk.u64_in _ (by omega)
  have FIN := Lib.hid (fun (wz : World) (e0 E : Int) (h1 : wz.heap[w.heap.size + 1]? = some (.cells #[.slice none 0 0, .slice none 0 0] 27 (0, 0))) (h2 : wz.heap[w.heap.size + 1 + 1]? = some (.cells #[.int .i64 e0] 28 (0, 0))) (h3 : Below w.heap.size w wz) =>
    (show (st2 wz (w.heap.size + 1) (w.heap.size + 1 + 1) (.slice none 0 0) (.slice none 0 0) (.int .i64 E)).heap[w.heap.size + 1]? = some (.cells #[.slice none 0 0, .slice none 0 0] 27 (0, 0)) ∧
      (st2 wz (w.heap.size + 1) (w.heap.size + 1 + 1) (.slice none 0 0) (.slice none 0 0) (.int .i64 E)).heap[w.heap.size + 1 + 1]? = some (.cells #[.int .i64 E] 28 (0, 0)) ∧ Below w.heap.size w (st2 wz (w.heap.size + 1) (w.heap.size + 1 + 1) (.slice none 0 0) (.slice none 0 0) (.int .i64 E)) from by
        have hst := st2_facts (a := .slice none 0 0) (b := .slice none 0 0) (e := .int .i64 E) h1 h2 (by omega)
        exact ⟨hst.1, hst.2.1, h3.trans (hst.2.2.2 _ (by omega) (by omega))⟩))
  clear hv hr hT hts h32 hW hgs hgab hER hrl hlm hrm hGF hAN hee hw1 hB r0 r1 r2 hpl ho hn hL
  go_enter_defers Tryd.func13, Tryd.ntmps13
  go_upto_region 1 with fail
  rw [show ((w.alloc (.cells (bv old).toArray 35)).alloc (.cells #[.slice none 0 0, .slice none 0 0] 27)).alloc (.cells #[.int .i64 0] 28) = w1 from HW1.out.symm]
  go_wp2_with (with_reducible show wpList _ _ _ (⟨some 23, _, _, _, _, _⟩ :: _) _ _; refine wpList_load_row rfl _ _ rfl w.heap.size rfl _ _ (0, 0) _ R1.out.1 Tryd.underlying35 rfl (hInfo _ HO.out) ?_)
  refine HCL.out.mono ?_
  rintro e w2 ⟨rfl, hb2⟩
  have R2 := Lib.hid (And.intro ((hb2.block _ (Array.getElem?_eq_some_iff.1 R1.out.1).1).trans R1.out.1) (And.intro ((hb2.block _ (Array.getElem?_eq_some_iff.1 R1.out.2.1).1).trans R1.out.2.1) (And.intro ((hb2.block _ (Array.getElem?_eq_some_iff.1 R1.out.2.2.1).1).trans R1.out.2.2.1) (R1.out.2.2.2.trans (hb2.mono R1.out.2.2.2.size)))))
  clear hb2
  obtain ⟨w3, hw3⟩ : ∃ x : World, x = (w2.alloc (.cells (bv (zs 32)).toArray 35)).alloc (.cells (bv (zs 32)).toArray 35) := ⟨_, rfl⟩
  have hb3 : Below w2.heap.size w2 w3 := by rw [hw3]; exact ((Below.refl _ _).alloc (Nat.le_refl _) _).alloc (by simp) _
  have q1 : w3.heap[w2.heap.size]? = some (.cells (bv (zs 32)).toArray 35 (0, 0)) := by rw [hw3, heap_alloc_old _ _ (by simp)]; exact heap_alloc_new _ _
  have q2 : w3.heap[w2.heap.size + 1]? = some (.cells (bv (zs 32)).toArray 35 (0, 0)) := by
    rw [hw3]
    have := heap_alloc_new (w2.alloc (.cells (bv (zs 32)).toArray 35)) (.cells (bv (zs 32)).toArray 35)
    simpa using this
  have HW3 := Lib.hid hw3
  have R3 := Lib.hid (And.intro q1 (And.intro q2 hb3))
  have hl2 : w.heap.size + 1 + 1 < w2.heap.size := (Array.getElem?_eq_some_iff.1 R2.out.2.2.1).1
  clear hw3 hb3 q1 q2
  have HST := Lib.hid (fun (w4 : World) (hg4 : w3.grownBy w4 (some w2.heap.size)) => (show w4.heap[w2.heap.size + 1]? = some (.cells (bv (zs 32)).toArray 35 (0, 0)) from (hg4.block _ (Array.getElem?_eq_some_iff.1 R3.out.2.1).1 (by simp)).trans R3.out.2.1))
  have HQ5 := Lib.hid (fun (w4 w5 : World) (hg4 : w3.grownBy w4 (some w2.heap.size)) (hg5 : w4.grownBy w5 (some (w2.heap.size + 1))) => (show Below w2.heap.size w2 w5 from below_growp (below_growp R3.out.2.2 (Nat.le_refl _) hg4) (by omega) hg5))
  go_upto_region 3 with (first
    | (with_reducible show wpList _ _ _ (⟨none, Op.store _ _ _, _, _, _, _⟩ :: _) _ (World.alloc (World.alloc w2 _) _); rw [show (w2.alloc (.cells (bv (zs 32)).toArray 35)).alloc (.cells (bv (zs 32)).toArray 35) = w3 from HW3.out.symm]; refine wpList_store_whole rfl _ _ _ rfl w2.heap.size (bv ga) rfl rfl (bv (zs 32)) _ R3.out.1 (hInfo' _ HLN.out.1) (by rw [bv_length, bv_length, HLN.out.1, HZ32.out]) (bv_one _) ?_; intro w4 HG4 hg4; have HH4 := Lib.hid (And.intro HG4 hg4); clear HG4 hg4)
    | (with_reducible show wpList _ _ _ (⟨none, Op.store _ _ _, _, _, _, _⟩ :: _) _ _; refine wpList_store_whole rfl _ _ _ rfl (w2.heap.size + 1) (bv gb) rfl rfl (bv (zs 32)) _ (HST.out _ HH4.out.2) (hInfo' _ HLN.out.2.1) (by rw [bv_length, bv_length, HLN.out.2.1, HZ32.out]) (bv_one _) ?_; intro w5 HG5 hg5; have hb5 := HQ5.out _ _ HH4.out.2 hg5; have hq5 := (hb5.block _ (Array.getElem?_eq_some_iff.1 R2.out.2.2.1).1).trans R2.out.2.2.1; have hcq : w5.cell? ⟨w.heap.size + 1 + 1, 0, none⟩ = some (.int .i64 0) := cell_of_rowp hq5 rfl; have hzq : w5.frozen? ⟨w.heap.size + 1 + 1, 0, none⟩ = false := by simp [World.frozen?, hq5]))
  have hb5' := HQ5.out _ _ HH4.out.2 hg5
  obtain ⟨g13, hg13⟩ : ∃ g, g = w2.heap.size := ⟨_, rfl⟩
  obtain ⟨g14, hg14⟩ : ∃ g, g = w2.heap.size + 1 := ⟨_, rfl⟩
  have hr13 : w5.heap[g13]? = some (.cells (bv ga).toArray 35 (0, 0)) := by rw [hg13]; exact (hg5.block _ (Array.getElem?_eq_some_iff.1 HH4.out.1.out).1 (by simp)).trans HH4.out.1.out
  have hr14 : w5.heap[g14]? = some (.cells (bv gb).toArray 35 (0, 0)) := by rw [hg14]; exact HG5.out
  have hs := s1_facts (a := .int .i64 ER) hq5
  have hg13l := (Array.getElem?_eq_some_iff.1 hr13).1
  have hg14l := (Array.getElem?_eq_some_iff.1 hr14).1
  have R5' := And.intro ((hs.2.block _ (by have := (Array.getElem?_eq_some_iff.1 hr13).1; omega) (by simp; try omega)).trans ((hb5'.block _ (Array.getElem?_eq_some_iff.1 R2.out.1).1).trans R2.out.1)) (And.intro ((hs.2.block _ (by omega) (by simp; try omega)).trans ((hb5'.block _ (Array.getElem?_eq_some_iff.1 R2.out.2.1).1).trans R2.out.2.1)) (And.intro hs.1 (And.intro True.intro (below_ofp (R2.out.2.2.2.trans (hb5'.mono R2.out.2.2.2.size)) (show w.heap.size ≤ w.heap.size + 1 + 1 by omega) hs.2))))
  have HR5' := And.intro ((hs.2.block _ hg13l (by simp; try omega)).trans hr13) ((hs.2.block _ hg14l (by simp; try omega)).trans hr14)
  rw [← hg14, ← hg13]
  obtain ⟨wA, hwA⟩ : ∃ x, x = w5.setCell ⟨w.heap.size + 1 + 1, 0, none⟩ (.int .i64 ER) := ⟨_, rfl⟩
  rw [← hwA] at R5' HR5' ⊢
  have RA := Lib.hid R5'
  have HRA := Lib.hid HR5'
  clear R5' HR5' hs hr13 hr14 hg13l hg14l hb5' hq5 hcq hzq hb5 hwA hg13 hg14 HG5 hg5
  have hcq : wA.cell? ⟨w.heap.size + 1 + 1, 0, none⟩ = some (.int .i64 ER) := cell_of_rowp RA.out.2.2.1 rfl
  by_cases hE0 : ER = 0
  · subst hE0
    have HE0 := Lib.hid (show (0 : Int) = 0 from rfl)
    go_wp2_with fail
    refine (HGR.out _ RA.out.2.2.2.2).mono ?_
    rintro e w6 ⟨pt, rfl, htr, hb6⟩
    have hmn : 1 ≤ m ∧ m ≤ n ∧ L = szG m n true := by
      have h := HER.out
      unfold gE at h
      split at h
      · simp at h
      · split at h
        · simp at h
        · split at h
          · simp at h
          · omega
    have hlpos : 0 < l.length := by have := HARG.out.2.2.2.2.2.2.1; omega
    obtain ⟨gt, ta, tc2, plp, prp, rfl, hgt, _, _, _⟩ := htr.inv hlpos
    have HTR := Lib.hid htr
    have R6 := Lib.hid (And.intro ((hb6.block _ (Array.getElem?_eq_some_iff.1 RA.out.1).1).trans RA.out.1) (And.intro ((hb6.block _ (Array.getElem?_eq_some_iff.1 RA.out.2.1).1).trans RA.out.2.1) (And.intro ((hb6.block _ (Array.getElem?_eq_some_iff.1 RA.out.2.2.1).1).trans RA.out.2.2.1) (And.intro True.intro (RA.out.2.2.2.2.trans (hb6.mono RA.out.2.2.2.2.size))))))
    have hr13 := (hb6.block _ (Array.getElem?_eq_some_iff.1 HRA.out.1).1).trans HRA.out.1
    have hr14 := (hb6.block _ (Array.getElem?_eq_some_iff.1 HRA.out.2).1).trans HRA.out.2
    have HR := Lib.hid (fun wx (hb : Below w6.heap.size w6 wx) => And.intro ((hb.block _ (Array.getElem?_eq_some_iff.1 hr13).1).trans hr13) (And.intro ((hb.block _ (Array.getElem?_eq_some_iff.1 hr14).1).trans hr14) ((hb.block _ (Array.getElem?_eq_some_iff.1 R6.out.1).1).trans R6.out.1)))
    have HRT := Lib.hid (fun wx (hb : Below w6.heap.size w6 wx) => (show wx.rangeAt gt 0 (bv rl) by rw [HRL.out.1]; exact trow_rng W ((hb.block _ (Array.getElem?_eq_some_iff.1 hgt).1).trans hgt)))
    obtain ⟨tb, tf, tc, hvs, hvc, _⟩ := HARG.out.1.at hlpos
    simp only [Value.slice.injEq] at hvs
    obtain ⟨rfl, -, htc⟩ := hvs
    have htc2 := htc.symm
    subst htc2
    have htcn : n ≤ tc := by rw [HARG.out.2.2.2.2.2.2.1]; exact hvc
    have HGM0 := Lib.hid (fun wx (hb : Below w.heap.size w wx) => (show Calls Tryd.prog 24 #[.int .i64 W, .slice (some ⟨tb, tf, none⟩) m tc] wx fun e w' => ∃ p, e = .returned p ∧ Tr w' W p lm ∧ Below wx.heap.size wx w' by
      rw [HRL.out.2.1]
      exact grown_any W HARG.out.2.2.2.2.2.1 (l.take m).length (l.take m) _ wx (Nat.le_refl _) (by rw [List.length_take]; omega) (fun t h => HARG.out.2.2.2.1 t (List.mem_of_mem_take h)) ((HARG.out.1.take rfl m (by have := HARG.out.2.2.2.2.2.2.1; omega)).keep hb) (HARG.out.2.2.1.keepB hb)))
    have HRM0 := Lib.hid (fun (p : Value) wx (hp : Tr wx W p lm) (hb : Below w.heap.size w wx) => (show Calls Tryd.prog 25 #[p, .int .i64 W] wx fun e w' => e = .returned (.agg (bv rm).toArray) ∧ Below wx.heap.size wx w' by
      rw [HRL.out.2.2.1]
      exact troot_any W p lm wx HARG.out.2.2.2.2.2.1 hp (HARG.out.2.2.1.keepB hb)))
    have HLM0 := Lib.hid (show rm.length = 32 by rw [HRL.out.2.2.1]; exact rt32 W _)
    have HDS := Lib.hid (fun wx (hp : Tr wx W (.pointer (some ⟨gt, 0, none⟩)) l) (hb : Below w.heap.size w wx) => (show Calls Tryd.prog 33 #[.int .i64 W, .pointer (some ⟨gt, 0, none⟩), .int .u64 m, .int .u64 n, .agg (bv old).toArray, .slice a L c, .bool true] wx fun e w' => MeetE w' GF e ∧ Below wx.heap.size wx w' by
      rw [HRL.out.2.2.2, HARG.out.2.2.2.2.2.2.1, HARG.out.2.2.2.2.2.2.2]
      exact descend_any W HARG.out.2.2.2.2.2.1 l.length l _ m old ps true a c wx (Nat.le_refl _) (by have := HARG.out.2.2.2.2.2.2.1; omega) HLN.out.2.2.1 hmn.1 (by have := HARG.out.2.2.2.2.2.2.1; omega) HARG.out.2.2.2.2.1 (by rw [← HARG.out.2.2.2.2.2.2.1, ← HARG.out.2.2.2.2.2.2.2]; exact hmn.2.2) (HARG.out.2.1.keep hb) hp (HARG.out.2.2.1.keepB hb)))
    have hm1 := hmn.1
    have hm2 := hmn.2.1
    have HMN := Lib.hid hmn.2.2
    clear hmn hlpos htr hgt hr13 hr14 hb6 hvc hcq
    by_cases hqa : ga = old
    · have HQA := Lib.hid (show (ga == old) = true from beq_iff_eq.2 hqa)
      have HQA2 := Lib.hid hqa
      clear hqa
      by_cases hqb : gb = rl
      · have HQB := Lib.hid (show (gb == rl) = true from beq_iff_eq.2 hqb)
        have HQB2 := Lib.hid hqb
        clear hqb
        go_upto_region 6 with fail
        refine wp_region_steps [some 37, some 38, some 39, some 40, some 41, some 42, some 43, some 44, some 45, some 46, some 47, some 36] [] (g6cF W w.heap.size g13 g14 gt ga gb old rl) (fun _ wx wy => Below wx.heap.size wx wy) (fun wx => Below w6.heap.size w6 wx) (by kernel_rfl) (by kernel_rfl) rfl (by kernel_rfl) (Below.refl _ _).drew (fun _ wx => Below.refl _ _) (fun _ wx wy h k => h.trans (k.mono h.size)) ?hF ?hstep ?hend
        case hF =>
          exact ⟨fun _ _ _ _ _ _ h => h, ⟨fun _ _ _ _ _ _ h => h, ⟨fun _ _ _ _ _ _ h => h, ⟨fun _ _ _ _ _ _ h => h, ⟨fun _ _ _ _ _ _ h => h, ⟨fun _ _ _ _ _ _ h => h, ⟨fun _ _ _ _ _ _ h => h, ⟨fun _ _ _ _ _ _ h => h, ⟨fun _ _ _ _ _ _ h => h, ⟨fun _ _ _ _ _ _ h => h, ⟨fun _ _ _ _ _ _ h => h, ⟨fun _ _ _ _ _ _ h => h, trivial⟩⟩⟩⟩⟩⟩⟩⟩⟩⟩⟩⟩
        case hstep =>
          refine ⟨fun r wx hG hs hq hf => ?_, ?_⟩
          · have e13 : r 13 = .pointer (some ⟨g13, 0, none⟩) := hs 13 rfl
            refine (if_pos rfl).symm ▸ ?_
            clear hs hq hf
            unfold gives
            refine gives_load_row 35 _ rfl g13 e13 35 _ (0, 0) _ (HR.out wx hG).1 Tryd.underlying35 rfl (hInfo _ HLN.out.1) ?_
            exact ⟨Below.refl _ _, rfl⟩
          refine ⟨fun r wx hG hs hq hf => ?_, ?_⟩
          · have e8 : r 8 = .pointer (some ⟨w.heap.size, 0, none⟩) := hs 8 rfl
            refine (if_pos rfl).symm ▸ ?_
            clear hs hq hf
            unfold gives
            refine gives_load_row 35 _ rfl w.heap.size e8 35 _ (0, 0) _ (HR.out wx hG).2.2 Tryd.underlying35 rfl (hInfo _ HLN.out.2.2.1) ?_
            exact ⟨Below.refl _ _, rfl⟩
          refine ⟨fun r wx hG hs hq hf => ?_, ?_⟩
          · have h0 : r 37 = .agg (bv ga).toArray := hf.1
            have h1 : r 38 = .agg (bv old).toArray := hf.2.1
            refine (if_pos rfl).symm ▸ ?_
            clear hs hq hf
            unfold gives
            have hqe := eqIn_hash ga old HLN.out.1 HLN.out.2.2.1 wx
            rw [HQA.out] at hqe
            have hgd := eq_guard
            go_simp
            exact ⟨Below.refl _ _, rfl⟩
          refine ⟨fun r wx hG hs hq hf => ?_, ?_⟩
          · have h2 : r 39 = .bool false := hf.1
            refine (if_pos rfl).symm ▸ ?_
            clear hs hq hf
            unfold gives
            go_simp
            exact ⟨Below.refl _ _, rfl⟩
          refine ⟨fun r wx hG hs hq hf => ?_, ?_⟩
          · have e14 : r 14 = .pointer (some ⟨g14, 0, none⟩) := hs 14 rfl
            have h3 : r 40 = .bool false := hf.1
            have hy : ydD [some 37, some 38, some 39, some 40, some 41, some 42, some 43, some 44, some 45, some 46, some 47, some 36] r 3 = some false := by show (match r 40 with | .bool b => some b | _ => none) = some false; rw [h3]
            simp only [Region.wanted, hy, beq_self_eq_true, if_true]
            clear hs hq hf hy
            unfold gives
            refine gives_load_row 35 _ rfl g14 e14 35 _ (0, 0) _ (HR.out wx hG).2.1 Tryd.underlying35 rfl (hInfo _ HLN.out.2.1) ?_
            exact ⟨Below.refl _ _, rfl⟩
          refine ⟨fun r wx hG hs hq hf => ?_, ?_⟩
          · have e15 : r 15 = .pointer (some ⟨gt, 0, none⟩) := hs 15 rfl
            have h3 : r 40 = .bool false := hf.1
            have hy : ydD [some 37, some 38, some 39, some 40, some 41, some 42, some 43, some 44, some 45, some 46, some 47, some 36] r 3 = some false := by show (match r 40 with | .bool b => some b | _ => none) = some false; rw [h3]
            simp only [Region.wanted, hy, beq_self_eq_true, if_true]
            clear hs hq hf hy
            unfold gives
            go_simp
            exact ⟨Below.refl _ _, rfl⟩
          refine ⟨fun r wx hG hs hq hf => ?_, ?_⟩
          · have h5 : r 42 = .pointer (some ⟨gt, 0, none⟩) := hf.1
            have h3 : r 40 = .bool false := hf.2.1
            have hy : ydD [some 37, some 38, some 39, some 40, some 41, some 42, some 43, some 44, some 45, some 46, some 47, some 36] r 3 = some false := by show (match r 40 with | .bool b => some b | _ => none) = some false; rw [h3]
            simp only [Region.wanted, hy, beq_self_eq_true, if_true]
            clear hs hq hf hy
            unfold gives
            go_simp
            exact ⟨Below.refl _ _, rfl⟩
          refine ⟨fun r wx hG hs hq hf => ?_, ?_⟩
          · have h6 : r 43 = .pointer (some ⟨gt, 0, none⟩) := hf.1
            have h3 : r 40 = .bool false := hf.2.1
            have hy : ydD [some 37, some 38, some 39, some 40, some 41, some 42, some 43, some 44, some 45, some 46, some 47, some 36] r 3 = some false := by show (match r 40 with | .bool b => some b | _ => none) = some false; rw [h3]
            simp only [Region.wanted, hy, beq_self_eq_true, if_true]
            clear hs hq hf hy
            unfold gives
            go_simp
            exact ⟨Below.refl _ _, rfl⟩
          refine ⟨fun r wx hG hs hq hf => ?_, ?_⟩
          · have h7 : r 44 = .pointer (some ⟨gt, 0, none⟩) := hf.1
            have h3 : r 40 = .bool false := hf.2.1
            have hy : ydD [some 37, some 38, some 39, some 40, some 41, some 42, some 43, some 44, some 45, some 46, some 47, some 36] r 3 = some false := by show (match r 40 with | .bool b => some b | _ => none) = some false; rw [h3]
            simp only [Region.wanted, hy, beq_self_eq_true, if_true]
            clear hs hq hf hy
            unfold gives
            refine gives_load_mid 35 _ rfl gt 0 h7 (bv _) _ (HRT.out wx hG) Tryd.underlying35 rfl (hInfo' _ HLN.out.2.2.2) ?_
            exact ⟨Below.refl _ _, rfl⟩
          refine ⟨fun r wx hG hs hq hf => ?_, ?_⟩
          · have h4 : r 41 = .agg (bv gb).toArray := hf.1
            have h8 : r 45 = .agg (bv rl).toArray := hf.2.1
            have h3 : r 40 = .bool false := hf.2.2.1
            have hy : ydD [some 37, some 38, some 39, some 40, some 41, some 42, some 43, some 44, some 45, some 46, some 47, some 36] r 3 = some false := by show (match r 40 with | .bool b => some b | _ => none) = some false; rw [h3]
            simp only [Region.wanted, hy, beq_self_eq_true, if_true]
            clear hs hq hf hy
            unfold gives
            have hqe := eqIn_hash gb rl HLN.out.2.1 HLN.out.2.2.2 wx
            rw [HQB.out] at hqe
            have hgd := eq_guard
            go_simp
            exact ⟨Below.refl _ _, rfl⟩
          refine ⟨fun r wx hG hs hq hf => ?_, ?_⟩
          · have h3 : r 40 = .bool false := hf.1
            have h9 : r 46 = .bool false := hf.2.1
            refine (if_pos rfl).symm ▸ ?_
            clear hs hq hf
            unfold gives
            go_simp
            exact ⟨Below.refl _ _, rfl⟩
          refine ⟨fun r wx hG hs hq hf => ?_, ?_⟩
          · have h10 : r 47 = .bool false := hf.1
            refine (if_pos rfl).symm ▸ ?_
            clear hs hq hf
            unfold gives
            go_simp
            exact ⟨Below.refl _ _, rfl⟩
          exact trivial
        case hend =>
          intro u wz hG hfin
          have z11 : u 11 = .bool false := hfin 11 (by decide) (by kernel_rfl)
          clear hfin
          simp only [fill]
          have R7 := Lib.hid (And.intro ((hG.block _ (Array.getElem?_eq_some_iff.1 R6.out.1).1).trans R6.out.1) (And.intro ((hG.block _ (Array.getElem?_eq_some_iff.1 R6.out.2.1).1).trans R6.out.2.1) (And.intro ((hG.block _ (Array.getElem?_eq_some_iff.1 R6.out.2.2.1).1).trans R6.out.2.2.1) (And.intro (HTR.out.keep hG) (R6.out.2.2.2.2.trans (hG.mono R6.out.2.2.2.2.size))))))
          have HG67 := Lib.hid hG
          clear hG
          obtain ⟨w7, hw7⟩ : ∃ x, x = wz := ⟨_, rfl⟩
          subst hw7
          go_simp
          have HR := Lib.hid (fun wx (hb : Below w7.heap.size w7 wx) => HR.out wx (HG67.out.trans (hb.mono HG67.out.size)))
          have HGM := Lib.hid (fun wx (hb : Below w7.heap.size w7 wx) => HGM0.out wx (R7.out.2.2.2.2.trans (hb.mono R7.out.2.2.2.2.size)))
          have HRM := Lib.hid (fun (p : Value) wx (hp : Tr wx W p lm) (hb : Below w7.heap.size w7 wx) => HRM0.out p wx hp (R7.out.2.2.2.2.trans (hb.mono R7.out.2.2.2.2.size)))
          have HLM := Lib.hid HLM0.out
          by_cases hqm : old = rm
          · have HQM := Lib.hid (show (old == rm) = true from beq_iff_eq.2 hqm)
            have HQE := Lib.hid hqm
            clear hqm
            go_upto_region 8 with fail
            refine wp_region_steps [some 50, some 51, some 52, some 53, some 54, some 55, some 56, some 57, some 58, some 49] [] (g8yF W w.heap.size tb tf tc n m old rm lm) (fun _ wx wy => Below wx.heap.size wx wy) (fun wx => Below w7.heap.size w7 wx) (by kernel_rfl) (by kernel_rfl) rfl (by kernel_rfl) (Below.refl _ _).drew (fun _ wx => Below.refl _ _) (fun _ wx wy h k => h.trans (k.mono h.size)) ?hF ?hstep ?hend
            case hF =>
              exact ⟨fun _ _ _ _ _ _ h => h, ⟨fun _ _ _ _ _ _ h => h, ⟨fun _ _ _ _ _ _ h => h, ⟨fun _ _ _ _ _ _ h => h, ⟨fun _ _ _ _ _ _ h => h, ⟨fun _ _ _ _ _ k h => Tr.keep h k, ⟨fun _ _ _ _ _ _ h => h, ⟨fun _ _ _ _ _ _ h => h, ⟨fun _ _ _ _ _ _ h => h, ⟨fun _ _ _ _ _ _ h => h, trivial⟩⟩⟩⟩⟩⟩⟩⟩⟩⟩
            case hstep =>
              refine ⟨fun r wx hG hs hq hf => ?_, ?_⟩
              · have e8 : r 8 = .pointer (some ⟨w.heap.size, 0, none⟩) := hs 8 rfl
                refine (if_pos rfl).symm ▸ ?_
                clear hs hq hf
                unfold gives
                refine gives_load_row 35 _ rfl w.heap.size e8 35 _ (0, 0) _ (HR.out wx hG).2.2 Tryd.underlying35 rfl (hInfo _ HLN.out.2.2.1) ?_
                exact ⟨Below.refl _ _, rfl⟩
              refine ⟨fun r wx hG hs hq hf => ?_, ?_⟩
              · have e0 : r 0 = .int .i64 W := hs 0 rfl
                refine (if_pos rfl).symm ▸ ?_
                clear hs hq hf
                unfold gives
                go_simp
                exact ⟨Below.refl _ _, rfl⟩
              refine ⟨fun r wx hG hs hq hf => ?_, ?_⟩
              · have e1 : r 1 = .slice (some ⟨tb, tf, none⟩) n tc := hs 1 rfl
                refine (if_pos rfl).symm ▸ ?_
                clear hs hq hf
                unfold gives
                go_simp
                exact ⟨Below.refl _ _, rfl⟩
              refine ⟨fun r wx hG hs hq hf => ?_, ?_⟩
              · have e2 : r 2 = .int .u64 m := hs 2 rfl
                refine (if_pos rfl).symm ▸ ?_
                clear hs hq hf
                unfold gives
                go_simp
                exact ⟨Below.refl _ _, rfl⟩
              refine ⟨fun r wx hG hs hq hf => ?_, ?_⟩
              · have h2 : r 52 = .slice (some ⟨tb, tf, none⟩) n tc := hf.1
                have h3 : r 53 = .int .u64 m := hf.2.1
                refine (if_pos rfl).symm ▸ ?_
                clear hs hq hf
                unfold gives
                have y1 : (0 : Int) ≤ (m : Int) := by omega
                have y2 : (m : Int) ≤ (tc : Int) := by omega
                go_simp
                exact ⟨Below.refl _ _, rfl⟩
              refine ⟨fun r wx hG hs hq hf => ?_, ?_⟩
              · have h1 : r 51 = .int .i64 W := hf.1
                have h4 : r 54 = .slice (some ⟨tb, tf, none⟩) m tc := hf.2.1
                refine (if_pos rfl).symm ▸ ?_
                clear hs hq hf
                unfold gives
                go_simp
                refine (HGM.out wx hG).mono ?_
                rintro e wy ⟨p, rfl, hq1, hb1⟩
                exact ⟨_, rfl, hb1, hq1⟩
              refine ⟨fun r wx hG hs hq hf => ?_, ?_⟩
              · have e0 : r 0 = .int .i64 W := hs 0 rfl
                refine (if_pos rfl).symm ▸ ?_
                clear hs hq hf
                unfold gives
                go_simp
                exact ⟨Below.refl _ _, rfl⟩
              refine ⟨fun r wx hG hs hq hf => ?_, ?_⟩
              · have h5 : Tr wx W (r 55) lm := hf.1
                have h6 : r 56 = .int .i64 W := hf.2.1
                refine (if_pos rfl).symm ▸ ?_
                clear hs hq hf
                unfold gives
                obtain ⟨q, hq⟩ := h5.form
                go_simp
                rw [hq] at h5
                refine (HRM.out _ wx h5 hG).mono ?_
                rintro e wy ⟨rfl, hb1⟩
                exact ⟨_, rfl, hb1, rfl⟩
              refine ⟨fun r wx hG hs hq hf => ?_, ?_⟩
              · have h0 : r 50 = .agg (bv old).toArray := hf.1
                have h7 : r 57 = .agg (bv rm).toArray := hf.2.1
                refine (if_pos rfl).symm ▸ ?_
                clear hs hq hf
                unfold gives
                have hqe := eqIn_hash old rm HLN.out.2.2.1 HLM.out wx
                rw [HQM.out] at hqe
                have hgd := eq_guard
                go_simp
                exact ⟨Below.refl _ _, rfl⟩
              refine ⟨fun r wx hG hs hq hf => ?_, ?_⟩
              · have h8 : r 58 = .bool true := hf.1
                refine (if_pos rfl).symm ▸ ?_
                clear hs hq hf
                unfold gives
                go_simp
                exact ⟨Below.refl _ _, rfl⟩
              exact trivial
            case hend =>
              intro u wz hG hfin
              have z9 : u 9 = .bool true := hfin 9 (by decide) (by kernel_rfl)
              clear hfin
              simp only [fill]
              have R8 := Lib.hid (And.intro ((hG.block _ (Array.getElem?_eq_some_iff.1 R7.out.1).1).trans R7.out.1) (And.intro ((hG.block _ (Array.getElem?_eq_some_iff.1 R7.out.2.1).1).trans R7.out.2.1) (And.intro ((hG.block _ (Array.getElem?_eq_some_iff.1 R7.out.2.2.1).1).trans R7.out.2.2.1) (And.intro (R7.out.2.2.2.1.keep hG) (R7.out.2.2.2.2.trans (hG.mono R7.out.2.2.2.2.size))))))
              clear hG
              obtain ⟨w8, hw8⟩ : ∃ x, x = wz := ⟨_, rfl⟩
              subst hw8
              go_simp
              have h0 : w8.cell? ⟨w.heap.size + 1, 0, none⟩ = some (.slice none 0 0) := cell_of_rowp R8.out.2.1 rfl
              have h1 : w8.cell? ⟨w.heap.size + 1, 1, none⟩ = some (.slice none 0 0) := cell_of_rowp R8.out.2.1 rfl
              have h2 : w8.cell? ⟨w.heap.size + 1 + 1, 0, none⟩ = some (.int .i64 0) := cell_of_rowp R8.out.2.2.1 rfl
              have z0 : w8.frozen? ⟨w.heap.size + 1, 0, none⟩ = false := by simp [World.frozen?, R8.out.2.1]
              have z1 : w8.frozen? ⟨w.heap.size + 1, 1, none⟩ = false := by simp [World.frozen?, R8.out.2.1]
              have z2 : w8.frozen? ⟨w.heap.size + 1 + 1, 0, none⟩ = false := by simp [World.frozen?, R8.out.2.2.1]
              have hwm : w.heap.size + 1 + 1 ≠ w.heap.size + 1 := by omega
              have HF := Lib.hid (FIN.out w8 0 8 R8.out.2.1 R8.out.2.2.1 R8.out.2.2.2.2)
              go_wp2_with fail
              have hc0 := cell_of_rowp (i := 0) HF.out.1 rfl
              have hc1 := cell_of_rowp (i := 1) HF.out.1 rfl
              have hce := cell_of_rowp (i := 0) (v := .int .i64 8) HF.out.2.1 rfl
              change Leaves _ _ _ _ _ _ (st2 w8 (w.heap.size + 1) (w.heap.size + 1 + 1) (.slice none 0 0) (.slice none 0 0) (.int .i64 8))
              have fin : PairE w (st2 w8 (w.heap.size + 1) (w.heap.size + 1 + 1) (.slice none 0 0) (.slice none 0 0) (.int .i64 8)) AN (.returned (.tuple #[.agg #[.slice none 0 0, .slice none 0 0], .int .i64 8])) := by
                rw [HEE.out, if_neg (by simp), if_neg (by rw [HQA2.out, HQB2.out]; simp), if_pos HQE.out]
                exact ⟨none, 0, none, 0, rfl, Rd.nil _ _, Rd.nil _ _, HF.out.2.2⟩
              simp [Leaves, settle, results, Tryd.results13, go_sem, asAddr, hc0, hc1, hce]
              exact fin
          · have HQM := Lib.hid (show (old == rm) = false from beq_eq_false_iff_ne.2 hqm)
            have HQE := Lib.hid hqm
            clear hqm
            go_upto_region 8 with fail
            refine wp_region_steps [some 50, some 51, some 52, some 53, some 54, some 55, some 56, some 57, some 58, some 49] [] (g8nF W w.heap.size tb tf tc n m old rm lm) (fun _ wx wy => Below wx.heap.size wx wy) (fun wx => Below w7.heap.size w7 wx) (by kernel_rfl) (by kernel_rfl) rfl (by kernel_rfl) (Below.refl _ _).drew (fun _ wx => Below.refl _ _) (fun _ wx wy h k => h.trans (k.mono h.size)) ?hF ?hstep ?hend
            case hF =>
              exact ⟨fun _ _ _ _ _ _ h => h, ⟨fun _ _ _ _ _ _ h => h, ⟨fun _ _ _ _ _ _ h => h, ⟨fun _ _ _ _ _ _ h => h, ⟨fun _ _ _ _ _ _ h => h, ⟨fun _ _ _ _ _ k h => Tr.keep h k, ⟨fun _ _ _ _ _ _ h => h, ⟨fun _ _ _ _ _ _ h => h, ⟨fun _ _ _ _ _ _ h => h, ⟨fun _ _ _ _ _ _ h => h, trivial⟩⟩⟩⟩⟩⟩⟩⟩⟩⟩
            case hstep =>
              refine ⟨fun r wx hG hs hq hf => ?_, ?_⟩
              · have e8 : r 8 = .pointer (some ⟨w.heap.size, 0, none⟩) := hs 8 rfl
                refine (if_pos rfl).symm ▸ ?_
                clear hs hq hf
                unfold gives
                refine gives_load_row 35 _ rfl w.heap.size e8 35 _ (0, 0) _ (HR.out wx hG).2.2 Tryd.underlying35 rfl (hInfo _ HLN.out.2.2.1) ?_
                exact ⟨Below.refl _ _, rfl⟩
              refine ⟨fun r wx hG hs hq hf => ?_, ?_⟩
              · have e0 : r 0 = .int .i64 W := hs 0 rfl
                refine (if_pos rfl).symm ▸ ?_
                clear hs hq hf
                unfold gives
                go_simp
                exact ⟨Below.refl _ _, rfl⟩
              refine ⟨fun r wx hG hs hq hf => ?_, ?_⟩
              · have e1 : r 1 = .slice (some ⟨tb, tf, none⟩) n tc := hs 1 rfl
                refine (if_pos rfl).symm ▸ ?_
                clear hs hq hf
                unfold gives
                go_simp
                exact ⟨Below.refl _ _, rfl⟩
              refine ⟨fun r wx hG hs hq hf => ?_, ?_⟩
              · have e2 : r 2 = .int .u64 m := hs 2 rfl
                refine (if_pos rfl).symm ▸ ?_
                clear hs hq hf
                unfold gives
                go_simp
                exact ⟨Below.refl _ _, rfl⟩
              refine ⟨fun r wx hG hs hq hf => ?_, ?_⟩
              · have h2 : r 52 = .slice (some ⟨tb, tf, none⟩) n tc := hf.1
                have h3 : r 53 = .int .u64 m := hf.2.1
                refine (if_pos rfl).symm ▸ ?_
                clear hs hq hf
                unfold gives
                have y1 : (0 : Int) ≤ (m : Int) := by omega
                have y2 : (m : Int) ≤ (tc : Int) := by omega
                go_simp
                exact ⟨Below.refl _ _, rfl⟩
              refine ⟨fun r wx hG hs hq hf => ?_, ?_⟩
              · have h1 : r 51 = .int .i64 W := hf.1
                have h4 : r 54 = .slice (some ⟨tb, tf, none⟩) m tc := hf.2.1
                refine (if_pos rfl).symm ▸ ?_
                clear hs hq hf
                unfold gives
                go_simp
                refine (HGM.out wx hG).mono ?_
                rintro e wy ⟨p, rfl, hq1, hb1⟩
                exact ⟨_, rfl, hb1, hq1⟩
              refine ⟨fun r wx hG hs hq hf => ?_, ?_⟩
              · have e0 : r 0 = .int .i64 W := hs 0 rfl
                refine (if_pos rfl).symm ▸ ?_
                clear hs hq hf
                unfold gives
                go_simp
                exact ⟨Below.refl _ _, rfl⟩
              refine ⟨fun r wx hG hs hq hf => ?_, ?_⟩
              · have h5 : Tr wx W (r 55) lm := hf.1
                have h6 : r 56 = .int .i64 W := hf.2.1
                refine (if_pos rfl).symm ▸ ?_
                clear hs hq hf
                unfold gives
                obtain ⟨q, hq⟩ := h5.form
                go_simp
                rw [hq] at h5
                refine (HRM.out _ wx h5 hG).mono ?_
                rintro e wy ⟨rfl, hb1⟩
                exact ⟨_, rfl, hb1, rfl⟩
              refine ⟨fun r wx hG hs hq hf => ?_, ?_⟩
              · have h0 : r 50 = .agg (bv old).toArray := hf.1
                have h7 : r 57 = .agg (bv rm).toArray := hf.2.1
                refine (if_pos rfl).symm ▸ ?_
                clear hs hq hf
                unfold gives
                have hqe := eqIn_hash old rm HLN.out.2.2.1 HLM.out wx
                rw [HQM.out] at hqe
                have hgd := eq_guard
                go_simp
                exact ⟨Below.refl _ _, rfl⟩
              refine ⟨fun r wx hG hs hq hf => ?_, ?_⟩
              · have h8 : r 58 = .bool false := hf.1
                refine (if_pos rfl).symm ▸ ?_
                clear hs hq hf
                unfold gives
                go_simp
                exact ⟨Below.refl _ _, rfl⟩
              exact trivial
            case hend =>
              intro u wz hG hfin
              have z9 : u 9 = .bool false := hfin 9 (by decide) (by kernel_rfl)
              clear hfin
              simp only [fill]
              have R8 := Lib.hid (And.intro ((hG.block _ (Array.getElem?_eq_some_iff.1 R7.out.1).1).trans R7.out.1) (And.intro ((hG.block _ (Array.getElem?_eq_some_iff.1 R7.out.2.1).1).trans R7.out.2.1) (And.intro ((hG.block _ (Array.getElem?_eq_some_iff.1 R7.out.2.2.1).1).trans R7.out.2.2.1) (And.intro (R7.out.2.2.2.1.keep hG) (R7.out.2.2.2.2.trans (hG.mono R7.out.2.2.2.2.size))))))
              clear hG
              obtain ⟨w8, hw8⟩ : ∃ x, x = wz := ⟨_, rfl⟩
              subst hw8
              go_simp
              go_wp2_with (with_reducible show wpList _ _ _ (⟨some 65, _, _, _, _, _⟩ :: _) _ _; refine wpList_load_row rfl _ _ rfl w.heap.size rfl _ _ (0, 0) _ R8.out.1 Tryd.underlying35 rfl (hInfo _ HLN.out.2.2.1) ?_)
              refine (HDS.out w8 R8.out.2.2.2.1 R8.out.2.2.2.2).mono ?_
              rintro e w9 ⟨he, hb9⟩
              have R9 := Lib.hid (And.intro ((hb9.block _ (Array.getElem?_eq_some_iff.1 R8.out.1).1).trans R8.out.1) (And.intro ((hb9.block _ (Array.getElem?_eq_some_iff.1 R8.out.2.1).1).trans R8.out.2.1) (And.intro ((hb9.block _ (Array.getElem?_eq_some_iff.1 R8.out.2.2.1).1).trans R8.out.2.2.1) (And.intro True.intro (R8.out.2.2.2.2.trans (hb9.mono R8.out.2.2.2.2.size))))))
              clear hb9
              cases hmt : GF with
              | none =>
                rw [hmt] at he
                have he : e = .returned (.tuple #[]) := he
                subst he
                have HMT := Lib.hid hmt
                clear hmt
                have h0 : w9.cell? ⟨w.heap.size + 1, 0, none⟩ = some (.slice none 0 0) := cell_of_rowp R9.out.2.1 rfl
                have h1 : w9.cell? ⟨w.heap.size + 1, 1, none⟩ = some (.slice none 0 0) := cell_of_rowp R9.out.2.1 rfl
                have h2 : w9.cell? ⟨w.heap.size + 1 + 1, 0, none⟩ = some (.int .i64 0) := cell_of_rowp R9.out.2.2.1 rfl
                have z0 : w9.frozen? ⟨w.heap.size + 1, 0, none⟩ = false := by simp [World.frozen?, R9.out.2.1]
                have z1 : w9.frozen? ⟨w.heap.size + 1, 1, none⟩ = false := by simp [World.frozen?, R9.out.2.1]
                have z2 : w9.frozen? ⟨w.heap.size + 1 + 1, 0, none⟩ = false := by simp [World.frozen?, R9.out.2.2.1]
                have hwm : w.heap.size + 1 + 1 ≠ w.heap.size + 1 := by omega
                have HF := Lib.hid (FIN.out w9 0 8 R9.out.2.1 R9.out.2.2.1 R9.out.2.2.2.2)
                go_wp2_with fail
                refine leaves_cons (f := 32) (args := #[.pointer (some ⟨w.heap.size + 1, 0, none⟩), .pointer (some ⟨w.heap.size + 1 + 1, 0, none⟩)]) (by simp) (by simp [go_sem]) ?_
                refine (close_quietG (st2 w9 (w.heap.size + 1) (w.heap.size + 1 + 1) (.slice none 0 0) (.slice none 0 0) (.int .i64 8)) (w.heap.size + 1) (w.heap.size + 1 + 1)).mono ?_
                rintro e u' wq ⟨rfl, rfl, hbq⟩
                have q1 := (hbq.block _ (Array.getElem?_eq_some_iff.1 HF.out.1).1).trans HF.out.1
                have q2 := (hbq.block _ (Array.getElem?_eq_some_iff.1 HF.out.2.1).1).trans HF.out.2.1
                have hc0 := cell_of_rowp (i := 0) q1 rfl
                have hc1 := cell_of_rowp (i := 1) q1 rfl
                have hce := cell_of_rowp (i := 0) (v := .int .i64 8) q2 rfl
                have fin : PairE w wq AN (.returned (.tuple #[.agg #[.slice none 0 0, .slice none 0 0], .int .i64 8])) := by
                  rw [HEE.out, if_neg (by simp), if_neg (by rw [HQA2.out, HQB2.out]; simp), if_neg HQE.out, HMT.out]
                  exact ⟨none, 0, none, 0, rfl, Rd.nil _ _, Rd.nil _ _, HF.out.2.2.trans (hbq.mono HF.out.2.2.size)⟩
                simp [Leaves, settle, results, Tryd.results13, go_sem, asAddr, hc0, hc1, hce]
                exact fin
              | some PR =>
                rw [hmt] at he
                obtain ⟨va, vb, rfl, hra, hrb2⟩ := he
                obtain ⟨xa, xc, rfl⟩ := hra.form
                obtain ⟨ya, yc, rfl⟩ := hrb2.form
                refine leaves_cons (f := 32) (args := #[.pointer (some ⟨w.heap.size + 1, 0, none⟩), .pointer (some ⟨w.heap.size + 1 + 1, 0, none⟩)]) (by simp) (by simp [go_sem]) ?_
                refine (close_foundG w9 (w.heap.size + 1) (w.heap.size + 1 + 1) _ _ 0 [] R9.out.2.1 R9.out.2.2.1 (by omega) xa ya _ _ xc yc).mono ?_
                rintro e u' wq ⟨rfl, rfl, rfl⟩
                have k1 := (heap_alloc_old w9 (.cells #[.slice xa PR.1.length xc, .slice ya PR.2.length yc] 92) (Array.getElem?_eq_some_iff.1 R9.out.2.1).1).trans R9.out.2.1
                have k2 := (heap_alloc_old w9 (.cells #[.slice xa PR.1.length xc, .slice ya PR.2.length yc] 92) (Array.getElem?_eq_some_iff.1 R9.out.2.2.1).1).trans R9.out.2.2.1
                have hst := st2_facts (a := .slice xa PR.1.length xc) (b := .slice ya PR.2.length yc) (e := .int .i64 0) k1 k2 (by omega)
                have g1 := (hra.alloc (.cells #[.slice xa PR.1.length xc, .slice ya PR.2.length yc] 92)).st2 (a := .slice xa PR.1.length xc) (b := .slice ya PR.2.length yc) (e := .int .i64 0) k1 k2 (by omega)
                have g2 := (hrb2.alloc (.cells #[.slice xa PR.1.length xc, .slice ya PR.2.length yc] 92)).st2 (a := .slice xa PR.1.length xc) (b := .slice ya PR.2.length yc) (e := .int .i64 0) k1 k2 (by omega)
                have gB := (R9.out.2.2.2.2.alloc R9.out.2.2.2.2.size (.cells #[.slice xa PR.1.length xc, .slice ya PR.2.length yc] 92)).trans (hst.2.2.2 w.heap.size (by omega) (by omega))
                have s1 := hst.1
                have s2 := hst.2.1
                obtain ⟨wq, hwq⟩ : ∃ x, x = st2 (w9.alloc (.cells #[.slice xa PR.1.length xc, .slice ya PR.2.length yc] 92)) (w.heap.size + 1) (w.heap.size + 1 + 1) (.slice xa PR.1.length xc) (.slice ya PR.2.length yc) (.int .i64 0) := ⟨_, rfl⟩
                rw [← hwq] at s1 s2 g1 g2 gB ⊢
                have hc0 := cell_of_rowp (i := 0) s1 rfl
                have hc1 := cell_of_rowp (i := 1) s1 rfl
                have hce := cell_of_rowp (i := 0) (v := .int .i64 0) s2 rfl
                have fin : PairE w wq AN (.returned (.tuple #[.agg #[.slice xa PR.1.length xc, .slice ya PR.2.length yc], .int .i64 0])) := by
                  rw [HEE.out, if_neg (by simp), if_neg (by rw [HQA2.out, HQB2.out]; simp), if_neg HQE.out, hmt]
                  exact ⟨xa, xc, ya, yc, rfl, g1, g2, gB⟩
                simp [Leaves, settle, results, Tryd.results13, go_sem, asAddr, hc0, hc1, hce]
                exact fin
      · have HQB := Lib.hid (show (gb == rl) = false from beq_eq_false_iff_ne.2 hqb)
        clear hqb
        go_upto_region 6 with fail
        refine wp_region_steps [some 37, some 38, some 39, some 40, some 41, some 42, some 43, some 44, some 45, some 46, some 47, some 36] [] (g6bF W w.heap.size g13 g14 gt ga gb old rl) (fun _ wx wy => Below wx.heap.size wx wy) (fun wx => Below w6.heap.size w6 wx) (by kernel_rfl) (by kernel_rfl) rfl (by kernel_rfl) (Below.refl _ _).drew (fun _ wx => Below.refl _ _) (fun _ wx wy h k => h.trans (k.mono h.size)) ?hF ?hstep ?hend
        case hF =>
          exact ⟨fun _ _ _ _ _ _ h => h, ⟨fun _ _ _ _ _ _ h => h, ⟨fun _ _ _ _ _ _ h => h, ⟨fun _ _ _ _ _ _ h => h, ⟨fun _ _ _ _ _ _ h => h, ⟨fun _ _ _ _ _ _ h => h, ⟨fun _ _ _ _ _ _ h => h, ⟨fun _ _ _ _ _ _ h => h, ⟨fun _ _ _ _ _ _ h => h, ⟨fun _ _ _ _ _ _ h => h, ⟨fun _ _ _ _ _ _ h => h, ⟨fun _ _ _ _ _ _ h => h, trivial⟩⟩⟩⟩⟩⟩⟩⟩⟩⟩⟩⟩
        case hstep =>
          refine ⟨fun r wx hG hs hq hf => ?_, ?_⟩
          · have e13 : r 13 = .pointer (some ⟨g13, 0, none⟩) := hs 13 rfl
            refine (if_pos rfl).symm ▸ ?_
            clear hs hq hf
            unfold gives
            refine gives_load_row 35 _ rfl g13 e13 35 _ (0, 0) _ (HR.out wx hG).1 Tryd.underlying35 rfl (hInfo _ HLN.out.1) ?_
            exact ⟨Below.refl _ _, rfl⟩
          refine ⟨fun r wx hG hs hq hf => ?_, ?_⟩
          · have e8 : r 8 = .pointer (some ⟨w.heap.size, 0, none⟩) := hs 8 rfl
            refine (if_pos rfl).symm ▸ ?_
            clear hs hq hf
            unfold gives
            refine gives_load_row 35 _ rfl w.heap.size e8 35 _ (0, 0) _ (HR.out wx hG).2.2 Tryd.underlying35 rfl (hInfo _ HLN.out.2.2.1) ?_
            exact ⟨Below.refl _ _, rfl⟩
          refine ⟨fun r wx hG hs hq hf => ?_, ?_⟩
          · have h0 : r 37 = .agg (bv ga).toArray := hf.1
            have h1 : r 38 = .agg (bv old).toArray := hf.2.1
            refine (if_pos rfl).symm ▸ ?_
            clear hs hq hf
            unfold gives
            have hqe := eqIn_hash ga old HLN.out.1 HLN.out.2.2.1 wx
            rw [HQA.out] at hqe
            have hgd := eq_guard
            go_simp
            exact ⟨Below.refl _ _, rfl⟩
          refine ⟨fun r wx hG hs hq hf => ?_, ?_⟩
          · have h2 : r 39 = .bool false := hf.1
            refine (if_pos rfl).symm ▸ ?_
            clear hs hq hf
            unfold gives
            go_simp
            exact ⟨Below.refl _ _, rfl⟩
          refine ⟨fun r wx hG hs hq hf => ?_, ?_⟩
          · have e14 : r 14 = .pointer (some ⟨g14, 0, none⟩) := hs 14 rfl
            have h3 : r 40 = .bool false := hf.1
            have hy : ydD [some 37, some 38, some 39, some 40, some 41, some 42, some 43, some 44, some 45, some 46, some 47, some 36] r 3 = some false := by show (match r 40 with | .bool b => some b | _ => none) = some false; rw [h3]
            simp only [Region.wanted, hy, beq_self_eq_true, if_true]
            clear hs hq hf hy
            unfold gives
            refine gives_load_row 35 _ rfl g14 e14 35 _ (0, 0) _ (HR.out wx hG).2.1 Tryd.underlying35 rfl (hInfo _ HLN.out.2.1) ?_
            exact ⟨Below.refl _ _, rfl⟩
          refine ⟨fun r wx hG hs hq hf => ?_, ?_⟩
          · have e15 : r 15 = .pointer (some ⟨gt, 0, none⟩) := hs 15 rfl
            have h3 : r 40 = .bool false := hf.1
            have hy : ydD [some 37, some 38, some 39, some 40, some 41, some 42, some 43, some 44, some 45, some 46, some 47, some 36] r 3 = some false := by show (match r 40 with | .bool b => some b | _ => none) = some false; rw [h3]
            simp only [Region.wanted, hy, beq_self_eq_true, if_true]
            clear hs hq hf hy
            unfold gives
            go_simp
            exact ⟨Below.refl _ _, rfl⟩
          refine ⟨fun r wx hG hs hq hf => ?_, ?_⟩
          · have h5 : r 42 = .pointer (some ⟨gt, 0, none⟩) := hf.1
            have h3 : r 40 = .bool false := hf.2.1
            have hy : ydD [some 37, some 38, some 39, some 40, some 41, some 42, some 43, some 44, some 45, some 46, some 47, some 36] r 3 = some false := by show (match r 40 with | .bool b => some b | _ => none) = some false; rw [h3]
            simp only [Region.wanted, hy, beq_self_eq_true, if_true]
            clear hs hq hf hy
            unfold gives
            go_simp
            exact ⟨Below.refl _ _, rfl⟩
          refine ⟨fun r wx hG hs hq hf => ?_, ?_⟩
          · have h6 : r 43 = .pointer (some ⟨gt, 0, none⟩) := hf.1
            have h3 : r 40 = .bool false := hf.2.1
            have hy : ydD [some 37, some 38, some 39, some 40, some 41, some 42, some 43, some 44, some 45, some 46, some 47, some 36] r 3 = some false := by show (match r 40 with | .bool b => some b | _ => none) = some false; rw [h3]
            simp only [Region.wanted, hy, beq_self_eq_true, if_true]
            clear hs hq hf hy
            unfold gives
            go_simp
            exact ⟨Below.refl _ _, rfl⟩
          refine ⟨fun r wx hG hs hq hf => ?_, ?_⟩
          · have h7 : r 44 = .pointer (some ⟨gt, 0, none⟩) := hf.1
            have h3 : r 40 = .bool false := hf.2.1
            have hy : ydD [some 37, some 38, some 39, some 40, some 41, some 42, some 43, some 44, some 45, some 46, some 47, some 36] r 3 = some false := by show (match r 40 with | .bool b => some b | _ => none) = some false; rw [h3]
            simp only [Region.wanted, hy, beq_self_eq_true, if_true]
            clear hs hq hf hy
            unfold gives
            refine gives_load_mid 35 _ rfl gt 0 h7 (bv _) _ (HRT.out wx hG) Tryd.underlying35 rfl (hInfo' _ HLN.out.2.2.2) ?_
            exact ⟨Below.refl _ _, rfl⟩
          refine ⟨fun r wx hG hs hq hf => ?_, ?_⟩
          · have h4 : r 41 = .agg (bv gb).toArray := hf.1
            have h8 : r 45 = .agg (bv rl).toArray := hf.2.1
            have h3 : r 40 = .bool false := hf.2.2.1
            have hy : ydD [some 37, some 38, some 39, some 40, some 41, some 42, some 43, some 44, some 45, some 46, some 47, some 36] r 3 = some false := by show (match r 40 with | .bool b => some b | _ => none) = some false; rw [h3]
            simp only [Region.wanted, hy, beq_self_eq_true, if_true]
            clear hs hq hf hy
            unfold gives
            have hqe := eqIn_hash gb rl HLN.out.2.1 HLN.out.2.2.2 wx
            rw [HQB.out] at hqe
            have hgd := eq_guard
            go_simp
            exact ⟨Below.refl _ _, rfl⟩
          refine ⟨fun r wx hG hs hq hf => ?_, ?_⟩
          · have h3 : r 40 = .bool false := hf.1
            have h9 : r 46 = .bool true := hf.2.1
            refine (if_pos rfl).symm ▸ ?_
            clear hs hq hf
            unfold gives
            go_simp
            exact ⟨Below.refl _ _, rfl⟩
          refine ⟨fun r wx hG hs hq hf => ?_, ?_⟩
          · have h10 : r 47 = .bool true := hf.1
            refine (if_pos rfl).symm ▸ ?_
            clear hs hq hf
            unfold gives
            go_simp
            exact ⟨Below.refl _ _, rfl⟩
          exact trivial
        case hend =>
          intro u wz hG hfin
          have z11 : u 11 = .bool true := hfin 11 (by decide) (by kernel_rfl)
          clear hfin
          simp only [fill]
          have R7 := Lib.hid (And.intro ((hG.block _ (Array.getElem?_eq_some_iff.1 R6.out.1).1).trans R6.out.1) (And.intro ((hG.block _ (Array.getElem?_eq_some_iff.1 R6.out.2.1).1).trans R6.out.2.1) (And.intro ((hG.block _ (Array.getElem?_eq_some_iff.1 R6.out.2.2.1).1).trans R6.out.2.2.1) (And.intro (HTR.out.keep hG) (R6.out.2.2.2.2.trans (hG.mono R6.out.2.2.2.2.size))))))
          have HG67 := Lib.hid hG
          clear hG
          obtain ⟨w7, hw7⟩ : ∃ x, x = wz := ⟨_, rfl⟩
          subst hw7
          go_simp
          have h0 : w7.cell? ⟨w.heap.size + 1, 0, none⟩ = some (.slice none 0 0) := cell_of_rowp R7.out.2.1 rfl
          have h1 : w7.cell? ⟨w.heap.size + 1, 1, none⟩ = some (.slice none 0 0) := cell_of_rowp R7.out.2.1 rfl
          have h2 : w7.cell? ⟨w.heap.size + 1 + 1, 0, none⟩ = some (.int .i64 0) := cell_of_rowp R7.out.2.2.1 rfl
          have z0 : w7.frozen? ⟨w.heap.size + 1, 0, none⟩ = false := by simp [World.frozen?, R7.out.2.1]
          have z1 : w7.frozen? ⟨w.heap.size + 1, 1, none⟩ = false := by simp [World.frozen?, R7.out.2.1]
          have z2 : w7.frozen? ⟨w.heap.size + 1 + 1, 0, none⟩ = false := by simp [World.frozen?, R7.out.2.2.1]
          have hwm : w.heap.size + 1 + 1 ≠ w.heap.size + 1 := by omega
          have HF := Lib.hid (FIN.out w7 0 3 R7.out.2.1 R7.out.2.2.1 R7.out.2.2.2.2)
          go_wp2_with fail
          have hc0 := cell_of_rowp (i := 0) HF.out.1 rfl
          have hc1 := cell_of_rowp (i := 1) HF.out.1 rfl
          have hce := cell_of_rowp (i := 0) (v := .int .i64 3) HF.out.2.1 rfl
          change Leaves _ _ _ _ _ _ (st2 w7 (w.heap.size + 1) (w.heap.size + 1 + 1) (.slice none 0 0) (.slice none 0 0) (.int .i64 3))
          have fin : PairE w (st2 w7 (w.heap.size + 1) (w.heap.size + 1 + 1) (.slice none 0 0) (.slice none 0 0) (.int .i64 3)) AN (.returned (.tuple #[.agg #[.slice none 0 0, .slice none 0 0], .int .i64 3])) := by
            rw [HEE.out, if_neg (by simp), if_pos (.inr (beq_eq_false_iff_ne.1 HQB.out))]
            exact ⟨none, 0, none, 0, rfl, Rd.nil _ _, Rd.nil _ _, HF.out.2.2⟩
          simp [Leaves, settle, results, Tryd.results13, go_sem, asAddr, hc0, hc1, hce]
          exact fin
    · have HQA := Lib.hid (show (ga == old) = false from beq_eq_false_iff_ne.2 hqa)
      clear hqa
      go_upto_region 6 with fail
      refine wp_region_steps [some 37, some 38, some 39, some 40, some 41, some 42, some 43, some 44, some 45, some 46, some 47, some 36] [] (g6aF W w.heap.size g13 g14 gt ga gb old rl) (fun _ wx wy => Below wx.heap.size wx wy) (fun wx => Below w6.heap.size w6 wx) (by kernel_rfl) (by kernel_rfl) rfl (by kernel_rfl) (Below.refl _ _).drew (fun _ wx => Below.refl _ _) (fun _ wx wy h k => h.trans (k.mono h.size)) ?hF ?hstep ?hend
      case hF =>
        exact ⟨fun _ _ _ _ _ _ h => h, ⟨fun _ _ _ _ _ _ h => h, ⟨fun _ _ _ _ _ _ h => h, ⟨fun _ _ _ _ _ _ h => h, ⟨fun _ _ _ _ _ _ h => h, ⟨fun _ _ _ _ _ _ h => h, ⟨fun _ _ _ _ _ _ h => h, ⟨fun _ _ _ _ _ _ h => h, ⟨fun _ _ _ _ _ _ h => h, ⟨fun _ _ _ _ _ _ h => h, ⟨fun _ _ _ _ _ _ h => h, ⟨fun _ _ _ _ _ _ h => h, trivial⟩⟩⟩⟩⟩⟩⟩⟩⟩⟩⟩⟩
      case hstep =>
        refine ⟨fun r wx hG hs hq hf => ?_, ?_⟩
        · have e13 : r 13 = .pointer (some ⟨g13, 0, none⟩) := hs 13 rfl
          refine (if_pos rfl).symm ▸ ?_
          clear hs hq hf
          unfold gives
          refine gives_load_row 35 _ rfl g13 e13 35 _ (0, 0) _ (HR.out wx hG).1 Tryd.underlying35 rfl (hInfo _ HLN.out.1) ?_
          exact ⟨Below.refl _ _, rfl⟩
        refine ⟨fun r wx hG hs hq hf => ?_, ?_⟩
        · have e8 : r 8 = .pointer (some ⟨w.heap.size, 0, none⟩) := hs 8 rfl
          refine (if_pos rfl).symm ▸ ?_
          clear hs hq hf
          unfold gives
          refine gives_load_row 35 _ rfl w.heap.size e8 35 _ (0, 0) _ (HR.out wx hG).2.2 Tryd.underlying35 rfl (hInfo _ HLN.out.2.2.1) ?_
          exact ⟨Below.refl _ _, rfl⟩
        refine ⟨fun r wx hG hs hq hf => ?_, ?_⟩
        · have h0 : r 37 = .agg (bv ga).toArray := hf.1
          have h1 : r 38 = .agg (bv old).toArray := hf.2.1
          refine (if_pos rfl).symm ▸ ?_
          clear hs hq hf
          unfold gives
          have hqe := eqIn_hash ga old HLN.out.1 HLN.out.2.2.1 wx
          rw [HQA.out] at hqe
          have hgd := eq_guard
          go_simp
          exact ⟨Below.refl _ _, rfl⟩
        refine ⟨fun r wx hG hs hq hf => ?_, ?_⟩
        · have h2 : r 39 = .bool true := hf.1
          refine (if_pos rfl).symm ▸ ?_
          clear hs hq hf
          unfold gives
          go_simp
          exact ⟨Below.refl _ _, rfl⟩
        refine ⟨fun r wx hG hs hq hf => ?_, ?_⟩
        · have e14 : r 14 = .pointer (some ⟨g14, 0, none⟩) := hs 14 rfl
          have h3 : r 40 = .bool true := hf.1
          have hy : ydD [some 37, some 38, some 39, some 40, some 41, some 42, some 43, some 44, some 45, some 46, some 47, some 36] r 3 = some true := by show (match r 40 with | .bool b => some b | _ => none) = some true; rw [h3]
          simp only [Region.wanted, hy]
          rw [if_neg (show ¬ (some true == some false) = true by decide)]
          clear hs hq hf hy
          rfl
        refine ⟨fun r wx hG hs hq hf => ?_, ?_⟩
        · have e15 : r 15 = .pointer (some ⟨gt, 0, none⟩) := hs 15 rfl
          have h3 : r 40 = .bool true := hf.1
          have hy : ydD [some 37, some 38, some 39, some 40, some 41, some 42, some 43, some 44, some 45, some 46, some 47, some 36] r 3 = some true := by show (match r 40 with | .bool b => some b | _ => none) = some true; rw [h3]
          simp only [Region.wanted, hy]
          rw [if_neg (show ¬ (some true == some false) = true by decide)]
          clear hs hq hf hy
          rfl
        refine ⟨fun r wx hG hs hq hf => ?_, ?_⟩
        · have h5 : r 42 = undef := hf.1
          have h3 : r 40 = .bool true := hf.2.1
          have hy : ydD [some 37, some 38, some 39, some 40, some 41, some 42, some 43, some 44, some 45, some 46, some 47, some 36] r 3 = some true := by show (match r 40 with | .bool b => some b | _ => none) = some true; rw [h3]
          simp only [Region.wanted, hy]
          rw [if_neg (show ¬ (some true == some false) = true by decide)]
          clear hs hq hf hy
          rfl
        refine ⟨fun r wx hG hs hq hf => ?_, ?_⟩
        · have h6 : r 43 = undef := hf.1
          have h3 : r 40 = .bool true := hf.2.1
          have hy : ydD [some 37, some 38, some 39, some 40, some 41, some 42, some 43, some 44, some 45, some 46, some 47, some 36] r 3 = some true := by show (match r 40 with | .bool b => some b | _ => none) = some true; rw [h3]
          simp only [Region.wanted, hy]
          rw [if_neg (show ¬ (some true == some false) = true by decide)]
          clear hs hq hf hy
          rfl
        refine ⟨fun r wx hG hs hq hf => ?_, ?_⟩
        · have h7 : r 44 = undef := hf.1
          have h3 : r 40 = .bool true := hf.2.1
          have hy : ydD [some 37, some 38, some 39, some 40, some 41, some 42, some 43, some 44, some 45, some 46, some 47, some 36] r 3 = some true := by show (match r 40 with | .bool b => some b | _ => none) = some true; rw [h3]
          simp only [Region.wanted, hy]
          rw [if_neg (show ¬ (some true == some false) = true by decide)]
          clear hs hq hf hy
          rfl
        refine ⟨fun r wx hG hs hq hf => ?_, ?_⟩
        · have h4 : r 41 = undef := hf.1
          have h8 : r 45 = undef := hf.2.1
          have h3 : r 40 = .bool true := hf.2.2.1
          have hy : ydD [some 37, some 38, some 39, some 40, some 41, some 42, some 43, some 44, some 45, some 46, some 47, some 36] r 3 = some true := by show (match r 40 with | .bool b => some b | _ => none) = some true; rw [h3]
          simp only [Region.wanted, hy]
          rw [if_neg (show ¬ (some true == some false) = true by decide)]
          clear hs hq hf hy
          rfl
        refine ⟨fun r wx hG hs hq hf => ?_, ?_⟩
        · have h3 : r 40 = .bool true := hf.1
          have h9 : r 46 = undef := hf.2.1
          refine (if_pos rfl).symm ▸ ?_
          clear hs hq hf
          unfold gives
          go_simp
          exact ⟨Below.refl _ _, rfl⟩
        refine ⟨fun r wx hG hs hq hf => ?_, ?_⟩
        · have h10 : r 47 = .bool true := hf.1
          refine (if_pos rfl).symm ▸ ?_
          clear hs hq hf
          unfold gives
          go_simp
          exact ⟨Below.refl _ _, rfl⟩
        exact trivial
      case hend =>
        intro u wz hG hfin
        have z11 : u 11 = .bool true := hfin 11 (by decide) (by kernel_rfl)
        clear hfin
        simp only [fill]
        have R7 := Lib.hid (And.intro ((hG.block _ (Array.getElem?_eq_some_iff.1 R6.out.1).1).trans R6.out.1) (And.intro ((hG.block _ (Array.getElem?_eq_some_iff.1 R6.out.2.1).1).trans R6.out.2.1) (And.intro ((hG.block _ (Array.getElem?_eq_some_iff.1 R6.out.2.2.1).1).trans R6.out.2.2.1) (And.intro (HTR.out.keep hG) (R6.out.2.2.2.2.trans (hG.mono R6.out.2.2.2.2.size))))))
        have HG67 := Lib.hid hG
        clear hG
        obtain ⟨w7, hw7⟩ : ∃ x, x = wz := ⟨_, rfl⟩
        subst hw7
        go_simp
        have h0 : w7.cell? ⟨w.heap.size + 1, 0, none⟩ = some (.slice none 0 0) := cell_of_rowp R7.out.2.1 rfl
        have h1 : w7.cell? ⟨w.heap.size + 1, 1, none⟩ = some (.slice none 0 0) := cell_of_rowp R7.out.2.1 rfl
        have h2 : w7.cell? ⟨w.heap.size + 1 + 1, 0, none⟩ = some (.int .i64 0) := cell_of_rowp R7.out.2.2.1 rfl
        have z0 : w7.frozen? ⟨w.heap.size + 1, 0, none⟩ = false := by simp [World.frozen?, R7.out.2.1]
        have z1 : w7.frozen? ⟨w.heap.size + 1, 1, none⟩ = false := by simp [World.frozen?, R7.out.2.1]
        have z2 : w7.frozen? ⟨w.heap.size + 1 + 1, 0, none⟩ = false := by simp [World.frozen?, R7.out.2.2.1]
        have hwm : w.heap.size + 1 + 1 ≠ w.heap.size + 1 := by omega
        have HF := Lib.hid (FIN.out w7 0 3 R7.out.2.1 R7.out.2.2.1 R7.out.2.2.2.2)
        go_wp2_with fail
        have hc0 := cell_of_rowp (i := 0) HF.out.1 rfl
        have hc1 := cell_of_rowp (i := 1) HF.out.1 rfl
        have hce := cell_of_rowp (i := 0) (v := .int .i64 3) HF.out.2.1 rfl
        change Leaves _ _ _ _ _ _ (st2 w7 (w.heap.size + 1) (w.heap.size + 1 + 1) (.slice none 0 0) (.slice none 0 0) (.int .i64 3))
        have fin : PairE w (st2 w7 (w.heap.size + 1) (w.heap.size + 1 + 1) (.slice none 0 0) (.slice none 0 0) (.int .i64 3)) AN (.returned (.tuple #[.agg #[.slice none 0 0, .slice none 0 0], .int .i64 3])) := by
          rw [HEE.out, if_neg (by simp), if_pos (.inl (beq_eq_false_iff_ne.1 HQA.out))]
          exact ⟨none, 0, none, 0, rfl, Rd.nil _ _, Rd.nil _ _, HF.out.2.2⟩
        simp [Leaves, settle, results, Tryd.results13, go_sem, asAddr, hc0, hc1, hce]
        exact fin
  · have y1 : (ER != 0) = true := by simp [hE0]
    have HE0 := Lib.hid hE0
    clear hE0
    have h0 : wA.cell? ⟨w.heap.size + 1, 0, none⟩ = some (.slice none 0 0) := cell_of_rowp RA.out.2.1 rfl
    have h1 : wA.cell? ⟨w.heap.size + 1, 1, none⟩ = some (.slice none 0 0) := cell_of_rowp RA.out.2.1 rfl
    have h2 : wA.cell? ⟨w.heap.size + 1 + 1, 0, none⟩ = some (.int .i64 ER) := cell_of_rowp RA.out.2.2.1 rfl
    have z0 : wA.frozen? ⟨w.heap.size + 1, 0, none⟩ = false := by simp [World.frozen?, RA.out.2.1]
    have z1 : wA.frozen? ⟨w.heap.size + 1, 1, none⟩ = false := by simp [World.frozen?, RA.out.2.1]
    have z2 : wA.frozen? ⟨w.heap.size + 1 + 1, 0, none⟩ = false := by simp [World.frozen?, RA.out.2.2.1]
    have hwm : w.heap.size + 1 + 1 ≠ w.heap.size + 1 := by omega
    have HF := Lib.hid (FIN.out wA ER ER RA.out.2.1 RA.out.2.2.1 RA.out.2.2.2.2)
    go_wp2_with fail
    have hc0 := cell_of_rowp (i := 0) HF.out.1 rfl
    have hc1 := cell_of_rowp (i := 1) HF.out.1 rfl
    have hce := cell_of_rowp (i := 0) (v := .int .i64 ER) HF.out.2.1 rfl
    change Leaves _ _ _ _ _ _ (st2 wA (w.heap.size + 1) (w.heap.size + 1 + 1) (.slice none 0 0) (.slice none 0 0) (.int .i64 ER))
    have fin : PairE w (st2 wA (w.heap.size + 1) (w.heap.size + 1 + 1) (.slice none 0 0) (.slice none 0 0) (.int .i64 ER)) AN (.returned (.tuple #[.agg #[.slice none 0 0, .slice none 0 0], .int .i64 ER])) := by
      rw [HEE.out, if_pos HE0.out]
      exact ⟨none, 0, none, 0, rfl, Rd.nil _ _, Rd.nil _ _, HF.out.2.2⟩
    simp [Leaves, settle, results, Tryd.results13, go_sem, asAddr, hc0, hc1, hce]
    exact fin
end Go.Proofs.YtfibhmgjkooemaaDoor
