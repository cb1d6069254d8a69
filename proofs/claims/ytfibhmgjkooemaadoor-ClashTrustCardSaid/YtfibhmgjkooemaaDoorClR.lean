/- clash.Path. (printed by gen/clr.py) -/
import Derived.Test.YtfibhmgjkooemaaDoorClU
import Derived.Test.YtfibhmgjkooemaaDoorRegV
import Derived.Test.YtfibhmgjkooemaaDoorRegE
namespace Go.Proofs.YtfibhmgjkooemaaDoor
open Go.RowKit Sha Root Ones Path Clash

theorem infoSl : (Tryd.prog.info? 25).map (fun i => (i.zero, i.size, i.bytes)) = some (some (.slice none 0 0), 1, 24) := by kernel_rfl
theorem infoBoolS : (Tryd.prog.info? 4).map (fun i => (i.zero, i.size, i.bytes)) = some (some (.bool false), 1, 1) := by kernel_rfl
theorem grown_keptT {g : Nat} {w w' : World} (h : KeptT [g] w w') : w.grownBy w' (some g) := ⟨h.os, h.tape, h.output, h.size, fun k hk hne => h.block k hk (by simpa using hne)⟩
theorem s1_factsS {w : World} {p : Nat} {o a : Value} {T : TypeId} (hp : w.heap[p]? = some (.cells #[o] T (0, 0))) :
    (w.setCell ⟨p, 0, none⟩ a).heap[p]? = some (.cells #[a] T (0, 0)) ∧ w.grownBy (w.setCell ⟨p, 0, none⟩ a) (some p) := by
  have h1 := heap_setCell_same w p 0 _ _ a hp
  refine ⟨by rw [h1]; rfl, ⟨rfl, rfl, rfl, by simp [World.setCell], fun k _ hk => ?_⟩⟩
  have hkp : k ≠ p := fun e => hk (by rw [e])
  rw [heap_setCell_other _ _ _ _ hkp]
theorem bool_atS {w : World} {B : Nat} {v : Value} {wy : List Bool} {n : Nat} (_hn : wy.length = n) (h : w.ownsRow B 4 1 v n (bw wy)) (h0 : 0 < n) : ∃ g c, v = .slice (some ⟨g, 0, none⟩) n c ∧ ∀ i t, wy[i]? = some t → w.cell? ⟨g, i, none⟩ = some (.bool t) := by
  obtain ⟨g, c, hv, _, _, _, _⟩ := own_at h h0
  have hrd := own_rd h (by intro u hu; obtain ⟨t, _, rfl⟩ := List.mem_map.1 hu; rfl)
  obtain ⟨b, off, c2, hv2, _, hc⟩ := hrd.at h0
  rw [hv] at hv2
  obtain ⟨hb, _⟩ : (⟨g, 0, none⟩ : Addr) = ⟨b, off, none⟩ ∧ c = c2 := by simpa using hv2
  obtain ⟨rfl, rfl, _⟩ : g = b ∧ 0 = off ∧ True := by simpa using hb
  exact ⟨g, c, hv, fun i t ht => by have := hc i (.bool t) (by simp [bw, ht]); simpa using this⟩
/-- How Path ends where two texts are unlike. -/
def PanE (w : World) (PF : List UInt8 × List UInt8) (c : List PanicEntry) (wz : World) : Prop := ∃ a1 c1 a2 c2, c = fndP (.slice a1 PF.1.length c1) (.slice a2 PF.2.length c2) ∧ Rd wz 1 (.slice a1 PF.1.length c1) PF.1.length (bv PF.1) ∧ Rd wz 1 (.slice a2 PF.2.length c2) PF.2.length (bv PF.2) ∧
  wz.heap[w.heap.size]? = some (.cells #[.slice none 0 0, .slice none 0 0] 27 (0, 0)) ∧ wz.heap[w.heap.size + 1]? = some (.cells #[.int .i64 0] 28 (0, 0)) ∧ Below w.heap.size w wz
/-- What each operation hands on. -/
def cp6bF (_g13 gt : Nat) (hcm rl : List UInt8) : Nat → Value → World → Prop
  | 0, v, _ => v = .agg (bv hcm).toArray
  | 1, v, _ => v = .pointer (some ⟨gt, 0, none⟩)
  | 2, v, _ => v = .pointer (some ⟨gt, 0, none⟩)
  | 3, v, _ => v = .pointer (some ⟨gt, 0, none⟩)
  | 4, v, _ => v = .agg (bv rl).toArray
  | 5, v, _ => v = .bool true
  | 6, v, _ => v = .bool true
  | _, _, _ => True
/-- What each operation hands on. -/
def cp6cF (_g13 gt : Nat) (hcm rl : List UInt8) : Nat → Value → World → Prop
  | 0, v, _ => v = .agg (bv hcm).toArray
  | 1, v, _ => v = .pointer (some ⟨gt, 0, none⟩)
  | 2, v, _ => v = .pointer (some ⟨gt, 0, none⟩)
  | 3, v, _ => v = .pointer (some ⟨gt, 0, none⟩)
  | 4, v, _ => v = .agg (bv rl).toArray
  | 5, v, _ => v = .bool false
  | 6, v, _ => v = .bool false
  | _, _, _ => True
/-- What each operation hands on. -/
def cp23F (BT pb po L c jn _g13 : Nat) (hx ph : List UInt8) : Nat → Value → World → Prop
  | 0, v, _ => v = .agg (bv hx).toArray
  | 1, v, _ => v = .slice (some ⟨pb, po, none⟩) L c
  | 2, v, _ => v = .int .i64 jn
  | 3, v, _ => v = .pointer (some ⟨pb, po + jn * 32, none⟩)
  | 4, v, _ => v = .agg (bv ph).toArray
  | 5, v, w => RdB w BT v 65 (bv (1 :: (hx ++ ph)))
  | 6, v, w => RdB w BT v 65 (bv (1 :: (hx ++ ph)))
  | _, _, _ => True
/-- What each operation hands on. -/
def cp25F (BT pb po L c jn _g13 : Nat) (hx ph : List UInt8) : Nat → Value → World → Prop
  | 0, v, _ => v = .slice (some ⟨pb, po, none⟩) L c
  | 1, v, _ => v = .int .i64 jn
  | 2, v, _ => v = .pointer (some ⟨pb, po + jn * 32, none⟩)
  | 3, v, _ => v = .agg (bv ph).toArray
  | 4, v, _ => v = .agg (bv hx).toArray
  | 5, v, w => RdB w BT v 65 (bv (1 :: (ph ++ hx)))
  | 6, v, w => RdB w BT v 65 (bv (1 :: (ph ++ hx)))
  | _, _, _ => True
/-- What each operation hands on. -/
def cp28P (W : Int) (pb po L c jn _g13 : Nat) (hx ph hn : List UInt8) : Nat → Value → Prop
  | 0, v => v = .int .i64 W
  | 1, v => v = .slice (some ⟨pb, po, none⟩) L c
  | 2, v => v = .int .i64 jn
  | 3, v => v = .pointer (some ⟨pb, po + jn * 32, none⟩)
  | 4, v => v = .agg (bv ph).toArray
  | 5, v => v = .agg (bv hx).toArray
  | 6, v => v = .agg (bv hn).toArray
  | _, _ => True
def cp28O (_W : Int) (_pb _po _L _c _jn _g13 : Nat) (_hx _ph hn : List UInt8) : Nat → Obj
  | 7 => .cells (bv hn).toArray 35 (0, 0)
  | _ => default
/-- What each operation hands on. -/
def cp29P (W : Int) (pb po L c jn _g13 : Nat) (hx ph hn : List UInt8) : Nat → Value → Prop
  | 0, v => v = .int .i64 W
  | 1, v => v = .agg (bv hx).toArray
  | 2, v => v = .slice (some ⟨pb, po, none⟩) L c
  | 3, v => v = .int .i64 jn
  | 4, v => v = .pointer (some ⟨pb, po + jn * 32, none⟩)
  | 5, v => v = .agg (bv ph).toArray
  | 6, v => v = .agg (bv hn).toArray
  | _, _ => True
def cp29O (_W : Int) (_pb _po _L _c _jn _g13 : Nat) (_hx _ph hn : List UInt8) : Nat → Obj
  | 7 => .cells (bv hn).toArray 35 (0, 0)
  | _ => default
/-- What each operation hands on. -/
def cp35F (_W : Int) (gp qb qo tcap L jj n1 c1 n2 c2 : Nat) (t1 t2 : Option Addr) (X Y : List UInt8) : Nat → Value → World → Prop
  | 0, v, _ => v = .pointer (some ⟨gp, 0, none⟩)
  | 1, v, _ => v = .pointer (some ⟨gp, 0, none⟩)
  | 2, v, _ => v = .pointer (some ⟨gp, 32, none⟩)
  | 3, v, _ => v = .slice t1 n1 c1
  | 4, v, _ => v = .slice (some ⟨qb, qo, none⟩) (L + 1) tcap
  | 5, v, _ => v = .int .i64 (jj : Nat)
  | 6, v, _ => v = .int .i64 ((jj + 1 : Nat) : Int)
  | 7, v, _ => v = .pointer (some ⟨qb, qo + (jj + 1), none⟩)
  | 8, v, _ => v = .slice t2 n2 c2
  | 9, v, _ => v = .tuple #[] ∧ X = Y
  | _, _, _ => True
/-- What each operation hands on. -/
def cp39F (_W : Int) (gp qb qo tcap L n1 c1 n2 c2 : Nat) (t1 t2 : Option Addr) (X Y : List UInt8) : Nat → Value → World → Prop
  | 0, v, _ => v = .pointer (some ⟨gp, 0, none⟩)
  | 1, v, _ => v = .pointer (some ⟨gp, 0, none⟩)
  | 2, v, _ => v = .pointer (some ⟨gp, 32, none⟩)
  | 3, v, _ => v = .slice t1 n1 c1
  | 4, v, _ => v = .slice (some ⟨qb, qo, none⟩) (L + 1) tcap
  | 5, v, _ => v = .pointer (some ⟨qb, qo, none⟩)
  | 6, v, _ => v = .slice t2 n2 c2
  | 7, v, _ => v = .tuple #[] ∧ X = Y
  | _, _, _ => True

set_option maxHeartbeats 16000000 in
set_option maxRecDepth 100000 in
theorem cPath_any (W : Int) (l : List (List UInt8)) (i : Nat) (x : List UInt8) (ps : List (List UInt8)) (v vx : Value) (a : Option Addr) (c : Nat) (w : World) (hW : -9223372036854775808 ≤ W ∧ W ≤ 9223372036854775807) (hl : l.length ≤ 1000000) (hts : ∀ t ∈ l, t.length ≤ 140737488351232) (hi64 : i < 18446744073709551616) (hxl : x.length ≤ 140737488351232) (h32 : ∀ p ∈ ps, p.length = 32) (hpl : ps.length ≤ 140737488355328)
    (hv : Txw w v l) (hvx : Rd w 1 vx x.length (bv x)) (hr : Rd w 32 (.slice a ps.length c) ps.length (ps.flatMap bv)) (hT : Tabs w) :
    Calls Tryd.prog 15 #[.int .i64 W, v, .int .u64 i, vx, .slice a ps.length c] w fun e w' => PairE w w' (ansP W l i x ps) e := by
  have hmf : ∀ (fn : Fn) (first cap : Array Value) (w : World), (Instr.makeFunc fn first cap).run Tryd.prog w = .ok (.func fn first cap) w := fun _ _ _ _ => rfl
  have hz := (zero_of_info info32).1
  have HZ32 := Lib.hid (show (zs 32).length = 32 by simp [zs])
  obtain ⟨va, vc, rfl⟩ := hv.form
  obtain ⟨xa, xc, rfl⟩ := hvx.form
  obtain ⟨n, hn⟩ : ∃ n, n = l.length := ⟨_, rfl⟩
  obtain ⟨L, hL⟩ : ∃ n, n = ps.length := ⟨_, rfl⟩
  obtain ⟨xn, hxn⟩ : ∃ n, n = x.length := ⟨_, rfl⟩
  obtain ⟨h, hh⟩ : ∃ q, q = leafH W x := ⟨_, rfl⟩
  have hh32 : h.length = 32 := by rw [hh]; exact leafH_length W x
  obtain ⟨w1, hw1⟩ : ∃ x : World, x = (w.alloc (.cells #[.slice none 0 0, .slice none 0 0] 27)).alloc (.cells #[.int .i64 0] 28) := ⟨_, rfl⟩
  have hB : Below w.heap.size w w1 := by rw [hw1]; exact ((Below.refl _ _).alloc (Nat.le_refl _) _).alloc (by simp) _
  have r1 : w1.heap[w.heap.size]? = some (.cells #[.slice none 0 0, .slice none 0 0] 27 (0, 0)) := by
    rw [hw1, heap_alloc_old _ _ (by simp)]; exact heap_alloc_new _ _
  have r2 : w1.heap[w.heap.size + 1]? = some (.cells #[.int .i64 0] 28 (0, 0)) := by
    rw [hw1]
    have := heap_alloc_new (w.alloc (.cells #[.slice none 0 0, .slice none 0 0] 27)) (.cells #[.int .i64 0] 28)
    simpa using this
  have HW1 := Lib.hid hw1
  have R1 := Lib.hid (And.intro r1 (And.intro r2 hB))
  have HLE2 := Lib.hid (fun wx (hb : Below w.heap.size w wx) => (show Calls Tryd.prog 22 #[.int .i64 W, .slice xa xn xc] wx fun e w' => e = .returned (.agg (bv h).toArray) ∧ Below wx.heap.size wx w' by
    rw [hxn, hh]; exact Leaf_any W x (.slice xa x.length xc) wx hW (by omega) (hvx.keep hb) (hT.keepB hb)))
  have HCL := Lib.hid (fun wx (hb : Below w1.heap.size w1 wx) => Climb_any W h i n ps a c wx hW hh32 hi64 (by omega) h32 hpl ((hr.keep hB).keep hb) ((hT.keepB hB).keepB hb))
  have HGR := Lib.hid (fun B wx (hBx : B ≤ wx.heap.size) (hb : Below w.heap.size w wx) => grownB_any W hW l.length B l (.slice va l.length vc) wx (Nat.le_refl _) hBx (by omega) hts (hv.keep hb) (hT.keepB hb))
  have HARG := Lib.hid (And.intro hv (And.intro hr (And.intro hT (And.intro hts (And.intro h32 (And.intro hW (And.intro hn hL)))))))
  have HXL := Lib.hid (show x.length ≤ 140737488355000 ∧ Rd w 1 (.slice xa x.length xc) x.length (bv x) from ⟨by omega, hvx⟩)
  have HXN := Lib.hid hxn
  have HHL := Lib.hid hh32
  have HLF := Lib.hid (show lf (hw W) x = h by rw [hh]; rfl)
  rw [← hn] at HGR hl ⊢
  rw [← hL] at HCL hpl ⊢
  rw [← hxn]
  obtain ⟨ER, hER⟩ : ∃ q, q = climbE i n L := ⟨_, rfl⟩
  obtain ⟨hcm, hhq⟩ : ∃ q, q = climbH W h i n ps := ⟨_, rfl⟩
  have hcm32 : hcm.length = 32 := by rw [hhq]; exact climbH_32 W h i n ps hh32
  rw [← hER, ← hhq] at HCL
  obtain ⟨rl, hrl⟩ : ∃ q, q = rt (hw W) l := ⟨_, rfl⟩
  obtain ⟨PF, hPF⟩ : ∃ q, q = pathF (hw W) n l i ps x := ⟨_, rfl⟩
  obtain ⟨y, hy⟩ : ∃ q, q = l[i]?.getD [] := ⟨_, rfl⟩
  obtain ⟨AN, hAN⟩ : ∃ q, q = ansP W l i x ps := ⟨_, rfl⟩
  have hee : AN = (if ER ≠ 0 then (ER, [], []) else if hcm ≠ rl then (3, [], []) else if x = y then (8, [], []) else (0, PF.1, PF.2) : Int × List UInt8 × List UInt8) := by
    rw [hAN, ansP, ← hn, ← hL, ← hER, ← hh, ← hhq, ← hrl, ← hy, ← hPF]
  rw [← hAN]
  have HEE := Lib.hid hee
  have HLN := Lib.hid (And.intro hcm32 (show rl.length = 32 by rw [hrl]; exact rt32 W l))
  have HPF := Lib.hid hPF
  have HER := Lib.hid hER
  have HYY := Lib.hid hy
  have HRL := Lib.hid hrl
  have zc : IntKind.u64.wrap (n : Int) = (n : Int) := IntWalk.u64_in _ (by omega)
  have FIN := Lib.hid (fun (wz : World) (e0 E : Int) (h1 : wz.heap[w.heap.size]? = some (.cells #[.slice none 0 0, .slice none 0 0] 27 (0, 0))) (h2 : wz.heap[w.heap.size + 1]? = some (.cells #[.int .i64 e0] 28 (0, 0))) (h3 : Below w.heap.size w wz) =>
    (show (st2 wz w.heap.size (w.heap.size + 1) (.slice none 0 0) (.slice none 0 0) (.int .i64 E)).heap[w.heap.size]? = some (.cells #[.slice none 0 0, .slice none 0 0] 27 (0, 0)) ∧
      (st2 wz w.heap.size (w.heap.size + 1) (.slice none 0 0) (.slice none 0 0) (.int .i64 E)).heap[w.heap.size + 1]? = some (.cells #[.int .i64 E] 28 (0, 0)) ∧ Below w.heap.size w (st2 wz w.heap.size (w.heap.size + 1) (.slice none 0 0) (.slice none 0 0) (.int .i64 E)) from by
        have hst := st2_facts (a := .slice none 0 0) (b := .slice none 0 0) (e := .int .i64 E) h1 h2 (by omega)
        exact ⟨hst.1, hst.2.1, h3.trans (hst.2.2.2 _ (Nat.le_refl _) (by omega))⟩))
  clear hv hvx hr hT hts h32 hW hcm32 hhq hER hrl hPF hy hAN hee hw1 hB r1 r2 hpl hh32 hh hn hL hxn
  go_enter_defers Tryd.func15, Tryd.ntmps15
  go_upto_region 1 with fail
  rw [show (w.alloc (.cells #[.slice none 0 0, .slice none 0 0] 27)).alloc (.cells #[.int .i64 0] 28) = w1 from HW1.out.symm]
  go_wp2_with fail
  refine (HLE2.out _ R1.out.2.2).mono ?_
  rintro e w2 ⟨rfl, hb2⟩
  have HB2 := Lib.hid hb2
  clear hb2
  go_wp2_with fail
  refine (HCL.out _ HB2.out).mono ?_
  rintro e w3 ⟨rfl, hb3⟩
  have HB3 := Lib.hid (HB2.out.trans (hb3.mono HB2.out.size))
  have H7 := Lib.hid (heap_alloc_new w3 (.cells (bv (zs 32)).toArray 35))
  clear hb3
  have hr2 := (HB3.out.block _ (Array.getElem?_eq_some_iff.1 R1.out.2.1).1).trans R1.out.2.1
  have HR2 := Lib.hid hr2
  have hl3 : w.heap.size + 1 < w3.heap.size := (Array.getElem?_eq_some_iff.1 hr2).1
  clear hr2
  go_upto_region 3 with (with_reducible show wpList _ _ _ (⟨none, Op.store _ _ _, _, _, _, _⟩ :: _) _ _; refine wpList_store_whole rfl _ _ _ rfl w3.heap.size (bv hcm) rfl rfl (bv (zs 32)) _ H7.out (hInfo' _ HLN.out.1) (by rw [bv_length, bv_length, HLN.out.1, HZ32.out]) (bv_one _) ?_; intro w4 HG4 hg4; have hb4 : Below w3.heap.size w3 w4 := below_grow ((Below.refl _ _).alloc (Nat.le_refl _) _) hg4 (Nat.le_refl _) (by simp); have hq4 := (hb4.block _ (Array.getElem?_eq_some_iff.1 HR2.out).1).trans HR2.out; have hcq : w4.cell? ⟨w.heap.size + 1, 0, none⟩ = some (.int .i64 0) := cell_of_rowp hq4 rfl; have hzq : w4.frozen? ⟨w.heap.size + 1, 0, none⟩ = false := by simp [World.frozen?, hq4])
  obtain ⟨g13, hg13⟩ : ∃ g, g = w3.heap.size := ⟨_, rfl⟩
  have hr13 : w4.heap[g13]? = some (.cells (bv hcm).toArray 35 (0, 0)) := by rw [hg13]; exact HG4.out
  have hs := s1_factsS (a := .int .i64 ER) hq4
  have hg13l := (Array.getElem?_eq_some_iff.1 hr13).1
  have hb14 := HB3.out.trans (hb4.mono HB3.out.size)
  have RA' := And.intro ((hs.2.block _ (by omega) (by simp)).trans ((hb14.block _ (Array.getElem?_eq_some_iff.1 R1.out.1).1).trans R1.out.1)) (And.intro hs.1 (below_ofp (R1.out.2.2.trans (hb14.mono R1.out.2.2.size)) (show w.heap.size ≤ w.heap.size + 1 by omega) hs.2))
  have hr13' := (hs.2.block _ hg13l (by simp; omega)).trans hr13
  have HGB := Lib.hid (show w.heap.size + 1 < g13 by omega)
  rw [← hg13]
  obtain ⟨wA, hwA⟩ : ∃ q, q = w4.setCell ⟨w.heap.size + 1, 0, none⟩ (.int .i64 ER) := ⟨_, rfl⟩
  rw [← hwA] at RA' hr13' ⊢
  have RA := Lib.hid RA'
  have HRA := Lib.hid hr13'
  clear RA' hr13' hs hr13 hg13l hb14 hb4 hq4 hcq hzq hwA hg13 HG4 hg4 hl3
  have hcq : wA.cell? ⟨w.heap.size + 1, 0, none⟩ = some (.int .i64 ER) := cell_of_rowp RA.out.2.1 rfl
  by_cases hE0 : ER = 0
  · subst hE0
    obtain ⟨BA, hBA⟩ : ∃ q, q = wA.heap.size := ⟨_, rfl⟩
    have HGA := Lib.hid (show g13 < BA by rw [hBA]; exact (Array.getElem?_eq_some_iff.1 HRA.out).1)
    have HGRA := Lib.hid (HGR.out BA wA (by omega) RA.out.2.2)
    clear hBA
    go_wp2_with fail
    refine HGRA.out.mono ?_
    rintro e w6 ⟨pt, rfl, htr, hb6⟩
    obtain ⟨hin, hLs⟩ := climbE_zero i n L HER.out.symm
    have HMN := Lib.hid hLs
    clear hLs
    have hlpos : 0 < l.length := by have := HARG.out.2.2.2.2.2.2.1; omega
    obtain ⟨gt, ta0, tc0, plp, prp, rfl, hgt, _, _, _⟩ := htr.inv hlpos
    have HTR := Lib.hid htr
    have R6 := Lib.hid (And.intro ((hb6.block _ (Array.getElem?_eq_some_iff.1 RA.out.1).1).trans RA.out.1) (And.intro ((hb6.block _ (Array.getElem?_eq_some_iff.1 RA.out.2.1).1).trans RA.out.2.1) (RA.out.2.2.trans (hb6.mono RA.out.2.2.size))))
    have hr13 := (hb6.block _ (Array.getElem?_eq_some_iff.1 HRA.out).1).trans HRA.out
    have HR13 := Lib.hid (fun wx (hb : Below w6.heap.size w6 wx) => (hb.block _ (Array.getElem?_eq_some_iff.1 hr13).1).trans hr13)
    have HRT := Lib.hid (fun wx (hb : Below w6.heap.size w6 wx) => (show wx.rangeAt gt 0 (bv rl) by rw [HRL.out]; exact trow_rng W ((hb.block _ (Array.getElem?_eq_some_iff.1 hgt).1).trans hgt)))
    obtain ⟨tb, tf, tc, hvs, hvc, hvat⟩ := HARG.out.1.at hlpos
    simp only [Value.slice.injEq] at hvs
    obtain ⟨rfl, -, htc⟩ := hvs
    have htc2 := htc.symm
    subst htc2
    have HYS := Lib.hid (show l[i]? = some y by rw [HYY.out, List.getElem?_eq_getElem (by have := HARG.out.2.2.2.2.2.2.1; omega)]; rfl)
    obtain ⟨ya, yc, hcy, hry⟩ := hvat i y HYS.out
    obtain ⟨yn, hyn⟩ : ∃ q, q = y.length := ⟨_, rfl⟩
    rw [← hyn] at hcy
    have HC0 := Lib.hid (fun wx (hb : Below w.heap.size w wx) => (hb.cell (p := ⟨tb, tf + i, none⟩) (World.block_lt_of_cell? w _ hcy)).trans hcy)
    have HXY0 := Lib.hid (show Rd w 1 (.slice xa xn xc) x.length (bv x) ∧ Rd w 1 (.slice ya yn yc) y.length (bv y) by rw [HXN.out, hyn]; exact ⟨HXL.out.2, hry⟩)
    obtain ⟨WD, hWD⟩ : ∃ q, q = wdF n i n := ⟨_, rfl⟩
    obtain ⟨WY, hWY⟩ : ∃ q, q = WD.reverse := ⟨_, rfl⟩
    have hwl : WD.length = L := by rw [hWD, wd_length n i n (Nat.le_refl _) (by omega) hin, ← HMN.out]
    have HWD := Lib.hid hWD
    have HWYE := Lib.hid hWY
    have HWL := Lib.hid hwl
    have HWL2 := Lib.hid (show WY.length = L by rw [hWY, List.length_reverse, hwl])
    have HL64 := Lib.hid (show L ≤ 64 by rw [HMN.out]; exact sz_le _ _ _)
    have hwy : True := trivial
    clear hWD hWY hwl htr hgt hlpos hb6 hvc hvat hcy hry hyn hr13 hcq
    by_cases hqb : hcm = rl
    · have HQB := Lib.hid (show (hcm == rl) = true from beq_iff_eq.2 hqb)
      have HQB2 := Lib.hid hqb
      clear hqb
      go_upto_region 6 with fail
      refine wp_region_steps [some 47, some 48, some 49, some 50, some 51, some 52, some 46] [] (cp6cF g13 gt hcm rl) (fun _ wx wy => Below wx.heap.size wx wy) (fun wx => Below w6.heap.size w6 wx) (by kernel_rfl) (by kernel_rfl) rfl (by kernel_rfl) (Below.refl _ _).drew (fun _ wx => Below.refl _ _) (fun _ wx wy h k => h.trans (k.mono h.size)) ?hF ?hstep ?hend
      case hF =>
        exact ⟨fun _ _ _ _ _ _ h => h, ⟨fun _ _ _ _ _ _ h => h, ⟨fun _ _ _ _ _ _ h => h, ⟨fun _ _ _ _ _ _ h => h, ⟨fun _ _ _ _ _ _ h => h, ⟨fun _ _ _ _ _ _ h => h, ⟨fun _ _ _ _ _ _ h => h, trivial⟩⟩⟩⟩⟩⟩⟩
      case hstep =>
        refine ⟨fun r wx hG hs hq hf => ?_, ?_⟩
        · have e13 : r 13 = .pointer (some ⟨g13, 0, none⟩) := hs 13 rfl
          refine (if_pos rfl).symm ▸ ?_
          clear hs hq hf
          unfold gives
          refine gives_load_row 35 _ rfl g13 e13 35 _ (0, 0) _ (HR13.out wx hG) Tryd.underlying35 rfl (hInfo _ HLN.out.1) ?_
          exact ⟨Below.refl _ _, rfl⟩
        refine ⟨fun r wx hG hs hq hf => ?_, ?_⟩
        · have e14 : r 14 = .pointer (some ⟨gt, 0, none⟩) := hs 14 rfl
          refine (if_pos rfl).symm ▸ ?_
          clear hs hq hf
          unfold gives
          go_simp
          exact ⟨Below.refl _ _, rfl⟩
        refine ⟨fun r wx hG hs hq hf => ?_, ?_⟩
        · have h1 : r 48 = .pointer (some ⟨gt, 0, none⟩) := hf.1
          refine (if_pos rfl).symm ▸ ?_
          clear hs hq hf
          unfold gives
          go_simp
          exact ⟨Below.refl _ _, rfl⟩
        refine ⟨fun r wx hG hs hq hf => ?_, ?_⟩
        · have h2 : r 49 = .pointer (some ⟨gt, 0, none⟩) := hf.1
          refine (if_pos rfl).symm ▸ ?_
          clear hs hq hf
          unfold gives
          go_simp
          exact ⟨Below.refl _ _, rfl⟩
        refine ⟨fun r wx hG hs hq hf => ?_, ?_⟩
        · have h3 : r 50 = .pointer (some ⟨gt, 0, none⟩) := hf.1
          refine (if_pos rfl).symm ▸ ?_
          clear hs hq hf
          unfold gives
          refine gives_load_mid 35 _ rfl gt 0 h3 (bv _) _ (HRT.out wx hG) Tryd.underlying35 rfl (hInfo' _ HLN.out.2) ?_
          exact ⟨Below.refl _ _, rfl⟩
        refine ⟨fun r wx hG hs hq hf => ?_, ?_⟩
        · have h0 : r 47 = .agg (bv hcm).toArray := hf.1
          have h4 : r 51 = .agg (bv rl).toArray := hf.2.1
          refine (if_pos rfl).symm ▸ ?_
          clear hs hq hf
          unfold gives
          have hqe := eqIn_hash hcm rl HLN.out.1 HLN.out.2 wx
          rw [HQB.out] at hqe
          have hgd := eq_guard
          go_simp
          exact ⟨Below.refl _ _, rfl⟩
        refine ⟨fun r wx hG hs hq hf => ?_, ?_⟩
        · have h5 : r 52 = .bool false := hf.1
          refine (if_pos rfl).symm ▸ ?_
          clear hs hq hf
          unfold gives
          go_simp
          exact ⟨Below.refl _ _, rfl⟩
        exact trivial
      case hend =>
        intro u wz hG hfin
        have z6 : u 6 = .bool false := hfin 6 (by decide) (by kernel_rfl)
        clear hfin
        simp only [fill]
        have R7 := Lib.hid (And.intro ((hG.block _ (Array.getElem?_eq_some_iff.1 R6.out.1).1).trans R6.out.1) (And.intro ((hG.block _ (Array.getElem?_eq_some_iff.1 R6.out.2.1).1).trans R6.out.2.1) (R6.out.2.2.trans (hG.mono R6.out.2.2.size))))
        have HG67 := Lib.hid hG
        clear hG
        obtain ⟨w7, hw7⟩ : ∃ q, q = wz := ⟨_, rfl⟩
        subst hw7
        go_simp
        have hcy7 := HC0.out w7 R7.out.2.2
        have i0 : (0 : Int) ≤ (i : Int) := by omega
        have i1 : (i : Int) < (n : Int) := by omega
        go_wp2_with fail
        refine (bytesEqual_any x y (.slice xa xn xc) (.slice ya yn yc) w7 (HXY0.out.1.keep R7.out.2.2) (HXY0.out.2.keep R7.out.2.2)).mono ?_
        rintro e wq ⟨rfl, hwq⟩
        subst hwq
        by_cases hqm : x = y
        · have hqx : (x == y) = true := beq_iff_eq.2 hqm
          have HQE := Lib.hid hqm
          clear hqm
          rw [hqx]
          have h0 : wq.cell? ⟨w.heap.size, 0, none⟩ = some (.slice none 0 0) := cell_of_rowp R7.out.1 rfl
          have h1 : wq.cell? ⟨w.heap.size, 1, none⟩ = some (.slice none 0 0) := cell_of_rowp R7.out.1 rfl
          have h2 : wq.cell? ⟨w.heap.size + 1, 0, none⟩ = some (.int .i64 0) := cell_of_rowp R7.out.2.1 rfl
          have z0 : wq.frozen? ⟨w.heap.size, 0, none⟩ = false := by simp [World.frozen?, R7.out.1]
          have z1 : wq.frozen? ⟨w.heap.size, 1, none⟩ = false := by simp [World.frozen?, R7.out.1]
          have z2 : wq.frozen? ⟨w.heap.size + 1, 0, none⟩ = false := by simp [World.frozen?, R7.out.2.1]
          have hwm : w.heap.size + 1 ≠ w.heap.size := by omega
          have HF := Lib.hid (FIN.out wq 0 8 R7.out.1 R7.out.2.1 R7.out.2.2)
          go_wp2_with fail
          have hc0 := cell_of_rowp (i := 0) HF.out.1 rfl
          have hc1 := cell_of_rowp (i := 1) HF.out.1 rfl
          have hce := cell_of_rowp (i := 0) (v := .int .i64 8) HF.out.2.1 rfl
          change Leaves _ _ _ _ _ _ (st2 wq w.heap.size (w.heap.size + 1) (.slice none 0 0) (.slice none 0 0) (.int .i64 8))
          have fin : PairE w (st2 wq w.heap.size (w.heap.size + 1) (.slice none 0 0) (.slice none 0 0) (.int .i64 8)) AN (.returned (.tuple #[.agg #[.slice none 0 0, .slice none 0 0], .int .i64 8])) := by
            rw [HEE.out, if_neg (by simp), if_neg (by rw [HQB2.out]; simp), if_pos HQE.out]
            exact ⟨none, 0, none, 0, rfl, Rd.nil _ _, Rd.nil _ _, HF.out.2.2⟩
          simp [Leaves, settle, results, Tryd.results15, go_sem, asAddr, hc0, hc1, hce]
          exact fin
        · have hqx : (x == y) = false := beq_eq_false_iff_ne.2 hqm
          have HQE := Lib.hid hqm
          clear hqm
          rw [hqx]
          have HAN := Lib.hid (show AN = (0, PF.1, PF.2) by rw [HEE.out, if_neg (by simp), if_neg (by rw [HQB2.out]; simp), if_neg HQE.out])
          go_wp2_with fail
          refine (leafTextB_any (g13 + 1) x (.slice xa xn xc) wq (Array.getElem?_eq_some_iff.1 (HR13.out wq HG67.out)).1 (by omega) (by rw [HXN.out]; exact HXL.out.2.keep R7.out.2.2)).mono ?_
          rintro e w8 ⟨v0, rfl, hv0, hb8⟩
          obtain ⟨lx, hlx⟩ : ∃ q, q = (0 :: x).length := ⟨_, rfl⟩
          rw [← hlx] at hv0
          obtain ⟨l0a, l0c, rfl⟩ := hv0.form
          obtain ⟨w9, hw9⟩ : ∃ q : World, q = w8.alloc (.cells #[.slice l0a lx l0c] 25) := ⟨_, rfl⟩
          have hb9 : Below w8.heap.size w8 w9 := by rw [hw9]; exact (Below.refl _ _).alloc (Nat.le_refl _) _
          have hrT : w9.heap[w8.heap.size]? = some (.cells #[.slice l0a lx l0c] 25 (0, 0)) := by rw [hw9]; exact heap_alloc_new _ _
          have hb79 := hb8.trans (hb9.mono hb8.size)
          have HW9 := Lib.hid hw9
          have HV0 := Lib.hid (And.intro (hv0.keep hb9) hlx)
          have HRT9 := Lib.hid hrT
          have HV8 := Lib.hid hb8.size
          have HVL := Lib.hid (hv0.1.lt (by rw [hlx]; simp))
          have HB79 := Lib.hid hb79
          have HLE9 := Lib.hid (HLE2.out w9 (R7.out.2.2.trans (hb79.mono R7.out.2.2.size)))
          have hgT : g13 < w8.heap.size := Nat.lt_of_lt_of_le (Array.getElem?_eq_some_iff.1 (HR13.out wq HG67.out)).1 hb8.size
          clear hw9 hb8 hb9 hrT hb79 hv0 hlx
          go_wp2_with fail
          rw [show w8.alloc (.cells #[.slice l0a lx l0c] 25) = w9 from HW9.out.symm]
          refine HLE9.out.mono ?_
          rintro e w10 ⟨rfl, hb10⟩
          have hb710 := HB79.out.trans (hb10.mono HB79.out.size)
          have HR10 := Lib.hid (HR13.out w10 (HG67.out.trans (hb710.mono HG67.out.size)))
          have HB10 := Lib.hid (And.intro hb10 hb710)
          clear hb10 hb710
          go_upto_region 11 with (with_reducible show wpList _ _ _ (⟨none, Op.store _ _ _, _, _, _, _⟩ :: _) _ _; refine wpList_store_whole rfl _ _ _ rfl g13 (bv h) rfl rfl (bv hcm) _ HR10.out (hInfo' _ HHL.out) (by rw [bv_length, bv_length, HHL.out, HLN.out.1]) (bv_one _) ?_; intro w11 HG11 hg11)
          obtain ⟨gT, hgTe⟩ : ∃ q, q = w8.heap.size := ⟨_, rfl⟩
          have hsm : ∀ k, k ≠ g13 → k < w10.heap.size → w11.heap[k]? = w10.heap[k]? := fun k hk hl => hg11.block k hl (by simp; exact hk)
          have hg13A : g13 < BA := HGA.out
          have R11 := Lib.hid (show w11.heap[w.heap.size]? = some (.cells #[.slice none 0 0, .slice none 0 0] 27 (0, 0)) ∧ w11.heap[w.heap.size + 1]? = some (.cells #[.int .i64 0] 28 (0, 0)) ∧ Below w.heap.size w w11 from by
            have q1 := (HB10.out.2.block _ (Array.getElem?_eq_some_iff.1 R7.out.1).1).trans R7.out.1
            have q2 := (HB10.out.2.block _ (Array.getElem?_eq_some_iff.1 R7.out.2.1).1).trans R7.out.2.1
            exact ⟨(hsm _ (by have := HGB.out; omega) (Array.getElem?_eq_some_iff.1 q1).1).trans q1, (hsm _ (by have := HGB.out; omega) (Array.getElem?_eq_some_iff.1 q2).1).trans q2, below_ofp (R7.out.2.2.trans (HB10.out.2.mono R7.out.2.2.size)) (by have := HGB.out; omega) hg11⟩)
          have HSM := Lib.hid hsm
          have HT7 := Lib.hid (HTR.out.keep HG67.out)
          have HGW := Lib.hid (show wq.heap.size ≤ gT by rw [hgTe]; exact HV8.out)
          have HV11 := Lib.hid ((HV0.out.1.keep HB10.out.1).from (fun k hk hl => hsm k (by omega) hl))
          have hrT10 := (HB10.out.1.block _ (Array.getElem?_eq_some_iff.1 HRT9.out).1).trans HRT9.out
          have hrT11 : w11.heap[gT]? = some (.cells #[.slice l0a lx l0c] 25 (0, 0)) := by
            rw [hgTe]; exact (hsm _ (by omega) (Array.getElem?_eq_some_iff.1 hrT10).1).trans hrT10
          have HOT := Lib.hid (show w11.ownsRow gT 25 1 (.slice (some ⟨gT, 0, none⟩) 1 1) 1 [.slice l0a lx l0c] from ⟨rfl, .inr ⟨gT, 1, _, rfl, Nat.le_refl _, hrT11, Nat.le_refl _, by decide, rfl, rfl⟩⟩)
          have HR11 := Lib.hid (show w11.heap[g13]? = some (.cells (bv h).toArray 35 (0, 0)) from HG11.out)
          have hgT2 : g13 < gT := by omega
          have hgT3 : gT < w11.heap.size := (Array.getElem?_eq_some_iff.1 hrT11).1
          have HGT := Lib.hid (show g13 < gT ∧ gT < w11.heap.size ∧ (∀ q, (Value.slice l0a lx l0c).ownBlock = some q → g13 < q ∧ q < gT) from ⟨hgT2, hgT3, fun q hq => ⟨HV0.out.1.2 q hq, by rw [hgTe]; exact HVL.out q hq⟩⟩)
          rw [← hgTe]
          clear hsm hrT10 hrT11 hgT hgTe HG11 hg11 hgT2 hgT3
          have HWY := Lib.hid hwy
          go_wp2_with fail
          go_loopw [16, 17, 18] (fun s16 s17 s18 wr => ∃ (f m' k' : Nat) (acc : List Bool) (pa : Option Addr) (pc : Nat), s16 = .slice pa acc.length pc ∧ s17 = .int .u64 m' ∧ s18 = .int .u64 k' ∧ k' < m' ∧ m' ≤ n ∧
            Hid (m' ≤ f ∧ wr.ownsRow w11.heap.size 4 1 (.slice pa acc.length pc) acc.length (bw acc) ∧ Below w11.heap.size w11 wr ∧ WD = acc ++ wdF f k' m')) (fun _ s17 _ _ => (intOf s17).toNat)
          case atStart => exact ⟨n, n, i, [], none, 0, rfl, rfl, rfl, hin, Nat.le_refl _, Lib.hid ⟨Nat.le_refl _, World.ownsRow_nil _ _ _ _, Below.refl _ _, by rw [HWD.out]; rfl⟩⟩
          case round =>
            obtain ⟨f, m', k', acc, pa, pc, rfl, rfl, rfl, hkm, hmn, HI⟩ := hrel
            have hal : acc.length ≤ L := by
              have := congrArg List.length HI.out.2.2.2
              rw [List.length_append, HWL.out] at this
              omega
            by_cases hm1 : m' = 1
            · have y1 : ¬ (1 : Int) < (m' : Int) := by omega
              have hacc : WD = acc := by rw [HI.out.2.2.2, hm1, wd_end _ _ _ (Nat.le_refl _)]; simp
              have hLa : acc.length = L := by rw [← hacc, HWL.out]
              have HAC := Lib.hid hacc
              rw [hLa]
              have hrev := RevBool_any acc (.slice pa acc.length pc) wr w11.heap.size (by have := HL64.out; omega) HI.out.2.1
              rw [hLa, ← hacc, ← HWYE.out] at hrev
              have HRV := Lib.hid hrev
              have HOA := Lib.hid (show wr.ownsRow w11.heap.size 4 1 (.slice pa L pc) L (bw acc) by have := HI.out.2.1; rwa [hLa] at this)
              clear hrev hacc hLa hal
              go_wp2_with fail
              refine HRV.out.mono ?_
              rintro e w20 ⟨rfl, how, hgw⟩
              have hb20 : Below w11.heap.size w11 w20 := HI.out.2.2.1.trans ⟨hgw.os, hgw.tape, hgw.output, hgw.size, fun q hq => hgw.block q (Nat.lt_of_lt_of_le hq HI.out.2.2.1.size) (fun e => by have := own_block HOA.out q e.symm; omega)⟩
              have HWO := Lib.hid how
              have HB20 := Lib.hid hb20
              clear how hgw hb20
              have hL0 : L2 W WY ps x h w20 w20 gT g13 (some ⟨gT, 0, none⟩) 1 0 [.slice l0a lx l0c] := by
                have hsz := HB20.out.size
                refine ⟨own_keep HOT.out HB20.out, fun k t ht => ?_, ?_, fun q hq => .inl (by simpa [Value.ownBlock, eq_comm] using hq), Nat.le_refl _, fun _ _ _ _ => rfl, rfl, rfl, rfl⟩
                · match k, ht with
                  | 0, ht =>
                    obtain rfl := Option.some.inj ht
                    refine ⟨_, rfl, by rw [← HV0.out.2]; exact HV11.out.1.keep HB20.out, fun q hq => ?_⟩
                    obtain ⟨k1, k2⟩ := HGT.out.2.2 q hq
                    refine ⟨k1, by have := HGT.out.2.1; omega, fun e => ?_⟩
                    have : gT = q := by simpa [Value.ownBlock] using e
                    omega
                  | k + 1, ht => simp [tolds] at ht
                · exact (HB20.out.block _ (Array.getElem?_eq_some_iff.1 HR11.out).1).trans HR11.out
              have HL0 := Lib.hid hL0
              clear hL0
              go_wp2_with fail
              go_loopw [15, 98] (fun s15 s98 wr => ∃ (jn : Nat) (ta : Option Addr) (tcap : Nat), s15 = .slice ta (jn + 1) tcap ∧ s98 = .int .i64 jn ∧ jn ≤ L ∧ Hid (∃ vs, L2 W WY ps x h w20 wr gT g13 ta tcap jn vs)) (fun _ s98 _ => L - (intOf s98).toNat)
              case atStart => exact ⟨0, _, _, rfl, rfl, Nat.zero_le _, Lib.hid ⟨_, HL0.out⟩⟩
              case round =>
                obtain ⟨jn, ta, tcap, rfl, rfl, hjL, HI2⟩ := hrel
                have HB0r := Lib.hid (show Below w.heap.size w wr from by
                  obtain ⟨vs, hj⟩ := HI2.out
                  have h1 := R11.out.2.2.trans (HB20.out.mono R11.out.2.2.size)
                  exact ⟨hj.os.trans h1.os, hj.tape.trans h1.tape, hj.output.trans h1.output, Nat.le_trans h1.size hj.size, fun k hk => (hj.keep k (by have := h1.size; omega) (by have := HGT.out.1; have := HGB.out; omega) (by have := HGB.out; omega)).trans (h1.block k hk)⟩)
                by_cases hjl : jn < L
                · have i0 : (0 : Int) ≤ (jn : Int) := by omega
                  have i1 : (jn : Int) < (L : Int) := by omega
                  obtain ⟨vs, hj⟩ := HI2.out
                  have HJ := Lib.hid hj
                  clear hj
                  obtain ⟨r, hr⟩ : ∃ r, WY[jn]? = some r := ⟨WY[jn]'(by rw [HWL2.out]; exact hjl), List.getElem?_eq_getElem _⟩
                  obtain ⟨ph, hph⟩ : ∃ p, ps[jn]? = some p := ⟨ps[jn]'(by rw [← HARG.out.2.2.2.2.2.2.2]; exact hjl), List.getElem?_eq_getElem _⟩
                  obtain ⟨wb, wcap, hwv, hwcell⟩ := bool_atS HWL2.out HWO.out (by omega)
                  have hwb := HWO.out.lt wb (by rw [hwv]; rfl)
                  simp only [Value.slice.injEq, true_and] at hwv
                  obtain ⟨rfl, rfl⟩ := hwv
                  have hcb : wr.cell? ⟨wb, jn, none⟩ = some (.bool r) := (World.cell?_of_block (HJ.out.keep wb hwb.2 (by have := HGT.out.2.1; omega) (by have := HGT.out.1; have := HGT.out.2.1; omega))).trans (hwcell jn r hr)
                  obtain ⟨pb, po, pc2, hpv, hpc, hpcell⟩ := HARG.out.2.1.atN (by rw [← HARG.out.2.2.2.2.2.2.2]; omega) (by omega)
                  simp only [Value.slice.injEq] at hpv
                  obtain ⟨rfl, -, hpc3⟩ := hpv
                  have hph32 := HARG.out.2.2.2.2.1 ph (List.mem_of_getElem? hph)
                  have HRGW := Lib.hid (range_at (w := w) HARG.out.2.2.2.2.1 hph hpcell)
                  obtain ⟨hx, hhx⟩ : ∃ q, q = clW (hw W) (WY.take jn) (ps.take jn) h := ⟨_, rfl⟩
                  have hx32 : hx.length = 32 := by rw [hhx]; exact clW_32 W _ _ _ HHL.out
                  have HRI := Lib.hid (fun wx (hb : Below wr.heap.size wr wx) => (show wx.heap[g13]? = some (.cells (bv hx).toArray 35 (0, 0)) by rw [hhx]; exact (hb.block _ (Array.getElem?_eq_some_iff.1 HJ.out.row).1).trans HJ.out.row))
                  have HRG := Lib.hid (fun wx (hb : Below wr.heap.size wr wx) => range_keepS HRGW.out (HB0r.out.trans (hb.mono HB0r.out.size)))
                  have HPR := Lib.hid (And.intro hph32 hx32)
                  have HRP := Lib.hid (And.intro hr (And.intro hph hhx))
                  obtain ⟨BT, hBT⟩ : ∃ q, q = wr.heap.size := ⟨_, rfl⟩
                  have HBT := Lib.hid (show BT ≤ wr.heap.size by omega)
                  have HBTE := Lib.hid hBT
                  have hL64 := HL64.out
                  clear hBT hph32 hx32 hhx hr hph hpcell hpc hwcell hpc3 hwb
                  cases r with
                  | false =>
                    go_upto_region 23 with fail
                    refine wp_region_steps [some 103, some 104, some 105, some 106, some 107, some 108, some 23] [] (cp23F BT pb po L c jn g13 hx ph) (fun _ wx wy => Below wx.heap.size wx wy) (fun wx => Below wr.heap.size wr wx) (by kernel_rfl) (by kernel_rfl) rfl (by kernel_rfl) (Below.refl _ _).drew (fun _ wx => Below.refl _ _) (fun _ wx wy h k => h.trans (k.mono h.size)) ?hF ?hstep ?hend
                    case hF =>
                      exact ⟨fun _ _ _ _ _ _ h => h, ⟨fun _ _ _ _ _ _ h => h, ⟨fun _ _ _ _ _ _ h => h, ⟨fun _ _ _ _ _ _ h => h, ⟨fun _ _ _ _ _ _ h => h, ⟨fun _ _ _ _ _ k h => RdB.keep h k, ⟨fun _ _ _ _ _ k h => RdB.keep h k, trivial⟩⟩⟩⟩⟩⟩⟩
                    case hstep =>
                      refine ⟨fun r wx hG hs hq hf => ?_, ?_⟩
                      · have e13 : r 13 = .pointer (some ⟨g13, 0, none⟩) := hs 13 rfl
                        refine (if_pos rfl).symm ▸ ?_
                        clear hs hq hf
                        unfold gives
                        refine gives_load_row 35 _ rfl g13 e13 35 _ (0, 0) _ (HRI.out wx hG) Tryd.underlying35 rfl (hInfo _ HPR.out.2) ?_
                        exact ⟨Below.refl _ _, rfl⟩
                      refine ⟨fun r wx hG hs hq hf => ?_, ?_⟩
                      · have e4 : r 4 = .slice (some ⟨pb, po, none⟩) L c := hs 4 rfl
                        refine (if_pos rfl).symm ▸ ?_
                        clear hs hq hf
                        unfold gives
                        go_simp
                        exact ⟨Below.refl _ _, rfl⟩
                      refine ⟨fun r wx hG hs hq hf => ?_, ?_⟩
                      · have e21 : r 21 = .int .i64 jn := hs 21 rfl
                        refine (if_pos rfl).symm ▸ ?_
                        clear hs hq hf
                        unfold gives
                        go_simp
                        exact ⟨Below.refl _ _, rfl⟩
                      refine ⟨fun r wx hG hs hq hf => ?_, ?_⟩
                      · have h1 : r 104 = .slice (some ⟨pb, po, none⟩) L c := hf.1
                        have h2 : r 105 = .int .i64 jn := hf.2.1
                        refine (if_pos rfl).symm ▸ ?_
                        clear hs hq hf
                        unfold gives
                        have z0 : (0 : Int) ≤ (jn : Int) := by omega
                        have z1 : (jn : Int) < (L : Int) := by omega
                        go_simp
                        exact ⟨Below.refl _ _, rfl⟩
                      refine ⟨fun r wx hG hs hq hf => ?_, ?_⟩
                      · have h3 : r 106 = .pointer (some ⟨pb, po + jn * 32, none⟩) := hf.1
                        refine (if_pos rfl).symm ▸ ?_
                        clear hs hq hf
                        unfold gives
                        refine gives_load_mid 35 _ rfl pb (po + jn * 32) h3 (bv ph) _ (HRG.out wx hG) Tryd.underlying35 rfl (hInfo' _ HPR.out.1) ?_
                        exact ⟨Below.refl _ _, rfl⟩
                      refine ⟨fun r wx hG hs hq hf => ?_, ?_⟩
                      · have h0 : r 103 = .agg (bv hx).toArray := hf.1
                        have h4 : r 107 = .agg (bv ph).toArray := hf.2.1
                        refine (if_pos rfl).symm ▸ ?_
                        clear hs hq hf
                        unfold gives
                        go_simp
                        refine (nodeTextB_any BT hx ph wx (Nat.le_trans HBT.out hG.size) HPR.out.2 HPR.out.1).mono ?_
                        rintro e wy ⟨v', rfl, hq1, hb1⟩
                        rw [show (1 :: (hx ++ ph)).length = 65 by simp [HPR.out.1, HPR.out.2]] at hq1
                        exact ⟨_, rfl, hb1, hq1⟩
                      refine ⟨fun r wx hG hs hq hf => ?_, ?_⟩
                      · have h5 : RdB wx BT (r 108) 65 (bv (1 :: (hx ++ ph))) := hf.1
                        refine (if_pos rfl).symm ▸ ?_
                        clear hs hq hf
                        unfold gives
                        go_simp
                        exact ⟨Below.refl _ _, h5⟩
                      exact trivial
                    case hend =>
                      intro u wz hG hfin
                      have z6 : RdB wz BT (u 6) 65 (bv (1 :: (hx ++ ph))) := hfin 6 (by decide) (by kernel_rfl)
                      clear hfin
                      simp only [fill]
                      have HU := Lib.hid (And.intro z6 (hG))
                      obtain ⟨ua, uc, huf⟩ := z6.form
                      rw [huf] at HU ⊢
                      clear z6 hG huf
                      obtain ⟨wa9, hwa9⟩ : ∃ q, q = wz := ⟨_, rfl⟩
                      subst hwa9
                      have HOA := Lib.hid (own_keep HJ.out.own HU.out.2)
                      go_simp
                      go_upto_region 29 with (at_builtin; refine wpList_app (o := ⟨some 119, _, _, _, _, _⟩) Tryd.underlying22 infoSl rfl (by decide) rfl _ _ rfl rfl rfl (own_keep HOA.out ((Below.refl _ _).alloc (Nat.le_refl _) _)) (Rd.one _ (.slice ua 65 uc) _ rfl) (by omega) (by omega) (by have := HGT.out.2.1; have := HB20.out.size; have := HJ.out.size; have := HU.out.2.size; simp; omega) ?_; intro v5 wd how5 hg5 _)
                      obtain ⟨ta5, tc5, rfl⟩ := own_form how5
                      have HG5 := Lib.hid (And.intro how5 hg5)
                      have hbd : Below w.heap.size w wd := by
                        have h1 := HB0r.out.trans (HU.out.2.mono HB0r.out.size)
                        exact (h1.alloc h1.size _).trans (hg5.below (by simp; have := h1.size; omega) (fun q hq => by have := HJ.out.own.lt q hq; have := HGT.out.1; have := HGB.out; omega))
                      have HBD := Lib.hid hbd
                      have HRD := Lib.hid (show wd.heap[g13]? = some (.cells (bv hx).toArray 35 (0, 0)) by
                        have h1 := HRI.out _ HU.out.2
                        have h2 := (heap_alloc_old wa9 (.cells #[.slice ua 65 uc] 25) (Array.getElem?_eq_some_iff.1 h1).1).trans h1
                        exact (hg5.grown.block _ (Array.getElem?_eq_some_iff.1 h2).1 (fun e => by have := HJ.out.own.lt g13 e.symm; have := HGT.out.1; omega)).trans h2)
                      obtain ⟨hn, hhn⟩ : ∃ q, q = nodeH W hx ph := ⟨_, rfl⟩
                      have HPN := Lib.hid (show hn.length = 32 by rw [hhn]; exact nodeH_length _ _ _)
                      have HND := Lib.hid (fun wx (hb : KeptT [g13] wd wx) => (show Calls Tryd.prog 45 #[.int .i64 W, .agg (bv hx).toArray, .agg (bv ph).toArray] wx fun e w' => e = .returned (.agg (bv hn).toArray) ∧ Below wx.heap.size wx w' by
                        rw [hhn]
                        exact Node_any W hx ph wx HPR.out.2 HPR.out.1 HARG.out.2.2.2.2.2.1 (HARG.out.2.2.1.keepB (HBD.out.trans (hb.below HBD.out.size (by have := HGB.out; simp; omega))))))
                      have HRGC := Lib.hid (fun wx (hb : KeptT [g13] wd wx) => range_keepS HRGW.out (HBD.out.trans (hb.below HBD.out.size (by have := HGB.out; simp; omega))))
                      have HHN := Lib.hid hhn
                      clear how5 hg5 hbd hhn
                      refine wp_region_desc [some 128, some 129, some 130, some 131, some 132, some 133, some 134, none] [] [(1, 0), (7, 0)] [(0, 0), (0, 0), (0, 0), (0, 0), (0, 0), (0, 0), (0, 0), (2, 0)] [] [7] [g13] [.cells (bv hx).toArray 35 (0, 0)] (cp29P W pb po L c jn g13 hx ph hn) (fun _ _ _ => True) (cp29O W pb po L c jn g13 hx ph hn) (by kernel_rfl) (by kernel_rfl) rfl (by kernel_rfl) (by kernel_rfl) (by kernel_rfl) rfl ⟨HRD.out, trivial⟩ (by simp; try omega) rfl (fun i hi => (no4 (by kernel_rfl) i hi).elim) ?hstep ?hend
                      case hstep =>
                        refine ⟨fun r wx hG hs hq hf => ?_, ?_⟩
                        · have e0 : r 0 = .int .i64 W := hs 0 rfl
                          clear hs hq hf
                          refine wanted_pos rfl ?_
                          unfold gives
                          go_simp
                          exact obC_q (Below.refl _ _) rfl
                        refine ⟨fun r wx hG hs hq hf => ?_, ?_⟩
                        · have e13 : r 13 = .pointer (some ⟨g13, 0, none⟩) := hs 13 rfl
                          clear hs hf
                          refine wanted_pos rfl ?_
                          unfold gives
                          refine gives_load_row 35 _ rfl g13 e13 35 _ (0, 0) _ (hq 0 rfl) Tryd.underlying35 rfl (hInfo _ HPR.out.2) ?_
                          exact obC_q (Below.refl _ _) rfl
                        refine ⟨fun r wx hG hs hq hf => ?_, ?_⟩
                        · have e4 : r 4 = .slice (some ⟨pb, po, none⟩) L c := hs 4 rfl
                          clear hs hq hf
                          refine wanted_pos rfl ?_
                          unfold gives
                          go_simp
                          exact obC_q (Below.refl _ _) rfl
                        refine ⟨fun r wx hG hs hq hf => ?_, ?_⟩
                        · have e21 : r 21 = .int .i64 jn := hs 21 rfl
                          clear hs hq hf
                          refine wanted_pos rfl ?_
                          unfold gives
                          go_simp
                          exact obC_q (Below.refl _ _) rfl
                        refine ⟨fun r wx hG hs hq hf => ?_, ?_⟩
                        · have h2 : r 130 = .slice (some ⟨pb, po, none⟩) L c := hf.1
                          have h3 : r 131 = .int .i64 jn := hf.2.1
                          clear hs hq hf
                          refine wanted_pos rfl ?_
                          unfold gives
                          have z0 : (0 : Int) ≤ (jn : Int) := by omega
                          have z1 : (jn : Int) < (L : Int) := by omega
                          go_simp
                          exact obC_q (Below.refl _ _) rfl
                        refine ⟨fun r wx hG hs hq hf => ?_, ?_⟩
                        · have h4 : r 132 = .pointer (some ⟨pb, po + jn * 32, none⟩) := hf.1
                          clear hs hq hf
                          refine wanted_pos rfl ?_
                          unfold gives
                          refine gives_load_mid 35 _ rfl pb (po + jn * 32) h4 (bv ph) _ (HRGC.out wx hG) Tryd.underlying35 rfl (hInfo' _ HPR.out.1) ?_
                          exact obC_q (Below.refl _ _) rfl
                        refine ⟨fun r wx hG hs hq hf => ?_, ?_⟩
                        · have h0 : r 128 = .int .i64 W := hf.1
                          have h1 : r 129 = .agg (bv hx).toArray := hf.2.1
                          have h5 : r 133 = .agg (bv ph).toArray := hf.2.2.1
                          clear hs hq hf
                          refine wanted_pos rfl ?_
                          unfold gives
                          go_simp
                          refine (HND.out wx hG).mono ?_
                          rintro e wy ⟨rfl, hb1⟩
                          exact ⟨_, rfl, obC_q hb1 rfl⟩
                        refine ⟨fun r wx hG hs hq hf => ?_, ?_⟩
                        · have e13 : r 13 = .pointer (some ⟨g13, 0, none⟩) := hs 13 rfl
                          have h6 : r 134 = .agg (bv hn).toArray := hf.1
                          clear hs hf
                          refine wanted_pos rfl ?_
                          unfold gives
                          refine gives_store_row 35 _ _ rfl g13 (bv hn) e13 h6 (bv hx) 35 (hq 0 rfl) (hInfo' _ HPN.out) (by rw [bv_length, bv_length, HPN.out, HPR.out.2]) (bv_one _) ?_
                          intro wy h1 h2
                          exact obC_st h1 h2
                        exact trivial
                      case hend =>
                        intro u wz hG hfin
                        have z7 : wz.heap[g13]? = some (.cells (bv hn).toArray 35 (0, 0)) := hfin 7 (by decide) (by kernel_rfl)
                        clear hfin
                        simp only [fill]
                        have HZ := Lib.hid (And.intro z7 (grown_keptT hG))
                        clear z7 hG
                        go_simp
                        have i3 : IntKind.i64.wrap ((jn : Int) + 1) = ((jn + 1 : Nat) : Int) := (IntWalk.i64_in _ (by omega)).trans (by omega)
                        go_wp2_with fail
                        go_roundw
                        case rel =>
                          refine ⟨jn + 1, ta5, tc5, rfl, by first | rfl | go_num, by omega, Lib.hid ⟨_, HJ.out.next HGT.out.1 (by have := HB20.out.size; have := HGT.out.2.1; omega) HRP.out.1 HRP.out.2.1 HU.out.2 (show 65 = (stp false (clW (hw W) (WY.take jn) (ps.take jn) h) ph).length from ?_) ?_ HG5.out.1 HG5.out.2 HZ.out.2 ?_⟩⟩
                          · rw [← HRP.out.2.2]; simp [stp, HPR.out.1, HPR.out.2]
                          · rw [← HRP.out.2.2, ← HBTE.out]; exact HU.out.1
                          · rw [← HRP.out.2.2]
                            have h1 := HZ.out.1
                            rw [HHN.out] at h1
                            exact h1
                        case measure => simp [intOf]; omega
                  | true =>
                    go_upto_region 23 with fail
                    refine wp_region_steps [some 103, some 104, some 105, some 106, some 107, some 108, some 23] [] (cp23F BT pb po L c jn g13 hx ph) (fun _ wx wy => Below wx.heap.size wx wy) (fun wx => Below wr.heap.size wr wx) (by kernel_rfl) (by kernel_rfl) rfl (by kernel_rfl) (Below.refl _ _).drew (fun _ wx => Below.refl _ _) (fun _ wx wy h k => h.trans (k.mono h.size)) ?hF ?hstep ?hend
                    case hF =>
                      exact ⟨fun _ _ _ _ _ _ h => h, ⟨fun _ _ _ _ _ _ h => h, ⟨fun _ _ _ _ _ _ h => h, ⟨fun _ _ _ _ _ _ h => h, ⟨fun _ _ _ _ _ _ h => h, ⟨fun _ _ _ _ _ k h => RdB.keep h k, ⟨fun _ _ _ _ _ k h => RdB.keep h k, trivial⟩⟩⟩⟩⟩⟩⟩
                    case hstep =>
                      refine ⟨fun r wx hG hs hq hf => ?_, ?_⟩
                      · have e13 : r 13 = .pointer (some ⟨g13, 0, none⟩) := hs 13 rfl
                        refine (if_pos rfl).symm ▸ ?_
                        clear hs hq hf
                        unfold gives
                        refine gives_load_row 35 _ rfl g13 e13 35 _ (0, 0) _ (HRI.out wx hG) Tryd.underlying35 rfl (hInfo _ HPR.out.2) ?_
                        exact ⟨Below.refl _ _, rfl⟩
                      refine ⟨fun r wx hG hs hq hf => ?_, ?_⟩
                      · have e4 : r 4 = .slice (some ⟨pb, po, none⟩) L c := hs 4 rfl
                        refine (if_pos rfl).symm ▸ ?_
                        clear hs hq hf
                        unfold gives
                        go_simp
                        exact ⟨Below.refl _ _, rfl⟩
                      refine ⟨fun r wx hG hs hq hf => ?_, ?_⟩
                      · have e21 : r 21 = .int .i64 jn := hs 21 rfl
                        refine (if_pos rfl).symm ▸ ?_
                        clear hs hq hf
                        unfold gives
                        go_simp
                        exact ⟨Below.refl _ _, rfl⟩
                      refine ⟨fun r wx hG hs hq hf => ?_, ?_⟩
                      · have h1 : r 104 = .slice (some ⟨pb, po, none⟩) L c := hf.1
                        have h2 : r 105 = .int .i64 jn := hf.2.1
                        refine (if_pos rfl).symm ▸ ?_
                        clear hs hq hf
                        unfold gives
                        have z0 : (0 : Int) ≤ (jn : Int) := by omega
                        have z1 : (jn : Int) < (L : Int) := by omega
                        go_simp
                        exact ⟨Below.refl _ _, rfl⟩
                      refine ⟨fun r wx hG hs hq hf => ?_, ?_⟩
                      · have h3 : r 106 = .pointer (some ⟨pb, po + jn * 32, none⟩) := hf.1
                        refine (if_pos rfl).symm ▸ ?_
                        clear hs hq hf
                        unfold gives
                        refine gives_load_mid 35 _ rfl pb (po + jn * 32) h3 (bv ph) _ (HRG.out wx hG) Tryd.underlying35 rfl (hInfo' _ HPR.out.1) ?_
                        exact ⟨Below.refl _ _, rfl⟩
                      refine ⟨fun r wx hG hs hq hf => ?_, ?_⟩
                      · have h0 : r 103 = .agg (bv hx).toArray := hf.1
                        have h4 : r 107 = .agg (bv ph).toArray := hf.2.1
                        refine (if_pos rfl).symm ▸ ?_
                        clear hs hq hf
                        unfold gives
                        go_simp
                        refine (nodeTextB_any BT hx ph wx (Nat.le_trans HBT.out hG.size) HPR.out.2 HPR.out.1).mono ?_
                        rintro e wy ⟨v', rfl, hq1, hb1⟩
                        rw [show (1 :: (hx ++ ph)).length = 65 by simp [HPR.out.1, HPR.out.2]] at hq1
                        exact ⟨_, rfl, hb1, hq1⟩
                      refine ⟨fun r wx hG hs hq hf => ?_, ?_⟩
                      · have h5 : RdB wx BT (r 108) 65 (bv (1 :: (hx ++ ph))) := hf.1
                        refine (if_pos rfl).symm ▸ ?_
                        clear hs hq hf
                        unfold gives
                        go_simp
                        exact ⟨Below.refl _ _, h5⟩
                      exact trivial
                    case hend =>
                      intro u wz hG hfin
                      have z6 : RdB wz BT (u 6) 65 (bv (1 :: (hx ++ ph))) := hfin 6 (by decide) (by kernel_rfl)
                      clear hfin
                      simp only [fill]
                      have HG23 := Lib.hid hG
                      have HRI0 := HRI
                      have HRG0 := HRG
                      clear z6 hG HRI HRG
                      obtain ⟨wa, hwa⟩ : ∃ q, q = wz := ⟨_, rfl⟩
                      subst hwa
                      have HRI := Lib.hid (fun wx (hb : Below wa.heap.size wa wx) => HRI0.out wx (HG23.out.trans (hb.mono HG23.out.size)))
                      have HRG := Lib.hid (fun wx (hb : Below wa.heap.size wa wx) => HRG0.out wx (HG23.out.trans (hb.mono HG23.out.size)))
                      have HBT := Lib.hid (Nat.le_trans HBT.out HG23.out.size)
                      go_simp
                      go_upto_region 25 with fail
                      refine wp_region_steps [some 110, some 111, some 112, some 113, some 114, some 115, some 23] [] (cp25F BT pb po L c jn g13 hx ph) (fun _ wx wy => Below wx.heap.size wx wy) (fun wx => Below wa.heap.size wa wx) (by kernel_rfl) (by kernel_rfl) rfl (by kernel_rfl) (Below.refl _ _).drew (fun _ wx => Below.refl _ _) (fun _ wx wy h k => h.trans (k.mono h.size)) ?hF ?hstep ?hend
                      case hF =>
                        exact ⟨fun _ _ _ _ _ _ h => h, ⟨fun _ _ _ _ _ _ h => h, ⟨fun _ _ _ _ _ _ h => h, ⟨fun _ _ _ _ _ _ h => h, ⟨fun _ _ _ _ _ _ h => h, ⟨fun _ _ _ _ _ k h => RdB.keep h k, ⟨fun _ _ _ _ _ k h => RdB.keep h k, trivial⟩⟩⟩⟩⟩⟩⟩
                      case hstep =>
                        refine ⟨fun r wx hG hs hq hf => ?_, ?_⟩
                        · have e4 : r 4 = .slice (some ⟨pb, po, none⟩) L c := hs 4 rfl
                          refine (if_pos rfl).symm ▸ ?_
                          clear hs hq hf
                          unfold gives
                          go_simp
                          exact ⟨Below.refl _ _, rfl⟩
                        refine ⟨fun r wx hG hs hq hf => ?_, ?_⟩
                        · have e21 : r 21 = .int .i64 jn := hs 21 rfl
                          refine (if_pos rfl).symm ▸ ?_
                          clear hs hq hf
                          unfold gives
                          go_simp
                          exact ⟨Below.refl _ _, rfl⟩
                        refine ⟨fun r wx hG hs hq hf => ?_, ?_⟩
                        · have h0 : r 110 = .slice (some ⟨pb, po, none⟩) L c := hf.1
                          have h1 : r 111 = .int .i64 jn := hf.2.1
                          refine (if_pos rfl).symm ▸ ?_
                          clear hs hq hf
                          unfold gives
                          have z0 : (0 : Int) ≤ (jn : Int) := by omega
                          have z1 : (jn : Int) < (L : Int) := by omega
                          go_simp
                          exact ⟨Below.refl _ _, rfl⟩
                        refine ⟨fun r wx hG hs hq hf => ?_, ?_⟩
                        · have h2 : r 112 = .pointer (some ⟨pb, po + jn * 32, none⟩) := hf.1
                          refine (if_pos rfl).symm ▸ ?_
                          clear hs hq hf
                          unfold gives
                          refine gives_load_mid 35 _ rfl pb (po + jn * 32) h2 (bv ph) _ (HRG.out wx hG) Tryd.underlying35 rfl (hInfo' _ HPR.out.1) ?_
                          exact ⟨Below.refl _ _, rfl⟩
                        refine ⟨fun r wx hG hs hq hf => ?_, ?_⟩
                        · have e13 : r 13 = .pointer (some ⟨g13, 0, none⟩) := hs 13 rfl
                          refine (if_pos rfl).symm ▸ ?_
                          clear hs hq hf
                          unfold gives
                          refine gives_load_row 35 _ rfl g13 e13 35 _ (0, 0) _ (HRI.out wx hG) Tryd.underlying35 rfl (hInfo _ HPR.out.2) ?_
                          exact ⟨Below.refl _ _, rfl⟩
                        refine ⟨fun r wx hG hs hq hf => ?_, ?_⟩
                        · have h3 : r 113 = .agg (bv ph).toArray := hf.1
                          have h4 : r 114 = .agg (bv hx).toArray := hf.2.1
                          refine (if_pos rfl).symm ▸ ?_
                          clear hs hq hf
                          unfold gives
                          go_simp
                          refine (nodeTextB_any BT ph hx wx (Nat.le_trans HBT.out hG.size) HPR.out.1 HPR.out.2).mono ?_
                          rintro e wy ⟨v', rfl, hq1, hb1⟩
                          rw [show (1 :: (ph ++ hx)).length = 65 by simp [HPR.out.1, HPR.out.2]] at hq1
                          exact ⟨_, rfl, hb1, hq1⟩
                        refine ⟨fun r wx hG hs hq hf => ?_, ?_⟩
                        · have h5 : RdB wx BT (r 115) 65 (bv (1 :: (ph ++ hx))) := hf.1
                          refine (if_pos rfl).symm ▸ ?_
                          clear hs hq hf
                          unfold gives
                          go_simp
                          exact ⟨Below.refl _ _, h5⟩
                        exact trivial
                      case hend =>
                        intro u wz hG hfin
                        have z6 : RdB wz BT (u 6) 65 (bv (1 :: (ph ++ hx))) := hfin 6 (by decide) (by kernel_rfl)
                        clear hfin
                        simp only [fill]
                        have HU := Lib.hid (And.intro z6 (HG23.out.trans (hG.mono HG23.out.size)))
                        obtain ⟨ua, uc, huf⟩ := z6.form
                        rw [huf] at HU ⊢
                        clear z6 hG huf
                        obtain ⟨wa9, hwa9⟩ : ∃ q, q = wz := ⟨_, rfl⟩
                        subst hwa9
                        have HOA := Lib.hid (own_keep HJ.out.own HU.out.2)
                        go_simp
                        go_upto_region 28 with (at_builtin; refine wpList_app (o := ⟨some 119, _, _, _, _, _⟩) Tryd.underlying22 infoSl rfl (by decide) rfl _ _ rfl rfl rfl (own_keep HOA.out ((Below.refl _ _).alloc (Nat.le_refl _) _)) (Rd.one _ (.slice ua 65 uc) _ rfl) (by omega) (by omega) (by have := HGT.out.2.1; have := HB20.out.size; have := HJ.out.size; have := HU.out.2.size; simp; omega) ?_; intro v5 wd how5 hg5 _)
                        obtain ⟨ta5, tc5, rfl⟩ := own_form how5
                        have HG5 := Lib.hid (And.intro how5 hg5)
                        have hbd : Below w.heap.size w wd := by
                          have h1 := HB0r.out.trans (HU.out.2.mono HB0r.out.size)
                          exact (h1.alloc h1.size _).trans (hg5.below (by simp; have := h1.size; omega) (fun q hq => by have := HJ.out.own.lt q hq; have := HGT.out.1; have := HGB.out; omega))
                        have HBD := Lib.hid hbd
                        have HRD := Lib.hid (show wd.heap[g13]? = some (.cells (bv hx).toArray 35 (0, 0)) by
                          have h1 := HRI0.out _ HU.out.2
                          have h2 := (heap_alloc_old wa9 (.cells #[.slice ua 65 uc] 25) (Array.getElem?_eq_some_iff.1 h1).1).trans h1
                          exact (hg5.grown.block _ (Array.getElem?_eq_some_iff.1 h2).1 (fun e => by have := HJ.out.own.lt g13 e.symm; have := HGT.out.1; omega)).trans h2)
                        obtain ⟨hn, hhn⟩ : ∃ q, q = nodeH W ph hx := ⟨_, rfl⟩
                        have HPN := Lib.hid (show hn.length = 32 by rw [hhn]; exact nodeH_length _ _ _)
                        have HND := Lib.hid (fun wx (hb : KeptT [g13] wd wx) => (show Calls Tryd.prog 45 #[.int .i64 W, .agg (bv ph).toArray, .agg (bv hx).toArray] wx fun e w' => e = .returned (.agg (bv hn).toArray) ∧ Below wx.heap.size wx w' by
                          rw [hhn]
                          exact Node_any W ph hx wx HPR.out.1 HPR.out.2 HARG.out.2.2.2.2.2.1 (HARG.out.2.2.1.keepB (HBD.out.trans (hb.below HBD.out.size (by have := HGB.out; simp; omega))))))
                        have HRGC := Lib.hid (fun wx (hb : KeptT [g13] wd wx) => range_keepS HRGW.out (HBD.out.trans (hb.below HBD.out.size (by have := HGB.out; simp; omega))))
                        have HHN := Lib.hid hhn
                        clear how5 hg5 hbd hhn
                        refine wp_region_desc [some 121, some 122, some 123, some 124, some 125, some 126, some 127, none] [] [(5, 0), (7, 0)] [(0, 0), (0, 0), (0, 0), (0, 0), (0, 0), (0, 0), (0, 0), (2, 0)] [] [7] [g13] [.cells (bv hx).toArray 35 (0, 0)] (cp28P W pb po L c jn g13 hx ph hn) (fun _ _ _ => True) (cp28O W pb po L c jn g13 hx ph hn) (by kernel_rfl) (by kernel_rfl) rfl (by kernel_rfl) (by kernel_rfl) (by kernel_rfl) rfl ⟨HRD.out, trivial⟩ (by simp; try omega) rfl (fun i hi => (no4 (by kernel_rfl) i hi).elim) ?hstep ?hend
                        case hstep =>
                          refine ⟨fun r wx hG hs hq hf => ?_, ?_⟩
                          · have e0 : r 0 = .int .i64 W := hs 0 rfl
                            clear hs hq hf
                            refine wanted_pos rfl ?_
                            unfold gives
                            go_simp
                            exact obC_q (Below.refl _ _) rfl
                          refine ⟨fun r wx hG hs hq hf => ?_, ?_⟩
                          · have e4 : r 4 = .slice (some ⟨pb, po, none⟩) L c := hs 4 rfl
                            clear hs hq hf
                            refine wanted_pos rfl ?_
                            unfold gives
                            go_simp
                            exact obC_q (Below.refl _ _) rfl
                          refine ⟨fun r wx hG hs hq hf => ?_, ?_⟩
                          · have e21 : r 21 = .int .i64 jn := hs 21 rfl
                            clear hs hq hf
                            refine wanted_pos rfl ?_
                            unfold gives
                            go_simp
                            exact obC_q (Below.refl _ _) rfl
                          refine ⟨fun r wx hG hs hq hf => ?_, ?_⟩
                          · have h1 : r 122 = .slice (some ⟨pb, po, none⟩) L c := hf.1
                            have h2 : r 123 = .int .i64 jn := hf.2.1
                            clear hs hq hf
                            refine wanted_pos rfl ?_
                            unfold gives
                            have z0 : (0 : Int) ≤ (jn : Int) := by omega
                            have z1 : (jn : Int) < (L : Int) := by omega
                            go_simp
                            exact obC_q (Below.refl _ _) rfl
                          refine ⟨fun r wx hG hs hq hf => ?_, ?_⟩
                          · have h3 : r 124 = .pointer (some ⟨pb, po + jn * 32, none⟩) := hf.1
                            clear hs hq hf
                            refine wanted_pos rfl ?_
                            unfold gives
                            refine gives_load_mid 35 _ rfl pb (po + jn * 32) h3 (bv ph) _ (HRGC.out wx hG) Tryd.underlying35 rfl (hInfo' _ HPR.out.1) ?_
                            exact obC_q (Below.refl _ _) rfl
                          refine ⟨fun r wx hG hs hq hf => ?_, ?_⟩
                          · have e13 : r 13 = .pointer (some ⟨g13, 0, none⟩) := hs 13 rfl
                            clear hs hf
                            refine wanted_pos rfl ?_
                            unfold gives
                            refine gives_load_row 35 _ rfl g13 e13 35 _ (0, 0) _ (hq 0 rfl) Tryd.underlying35 rfl (hInfo _ HPR.out.2) ?_
                            exact obC_q (Below.refl _ _) rfl
                          refine ⟨fun r wx hG hs hq hf => ?_, ?_⟩
                          · have h0 : r 121 = .int .i64 W := hf.1
                            have h4 : r 125 = .agg (bv ph).toArray := hf.2.1
                            have h5 : r 126 = .agg (bv hx).toArray := hf.2.2.1
                            clear hs hq hf
                            refine wanted_pos rfl ?_
                            unfold gives
                            go_simp
                            refine (HND.out wx hG).mono ?_
                            rintro e wy ⟨rfl, hb1⟩
                            exact ⟨_, rfl, obC_q hb1 rfl⟩
                          refine ⟨fun r wx hG hs hq hf => ?_, ?_⟩
                          · have e13 : r 13 = .pointer (some ⟨g13, 0, none⟩) := hs 13 rfl
                            have h6 : r 127 = .agg (bv hn).toArray := hf.1
                            clear hs hf
                            refine wanted_pos rfl ?_
                            unfold gives
                            refine gives_store_row 35 _ _ rfl g13 (bv hn) e13 h6 (bv hx) 35 (hq 0 rfl) (hInfo' _ HPN.out) (by rw [bv_length, bv_length, HPN.out, HPR.out.2]) (bv_one _) ?_
                            intro wy h1 h2
                            exact obC_st h1 h2
                          exact trivial
                        case hend =>
                          intro u wz hG hfin
                          have z7 : wz.heap[g13]? = some (.cells (bv hn).toArray 35 (0, 0)) := hfin 7 (by decide) (by kernel_rfl)
                          clear hfin
                          simp only [fill]
                          have HZ := Lib.hid (And.intro z7 (grown_keptT hG))
                          clear z7 hG
                          go_simp
                          have i3 : IntKind.i64.wrap ((jn : Int) + 1) = ((jn + 1 : Nat) : Int) := (IntWalk.i64_in _ (by omega)).trans (by omega)
                          go_wp2_with fail
                          go_roundw
                          case rel =>
                            refine ⟨jn + 1, ta5, tc5, rfl, by first | rfl | go_num, by omega, Lib.hid ⟨_, HJ.out.next HGT.out.1 (by have := HB20.out.size; have := HGT.out.2.1; omega) HRP.out.1 HRP.out.2.1 HU.out.2 (show 65 = (stp true (clW (hw W) (WY.take jn) (ps.take jn) h) ph).length from ?_) ?_ HG5.out.1 HG5.out.2 HZ.out.2 ?_⟩⟩
                            · rw [← HRP.out.2.2]; simp [stp, HPR.out.1, HPR.out.2]
                            · rw [← HRP.out.2.2, ← HBTE.out]; exact HU.out.1
                            · rw [← HRP.out.2.2]
                              have h1 := HZ.out.1
                              rw [HHN.out] at h1
                              exact h1
                          case measure => simp [intOf]; omega
                · have hjl2 := hjl
                  have eL : L = jn := by omega
                  subst eL
                  clear hjl hjL hjl2
                  have hnl : ¬ (L : Int) < (L : Int) := by omega
                  have i4 : IntKind.i64.wrap ((L : Int) - 1) = (L : Int) - 1 := IntWalk.i64_in _ (by have := HL64.out; omega)
                  obtain ⟨w30, hw30⟩ : ∃ q, q = wr := ⟨_, rfl⟩
                  subst hw30
                  obtain ⟨vs, hj⟩ := HI2.out
                  have HJ := Lib.hid hj
                  have hown := own_rd hj.own (fun u hu => hj.one (by rw [HWL2.out]; exact Nat.le_refl _) (by rw [← HARG.out.2.2.2.2.2.2.2]; exact Nat.le_refl _) u hu)
                  clear hj
                  obtain ⟨qb, qo, qc, hqv, hqc, hqcell⟩ := hown.at (by omega)
                  simp only [Value.slice.injEq, true_and] at hqv
                  obtain ⟨rfl, rfl⟩ := hqv
                  have HTC := Lib.hid (fun (k : Nat) (u : Value) (hu : vs[k]? = some u) => hqcell k u hu)
                  have HT30 := Lib.hid (show TrB w30 W BA (.pointer (some ⟨gt, 0, none⟩)) l from HT7.out.from (fun k hk hl => by
                    have h1 := HGW.out
                    have h2 := HGA.out
                    have h3 := HGT.out.2.1
                    have h4 := HB20.out.size
                    rw [HJ.out.keep k (by omega) (by omega) (by omega), HB20.out.block k (by omega), HSM.out k (by omega) (by have := HB10.out.2.size; omega), HB10.out.2.block k hl]))
                  have HB30w := HB0r
                  clear hown hqc hqcell
                  go_wp2_with fail
                  go_loopw [14, 24] (fun s14 s24 wq => ∃ (rem gp f ii : Nat) (ll : List (List UInt8)), s14 = .pointer (some ⟨gp, 0, none⟩) ∧ s24 = .int .i64 ((rem : Int) - 1) ∧ rem ≤ L ∧
                    Hid (TrB wq W BA (.pointer (some ⟨gp, 0, none⟩)) ll ∧ ll.length ≤ f ∧ ll.length ≤ n ∧ ii < ll.length ∧ ll[ii]? = some y ∧ WY.take rem = (wdF f ii ll.length).reverse ∧ pathF (hw W) f ll ii (ps.take rem) x = PF ∧ Below w30.heap.size w30 wq)) (fun _ s24 _ => (intOf s24 + 1).toNat)
                  case atStart => exact ⟨L, gt, n, i, l, rfl, rfl, Nat.le_refl _, Lib.hid ⟨HT30.out, by rw [← HARG.out.2.2.2.2.2.2.1]; exact Nat.le_refl _, by rw [← HARG.out.2.2.2.2.2.2.1]; exact Nat.le_refl _, by rw [← HARG.out.2.2.2.2.2.2.1]; exact hin, HYS.out, by rw [HWYE.out, HWD.out, ← HARG.out.2.2.2.2.2.2.1, List.take_of_length_le (by rw [List.length_reverse, ← HWD.out, HWL.out]; exact Nat.le_refl _)], by rw [HPF.out, HARG.out.2.2.2.2.2.2.2, List.take_length], Below.refl _ _⟩⟩
                  case round =>
                    obtain ⟨rem, gp, f, ii, ll, rfl, rfl, hrl, HI3⟩ := hrel
                    have hll0 : 0 < ll.length := by have := HI3.out.2.2.2.1; omega
                    obtain ⟨gq, t1, c1, plp, prp, hge, hrow, hrd, htl, htr⟩ := HI3.out.1.inv hll0
                    simp only [Value.pointer.injEq, Option.some.injEq, Addr.mk.injEq, and_true] at hge
                    subst hge
                    have hcells := trow_cell W hrow
                    obtain ⟨plq, rfl⟩ := htl.form
                    obtain ⟨prq, rfl⟩ := htr.form
                    have HB30 := Lib.hid HI3.out.2.2.2.2.2.2.2
                    have q1 := (HJ.out.keep w.heap.size (by have := HGT.out.2.1; have := HB20.out.size; have := HGB.out; have := HGT.out.1; omega) (by have := HGT.out.1; have := HGB.out; omega) (by have := HGB.out; omega)).trans ((HB20.out.block _ (Array.getElem?_eq_some_iff.1 R11.out.1).1).trans R11.out.1)
                    have q2 := (HJ.out.keep (w.heap.size + 1) (by have := HGT.out.2.1; have := HB20.out.size; have := HGB.out; have := HGT.out.1; omega) (by have := HGT.out.1; have := HGB.out; omega) (by have := HGB.out; omega)).trans ((HB20.out.block _ (Array.getElem?_eq_some_iff.1 R11.out.2.1).1).trans R11.out.2.1)
                    have HPAN := Lib.hid (fun wy (hb : Below w30.heap.size w30 wy) => (show wy.heap[w.heap.size]? = some (.cells #[.slice none 0 0, .slice none 0 0] 27 (0, 0)) ∧ wy.heap[w.heap.size + 1]? = some (.cells #[.int .i64 0] 28 (0, 0)) ∧ Below w.heap.size w wy from ⟨(hb.block _ (Array.getElem?_eq_some_iff.1 q1).1).trans q1, (hb.block _ (Array.getElem?_eq_some_iff.1 q2).1).trans q2, HB30w.out.trans (hb.mono HB30w.out.size)⟩))
                    clear q1 q2
                    by_cases hr0 : rem = 0
                    · subst hr0
                      have y1 : ¬ (0 : Int) ≤ ((0 : Nat) : Int) - 1 := by omega
                      have hwe := HI3.out.2.2.2.2.2.1
                      have hl1 : ll.length ≤ 1 := by
                        refine Nat.le_of_not_lt fun hc => ?_
                        have h1 := wd_length f ii ll.length HI3.out.2.1 (by have := HI3.out.2.2.1; omega) HI3.out.2.2.2.1
                        have h2 := congrArg List.length hwe
                        rw [List.take_zero, List.length_nil, List.length_reverse, h1] at h2
                        have := sz_top ii ll.length (by omega) (by have := HI3.out.2.2.1; omega) HI3.out.2.2.2.1
                        omega
                      obtain ⟨yy, rfl⟩ := List.length_eq_one_iff.1 (show ll.length = 1 by omega)
                      have hii : ii = 0 := by have := HI3.out.2.2.2.1; simpa using this
                      have hyy : yy = y := by have := HI3.out.2.2.2.2.1; rw [hii] at this; exact Option.some.inj this
                      have hpf := HI3.out.2.2.2.2.2.2.1
                      rw [path_end _ _ _ _ _ _ (by simp), tx_one] at hpf
                      obtain ⟨u0, hu0, hru0, _⟩ := HJ.out.txt 0 (0 :: x) rfl
                      obtain ⟨t2, c2, rfl⟩ := hru0.form
                      have hcu := HTC.out 0 _ hu0
                      rw [Nat.add_zero] at hcu
                      rw [tx_one] at hrow hrd hcells
                      obtain ⟨X, hX⟩ : ∃ q, q = 0 :: yy := ⟨_, rfl⟩
                      obtain ⟨Y, hY⟩ : ∃ q, q = 0 :: x := ⟨_, rfl⟩
                      rw [← hX] at hrow hrd hcells hpf
                      rw [← hY] at hru0 hcu hpf
                      obtain ⟨n1, hn1⟩ : ∃ q, q = X.length := ⟨_, rfl⟩
                      obtain ⟨n2, hn2⟩ : ∃ q, q = Y.length := ⟨_, rfl⟩
                      have HTX := Lib.hid (And.intro hn1.symm hn2.symm)
                      have HTR := Lib.hid (And.intro hrd.1 (hru0.keep HB30.out))
                      have hcu2 := (HB30.out.cell (p := ⟨qb, qo, none⟩) (World.block_lt_of_cell? w30 _ hcu)).trans hcu
                      rw [← hn1] at hcells
                      rw [← hn2] at hcu2
                      have HC3 := Lib.hid (fun wx (hb : Below wr.heap.size wr wx) => And.intro ((hb.cell (p := ⟨gp, 32, none⟩) (World.block_lt_of_cell? wr _ hcells.1)).trans hcells.1) ((hb.cell (p := ⟨qb, qo, none⟩) (World.block_lt_of_cell? wr _ hcu2)).trans hcu2))
                      have HXNE := Lib.hid (show X ≠ Y by rw [hX, hY, hyy]; exact fun e => HQE.out (List.cons.inj e).2.symm)
                      have HPN := Lib.hid (fun (hne : X ≠ Y) wy (hb : Below w30.heap.size w30 wy) (h1 : Rd wy 1 (.slice t1 X.length c1) X.length (bv X)) (h2 : Rd wy 1 (.slice t2 Y.length c2) Y.length (bv Y)) => (show PanE w PF (fndP (.slice t1 n1 c1) (.slice t2 n2 c2)) wy from by
                        have hp := hpf.symm
                        rw [hp, hn1, hn2]
                        exact ⟨t1, c1, t2, c2, rfl, h1, h2, HPAN.out wy hb⟩))
                      clear hwe hl1 hii hyy hpf hu0 hru0 hcu hX hY hn1 hn2 hrow hrd hcells hcu2 htl htr hll0 hin
                      go_upto_region 39 with fail
                      refine wp_region_stepsE (fun c wz => PanE w PF c wz) [some 166, some 167, some 168, some 169, some 170, some 171, some 172, some 173] [] (cp39F W gp qb qo tcap L n1 c1 n2 c2 t1 t2 X Y) (fun _ wx wy => Below wx.heap.size wx wy) (fun wx => Below wr.heap.size wr wx) ?hE (by kernel_rfl) (by kernel_rfl) rfl (by kernel_rfl) (Below.refl _ _).drew (fun _ wx => Below.refl _ _) (fun _ wx wy h k => h.trans (k.mono h.size)) ?hF ?hstep ?hend
                      case hE =>
                        intro ch act wz hd hk hc
                        obtain ⟨a1, c1, a2, c2, rfl, hra, hrb, q1, q2, qB⟩ := hc
                        have h10 : act.tmps[10]? = some (.pointer (some ⟨w.heap.size, 0, none⟩)) := (hk 10 (by decide)).trans rfl
                        have h11 : act.tmps[11]? = some (.pointer (some ⟨w.heap.size + 1, 0, none⟩)) := (hk 11 (by decide)).trans rfl
                        change Leaves _ _ _ _ _ _ _
                        rw [hd]
                        refine leaves_cons (f := 46) (args := #[.pointer (some ⟨w.heap.size, 0, none⟩), .pointer (some ⟨w.heap.size + 1, 0, none⟩)]) (by simp) (by simp [go_sem]) ?_
                        refine (close_foundP wz w.heap.size (w.heap.size + 1) _ _ 0 [] q1 q2 (by omega) a1 a2 _ _ c1 c2).mono ?_
                        rintro e u' wq ⟨rfl, rfl, rfl⟩
                        have k1 := (heap_alloc_old wz (.cells #[.slice a1 PF.1.length c1, .slice a2 PF.2.length c2] 92) (Array.getElem?_eq_some_iff.1 q1).1).trans q1
                        have k2 := (heap_alloc_old wz (.cells #[.slice a1 PF.1.length c1, .slice a2 PF.2.length c2] 92) (Array.getElem?_eq_some_iff.1 q2).1).trans q2
                        have hst := st2_facts (a := .slice a1 PF.1.length c1) (b := .slice a2 PF.2.length c2) (e := .int .i64 0) k1 k2 (by omega)
                        have g1 := (hra.alloc (.cells #[.slice a1 PF.1.length c1, .slice a2 PF.2.length c2] 92)).st2 (a := .slice a1 PF.1.length c1) (b := .slice a2 PF.2.length c2) (e := .int .i64 0) k1 k2 (by omega)
                        have g2 := (hrb.alloc (.cells #[.slice a1 PF.1.length c1, .slice a2 PF.2.length c2] 92)).st2 (a := .slice a1 PF.1.length c1) (b := .slice a2 PF.2.length c2) (e := .int .i64 0) k1 k2 (by omega)
                        have gB := (qB.alloc qB.size (.cells #[.slice a1 PF.1.length c1, .slice a2 PF.2.length c2] 92)).trans (hst.2.2.2 w.heap.size (Nat.le_refl _) (by omega))
                        have s1 := hst.1
                        have s2 := hst.2.1
                        obtain ⟨wq, hwq⟩ : ∃ x, x = st2 (wz.alloc (.cells #[.slice a1 PF.1.length c1, .slice a2 PF.2.length c2] 92)) w.heap.size (w.heap.size + 1) (.slice a1 PF.1.length c1) (.slice a2 PF.2.length c2) (.int .i64 0) := ⟨_, rfl⟩
                        rw [← hwq] at s1 s2 g1 g2 gB ⊢
                        have hc0 := cell_of_rowp (i := 0) s1 rfl
                        have hc1 := cell_of_rowp (i := 1) s1 rfl
                        have hce := cell_of_rowp (i := 0) (v := .int .i64 0) s2 rfl
                        have fin : PairE w wq AN (.returned (.tuple #[.agg #[.slice a1 PF.1.length c1, .slice a2 PF.2.length c2], .int .i64 0])) := by
                          rw [HAN.out]
                          exact ⟨a1, c1, a2, c2, rfl, g1, g2, gB⟩
                        simp [Leaves, settle, results, Tryd.results15, go_sem, asAddr, h10, h11, hc0, hc1, hce]
                        exact fin
                      case hF =>
                        exact ⟨fun _ _ _ _ _ _ h => h, ⟨fun _ _ _ _ _ _ h => h, ⟨fun _ _ _ _ _ _ h => h, ⟨fun _ _ _ _ _ _ h => h, ⟨fun _ _ _ _ _ _ h => h, ⟨fun _ _ _ _ _ _ h => h, ⟨fun _ _ _ _ _ _ h => h, ⟨fun _ _ _ _ _ _ h => h, trivial⟩⟩⟩⟩⟩⟩⟩⟩
                      case hstep =>
                        refine ⟨fun r wx hG hs hq hf => ?_, ?_⟩
                        · have e14 : r 14 = .pointer (some ⟨gp, 0, none⟩) := hs 14 rfl
                          refine (if_pos rfl).symm ▸ ?_
                          clear hs hq hf
                          refine givesE_of ?_
                          unfold gives
                          go_simp
                          exact ⟨Below.refl _ _, rfl⟩
                        refine ⟨fun r wx hG hs hq hf => ?_, ?_⟩
                        · have h0 : r 166 = .pointer (some ⟨gp, 0, none⟩) := hf.1
                          refine (if_pos rfl).symm ▸ ?_
                          clear hs hq hf
                          refine givesE_of ?_
                          unfold gives
                          go_simp
                          exact ⟨Below.refl _ _, rfl⟩
                        refine ⟨fun r wx hG hs hq hf => ?_, ?_⟩
                        · have h1 : r 167 = .pointer (some ⟨gp, 0, none⟩) := hf.1
                          refine (if_pos rfl).symm ▸ ?_
                          clear hs hq hf
                          refine givesE_of ?_
                          unfold gives
                          go_simp
                          exact ⟨Below.refl _ _, rfl⟩
                        refine ⟨fun r wx hG hs hq hf => ?_, ?_⟩
                        · have h2 : r 168 = .pointer (some ⟨gp, 32, none⟩) := hf.1
                          refine (if_pos rfl).symm ▸ ?_
                          clear hs hq hf
                          refine givesE_of ?_
                          unfold gives
                          have hcl := (HC3.out wx hG).1
                          go_simp
                          exact ⟨Below.refl _ _, rfl⟩
                        refine ⟨fun r wx hG hs hq hf => ?_, ?_⟩
                        · have e15 : r 15 = .slice (some ⟨qb, qo, none⟩) (L + 1) tcap := hs 15 rfl
                          refine (if_pos rfl).symm ▸ ?_
                          clear hs hq hf
                          refine givesE_of ?_
                          unfold gives
                          go_simp
                          exact ⟨Below.refl _ _, rfl⟩
                        refine ⟨fun r wx hG hs hq hf => ?_, ?_⟩
                        · have h4 : r 170 = .slice (some ⟨qb, qo, none⟩) (L + 1) tcap := hf.1
                          refine (if_pos rfl).symm ▸ ?_
                          clear hs hq hf
                          refine givesE_of ?_
                          unfold gives
                          have z1 : (0 : Int) < ((L + 1 : Nat) : Int) := by omega
                          have z2 : (0 : Int) < (L : Int) + 1 := by omega
                          go_simp
                          exact ⟨Below.refl _ _, rfl⟩
                        refine ⟨fun r wx hG hs hq hf => ?_, ?_⟩
                        · have h5 : r 171 = .pointer (some ⟨qb, qo, none⟩) := hf.1
                          refine (if_pos rfl).symm ▸ ?_
                          clear hs hq hf
                          refine givesE_of ?_
                          unfold gives
                          have hcl := (HC3.out wx hG).2
                          go_simp
                          exact ⟨Below.refl _ _, rfl⟩
                        refine ⟨fun r wx hG hs hq hf => ?_, ?_⟩
                        · have h3 : r 169 = .slice t1 n1 c1 := hf.1
                          have h6 : r 172 = .slice t2 n2 c2 := hf.2.1
                          refine (if_pos rfl).symm ▸ ?_
                          clear hs hq hf
                          unfold givesE
                          have hdf := differ_any (X) (Y) t1 t2 c1 c2 wx (HTR.out.1.keep hG) (HTR.out.2.keep hG)
                          rw [HTX.out.1, HTX.out.2] at hdf
                          go_simp
                          refine hdf.mono ?_
                          rintro e wy ⟨he, hb1⟩
                          by_cases hq : X = Y
                          · rw [if_pos hq] at he
                            exact .inl ⟨_, he, hb1, rfl, hq⟩
                          · rw [if_neg hq] at he
                            refine .inr ⟨_, he, ?_⟩
                            exact HPN.out hq wy (HB30.out.trans ((hG.trans (hb1.mono hG.size)).mono HB30.out.size)) ((HTR.out.1.keep hG).keep hb1) ((HTR.out.2.keep hG).keep hb1)
                        exact trivial
                      case hend =>
                        intro u wz hG hfin
                        have z7 : (u 7) = .tuple #[] ∧ X = Y := hfin 7 (by decide) (by kernel_rfl)
                        clear hfin
                        simp only [fill]
                        exact absurd z7.2 HXNE.out
                    · obtain ⟨jj, rfl⟩ : ∃ j, rem = j + 1 := ⟨rem - 1, by omega⟩
                      rw [show ((jj + 1 : Nat) : Int) - 1 = (jj : Int) by omega]
                      have y1 : (0 : Int) ≤ (jj : Int) := by omega
                      have y2 : (jj : Int) < (L : Int) := by omega
                      have hwe := HI3.out.2.2.2.2.2.1
                      have hwl := wd_length f ii ll.length HI3.out.2.1 (by have := HI3.out.2.2.1; omega) HI3.out.2.2.2.1
                      have hwl2 : (wdF f ii ll.length).length = jj + 1 := by
                        have h2 := congrArg List.length hwe
                        rw [List.length_take, List.length_reverse, HWL2.out] at h2
                        omega
                      have h2 : 2 ≤ ll.length := by
                        refine Nat.lt_of_not_le fun hc => ?_
                        rw [wd_end _ _ _ hc] at hwl2; simp at hwl2
                      obtain ⟨f, rfl⟩ : ∃ f', f = f' + 1 := ⟨f - 1, by have := HI3.out.2.1; omega⟩
                      obtain ⟨r, hr⟩ : ∃ r, WY[jj]? = some r := ⟨WY[jj]'(by rw [HWL2.out]; omega), List.getElem?_eq_getElem _⟩
                      obtain ⟨ph, hph⟩ : ∃ p, ps[jj]? = some p := ⟨ps[jj]'(by rw [← HARG.out.2.2.2.2.2.2.2]; omega), List.getElem?_eq_getElem _⟩
                      have hwy1 : WY.take (jj + 1) = WY.take jj ++ [r] := by rw [List.take_add_one, hr]; rfl
                      have hps1 : ps.take (jj + 1) = ps.take jj ++ [ph] := by rw [List.take_add_one, hph]; rfl
                      have hpf := HI3.out.2.2.2.2.2.2.1
                      rw [hps1] at hpf
                      rw [hwy1] at hwe
                      have hpjl : (ps.take jj).length = jj := by rw [List.length_take, ← HARG.out.2.2.2.2.2.2.2]; omega
                      have hwjl : (WY.take jj).length = jj := by rw [List.length_take, HWL2.out]; omega
                      have htl65 := tx_length (hw W) (hw32 W) ll h2
                      have htop := top_lt ll.length h2
                      have htop0 := top_pos ll.length
                      rw [lo_more ll h2] at htl
                      rw [ro_more ll h2] at htr
                      have hlk : (ll.take (top ll.length)).length = top ll.length := by rw [List.length_take]; omega
                      have hdk : (ll.drop (top ll.length)).length = ll.length - top ll.length := List.length_drop
                      -- what is told here
                      have htold := tolds_get (hw W) WY ps h jj r ph hr hph
                      obtain ⟨Y, hY⟩ : ∃ q, q = stp r (clW (hw W) (WY.take jj) (ps.take jj) h) ph := ⟨_, rfl⟩
                      rw [← hY] at htold
                      have hLW : WY.take L = WY := List.take_of_length_le (by rw [HWL2.out]; exact Nat.le_refl _)
                      have hLP : ps.take L = ps := List.take_of_length_le (by rw [← HARG.out.2.2.2.2.2.2.2]; exact Nat.le_refl _)
                      obtain ⟨u0, hu0, hru0, _⟩ := HJ.out.txt (jj + 1) Y (by rw [hLW, hLP, List.getElem?_cons_succ]; exact htold)
                      obtain ⟨t2, c2, rfl⟩ := hru0.form
                      have hcu := HTC.out (jj + 1) _ hu0
                      have hph32 := HARG.out.2.2.2.2.1 ph (List.mem_of_getElem? hph)
                      have hY65 : Y.length = 65 := by
                        have := clW_32 W (WY.take jj) (ps.take jj) h HHL.out
                        rw [hY]; unfold stp; split <;> simp [this, hph32]
                      obtain ⟨X, hX⟩ : ∃ q, q = tx (hw W) ll := ⟨_, rfl⟩
                      rw [← hX] at hrow hrd hcells htl65
                      have hstep : (if Y ≠ X then (X, Y) else if r = true then pathF (hw W) f (ll.drop (top ll.length)) (ii - top ll.length) (ps.take jj) x else pathF (hw W) f (ll.take (top ll.length)) ii (ps.take jj) x) = PF ∧
                          (if r = true then ¬ ii < top ll.length ∧ WY.take jj = (wdF f (ii - top ll.length) (ll.length - top ll.length)).reverse else ii < top ll.length ∧ WY.take jj = (wdF f ii (top ll.length)).reverse) := by
                        have hfn : ll.length ≤ 18446744073709551616 := by have := HI3.out.2.2.1; omega
                        by_cases hc : ii < top ll.length
                        · rw [wd_left f ii ll.length h2 hc, List.reverse_cons] at hwe
                          obtain ⟨e1, e2⟩ := List.append_inj' hwe rfl
                          obtain rfl : r = false := (List.cons.inj e2).1
                          rw [path_left _ _ _ _ _ _ _ h2 hc, ← hX] at hpf
                          have hsl := wd_length f ii (top ll.length) (by have := HI3.out.2.1; omega) (by omega) hc
                          have hcc := clW_cl (hw W) f ii (top ll.length) h (ps.take jj) (by have := HI3.out.2.1; omega) (by omega) hc (by rw [hpjl, ← hsl, ← List.length_reverse, ← e1, hwjl])
                          have hYe : Y = 1 :: (cl (nd (hw W)) 64 ii (top ll.length - 1) (lf (hw W) x) (ps.take jj) ++ ph) := by rw [hY, e1, hcc, HLF.out]; rfl
                          rw [← hYe] at hpf
                          exact ⟨by rw [if_neg (show ¬ false = true by simp)]; exact hpf, by rw [if_neg (by simp)]; exact ⟨hc, e1⟩⟩
                        · rw [wd_right f ii ll.length h2 hc, List.reverse_cons] at hwe
                          obtain ⟨e1, e2⟩ := List.append_inj' hwe rfl
                          obtain rfl : r = true := (List.cons.inj e2).1
                          rw [path_right _ _ _ _ _ _ _ h2 hc, ← hX] at hpf
                          have hi3 := HI3.out.2.2.2.1
                          have hsl := wd_length f (ii - top ll.length) (ll.length - top ll.length) (by have := HI3.out.2.1; omega) (by omega) (by omega)
                          have hcc := clW_cl (hw W) f (ii - top ll.length) (ll.length - top ll.length) h (ps.take jj) (by have := HI3.out.2.1; omega) (by omega) (by omega) (by rw [hpjl, ← hsl, ← List.length_reverse, ← e1, hwjl])
                          have hYe : Y = 1 :: (ph ++ cl (nd (hw W)) 64 (ii - top ll.length) (ll.length - top ll.length - 1) (lf (hw W) x) (ps.take jj)) := by rw [hY, e1, hcc, HLF.out]; rfl
                          rw [← hYe] at hpf
                          exact ⟨by rw [if_pos rfl]; exact hpf, by rw [if_pos rfl]; exact ⟨hc, e1⟩⟩
                      have HST := Lib.hid hstep
                      have hpf : X ≠ Y → PF = (X, Y) := fun e => by rw [← hstep.1, if_pos (fun e2 => e e2.symm)]
                      obtain ⟨n1, hn1⟩ : ∃ q, q = X.length := ⟨_, rfl⟩
                      obtain ⟨n2, hn2⟩ : ∃ q, q = Y.length := ⟨_, rfl⟩
                      have HTX := Lib.hid (And.intro hn1.symm hn2.symm)
                      have HTR := Lib.hid (And.intro hrd.1 (hru0.keep HB30.out))
                      have hcu2 := (HB30.out.cell (p := ⟨qb, qo + (jj + 1), none⟩) (World.block_lt_of_cell? w30 _ hcu)).trans hcu
                      rw [← hn1] at hcells
                      rw [← hn2] at hcu2
                      have HC3 := Lib.hid (fun wx (hb : Below wr.heap.size wr wx) => And.intro ((hb.cell (p := ⟨gp, 32, none⟩) (World.block_lt_of_cell? wr _ hcells.1)).trans hcells.1) ((hb.cell (p := ⟨qb, qo + (jj + 1), none⟩) (World.block_lt_of_cell? wr _ hcu2)).trans hcu2))
                      have HPN := Lib.hid (fun (hne : X ≠ Y) wy (hb : Below w30.heap.size w30 wy) (h1 : Rd wy 1 (.slice t1 X.length c1) X.length (bv X)) (h2 : Rd wy 1 (.slice t2 Y.length c2) Y.length (bv Y)) => (show PanE w PF (fndP (.slice t1 n1 c1) (.slice t2 n2 c2)) wy from by
                        have hp := hpf hne
                        rw [hp, hn1, hn2]
                        exact ⟨t1, c1, t2, c2, rfl, h1, h2, HPAN.out wy hb⟩))
                      obtain ⟨wb, wcap, hwv, hwcell⟩ := bool_atS HWL2.out HWO.out (by omega)
                      have hwb := HWO.out.lt wb (by rw [hwv]; rfl)
                      simp only [Value.slice.injEq, true_and] at hwv
                      obtain ⟨rfl, rfl⟩ := hwv
                      have hcb30 : w30.cell? ⟨wb, jj, none⟩ = some (.bool r) := (World.cell?_of_block (HJ.out.keep wb hwb.2 (by have := HGT.out.2.1; omega) (by have := HGT.out.1; have := HGT.out.2.1; omega))).trans (hwcell jj r hr)
                      have hcbr : wr.cell? ⟨wb, jj, none⟩ = some (.bool r) := (HB30.out.cell (p := ⟨wb, jj, none⟩) (World.block_lt_of_cell? w30 _ hcb30)).trans hcb30
                      have HNX := Lib.hid (fun wx (hb : Below wr.heap.size wr wx) => (show wx.cell? ⟨wb, jj, none⟩ = some (.bool r) ∧ wx.cell? ⟨gp, 33, none⟩ = some (.pointer plq) ∧ wx.cell? ⟨gp, 34, none⟩ = some (.pointer prq) from
                        ⟨(hb.cell (p := ⟨wb, jj, none⟩) (World.block_lt_of_cell? wr _ hcbr)).trans hcbr, (hb.cell (p := ⟨gp, 33, none⟩) (World.block_lt_of_cell? wr _ hcells.2.1)).trans hcells.2.1, (hb.cell (p := ⟨gp, 34, none⟩) (World.block_lt_of_cell? wr _ hcells.2.2)).trans hcells.2.2⟩))
                      have HTT := Lib.hid (And.intro htl (And.intro htr (And.intro hlk (And.intro hdk (And.intro htop htop0)))))
                      clear hwe hwl hwl2 hr hph hwy1 hps1 hpjl hwjl htl65 htold hLW hLP hu0 hru0 hcu hph32 hY65 hstep hpf hn1 hn2 hrow hrd hcells hcu2 htl htr hll0 hwcell hcb30 hcbr hwb hlk hdk htop htop0 hin hX hY
                      go_upto_region 35 with fail
                      refine wp_region_stepsE (fun c wz => PanE w PF c wz) [some 144, some 145, some 146, some 147, some 148, some 149, some 150, some 151, some 152, some 153] [] (cp35F W gp qb qo tcap L jj n1 c1 n2 c2 t1 t2 X Y) (fun _ wx wy => Below wx.heap.size wx wy) (fun wx => Below wr.heap.size wr wx) ?hE (by kernel_rfl) (by kernel_rfl) rfl (by kernel_rfl) (Below.refl _ _).drew (fun _ wx => Below.refl _ _) (fun _ wx wy h k => h.trans (k.mono h.size)) ?hF ?hstep ?hend
                      case hE =>
                        intro ch act wz hd hk hc
                        obtain ⟨a1, c1, a2, c2, rfl, hra, hrb, q1, q2, qB⟩ := hc
                        have h10 : act.tmps[10]? = some (.pointer (some ⟨w.heap.size, 0, none⟩)) := (hk 10 (by decide)).trans rfl
                        have h11 : act.tmps[11]? = some (.pointer (some ⟨w.heap.size + 1, 0, none⟩)) := (hk 11 (by decide)).trans rfl
                        change Leaves _ _ _ _ _ _ _
                        rw [hd]
                        refine leaves_cons (f := 46) (args := #[.pointer (some ⟨w.heap.size, 0, none⟩), .pointer (some ⟨w.heap.size + 1, 0, none⟩)]) (by simp) (by simp [go_sem]) ?_
                        refine (close_foundP wz w.heap.size (w.heap.size + 1) _ _ 0 [] q1 q2 (by omega) a1 a2 _ _ c1 c2).mono ?_
                        rintro e u' wq ⟨rfl, rfl, rfl⟩
                        have k1 := (heap_alloc_old wz (.cells #[.slice a1 PF.1.length c1, .slice a2 PF.2.length c2] 92) (Array.getElem?_eq_some_iff.1 q1).1).trans q1
                        have k2 := (heap_alloc_old wz (.cells #[.slice a1 PF.1.length c1, .slice a2 PF.2.length c2] 92) (Array.getElem?_eq_some_iff.1 q2).1).trans q2
                        have hst := st2_facts (a := .slice a1 PF.1.length c1) (b := .slice a2 PF.2.length c2) (e := .int .i64 0) k1 k2 (by omega)
                        have g1 := (hra.alloc (.cells #[.slice a1 PF.1.length c1, .slice a2 PF.2.length c2] 92)).st2 (a := .slice a1 PF.1.length c1) (b := .slice a2 PF.2.length c2) (e := .int .i64 0) k1 k2 (by omega)
                        have g2 := (hrb.alloc (.cells #[.slice a1 PF.1.length c1, .slice a2 PF.2.length c2] 92)).st2 (a := .slice a1 PF.1.length c1) (b := .slice a2 PF.2.length c2) (e := .int .i64 0) k1 k2 (by omega)
                        have gB := (qB.alloc qB.size (.cells #[.slice a1 PF.1.length c1, .slice a2 PF.2.length c2] 92)).trans (hst.2.2.2 w.heap.size (Nat.le_refl _) (by omega))
                        have s1 := hst.1
                        have s2 := hst.2.1
                        obtain ⟨wq, hwq⟩ : ∃ x, x = st2 (wz.alloc (.cells #[.slice a1 PF.1.length c1, .slice a2 PF.2.length c2] 92)) w.heap.size (w.heap.size + 1) (.slice a1 PF.1.length c1) (.slice a2 PF.2.length c2) (.int .i64 0) := ⟨_, rfl⟩
                        rw [← hwq] at s1 s2 g1 g2 gB ⊢
                        have hc0 := cell_of_rowp (i := 0) s1 rfl
                        have hc1 := cell_of_rowp (i := 1) s1 rfl
                        have hce := cell_of_rowp (i := 0) (v := .int .i64 0) s2 rfl
                        have fin : PairE w wq AN (.returned (.tuple #[.agg #[.slice a1 PF.1.length c1, .slice a2 PF.2.length c2], .int .i64 0])) := by
                          rw [HAN.out]
                          exact ⟨a1, c1, a2, c2, rfl, g1, g2, gB⟩
                        simp [Leaves, settle, results, Tryd.results15, go_sem, asAddr, h10, h11, hc0, hc1, hce]
                        exact fin
                      case hF =>
                        exact ⟨fun _ _ _ _ _ _ h => h, ⟨fun _ _ _ _ _ _ h => h, ⟨fun _ _ _ _ _ _ h => h, ⟨fun _ _ _ _ _ _ h => h, ⟨fun _ _ _ _ _ _ h => h, ⟨fun _ _ _ _ _ _ h => h, ⟨fun _ _ _ _ _ _ h => h, ⟨fun _ _ _ _ _ _ h => h, ⟨fun _ _ _ _ _ _ h => h, ⟨fun _ _ _ _ _ _ h => h, trivial⟩⟩⟩⟩⟩⟩⟩⟩⟩⟩
                      case hstep =>
                        refine ⟨fun r wx hG hs hq hf => ?_, ?_⟩
                        · have e14 : r 14 = .pointer (some ⟨gp, 0, none⟩) := hs 14 rfl
                          refine (if_pos rfl).symm ▸ ?_
                          clear hs hq hf
                          refine givesE_of ?_
                          unfold gives
                          go_simp
                          exact ⟨Below.refl _ _, rfl⟩
                        refine ⟨fun r wx hG hs hq hf => ?_, ?_⟩
                        · have h0 : r 144 = .pointer (some ⟨gp, 0, none⟩) := hf.1
                          refine (if_pos rfl).symm ▸ ?_
                          clear hs hq hf
                          refine givesE_of ?_
                          unfold gives
                          go_simp
                          exact ⟨Below.refl _ _, rfl⟩
                        refine ⟨fun r wx hG hs hq hf => ?_, ?_⟩
                        · have h1 : r 145 = .pointer (some ⟨gp, 0, none⟩) := hf.1
                          refine (if_pos rfl).symm ▸ ?_
                          clear hs hq hf
                          refine givesE_of ?_
                          unfold gives
                          go_simp
                          exact ⟨Below.refl _ _, rfl⟩
                        refine ⟨fun r wx hG hs hq hf => ?_, ?_⟩
                        · have h2 : r 146 = .pointer (some ⟨gp, 32, none⟩) := hf.1
                          refine (if_pos rfl).symm ▸ ?_
                          clear hs hq hf
                          refine givesE_of ?_
                          unfold gives
                          have hcl := (HC3.out wx hG).1
                          go_simp
                          exact ⟨Below.refl _ _, rfl⟩
                        refine ⟨fun r wx hG hs hq hf => ?_, ?_⟩
                        · have e15 : r 15 = .slice (some ⟨qb, qo, none⟩) (L + 1) tcap := hs 15 rfl
                          refine (if_pos rfl).symm ▸ ?_
                          clear hs hq hf
                          refine givesE_of ?_
                          unfold gives
                          go_simp
                          exact ⟨Below.refl _ _, rfl⟩
                        refine ⟨fun r wx hG hs hq hf => ?_, ?_⟩
                        · have e24 : r 24 = .int .i64 (jj : Nat) := hs 24 rfl
                          refine (if_pos rfl).symm ▸ ?_
                          clear hs hq hf
                          refine givesE_of ?_
                          unfold gives
                          go_simp
                          exact ⟨Below.refl _ _, rfl⟩
                        refine ⟨fun r wx hG hs hq hf => ?_, ?_⟩
                        · have h5 : r 149 = .int .i64 (jj : Nat) := hf.1
                          refine (if_pos rfl).symm ▸ ?_
                          clear hs hq hf
                          refine givesE_of ?_
                          unfold gives
                          have hL64 := HL64.out
                          have zw : IntKind.i64.wrap ((jj : Int) + 1) = ((jj + 1 : Nat) : Int) := (IntWalk.i64_in _ (by omega)).trans (by omega)
                          go_simp
                          exact ⟨Below.refl _ _, rfl⟩
                        refine ⟨fun r wx hG hs hq hf => ?_, ?_⟩
                        · have h4 : r 148 = .slice (some ⟨qb, qo, none⟩) (L + 1) tcap := hf.1
                          have h6 : r 150 = .int .i64 ((jj + 1 : Nat) : Int) := hf.2.1
                          refine (if_pos rfl).symm ▸ ?_
                          clear hs hq hf
                          refine givesE_of ?_
                          unfold gives
                          have z0 : (0 : Int) ≤ ((jj + 1 : Nat) : Int) := by omega
                          have z1 : ((jj + 1 : Nat) : Int) < ((L + 1 : Nat) : Int) := by omega
                          have z2 : (jj : Int) + 1 < (L : Int) + 1 := by omega
                          have z3 : (0 : Int) ≤ (jj : Int) + 1 := by omega
                          go_simp
                          exact ⟨Below.refl _ _, rfl⟩
                        refine ⟨fun r wx hG hs hq hf => ?_, ?_⟩
                        · have h7 : r 151 = .pointer (some ⟨qb, qo + (jj + 1), none⟩) := hf.1
                          refine (if_pos rfl).symm ▸ ?_
                          clear hs hq hf
                          refine givesE_of ?_
                          unfold gives
                          have hcl := (HC3.out wx hG).2
                          go_simp
                          exact ⟨Below.refl _ _, rfl⟩
                        refine ⟨fun r wx hG hs hq hf => ?_, ?_⟩
                        · have h3 : r 147 = .slice t1 n1 c1 := hf.1
                          have h8 : r 152 = .slice t2 n2 c2 := hf.2.1
                          refine (if_pos rfl).symm ▸ ?_
                          clear hs hq hf
                          unfold givesE
                          have hdf := differ_any (X) (Y) t1 t2 c1 c2 wx (HTR.out.1.keep hG) (HTR.out.2.keep hG)
                          rw [HTX.out.1, HTX.out.2] at hdf
                          go_simp
                          refine hdf.mono ?_
                          rintro e wy ⟨he, hb1⟩
                          by_cases hq : X = Y
                          · rw [if_pos hq] at he
                            exact .inl ⟨_, he, hb1, rfl, hq⟩
                          · rw [if_neg hq] at he
                            refine .inr ⟨_, he, ?_⟩
                            exact HPN.out hq wy (HB30.out.trans ((hG.trans (hb1.mono hG.size)).mono HB30.out.size)) ((HTR.out.1.keep hG).keep hb1) ((HTR.out.2.keep hG).keep hb1)
                        exact trivial
                      case hend =>
                        intro u wz hG hfin
                        have z9 : (u 9) = .tuple #[] ∧ X = Y := hfin 9 (by decide) (by kernel_rfl)
                        clear hfin
                        simp only [fill]
                        have HZ := Lib.hid (And.intro z9.2 (HB30.out.trans (hG.mono HB30.out.size)))
                        have hz9 := z9.1
                        have hnx := HNX.out wz hG
                        obtain ⟨hcb, hcl33, hcl34⟩ := hnx
                        have HG35 := Lib.hid hG
                        clear z9 hG
                        rw [hz9]
                        clear hz9
                        have i5 : IntKind.i64.wrap ((jj : Int) - 1) = (jj : Int) - 1 := IntWalk.i64_in _ (by have := HL64.out; omega)
                        cases r with
                        | false =>
                          have h3 := HST.out
                          rw [if_neg (by simp [HZ.out.1]), if_neg (by simp), if_neg (by simp)] at h3
                          have hlp : 0 < (ll.take (top ll.length)).length := by rw [HTT.out.2.2.1]; exact HTT.out.2.2.2.2.2
                          have htk := (HTT.out.1.keep HG35.out)
                          obtain ⟨g2, _, _, _, _, hg2, _, _, _, _⟩ := htk.inv hlp
                          simp only [Value.pointer.injEq] at hg2
                          subst hg2
                          have H3 := Lib.hid (And.intro h3 htk)
                          clear h3 hlp htk
                          go_simp
                          go_wp2_with fail
                          go_roundw
                          case rel =>
                            refine ⟨jj, g2, f, ii, ll.take (top ll.length), rfl, by first | rfl | go_num, by omega, Lib.hid ⟨H3.out.2, by rw [HTT.out.2.2.1]; have := HI3.out.2.1; have := HTT.out.2.2.2.2.1; omega, by rw [HTT.out.2.2.1]; have := HI3.out.2.2.1; have := HTT.out.2.2.2.2.1; omega, by rw [HTT.out.2.2.1]; exact H3.out.1.2.1, by rw [List.getElem?_take_of_lt H3.out.1.2.1]; exact HI3.out.2.2.2.2.1, by rw [HTT.out.2.2.1]; exact H3.out.1.2.2, H3.out.1.1, HZ.out.2⟩⟩
                          case measure => simp [intOf]
                        | true =>
                          have h3 := HST.out
                          rw [if_neg (by simp [HZ.out.1]), if_pos rfl, if_pos rfl] at h3
                          have hlp : 0 < (ll.drop (top ll.length)).length := by rw [HTT.out.2.2.2.1]; have := HTT.out.2.2.2.2.1; omega
                          have htk := (HTT.out.2.1.keep HG35.out)
                          obtain ⟨g2, _, _, _, _, hg2, _, _, _, _⟩ := htk.inv hlp
                          simp only [Value.pointer.injEq] at hg2
                          subst hg2
                          have H3 := Lib.hid (And.intro h3 htk)
                          clear h3 hlp htk
                          go_simp
                          go_wp2_with fail
                          go_roundw
                          case rel =>
                            refine ⟨jj, g2, f, ii - top ll.length, ll.drop (top ll.length), rfl, by first | rfl | go_num, by omega, Lib.hid ⟨H3.out.2, by rw [HTT.out.2.2.2.1]; have := HI3.out.2.1; have := HTT.out.2.2.2.2.2; omega, by rw [HTT.out.2.2.2.1]; have := HI3.out.2.2.1; have := HTT.out.2.2.2.2.1; omega, by rw [HTT.out.2.2.2.1]; have := HI3.out.2.2.2.1; have := H3.out.1.2.1; omega, by rw [List.getElem?_drop, show top ll.length + (ii - top ll.length) = ii by have := H3.out.1.2.1; omega]; exact HI3.out.2.2.2.2.1, by rw [HTT.out.2.2.2.1]; exact H3.out.1.2.2, H3.out.1.1, HZ.out.2⟩⟩
                          case measure => simp [intOf]
            · have y1 : (1 : Int) < (m' : Int) := by omega
              have z2 : IntKind.u64.wrap ((m' : Int) - 1) = ((m' - 1 : Nat) : Int) := (IntWalk.u64_in _ (by omega)).trans (by omega)
              obtain ⟨hb1, hb64, htop⟩ := top_len m' (by omega) (by omega)
              have hlen := fun wx => Tryd.bits_Len64 ((m' - 1 : Nat) : Int) wx (by omega) (by omega)
              rw [Int.toNat_natCast] at hlen
              have htl := top_lt m' (by omega)
              have htp := top_pos m'
              obtain ⟨f, rfl⟩ : ∃ f', f = f' + 1 := ⟨f - 1, by have := HI.out.1; omega⟩
              obtain ⟨K, hK⟩ : ∃ k, k = top m' := ⟨_, rfl⟩
              rw [← hK] at htop htl htp
              obtain ⟨d, hd⟩ : ∃ d, Lib.bitLen (m' - 1) = d + 1 := ⟨Lib.bitLen (m' - 1) - 1, by omega⟩
              rw [hd] at hlen hb64
              rw [hd, Nat.add_sub_cancel] at htop
              have z3 : (1 : Int) * 2 ^ d = (K : Int) := by rw [htop]; simp
              have z3b : (2 : Int) ^ d = (K : Int) := by rw [htop]; simp
              have z4 : IntKind.u64.wrap (K : Int) = (K : Int) := IntWalk.u64_in _ (by omega)
              have z5 : IntKind.i64.wrap (((d + 1 : Nat) : Int) - 1) = (d : Int) := (IntWalk.i64_in _ (by omega)).trans (by omega)
              have z5b : IntKind.i64.wrap ((d : Int) + 1 - 1) = (d : Int) := (IntWalk.i64_in _ (by omega)).trans (by omega)
              have z6 : (d : Int) ≤ 64 := by omega
              have HL := Lib.hid hlen
              have hwl' := fun (h : k' < K) => wd_left f k' m' (by omega) (by rw [← hK]; exact h)
              have hwr' := fun (h : ¬ k' < K) => wd_right f k' m' (by omega) (by rw [← hK]; exact h)
              rw [← hK] at hwl' hwr'
              have HWS := Lib.hid (And.intro hwl' hwr')
              have hL64 := HL64.out
              clear hlen hwl' hwr' hK htop hd
              go_wp2_with fail
              refine (HL.out _).mono ?_
              rintro e w1 ⟨rfl, hw1e⟩
              subst hw1e
              by_cases hmk : k' < K
              · have z7 : ¬ (K : Int) ≤ (k' : Int) := by omega
                go_wp2_with (at_builtin; refine wpList_app (o := ⟨some 93, _, _, _, _, _⟩) Tryd.underlying73 infoBoolS rfl (by decide) rfl _ _ rfl rfl rfl (own_keep HI.out.2.1 ((Below.refl _ _).alloc (Nat.le_refl _) _)) (Rd.one _ (.bool false) _ rfl) (by omega) (by omega) (by have := HI.out.2.2.1.size; simp; omega) ?_; intro v5 w5 how5 hg5 _)
                replace hg5 := hg5.alloc
                have hb5 := HI.out.2.2.1.trans (hg5.below HI.out.2.2.1.size (own_block HI.out.2.1))
                obtain ⟨pa5, pc5, rfl⟩ := own_form how5
                have H5 := Lib.hid (And.intro how5 hb5)
                clear how5 hg5 hb5
                go_wp2_with fail
                go_roundw
                case rel =>
                  refine ⟨f, K, k', acc ++ [false], pa5, pc5, by rw [List.length_append]; rfl, rfl, rfl, hmk, by omega, Lib.hid ⟨by have := HI.out.1; omega, ?_, H5.out.2, by rw [HI.out.2.2.2, HWS.out.1 hmk]; simp⟩⟩
                  rw [List.length_append, bw, List.map_append]; exact H5.out.1
                case measure => simp [intOf]; omega
              · have z7 : (K : Int) ≤ (k' : Int) := by omega
                have z8 : IntKind.u64.wrap ((m' : Int) - (K : Int)) = ((m' - K : Nat) : Int) := (IntWalk.u64_in _ (by omega)).trans (by omega)
                have z9 : IntKind.u64.wrap ((k' : Int) - (K : Int)) = ((k' - K : Nat) : Int) := (IntWalk.u64_in _ (by omega)).trans (by omega)
                go_wp2_with (at_builtin; refine wpList_app (o := ⟨some 89, _, _, _, _, _⟩) Tryd.underlying73 infoBoolS rfl (by decide) rfl _ _ rfl rfl rfl (own_keep HI.out.2.1 ((Below.refl _ _).alloc (Nat.le_refl _) _)) (Rd.one _ (.bool true) _ rfl) (by omega) (by omega) (by have := HI.out.2.2.1.size; simp; omega) ?_; intro v5 w5 how5 hg5 _)
                replace hg5 := hg5.alloc
                have hb5 := HI.out.2.2.1.trans (hg5.below HI.out.2.2.1.size (own_block HI.out.2.1))
                obtain ⟨pa5, pc5, rfl⟩ := own_form how5
                have H5 := Lib.hid (And.intro how5 hb5)
                clear how5 hg5 hb5
                go_wp2_with fail
                go_roundw
                case rel =>
                  refine ⟨f, m' - K, k' - K, acc ++ [true], pa5, pc5, by rw [List.length_append]; rfl, rfl, rfl, by omega, by omega, Lib.hid ⟨by have := HI.out.1; omega, ?_, H5.out.2, by rw [HI.out.2.2.2, HWS.out.2 hmk]; simp⟩⟩
                  rw [List.length_append, bw, List.map_append]; exact H5.out.1
                case measure => simp [intOf]; omega
    · have HQB := Lib.hid (show (hcm == rl) = false from beq_eq_false_iff_ne.2 hqb)
      clear hqb
      go_upto_region 6 with fail
      refine wp_region_steps [some 47, some 48, some 49, some 50, some 51, some 52, some 46] [] (cp6bF g13 gt hcm rl) (fun _ wx wy => Below wx.heap.size wx wy) (fun wx => Below w6.heap.size w6 wx) (by kernel_rfl) (by kernel_rfl) rfl (by kernel_rfl) (Below.refl _ _).drew (fun _ wx => Below.refl _ _) (fun _ wx wy h k => h.trans (k.mono h.size)) ?hF ?hstep ?hend
      case hF =>
        exact ⟨fun _ _ _ _ _ _ h => h, ⟨fun _ _ _ _ _ _ h => h, ⟨fun _ _ _ _ _ _ h => h, ⟨fun _ _ _ _ _ _ h => h, ⟨fun _ _ _ _ _ _ h => h, ⟨fun _ _ _ _ _ _ h => h, ⟨fun _ _ _ _ _ _ h => h, trivial⟩⟩⟩⟩⟩⟩⟩
      case hstep =>
        refine ⟨fun r wx hG hs hq hf => ?_, ?_⟩
        · have e13 : r 13 = .pointer (some ⟨g13, 0, none⟩) := hs 13 rfl
          refine (if_pos rfl).symm ▸ ?_
          clear hs hq hf
          unfold gives
          refine gives_load_row 35 _ rfl g13 e13 35 _ (0, 0) _ (HR13.out wx hG) Tryd.underlying35 rfl (hInfo _ HLN.out.1) ?_
          exact ⟨Below.refl _ _, rfl⟩
        refine ⟨fun r wx hG hs hq hf => ?_, ?_⟩
        · have e14 : r 14 = .pointer (some ⟨gt, 0, none⟩) := hs 14 rfl
          refine (if_pos rfl).symm ▸ ?_
          clear hs hq hf
          unfold gives
          go_simp
          exact ⟨Below.refl _ _, rfl⟩
        refine ⟨fun r wx hG hs hq hf => ?_, ?_⟩
        · have h1 : r 48 = .pointer (some ⟨gt, 0, none⟩) := hf.1
          refine (if_pos rfl).symm ▸ ?_
          clear hs hq hf
          unfold gives
          go_simp
          exact ⟨Below.refl _ _, rfl⟩
        refine ⟨fun r wx hG hs hq hf => ?_, ?_⟩
        · have h2 : r 49 = .pointer (some ⟨gt, 0, none⟩) := hf.1
          refine (if_pos rfl).symm ▸ ?_
          clear hs hq hf
          unfold gives
          go_simp
          exact ⟨Below.refl _ _, rfl⟩
        refine ⟨fun r wx hG hs hq hf => ?_, ?_⟩
        · have h3 : r 50 = .pointer (some ⟨gt, 0, none⟩) := hf.1
          refine (if_pos rfl).symm ▸ ?_
          clear hs hq hf
          unfold gives
          refine gives_load_mid 35 _ rfl gt 0 h3 (bv _) _ (HRT.out wx hG) Tryd.underlying35 rfl (hInfo' _ HLN.out.2) ?_
          exact ⟨Below.refl _ _, rfl⟩
        refine ⟨fun r wx hG hs hq hf => ?_, ?_⟩
        · have h0 : r 47 = .agg (bv hcm).toArray := hf.1
          have h4 : r 51 = .agg (bv rl).toArray := hf.2.1
          refine (if_pos rfl).symm ▸ ?_
          clear hs hq hf
          unfold gives
          have hqe := eqIn_hash hcm rl HLN.out.1 HLN.out.2 wx
          rw [HQB.out] at hqe
          have hgd := eq_guard
          go_simp
          exact ⟨Below.refl _ _, rfl⟩
        refine ⟨fun r wx hG hs hq hf => ?_, ?_⟩
        · have h5 : r 52 = .bool true := hf.1
          refine (if_pos rfl).symm ▸ ?_
          clear hs hq hf
          unfold gives
          go_simp
          exact ⟨Below.refl _ _, rfl⟩
        exact trivial
      case hend =>
        intro u wz hG hfin
        have z6 : u 6 = .bool true := hfin 6 (by decide) (by kernel_rfl)
        clear hfin
        simp only [fill]
        have R7 := Lib.hid (And.intro ((hG.block _ (Array.getElem?_eq_some_iff.1 R6.out.1).1).trans R6.out.1) (And.intro ((hG.block _ (Array.getElem?_eq_some_iff.1 R6.out.2.1).1).trans R6.out.2.1) (R6.out.2.2.trans (hG.mono R6.out.2.2.size))))
        have HG67 := Lib.hid hG
        clear hG
        obtain ⟨w7, hw7⟩ : ∃ q, q = wz := ⟨_, rfl⟩
        subst hw7
        go_simp
        have h0 : w7.cell? ⟨w.heap.size, 0, none⟩ = some (.slice none 0 0) := cell_of_rowp R7.out.1 rfl
        have h1 : w7.cell? ⟨w.heap.size, 1, none⟩ = some (.slice none 0 0) := cell_of_rowp R7.out.1 rfl
        have h2 : w7.cell? ⟨w.heap.size + 1, 0, none⟩ = some (.int .i64 0) := cell_of_rowp R7.out.2.1 rfl
        have z0 : w7.frozen? ⟨w.heap.size, 0, none⟩ = false := by simp [World.frozen?, R7.out.1]
        have z1 : w7.frozen? ⟨w.heap.size, 1, none⟩ = false := by simp [World.frozen?, R7.out.1]
        have z2 : w7.frozen? ⟨w.heap.size + 1, 0, none⟩ = false := by simp [World.frozen?, R7.out.2.1]
        have hwm : w.heap.size + 1 ≠ w.heap.size := by omega
        have HF := Lib.hid (FIN.out w7 0 3 R7.out.1 R7.out.2.1 R7.out.2.2)
        go_wp2_with fail
        have hc0 := cell_of_rowp (i := 0) HF.out.1 rfl
        have hc1 := cell_of_rowp (i := 1) HF.out.1 rfl
        have hce := cell_of_rowp (i := 0) (v := .int .i64 3) HF.out.2.1 rfl
        change Leaves _ _ _ _ _ _ (st2 w7 w.heap.size (w.heap.size + 1) (.slice none 0 0) (.slice none 0 0) (.int .i64 3))
        have fin : PairE w (st2 w7 w.heap.size (w.heap.size + 1) (.slice none 0 0) (.slice none 0 0) (.int .i64 3)) AN (.returned (.tuple #[.agg #[.slice none 0 0, .slice none 0 0], .int .i64 3])) := by
          rw [HEE.out, if_neg (by simp), if_pos (beq_eq_false_iff_ne.1 HQB.out)]
          exact ⟨none, 0, none, 0, rfl, Rd.nil _ _, Rd.nil _ _, HF.out.2.2⟩
        simp [Leaves, settle, results, Tryd.results15, go_sem, asAddr, hc0, hc1, hce]
        exact fin
  · have y1 : (ER != 0) = true := by simp [hE0]
    have HE0 := Lib.hid hE0
    clear hE0
    have h0 : wA.cell? ⟨w.heap.size, 0, none⟩ = some (.slice none 0 0) := cell_of_rowp RA.out.1 rfl
    have h1 : wA.cell? ⟨w.heap.size, 1, none⟩ = some (.slice none 0 0) := cell_of_rowp RA.out.1 rfl
    have h2 : wA.cell? ⟨w.heap.size + 1, 0, none⟩ = some (.int .i64 ER) := cell_of_rowp RA.out.2.1 rfl
    have z0 : wA.frozen? ⟨w.heap.size, 0, none⟩ = false := by simp [World.frozen?, RA.out.1]
    have z1 : wA.frozen? ⟨w.heap.size, 1, none⟩ = false := by simp [World.frozen?, RA.out.1]
    have z2 : wA.frozen? ⟨w.heap.size + 1, 0, none⟩ = false := by simp [World.frozen?, RA.out.2.1]
    have hwm : w.heap.size + 1 ≠ w.heap.size := by omega
    have HF := Lib.hid (FIN.out wA ER ER RA.out.1 RA.out.2.1 RA.out.2.2)
    go_wp2_with fail
    have hc0 := cell_of_rowp (i := 0) HF.out.1 rfl
    have hc1 := cell_of_rowp (i := 1) HF.out.1 rfl
    have hce := cell_of_rowp (i := 0) (v := .int .i64 ER) HF.out.2.1 rfl
    change Leaves _ _ _ _ _ _ (st2 wA w.heap.size (w.heap.size + 1) (.slice none 0 0) (.slice none 0 0) (.int .i64 ER))
    have fin : PairE w (st2 wA w.heap.size (w.heap.size + 1) (.slice none 0 0) (.slice none 0 0) (.int .i64 ER)) AN (.returned (.tuple #[.agg #[.slice none 0 0, .slice none 0 0], .int .i64 ER])) := by
      rw [HEE.out, if_pos HE0.out]
      exact ⟨none, 0, none, 0, rfl, Rd.nil _ _, Rd.nil _ _, HF.out.2.2⟩
    simp [Leaves, settle, results, Tryd.results15, go_sem, asAddr, hc0, hc1, hce]
    exact fin
end Go.Proofs.YtfibhmgjkooemaaDoor
