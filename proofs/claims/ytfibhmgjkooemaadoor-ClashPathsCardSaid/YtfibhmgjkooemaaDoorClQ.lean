/- The reference's Path. (printed by gen/clq.py) -/
import Derived.Test.YtfibhmgjkooemaaDoorClS
import Derived.Test.YtfibhmgjkooemaaDoorPathE
import Derived.Test.YtfibhmgjkooemaaDoorRegV
namespace Go.Proofs.YtfibhmgjkooemaaDoor
open Go.RowKit Sha Root Ones Path Clash

/-- What each operation hands on. -/
def p6bF (W : Int) (_g14 tb tf tc n : Nat) (hh rl : List UInt8) : Nat → Value → World → Prop
  | 0, v, _ => v = .agg (bv hh).toArray
  | 1, v, _ => v = .int .i64 W
  | 2, v, _ => v = .slice (some ⟨tb, tf, none⟩) n tc
  | 3, v, _ => v = .agg (bv rl).toArray
  | 4, v, _ => v = .bool true
  | _, _, _ => True
/-- What each operation hands on. -/
def p6cF (W : Int) (_g14 tb tf tc n : Nat) (hh rl : List UInt8) : Nat → Value → World → Prop
  | 0, v, _ => v = .agg (bv hh).toArray
  | 1, v, _ => v = .int .i64 W
  | 2, v, _ => v = .slice (some ⟨tb, tf, none⟩) n tc
  | 3, v, _ => v = .agg (bv rl).toArray
  | 4, v, _ => v = .bool false
  | _, _, _ => True
/-- What each operation hands on. -/
def p8yF (_W : Int) (tb tf tc n i xn xc yn yc : Nat) (xa ya : Option Addr) (x y : List UInt8) : Nat → Value → World → Prop
  | 0, v, _ => v = .slice xa xn xc
  | 1, v, _ => v = .string ⟨x.toArray⟩
  | 2, v, _ => v = .slice (some ⟨tb, tf, none⟩) n tc
  | 3, v, _ => v = .int .u64 i
  | 4, v, _ => v = .pointer (some ⟨tb, tf + i, none⟩)
  | 5, v, _ => v = .slice ya yn yc
  | 6, v, _ => v = .string ⟨y.toArray⟩
  | 7, v, _ => v = .bool true
  | _, _, _ => True
/-- What each operation hands on. -/
def p8nF (_W : Int) (tb tf tc n i xn xc yn yc : Nat) (xa ya : Option Addr) (x y : List UInt8) : Nat → Value → World → Prop
  | 0, v, _ => v = .slice xa xn xc
  | 1, v, _ => v = .string ⟨x.toArray⟩
  | 2, v, _ => v = .slice (some ⟨tb, tf, none⟩) n tc
  | 3, v, _ => v = .int .u64 i
  | 4, v, _ => v = .pointer (some ⟨tb, tf + i, none⟩)
  | 5, v, _ => v = .slice ya yn yc
  | 6, v, _ => v = .string ⟨y.toArray⟩
  | 7, v, _ => v = .bool false
  | _, _, _ => True
/-- What each operation hands on. -/
def p15P (W : Int) (_g13 _lb _lo_ _lc _k j pb po pc z K : Nat) (h ru : List UInt8) (_wb : World) : Nat → Value → Prop
  | 0, v => v = .int .i64 W
  | 1, v => v = .agg (bv h).toArray
  | 2, v => v = .int .u64 j
  | 3, v => v = .int .i64 (K : Nat)
  | 4, v => v = .int .u64 (K : Nat)
  | 5, v => v = .slice (some ⟨pb, po, none⟩) ((z + 1)) pc
  | 6, v => v = .int .i64 (z : Nat)
  | 7, v => v = .slice (some ⟨pb, po, none⟩) z pc
  | 8, v => v = .tuple #[.agg (bv ru).toArray, .int .i64 0]
  | 9, v => v = .tuple #[.agg (bv ru).toArray, .int .i64 0]
  | 10, v => v = .agg (bv ru).toArray
  | 11, v => v = .int .i64 0
  | 14, v => v = .int .i64 0
  | _, _ => True
def p15O (_W : Int) (_g13 _lb _lo_ _lc _k _j _pb _po _pc _z _K : Nat) (_h ru : List UInt8) (_wb : World) : Nat → Obj
  | 12 => .cells (bv (zs 32)).toArray 35 (0, 0)
  | 13 => .cells (bv ru).toArray 35 (0, 0)
  | _ => default
/-- What each operation hands on. -/
def p20P (W : Int) (_g13 lb lo_ lc k j pb po pc z K : Nat) (h ru : List UInt8) (_wb : World) : Nat → Value → Prop
  | 0, v => v = .int .i64 W
  | 1, v => v = .agg (bv h).toArray
  | 2, v => v = .int .u64 j
  | 3, v => v = .int .i64 (K : Nat)
  | 4, v => v = .int .u64 (K : Nat)
  | 5, v => v = .int .u64 ((j - K : Nat) : Int)
  | 6, v => v = .slice (some ⟨lb, lo_, none⟩) k lc
  | 7, v => v = .int .i64 (k : Nat)
  | 8, v => v = .int .i64 (K : Nat)
  | 9, v => v = .int .i64 ((k - K : Nat) : Int)
  | 10, v => v = .int .u64 ((k - K : Nat) : Int)
  | 11, v => v = .slice (some ⟨pb, po, none⟩) ((z + 1)) pc
  | 12, v => v = .int .i64 (z : Nat)
  | 13, v => v = .slice (some ⟨pb, po, none⟩) z pc
  | 14, v => v = .tuple #[.agg (bv ru).toArray, .int .i64 0]
  | 15, v => v = .tuple #[.agg (bv ru).toArray, .int .i64 0]
  | 16, v => v = .agg (bv ru).toArray
  | 17, v => v = .int .i64 0
  | 20, v => v = .int .i64 0
  | _, _ => True
def p20O (_W : Int) (_g13 _lb _lo_ _lc _k _j _pb _po _pc _z _K : Nat) (_h ru : List UInt8) (_wb : World) : Nat → Obj
  | 18 => .cells (bv (zs 32)).toArray 35 (0, 0)
  | 19 => .cells (bv ru).toArray 35 (0, 0)
  | _ => default
/-- What each operation hands on. -/
def p16F (pb po pc z _gr : Nat) (ru ph : List UInt8) : Nat → Value → World → Prop
  | 0, v, _ => v = .agg (bv ru).toArray
  | 1, v, _ => v = .slice (some ⟨pb, po, none⟩) (z + 1) pc
  | 2, v, _ => v = .int .i64 z
  | 3, v, _ => v = .pointer (some ⟨pb, po + z * 32, none⟩)
  | 4, v, _ => v = .agg (bv ph).toArray
  | 5, v, w => Rd w 1 v 65 (bv (1 :: (ru ++ ph)))
  | 6, v, w => Rd w 1 v 65 (bv (1 :: (ru ++ ph)))
  | _, _, _ => True
/-- What each operation hands on. -/
def p21F (pb po pc z _gr : Nat) (ru ph : List UInt8) : Nat → Value → World → Prop
  | 0, v, _ => v = .slice (some ⟨pb, po, none⟩) (z + 1) pc
  | 1, v, _ => v = .int .i64 z
  | 2, v, _ => v = .pointer (some ⟨pb, po + z * 32, none⟩)
  | 3, v, _ => v = .agg (bv ph).toArray
  | 4, v, _ => v = .agg (bv ru).toArray
  | 5, v, w => Rd w 1 v 65 (bv (1 :: (ph ++ ru)))
  | 6, v, w => Rd w 1 v 65 (bv (1 :: (ph ++ ru)))
  | _, _, _ => True

set_option maxHeartbeats 16000000 in
set_option maxRecDepth 100000 in
theorem r17Path_any (W : Int) (l : List (List UInt8)) (i : Nat) (x : List UInt8) (ps : List (List UInt8)) (v vx : Value) (a : Option Addr) (c : Nat) (w : World) (hW : -9223372036854775808 ≤ W ∧ W ≤ 9223372036854775807) (hl : l.length ≤ 1000000) (hts : ∀ t ∈ l, t.length ≤ 140737488351232) (hi64 : i < 18446744073709551616) (hxl : x.length ≤ 140737488351232) (h32 : ∀ p ∈ ps, p.length = 32) (hpl : ps.length ≤ 140737488355328)
    (hv : Txw w v l) (hvx : Rd w 1 vx x.length (bv x)) (hr : Rd w 32 (.slice a ps.length c) ps.length (ps.flatMap bv)) (hT : TabsR w) :
    Calls Tryd.prog 16 #[.int .i64 W, v, .int .u64 i, vx, .slice a ps.length c] w fun e w' => PairE w w' (ansP W l i x ps) e := by
  have hz := (zero_of_info info32).1
  have HZ32 := Lib.hid (show (zs 32).length = 32 by simp [zs])
  obtain ⟨va, vc, rfl⟩ := hv.form
  obtain ⟨xa, xc, rfl⟩ := hvx.form
  obtain ⟨n, hn⟩ : ∃ n, n = l.length := ⟨_, rfl⟩
  obtain ⟨L, hL⟩ : ∃ n, n = ps.length := ⟨_, rfl⟩
  obtain ⟨xn, hxn⟩ : ∃ n, n = x.length := ⟨_, rfl⟩
  obtain ⟨h, hh⟩ : ∃ q, q = leafH W x := ⟨_, rfl⟩
  have hh32 : h.length = 32 := by rw [hh]; exact leafH_length W x
  obtain ⟨w1, hw1⟩ : ∃ q : World, q = w.alloc (.cells #[.slice none 0 0, .slice none 0 0] 27) := ⟨_, rfl⟩
  have hB : Below w.heap.size w w1 := by rw [hw1]; exact (Below.refl _ _).alloc (Nat.le_refl _) _
  have r1 : w1.heap[w.heap.size]? = some (.cells #[.slice none 0 0, .slice none 0 0] 27 (0, 0)) := by rw [hw1]; exact heap_alloc_new _ _
  have HW1 := Lib.hid hw1
  have R1 := Lib.hid (And.intro r1 hB)
  have HLE := Lib.hid (refLeaf_any W x (.slice xa x.length xc) w1 hW (by omega) (hvx.keep hB) (hT.keepB hB))
  have HCL := Lib.hid (fun wx (hb : Below w1.heap.size w1 wx) => refClimb_any W h i n ps a c wx hW hh32 hi64 (by omega) h32 hpl ((hr.keep hB).keep hb) ((hT.keepB hB).keepB hb))
  have HRO0 := Lib.hid (fun wx (hb : Below w.heap.size w wx) => r17root_any W l (.slice va l.length vc) wx hW hl hts (hv.keep hb) (hT.keepB hb))
  have HARG := Lib.hid (And.intro hv (And.intro hr (And.intro hT (And.intro hts (And.intro h32 (And.intro hW (And.intro hn hL)))))))
  have HXL := Lib.hid (show x.length ≤ 140737488355000 ∧ Rd w 1 (.slice xa x.length xc) x.length (bv x) from ⟨by omega, hvx⟩)
  have HXN := Lib.hid hxn
  have HHL := Lib.hid hh32
  have HLF := Lib.hid (show lf (hw W) x = h by rw [hh]; rfl)
  rw [← hn] at HRO0 hl ⊢
  rw [← hL] at HCL hpl ⊢
  rw [← hxn, ← hh] at HLE
  rw [← hxn]
  obtain ⟨ER, hER⟩ : ∃ q, q = climbE i n L := ⟨_, rfl⟩
  obtain ⟨hcm, hhq⟩ : ∃ q, q = climbH W h i n ps := ⟨_, rfl⟩
  have hcm32 : hcm.length = 32 := by rw [hhq]; exact climbH_32 W h i n ps hh32
  rw [← hER, ← hhq] at HCL
  obtain ⟨rl, hrl⟩ : ∃ q, q = rt (hw W) l := ⟨_, rfl⟩
  obtain ⟨PF, hPF⟩ : ∃ q, q = pathF (hw W) n l i ps x := ⟨_, rfl⟩
  obtain ⟨y, hy⟩ : ∃ q, q = l[i]?.getD [] := ⟨_, rfl⟩
  obtain ⟨AN, hAN⟩ : ∃ q, q = ansP W l i x ps := ⟨_, rfl⟩
  have hee : AN = (if ER ≠ 0 then (ER, [], []) else if hcm ≠ rl then (3, [], []) else if x = y then (8, [], []) else (0, PF.1, PF.2) : Int × List UInt8 × List UInt8) := by
    rw [hAN, ansP, ← hn, ← hL, ← hER, ← hh, ← hhq, ← hrl, ← hy, ← hPF]
  rw [← hAN]
  rw [← hrl] at HRO0
  have HEE := Lib.hid hee
  have HLN := Lib.hid (And.intro hcm32 (show rl.length = 32 by rw [hrl]; exact rt32 W l))
  have HPF := Lib.hid hPF
  have HER := Lib.hid hER
  have HYY := Lib.hid hy
  have zc : IntKind.u64.wrap (n : Int) = (n : Int) := IntWalk.u64_in _ (by omega)
  have FIN := Lib.hid (fun (wz : World) (E : Int) (hA : AN = (E, [], [])) (h1 : wz.heap[w.heap.size]? = some (.cells #[.slice none 0 0, .slice none 0 0] 27 (0, 0))) (h3 : Below w.heap.size w wz) =>
    (show (loadVar 27 ⟨w.heap.size, 0, none⟩).run Tryd.prog ((wz.setCell ⟨w.heap.size, 0, none⟩ (.slice none 0 0)).setCell ⟨w.heap.size, 1, none⟩ (.slice none 0 0)) = .ok (.agg #[.slice none 0 0, .slice none 0 0]) ((wz.setCell ⟨w.heap.size, 0, none⟩ (.slice none 0 0)).setCell ⟨w.heap.size, 1, none⟩ (.slice none 0 0)) ∧
      PairE w ((wz.setCell ⟨w.heap.size, 0, none⟩ (.slice none 0 0)).setCell ⟨w.heap.size, 1, none⟩ (.slice none 0 0)) AN (.returned (.tuple #[.agg #[.slice none 0 0, .slice none 0 0], .int .i64 E])) from by
        have hs := s2_facts (a := .slice none 0 0) (b := .slice none 0 0) h1
        exact ⟨pair_ld Tryd.prog _ w.heap.size _ _ _ 27 hs.1 Tryd.underlying27 rfl pairInfo, by rw [hA]; exact ⟨none, 0, none, 0, rfl, Rd.nil _ _, Rd.nil _ _, below_ofp h3 (Nat.le_refl _) hs.2⟩⟩))
  clear hv hvx hr hT hts h32 hW hcm32 hhq hER hrl hPF hy hAN hee hw1 hB r1 hpl hh32 hh hn hL hxn
  go_enter Tryd.func16, Tryd.ntmps16
  go_upto_region 1 with fail
  rw [show w.alloc (.cells #[.slice none 0 0, .slice none 0 0] 27) = w1 from HW1.out.symm]
  go_wp2_with fail
  refine HLE.out.mono ?_
  rintro e w2 ⟨rfl, hb2⟩
  have HB2 := Lib.hid hb2
  have H7 := Lib.hid (heap_alloc_new w2 (.cells (bv (zs 32)).toArray 35))
  clear hb2
  go_upto_region 3 with (with_reducible show wpList _ _ _ (⟨none, Op.store _ _ _, _, _, _, _⟩ :: _) _ _; refine wpList_store_whole rfl _ _ _ rfl w2.heap.size (bv h) rfl rfl (bv (zs 32)) _ H7.out (hInfo' _ HHL.out) (by rw [bv_length, bv_length, HHL.out, HZ32.out]) (bv_one _) ?_; intro w3 HG3 hg3)
  have k3 : Below w2.heap.size w2 w3 := below_grow ((Below.refl _ _).alloc (Nat.le_refl _) _) hg3 (Nat.le_refl _) (by simp)
  obtain ⟨g13, hg13⟩ : ∃ g, g = w2.heap.size := ⟨_, rfl⟩
  have hr13 : w3.heap[g13]? = some (.cells (bv h).toArray 35 (0, 0)) := by rw [hg13]; exact HG3.out
  have HR3 := Lib.hid hr13
  have HB3 := Lib.hid (HB2.out.trans (k3.mono HB2.out.size))
  rw [← hg13]
  clear k3 HG3 hg3 hr13 hg13
  go_wp2_with (with_reducible show wpList _ _ _ (⟨some 33, _, _, _, _, _⟩ :: _) _ _; refine wpList_load_row rfl _ _ rfl g13 rfl _ _ (0, 0) _ HR3.out Tryd.underlying35 rfl (hInfo _ HHL.out) ?_)
  refine (HCL.out _ HB3.out).mono ?_
  rintro e wq ⟨rfl, hbq⟩
  have H8 := Lib.hid (heap_alloc_new wq (.cells (bv (zs 32)).toArray 35))
  have HBq := Lib.hid hbq
  clear hbq
  go_upto_region 4 with (with_reducible show wpList _ _ _ (⟨none, Op.store _ _ _, _, _, _, _⟩ :: _) _ _; refine wpList_store_whole rfl _ _ _ rfl wq.heap.size (bv hcm) rfl rfl (bv (zs 32)) _ H8.out (hInfo' _ HLN.out.1) (by rw [bv_length, bv_length, HLN.out.1, HZ32.out]) (bv_one _) ?_; intro w4 HG4 hg4)
  have k4 : Below wq.heap.size wq w4 := below_grow ((Below.refl _ _).alloc (Nat.le_refl _) _) hg4 (Nat.le_refl _) (by simp)
  have k34 := HBq.out.trans (k4.mono HBq.out.size)
  obtain ⟨g14, hg14⟩ : ∃ g, g = wq.heap.size := ⟨_, rfl⟩
  have hr14 : w4.heap[g14]? = some (.cells (bv hcm).toArray 35 (0, 0)) := by rw [hg14]; exact HG4.out
  have HR13 := Lib.hid ((k34.block _ (Array.getElem?_eq_some_iff.1 HR3.out).1).trans HR3.out)
  have hb14 := HB3.out.trans (k34.mono HB3.out.size)
  have R4 := Lib.hid (And.intro ((hb14.block _ (Array.getElem?_eq_some_iff.1 R1.out.1).1).trans R1.out.1) (R1.out.2.trans (hb14.mono R1.out.2.size)))
  have HR14 := Lib.hid (fun wx (hb : Below w4.heap.size w4 wx) => (hb.block _ (Array.getElem?_eq_some_iff.1 hr14).1).trans hr14)
  rw [← hg14]
  clear k4 k34 HG4 hg4 hr14 hg14 hb14
  by_cases hE0 : ER = 0
  · subst hE0
    have hin0 : i < n ∧ L = sz 64 i (n - 1) := by
      have hx := HER.out
      rw [climbE] at hx
      split at hx
      · simp at hx
      · rename_i hni
        have hs : sizeN i n = sz 64 i (n - 1) := by rw [sizeN, if_pos (by omega)]
        split at hx
        · simp at hx
        · split at hx
          · simp at hx
          · omega
    obtain ⟨hin, hLs⟩ := hin0
    have HMN := Lib.hid hLs
    clear hLs
    have hlpos : 0 < l.length := by have := HARG.out.2.2.2.2.2.2.1; omega
    obtain ⟨tb, tf, tc, hvs, hvc, hvat⟩ := HARG.out.1.at hlpos
    simp only [Value.slice.injEq] at hvs
    obtain ⟨rfl, -, htc⟩ := hvs
    have htc2 := htc.symm
    subst htc2
    obtain ⟨ya, yc, hcy, hry⟩ := hvat i y (by rw [HYY.out, List.getElem?_eq_getElem (by have := HARG.out.2.2.2.2.2.2.1; omega)]; rfl)
    obtain ⟨yn, hyn⟩ : ∃ q, q = y.length := ⟨_, rfl⟩
    rw [← hyn] at hcy
    have HC0 := Lib.hid (fun wx (hb : Below w.heap.size w wx) => (hb.cell (p := ⟨tb, tf + i, none⟩) (World.block_lt_of_cell? w _ hcy)).trans hcy)
    have HXY0 := Lib.hid (show Rd w 1 (.slice xa xn xc) x.length (bv x) ∧ Rd w 1 (.slice ya yn yc) y.length (bv y) by rw [HXN.out, hyn]; exact ⟨HXL.out.2, hry⟩)
    have HRO := Lib.hid (fun wx (hb : Below w4.heap.size w4 wx) => HRO0.out wx (R4.out.2.trans (hb.mono R4.out.2.size)))
    clear hlpos hvc hvat hcy hry hyn
    by_cases hqb : hcm = rl
    · have HQB := Lib.hid (show (hcm == rl) = true from beq_iff_eq.2 hqb)
      have HQB2 := Lib.hid hqb
      clear hqb
      go_upto_region 6 with fail
      refine wp_region_steps [some 44, some 45, some 46, some 47, some 48] [] (p6cF W g14 tb tf tc n hcm rl) (fun _ wx wy => Below wx.heap.size wx wy) (fun wx => Below w4.heap.size w4 wx) (by kernel_rfl) (by kernel_rfl) rfl (by kernel_rfl) (Below.refl _ _).drew (fun _ wx => Below.refl _ _) (fun _ wx wy h k => h.trans (k.mono h.size)) ?hF ?hstep ?hend
      case hF =>
        exact ⟨fun _ _ _ _ _ _ h => h, ⟨fun _ _ _ _ _ _ h => h, ⟨fun _ _ _ _ _ _ h => h, ⟨fun _ _ _ _ _ _ h => h, ⟨fun _ _ _ _ _ _ h => h, trivial⟩⟩⟩⟩⟩
      case hstep =>
        refine ⟨fun r wx hG hs hq hf => ?_, ?_⟩
        · have e14 : r 14 = .pointer (some ⟨g14, 0, none⟩) := hs 14 rfl
          refine (if_pos rfl).symm ▸ ?_
          clear hs hq hf
          unfold gives
          refine gives_load_row 35 _ rfl g14 e14 35 _ (0, 0) _ (HR14.out wx hG) Tryd.underlying35 rfl (hInfo _ HLN.out.1) ?_
          exact ⟨Below.refl _ _, rfl⟩
        refine ⟨fun r wx hG hs hq hf => ?_, ?_⟩
        · have e0 : r 0 = .int .i64 W := hs 0 rfl
          refine (if_pos rfl).symm ▸ ?_
          clear hs hq hf
          unfold gives
          go_simp
          exact ⟨Below.refl _ _, rfl⟩
        refine ⟨fun r wx hG hs hq hf => ?_, ?_⟩
        · have e1 : r 1 = .slice (some ⟨tb, tf, none⟩) n tc := hs 1 rfl
          refine (if_pos rfl).symm ▸ ?_
          clear hs hq hf
          unfold gives
          go_simp
          exact ⟨Below.refl _ _, rfl⟩
        refine ⟨fun r wx hG hs hq hf => ?_, ?_⟩
        · have h1 : r 45 = .int .i64 W := hf.1
          have h2 : r 46 = .slice (some ⟨tb, tf, none⟩) n tc := hf.2.1
          refine (if_pos rfl).symm ▸ ?_
          clear hs hq hf
          unfold gives
          go_simp
          refine (HRO.out wx hG).mono ?_
          rintro e wy ⟨rfl, hb1⟩
          exact ⟨_, rfl, hb1, rfl⟩
        refine ⟨fun r wx hG hs hq hf => ?_, ?_⟩
        · have h0 : r 44 = .agg (bv hcm).toArray := hf.1
          have h3 : r 47 = .agg (bv rl).toArray := hf.2.1
          refine (if_pos rfl).symm ▸ ?_
          clear hs hq hf
          unfold gives
          have hqe := eqIn_hash hcm rl HLN.out.1 HLN.out.2 wx
          rw [HQB.out] at hqe
          have hgd := eq_guard
          go_simp
          exact ⟨Below.refl _ _, rfl⟩
        exact trivial
      case hend =>
        intro u wz hG hfin
        have z4 : u 4 = .bool false := hfin 4 (by decide) (by kernel_rfl)
        clear hfin
        simp only [fill]
        have R5 := Lib.hid (And.intro ((hG.block _ (Array.getElem?_eq_some_iff.1 R4.out.1).1).trans R4.out.1) (R4.out.2.trans (hG.mono R4.out.2.size)))
        have HG45 := Lib.hid hG
        clear hG
        obtain ⟨w5, hw5⟩ : ∃ x, x = wz := ⟨_, rfl⟩
        subst hw5
        go_simp
        have HG46a := Lib.hid HG45.out
        have HC := Lib.hid (fun wx (hb : Below w5.heap.size w5 wx) => HC0.out wx (R5.out.2.trans (hb.mono R5.out.2.size)))
        have HXY := Lib.hid (And.intro (HXY0.out.1.keep R5.out.2) (HXY0.out.2.keep R5.out.2))
        by_cases hqm : x = y
        · have HQX := Lib.hid (show (x == y) = true from beq_iff_eq.2 hqm)
          have HQE := Lib.hid hqm
          clear hqm
          go_upto_region 8 with fail
          refine wp_region_steps [some 50, some 51, some 52, some 53, some 54, some 55, some 56, some 57] [] (p8yF W tb tf tc n i xn xc yn yc xa ya x y) (fun _ wx wy => Below wx.heap.size wx wy) (fun wx => Below w5.heap.size w5 wx) (by kernel_rfl) (by kernel_rfl) rfl (by kernel_rfl) (Below.refl _ _).drew (fun _ wx => Below.refl _ _) (fun _ wx wy h k => h.trans (k.mono h.size)) ?hF ?hstep ?hend
          case hF =>
            exact ⟨fun _ _ _ _ _ _ h => h, ⟨fun _ _ _ _ _ _ h => h, ⟨fun _ _ _ _ _ _ h => h, ⟨fun _ _ _ _ _ _ h => h, ⟨fun _ _ _ _ _ _ h => h, ⟨fun _ _ _ _ _ _ h => h, ⟨fun _ _ _ _ _ _ h => h, ⟨fun _ _ _ _ _ _ h => h, trivial⟩⟩⟩⟩⟩⟩⟩⟩
          case hstep =>
            refine ⟨fun r wx hG hs hq hf => ?_, ?_⟩
            · have e3 : r 3 = .slice xa xn xc := hs 3 rfl
              refine (if_pos rfl).symm ▸ ?_
              clear hs hq hf
              unfold gives
              go_simp
              exact ⟨Below.refl _ _, rfl⟩
            refine ⟨fun r wx hG hs hq hf => ?_, ?_⟩
            · have h0 : r 50 = .slice xa xn xc := hf.1
              refine (if_pos rfl).symm ▸ ?_
              clear hs hq hf
              unfold gives
              have hs := string_of_bytes (P := Tryd.prog) (w := wx) Tryd.underlying25 Tryd.underlying5 Tryd.underlying9 (HXY.out.1.keep hG)
              go_simp
              exact ⟨Below.refl _ _, rfl⟩
            refine ⟨fun r wx hG hs hq hf => ?_, ?_⟩
            · have e1 : r 1 = .slice (some ⟨tb, tf, none⟩) n tc := hs 1 rfl
              refine (if_pos rfl).symm ▸ ?_
              clear hs hq hf
              unfold gives
              go_simp
              exact ⟨Below.refl _ _, rfl⟩
            refine ⟨fun r wx hG hs hq hf => ?_, ?_⟩
            · have e2 : r 2 = .int .u64 i := hs 2 rfl
              refine (if_pos rfl).symm ▸ ?_
              clear hs hq hf
              unfold gives
              go_simp
              exact ⟨Below.refl _ _, rfl⟩
            refine ⟨fun r wx hG hs hq hf => ?_, ?_⟩
            · have h2 : r 52 = .slice (some ⟨tb, tf, none⟩) n tc := hf.1
              have h3 : r 53 = .int .u64 i := hf.2.1
              refine (if_pos rfl).symm ▸ ?_
              clear hs hq hf
              unfold gives
              have y1 : (0 : Int) ≤ (i : Int) := by omega
              have y2 : (i : Int) < (n : Int) := by omega
              go_simp
              exact ⟨Below.refl _ _, rfl⟩
            refine ⟨fun r wx hG hs hq hf => ?_, ?_⟩
            · have h4 : r 54 = .pointer (some ⟨tb, tf + i, none⟩) := hf.1
              refine (if_pos rfl).symm ▸ ?_
              clear hs hq hf
              unfold gives
              have hcl := HC.out wx hG
              go_simp
              exact ⟨Below.refl _ _, rfl⟩
            refine ⟨fun r wx hG hs hq hf => ?_, ?_⟩
            · have h5 : r 55 = .slice ya yn yc := hf.1
              refine (if_pos rfl).symm ▸ ?_
              clear hs hq hf
              unfold gives
              have hs := string_of_bytes (P := Tryd.prog) (w := wx) Tryd.underlying25 Tryd.underlying5 Tryd.underlying9 (HXY.out.2.keep hG)
              go_simp
              exact ⟨Below.refl _ _, rfl⟩
            refine ⟨fun r wx hG hs hq hf => ?_, ?_⟩
            · have h1 : r 51 = .string ⟨x.toArray⟩ := hf.1
              have h6 : r 56 = .string ⟨y.toArray⟩ := hf.2.1
              refine (if_pos rfl).symm ▸ ?_
              clear hs hq hf
              unfold gives
              have hqb := HQX.out
              go_simp
              exact ⟨Below.refl _ _, by first | rfl | simp [p8yF]⟩
            exact trivial
          case hend =>
            intro u wz hG hfin
            have z7 : u 7 = .bool true := hfin 7 (by decide) (by kernel_rfl)
            clear hfin
            simp only [fill]
            have R6 := Lib.hid (And.intro ((hG.block _ (Array.getElem?_eq_some_iff.1 R5.out.1).1).trans R5.out.1) (R5.out.2.trans (hG.mono R5.out.2.size)))
            have HG56 := Lib.hid hG
            clear hG
            obtain ⟨w6, hw6⟩ : ∃ x, x = wz := ⟨_, rfl⟩
            subst hw6
            go_simp
            have h60 : w6.cell? ⟨w.heap.size, 0, none⟩ = some (.slice none 0 0) := cell_of_rowp R6.out.1 rfl
            have h61 : w6.cell? ⟨w.heap.size, 1, none⟩ = some (.slice none 0 0) := cell_of_rowp R6.out.1 rfl
            have z60 : w6.frozen? ⟨w.heap.size, 0, none⟩ = false := by simp [World.frozen?, R6.out.1]
            have z61 : w6.frozen? ⟨w.heap.size, 1, none⟩ = false := by simp [World.frozen?, R6.out.1]
            have HE := Lib.hid (FIN.out w6 8 (by rw [HEE.out, if_neg (by simp), if_neg (by rw [HQB2.out]; simp), if_pos HQE.out]) R6.out.1 R6.out.2)
            go_wp2_with fail
            obtain ⟨hld, fin⟩ := HE.out
            obtain ⟨w9, hw9⟩ : ∃ x, x = (w6.setCell ⟨w.heap.size, 0, none⟩ (.slice none 0 0)).setCell ⟨w.heap.size, 1, none⟩ (.slice none 0 0) := ⟨_, rfl⟩
            rw [← hw9] at hld fin ⊢
            refine bodyPost_ret (v := .tuple #[.agg #[.slice none 0 0, .slice none 0 0], .int .i64 8]) ?_ ?_ ?_
            · simp [results, Tryd.results16, asAddr, hld]
            · rfl
            · exact fin
        · have HQX := Lib.hid (show (x == y) = false from beq_eq_false_iff_ne.2 hqm)
          have HQE := Lib.hid hqm
          clear hqm
          go_upto_region 8 with fail
          refine wp_region_steps [some 50, some 51, some 52, some 53, some 54, some 55, some 56, some 57] [] (p8nF W tb tf tc n i xn xc yn yc xa ya x y) (fun _ wx wy => Below wx.heap.size wx wy) (fun wx => Below w5.heap.size w5 wx) (by kernel_rfl) (by kernel_rfl) rfl (by kernel_rfl) (Below.refl _ _).drew (fun _ wx => Below.refl _ _) (fun _ wx wy h k => h.trans (k.mono h.size)) ?hF ?hstep ?hend
          case hF =>
            exact ⟨fun _ _ _ _ _ _ h => h, ⟨fun _ _ _ _ _ _ h => h, ⟨fun _ _ _ _ _ _ h => h, ⟨fun _ _ _ _ _ _ h => h, ⟨fun _ _ _ _ _ _ h => h, ⟨fun _ _ _ _ _ _ h => h, ⟨fun _ _ _ _ _ _ h => h, ⟨fun _ _ _ _ _ _ h => h, trivial⟩⟩⟩⟩⟩⟩⟩⟩
          case hstep =>
            refine ⟨fun r wx hG hs hq hf => ?_, ?_⟩
            · have e3 : r 3 = .slice xa xn xc := hs 3 rfl
              refine (if_pos rfl).symm ▸ ?_
              clear hs hq hf
              unfold gives
              go_simp
              exact ⟨Below.refl _ _, rfl⟩
            refine ⟨fun r wx hG hs hq hf => ?_, ?_⟩
            · have h0 : r 50 = .slice xa xn xc := hf.1
              refine (if_pos rfl).symm ▸ ?_
              clear hs hq hf
              unfold gives
              have hs := string_of_bytes (P := Tryd.prog) (w := wx) Tryd.underlying25 Tryd.underlying5 Tryd.underlying9 (HXY.out.1.keep hG)
              go_simp
              exact ⟨Below.refl _ _, rfl⟩
            refine ⟨fun r wx hG hs hq hf => ?_, ?_⟩
            · have e1 : r 1 = .slice (some ⟨tb, tf, none⟩) n tc := hs 1 rfl
              refine (if_pos rfl).symm ▸ ?_
              clear hs hq hf
              unfold gives
              go_simp
              exact ⟨Below.refl _ _, rfl⟩
            refine ⟨fun r wx hG hs hq hf => ?_, ?_⟩
            · have e2 : r 2 = .int .u64 i := hs 2 rfl
              refine (if_pos rfl).symm ▸ ?_
              clear hs hq hf
              unfold gives
              go_simp
              exact ⟨Below.refl _ _, rfl⟩
            refine ⟨fun r wx hG hs hq hf => ?_, ?_⟩
            · have h2 : r 52 = .slice (some ⟨tb, tf, none⟩) n tc := hf.1
              have h3 : r 53 = .int .u64 i := hf.2.1
              refine (if_pos rfl).symm ▸ ?_
              clear hs hq hf
              unfold gives
              have y1 : (0 : Int) ≤ (i : Int) := by omega
              have y2 : (i : Int) < (n : Int) := by omega
              go_simp
              exact ⟨Below.refl _ _, rfl⟩
            refine ⟨fun r wx hG hs hq hf => ?_, ?_⟩
            · have h4 : r 54 = .pointer (some ⟨tb, tf + i, none⟩) := hf.1
              refine (if_pos rfl).symm ▸ ?_
              clear hs hq hf
              unfold gives
              have hcl := HC.out wx hG
              go_simp
              exact ⟨Below.refl _ _, rfl⟩
            refine ⟨fun r wx hG hs hq hf => ?_, ?_⟩
            · have h5 : r 55 = .slice ya yn yc := hf.1
              refine (if_pos rfl).symm ▸ ?_
              clear hs hq hf
              unfold gives
              have hs := string_of_bytes (P := Tryd.prog) (w := wx) Tryd.underlying25 Tryd.underlying5 Tryd.underlying9 (HXY.out.2.keep hG)
              go_simp
              exact ⟨Below.refl _ _, rfl⟩
            refine ⟨fun r wx hG hs hq hf => ?_, ?_⟩
            · have h1 : r 51 = .string ⟨x.toArray⟩ := hf.1
              have h6 : r 56 = .string ⟨y.toArray⟩ := hf.2.1
              refine (if_pos rfl).symm ▸ ?_
              clear hs hq hf
              unfold gives
              have hqb := HQX.out
              go_simp
              exact ⟨Below.refl _ _, by first | rfl | simp [p8nF]⟩
            exact trivial
          case hend =>
            intro u wz hG hfin
            have z7 : u 7 = .bool false := hfin 7 (by decide) (by kernel_rfl)
            clear hfin
            simp only [fill]
            have R6 := Lib.hid (And.intro ((hG.block _ (Array.getElem?_eq_some_iff.1 R5.out.1).1).trans R5.out.1) (R5.out.2.trans (hG.mono R5.out.2.size)))
            have HG56 := Lib.hid hG
            clear hG
            obtain ⟨w6, hw6⟩ : ∃ x, x = wz := ⟨_, rfl⟩
            subst hw6
            go_simp
            have HAN := Lib.hid (show AN = (0, PF.1, PF.2) by rw [HEE.out, if_neg (by simp), if_neg (by rw [HQB2.out]; simp), if_neg HQE.out])
            have HB6 := Lib.hid R6.out.2
            go_wp2_with fail
            go_loopw [1, 2, 4] (fun s1 s2 s4 wr => ∃ (f k j zL : Nat) (ll : List (List UInt8)) (pp : List (List UInt8)) (la pa : Option Addr) (lc pc : Nat), s1 = .slice la k lc ∧ s2 = .int .u64 j ∧ s4 = .slice pa zL pc ∧ k ≤ n ∧ j < k ∧
              Hid (ll.length = k ∧ pp.length = zL ∧ k ≤ f ∧ (∀ t ∈ ll, t ∈ l) ∧ (∀ p ∈ pp, p.length = 32) ∧ zL = sz 64 j (k - 1) ∧ pathF (hw W) f ll j pp x = PF ∧ Txw wr (.slice la k lc) ll ∧ Rd wr 32 (.slice pa zL pc) zL (pp.flatMap bv) ∧ Below w6.heap.size w6 wr)) (fun s1 _ _ _ => (match s1 with | .slice _ k _ => k | _ => 0))
            case atStart =>
              refine ⟨n, n, i, L, l, ps, _, _, _, _, rfl, rfl, rfl, Nat.le_refl _, hin, Lib.hid ⟨HARG.out.2.2.2.2.2.2.1.symm, HARG.out.2.2.2.2.2.2.2.symm, Nat.le_refl _, fun t h => h, HARG.out.2.2.2.2.1, HMN.out, HPF.out.symm, ?_, ?_, Below.refl _ _⟩⟩
              · have := HARG.out.1.keep HB6.out; rwa [← HARG.out.2.2.2.2.2.2.1] at this
              · have := HARG.out.2.1.keep HB6.out; rwa [← HARG.out.2.2.2.2.2.2.2] at this
            case round =>
              obtain ⟨f, k, j, zL, ll, pp, la, pa, lc, pc, rfl, rfl, rfl, hkn, hjk, HI⟩ := hrel
              have RZ := Lib.hid (And.intro ((HI.out.2.2.2.2.2.2.2.2.2.block _ (Array.getElem?_eq_some_iff.1 R6.out.1).1).trans R6.out.1) (R6.out.2.trans (HI.out.2.2.2.2.2.2.2.2.2.mono R6.out.2.size)))
              have htxv := HI.out.2.2.2.2.2.2.2.1
              obtain ⟨lb, lo_, lc', hv, hlcap, hlat⟩ := htxv.at (by rw [HI.out.1]; omega)
              simp only [Value.slice.injEq] at hv
              obtain ⟨rfl, -, rfl⟩ := hv
              have hlcap2 : k ≤ lc := by rw [← HI.out.1]; exact hlcap
              have hts := fun t (h : t ∈ ll) => HARG.out.2.2.2.1 t (HI.out.2.2.2.1 t h)
              have hBr : Below w.heap.size w wr := RZ.out.2
              by_cases hk1 : k = 1
              · have y1 : ¬ (1 : Int) < (k : Int) := by omega
                obtain ⟨y0, rfl⟩ := List.length_eq_one_iff.1 (HI.out.1.trans hk1)
                have hpf : PF = (0 :: y0, 0 :: x) := by
                  rw [← HI.out.2.2.2.2.2.2.1]; exact path_end _ _ _ _ _ _ (by simp)
                have HPE := Lib.hid hpf
                obtain ⟨qa, qc, hcy, hry⟩ := hlat 0 y0 rfl
                rw [Nat.add_zero] at hcy
                have hy0 := hts y0 (by simp)
                have HL1 := Lib.hid (refLeafText_any y0 (.slice qa y0.length qc) wr (by omega) hry)
                have HL2 := Lib.hid (fun wx (hb : Below wr.heap.size wr wx) => refLeafText_any x (.slice xa x.length xc) wx HXL.out.1 ((HXL.out.2.keep hBr).keep hb))
                rw [← HXN.out] at HL2
                generalize y0.length = y0n at *
                have yk : (0 : Int) < (k : Int) := by omega
                clear hpf hry hlat hts
                go_wp2_with fail
                refine HL1.out.mono ?_
                rintro e wa ⟨v1, rfl, hv1, hb1⟩
                obtain ⟨m1, hm1⟩ : ∃ q, q = (0 :: y0).length := ⟨_, rfl⟩
                rw [← hm1] at hv1
                obtain ⟨p1, q1, rfl⟩ := hv1.form
                have HM1 := Lib.hid hm1
                clear hm1
                have HV1 := Lib.hid (And.intro hv1 hb1)
                clear hv1 hb1
                go_wp2_with fail
                refine (HL2.out _ HV1.out.2).mono ?_
                rintro e wb ⟨v2, rfl, hv2, hb2⟩
                obtain ⟨m2, hm2⟩ : ∃ q, q = (0 :: x).length := ⟨_, rfl⟩
                rw [← hm2] at hv2
                obtain ⟨p2, q2, rfl⟩ := hv2.form
                have HM2 := Lib.hid hm2
                clear hm2
                have HV2 := Lib.hid (And.intro (HV1.out.1.keep hb2) hv2)
                have RZ := Lib.hid (And.intro (((HV1.out.2.trans (hb2.mono HV1.out.2.size)).block _ (Array.getElem?_eq_some_iff.1 RZ.out.1).1).trans RZ.out.1) (RZ.out.2.trans ((HV1.out.2.trans (hb2.mono HV1.out.2.size)).mono RZ.out.2.size)))
                clear hv2 hb2
                have hx1 : Rd wb 1 (.slice p1 m1 q1) m1 (bv (0 :: y0)) := HV2.out.1
                have hx2 : Rd wb 1 (.slice p2 m2 q2) m2 (bv (0 :: x)) := HV2.out.2
                have HMM := Lib.hid (And.intro HM1.out HM2.out)
                have HS6 := Lib.hid (And.intro (s2_facts (a := .slice p1 m1 q1) (b := .slice p2 m2 q2) RZ.out.1) (And.intro (hx1.s2 (a := .slice p1 m1 q1) (b := .slice p2 m2 q2) RZ.out.1) (hx2.s2 (a := .slice p1 m1 q1) (b := .slice p2 m2 q2) RZ.out.1)))
                have h60 : wb.cell? ⟨w.heap.size, 0, none⟩ = some (.slice none 0 0) := cell_of_rowp RZ.out.1 rfl
                have h61 : wb.cell? ⟨w.heap.size, 1, none⟩ = some (.slice none 0 0) := cell_of_rowp RZ.out.1 rfl
                have z60 : wb.frozen? ⟨w.heap.size, 0, none⟩ = false := by simp [World.frozen?, RZ.out.1]
                have z61 : wb.frozen? ⟨w.heap.size, 1, none⟩ = false := by simp [World.frozen?, RZ.out.1]
                clear hx1 hx2
                go_wp2_with fail
                have hld := pair_ld Tryd.prog _ w.heap.size _ _ _ 27 HS6.out.1.1 Tryd.underlying27 rfl pairInfo
                have hbz := below_ofp RZ.out.2 (Nat.le_refl _) HS6.out.1.2
                have k1 := HS6.out.2.1
                have k2 := HS6.out.2.2
                obtain ⟨w9, hw9⟩ : ∃ x, x = (wb.setCell ⟨w.heap.size, 0, none⟩ (.slice p1 m1 q1)).setCell ⟨w.heap.size, 1, none⟩ (.slice p2 m2 q2) := ⟨_, rfl⟩
                rw [← hw9] at hld hbz k1 k2 ⊢
                refine bodyPost_ret (v := .tuple #[.agg #[.slice p1 m1 q1, .slice p2 m2 q2], .int .i64 0]) ?_ ?_ ?_
                · simp [results, Tryd.results16, asAddr, hld]
                · rfl
                · refine (show PairE w w9 AN _ from ?_)
                  rw [HAN.out, HPE.out]
                  exact ⟨_, _, _, _, by rw [HMM.out.1, HMM.out.2], by rw [← HMM.out.1]; exact k1, by rw [← HMM.out.2]; exact k2, hbz⟩
              · have y1 : (1 : Int) < (k : Int) := by omega
                have h2 : 2 ≤ k := by omega
                have hk0 : k ≤ 1000000 := by omega
                obtain ⟨f, rfl⟩ : ∃ f', f = f' + 1 := ⟨f - 1, by have := HI.out.2.2.1; omega⟩
                have HSP := Lib.hid (fun wx => Split_any k wx h2 (by omega))
                have hK1 := top_lt k h2
                have hK0 := top_pos k
                have hk2 := top_le2 k
                have hst := sz_top j k h2 (by omega) hjk
                obtain ⟨K, hK⟩ : ∃ q, q = top k := ⟨_, rfl⟩
                rw [← hK] at HSP hK1 hK0 hk2 hst
                obtain ⟨z, hz1⟩ : ∃ z, zL = z + 1 := ⟨_, HI.out.2.2.2.2.2.1.trans hst⟩
                subst hz1
                have hzb : z ≤ 64 := by have := sz_le 64 j (k - 1); have := HI.out.2.2.2.2.2.1; omega
                have hpl := HI.out.2.1
                obtain ⟨ph, hph⟩ : ∃ p, pp[z]? = some p := ⟨pp[z]'(by omega), List.getElem?_eq_getElem _⟩
                have hph32 := HI.out.2.2.2.2.1 ph (List.mem_of_getElem? hph)
                have hqs : pp = pp.take z ++ [ph] := by
                  have := List.take_append_drop z pp
                  rw [List.drop_eq_getElem_cons (by omega), List.drop_of_length_le (by omega), (List.getElem?_eq_some_iff.1 hph).2] at this
                  exact this.symm
                have hrdp := HI.out.2.2.2.2.2.2.2.2.1
                obtain ⟨pb, po, c', hv, hcap, hcell⟩ := hrdp.atN (by omega) (by omega)
                simp only [Value.slice.injEq, true_and] at hv
                obtain ⟨rfl, rfl⟩ := hv
                have hrg := range_at (w := wr) HI.out.2.2.2.2.1 hph hcell
                have hrq : Rd wr 32 (.slice (some ⟨pb, po, none⟩) z pc) z ((pp.take z).flatMap bv) := by rw [flat_take32 _ _ HI.out.2.2.2.2.1]; exact rd_take hrdp z (by omega)
                have hq32 : ∀ p ∈ pp.take z, p.length = 32 := fun p hp => HI.out.2.2.2.2.1 p (List.mem_of_mem_take hp)
                have hql : (pp.take z).length = z := by rw [List.length_take]; omega
                have hcap2 : z + 1 ≤ pc := hcap
                obtain ⟨qs, hqe⟩ : ∃ q, q = pp.take z := ⟨_, rfl⟩
                rw [← hqe] at hqs hrq hq32 hql
                have HHS := Lib.hid (fun wx (hb : Below wr.heap.size wr wx) => hashed_any W ll (.slice (some ⟨lb, lo_, none⟩) k lc) wx HARG.out.2.2.2.2.2.1 (by rw [HI.out.1]; omega) (by rw [HI.out.1]; omega) hts (htxv.keep hb) ((HARG.out.2.2.1.keepB hBr).keepB hb))
                have htx65 := tx_length (hw W) (hw32 W) ll (by rw [HI.out.1]; exact h2)
                rw [htx65] at HHS
                have HT65 := Lib.hid htx65
                have hgf := HI.out.2.2.2.2.2.2.1
                rw [hqs] at hgf
                have y2 : IntKind.i64.wrap (((z + 1 : Nat) : Int) - 1) = (z : Int) := (IntWalk.i64_in _ (by omega)).trans (by omega)
                have y3 : IntKind.i64.wrap ((z : Int) + 1 - 1) = (z : Int) := (IntWalk.i64_in _ (by omega)).trans (by omega)
                have yK : IntKind.u64.wrap (K : Int) = (K : Int) := IntWalk.u64_in _ (by omega)
                have HPQ := Lib.hid (And.intro hrg (And.intro hrq (And.intro hq32 hql)))
                have HBr := Lib.hid hBr
                have HTV := Lib.hid htxv
                have hkl := HI.out.1
                have hzz := HI.out.2.2.2.2.2.1.trans hst
                rcases Nat.lt_or_ge j K with htop | htop
                · rw [path_left (hw W) f ll j qs ph x (by omega) (by rw [hkl, ← hK]; exact htop), hkl, ← hK] at hgf
                  rw [if_pos htop] at hzz
                  have hsz : z = sz 64 j (K - 1) := by omega
                  have HCB0 := Lib.hid (fun wx (hb : Below wr.heap.size wr wx) => (show Calls Tryd.prog 49 #[.int .i64 W, .agg (bv h).toArray, .int .u64 j, .int .u64 K, .slice (some ⟨pb, po, none⟩) z pc] wx fun e w' => e = .returned (.tuple #[.agg (bv (cl (nodeH W) 64 j (K - 1) h qs)).toArray, .int .i64 0]) ∧ Below wx.heap.size wx w' by
                    have hcc := refClimb_any W h j K qs (some ⟨pb, po, none⟩) pc wx HARG.out.2.2.2.2.2.1 HHL.out (by omega) (by omega) hq32 (by rw [hql]; omega) (by rw [hql]; exact hrq.keep hb) ((HARG.out.2.2.1.keepB HBr.out).keepB hb)
                    have hE0 : climbE j K qs.length = 0 := by rw [climbE, if_neg (by omega), if_neg (by rw [sizeN, if_pos htop, hql]; omega), if_neg (by rw [sizeN, if_pos htop, hql]; omega)]
                    rw [climbH, hE0, if_pos rfl, hql] at hcc
                    exact hcc))
                  have hru32 := cl_32 W 64 j (K - 1) h qs HHL.out
                  obtain ⟨ru, hru⟩ : ∃ q, q = cl (nodeH W) 64 j (K - 1) h qs := ⟨_, rfl⟩
                  rw [← hru] at HCB0 hru32
                  have HGF := Lib.hid (show (if 1 :: (ru ++ ph) ≠ tx (hw W) ll then (tx (hw W) ll, 1 :: (ru ++ ph)) else pathF (hw W) f (ll.take K) j qs x) = PF by rw [← hgf, hru, HLF.out]; rfl)
                  have HPR := Lib.hid (And.intro hph32 hru32)
                  have HSZ := Lib.hid hsz
                  have yj : (j : Int) < (K : Int) := by omega
                  clear hgf hru hru32 hsz hzz hst hrg hrq hq32 hql hph32 hqs hqe hcell hcap hph hpl hrdp htxv hlcap hts hBr htx65 hkl hK hlat
                  go_wp2_with fail
                  refine (HSP.out _).mono ?_
                  rintro e ws ⟨rfl, hbs⟩
                  have HBs := Lib.hid hbs
                  clear hbs
                  go_wp2_with fail
                  refine (HHS.out _ HBs.out).mono ?_
                  rintro e wb ⟨vh, rfl, hhr, hba⟩
                  obtain ⟨ha, hc, rfl⟩ := hhr.form
                  have HBB := Lib.hid (HBs.out.trans (hba.mono HBs.out.size))
                  have HHR := Lib.hid hhr
                  clear hhr hba
                  go_upto_region 15 with fail
                  have HRI := Lib.hid (show wb.heap[g13]? = some (.cells (bv h).toArray 35 (0, 0)) by
                    have h1 := ((HG45.out.trans (HG56.out.mono HG45.out.size)).block _ (Array.getElem?_eq_some_iff.1 HR13.out).1).trans HR13.out
                    have h1' := (HI.out.2.2.2.2.2.2.2.2.2.block _ (Array.getElem?_eq_some_iff.1 h1).1).trans h1
                    exact (HBB.out.block _ (Array.getElem?_eq_some_iff.1 h1').1).trans h1')
                  have HOL := Lib.hid HHL.out
                  have HCB := Lib.hid (fun wx (hb : KeptT [] wb wx) => HCB0.out wx (HBB.out.trans (hb.below HBB.out.size (by simp))))
                  have hz := (zero_of_info info32).1
                  refine wp_region_desc [some 76, some 77, some 78, some 79, some 80, some 81, some 82, some 83, some 84, some 75, some 85, some 86, some 19, none, some 20] [] [] [(0, 0), (0, 0), (0, 0), (0, 0), (0, 0), (0, 0), (0, 0), (0, 0), (0, 0), (0, 0), (0, 0), (0, 0), (1, 0), (3, 12), (0, 0)] [12] [] [] [] (p15P W g13 lb lo_ lc k j pb po pc z K h ru wb) (fun _ _ _ => True) (p15O W g13 lb lo_ lc k j pb po pc z K h ru wb) (by kernel_rfl) (by kernel_rfl) rfl (by kernel_rfl) (by kernel_rfl) (by kernel_rfl) rfl trivial (by simp; try omega) rfl (fun i hi => (no4 (by kernel_rfl) i hi).elim) ?hstep ?hend
                  case hstep =>
                    refine ⟨fun r wx hG hs hq hf => ?_, ?_⟩
                    · have e0 : r 0 = .int .i64 W := hs 0 rfl
                      clear hs hq hf
                      refine wanted_pos rfl ?_
                      unfold gives
                      go_simp
                      exact obC_q (Below.refl _ _) rfl
                    refine ⟨fun r wx hG hs hq hf => ?_, ?_⟩
                    · have e13 : r 13 = .pointer (some ⟨g13, 0, none⟩) := hs 13 rfl
                      clear hs hq hf
                      refine wanted_pos rfl ?_
                      unfold gives
                      refine gives_load_row 35 _ rfl g13 e13 35 _ (0, 0) _ (hG.row (by simp; try omega) HRI.out) Tryd.underlying35 rfl (hInfo _ HOL.out) ?_
                      exact obC_q (Below.refl _ _) rfl
                    refine ⟨fun r wx hG hs hq hf => ?_, ?_⟩
                    · have e2 : r 2 = .int .u64 j := hs 2 rfl
                      clear hs hq hf
                      refine wanted_pos rfl ?_
                      unfold gives
                      go_simp
                      exact obC_q (Below.refl _ _) rfl
                    refine ⟨fun r wx hG hs hq hf => ?_, ?_⟩
                    · have e16 : r 16 = .int .i64 (K : Nat) := hs 16 rfl
                      clear hs hq hf
                      refine wanted_pos rfl ?_
                      unfold gives
                      go_simp
                      exact obC_q (Below.refl _ _) rfl
                    refine ⟨fun r wx hG hs hq hf => ?_, ?_⟩
                    · have h3 : r 79 = .int .i64 (K : Nat) := hf.1
                      clear hs hq hf
                      refine wanted_pos rfl ?_
                      unfold gives
                      have zw : IntKind.u64.wrap (K : Int) = (K : Int) := IntWalk.u64_in _ (by omega)
                      go_simp
                      exact obC_q (Below.refl _ _) rfl
                    refine ⟨fun r wx hG hs hq hf => ?_, ?_⟩
                    · have e4 : r 4 = .slice (some ⟨pb, po, none⟩) ((z + 1)) pc := hs 4 rfl
                      clear hs hq hf
                      refine wanted_pos rfl ?_
                      unfold gives
                      go_simp
                      exact obC_q (Below.refl _ _) rfl
                    refine ⟨fun r wx hG hs hq hf => ?_, ?_⟩
                    · have e17 : r 17 = .int .i64 (z : Nat) := hs 17 rfl
                      clear hs hq hf
                      refine wanted_pos rfl ?_
                      unfold gives
                      go_simp
                      exact obC_q (Below.refl _ _) rfl
                    refine ⟨fun r wx hG hs hq hf => ?_, ?_⟩
                    · have h5 : r 81 = .slice (some ⟨pb, po, none⟩) ((z + 1)) pc := hf.1
                      have h6 : r 82 = .int .i64 (z : Nat) := hf.2.1
                      clear hs hq hf
                      refine wanted_pos rfl ?_
                      unfold gives
                      have z0 : (0 : Int) ≤ (z : Int) := by omega
                      have z1 : (z : Int) ≤ (pc : Int) := by omega
                      go_simp
                      exact obC_q (Below.refl _ _) rfl
                    refine ⟨fun r wx hG hs hq hf => ?_, ?_⟩
                    · have h0 : r 76 = .int .i64 W := hf.1
                      have h1 : r 77 = .agg (bv h).toArray := hf.2.1
                      have h2 : r 78 = .int .u64 j := hf.2.2.1
                      have h4 : r 80 = .int .u64 (K : Nat) := hf.2.2.2.1
                      have h7 : r 83 = .slice (some ⟨pb, po, none⟩) z pc := hf.2.2.2.2.1
                      clear hs hq hf
                      refine wanted_pos rfl ?_
                      unfold gives
                      go_simp
                      refine (HCB.out wx hG).mono ?_
                      rintro e wy ⟨rfl, hb1⟩
                      exact ⟨_, rfl, obC_q hb1 rfl⟩
                    refine ⟨fun r wx hG hs hq hf => ?_, ?_⟩
                    · have h8 : r 84 = .tuple #[.agg (bv ru).toArray, .int .i64 0] := hf.1
                      clear hs hq hf
                      refine wanted_pos rfl ?_
                      unfold gives
                      go_simp
                      exact obC_q (Below.refl _ _) rfl
                    refine ⟨fun r wx hG hs hq hf => ?_, ?_⟩
                    · have h9 : r 75 = .tuple #[.agg (bv ru).toArray, .int .i64 0] := hf.1
                      clear hs hq hf
                      refine wanted_pos rfl ?_
                      unfold gives
                      go_simp
                      exact obC_q (Below.refl _ _) rfl
                    refine ⟨fun r wx hG hs hq hf => ?_, ?_⟩
                    · have h9 : r 75 = .tuple #[.agg (bv ru).toArray, .int .i64 0] := hf.1
                      clear hs hq hf
                      refine wanted_pos rfl ?_
                      unfold gives
                      go_simp
                      exact obC_q (Below.refl _ _) rfl
                    refine ⟨fun r wx hG hs hq hf => ?_, ?_⟩
                    · clear hs hq hf
                      refine wanted_pos rfl ?_
                      unfold gives
                      go_simp
                      exact obC_al rfl (Nat.le_refl _) (heap_alloc_new _ _) ((Below.refl _ _).alloc (Nat.le_refl _) _)
                    refine ⟨fun r wx hG hs hq hf => ?_, ?_⟩
                    · have h12 : ∃ g, r 19 = .pointer (some ⟨g, 0, none⟩) ∧ wb.heap.size ≤ g ∧ wx.heap[g]? = some (.cells (bv (zs 32)).toArray 35 (0, 0)) := hf.1
                      have h10 : r 85 = .agg (bv ru).toArray := hf.2.1
                      clear hs hq hf
                      refine wanted_pos rfl ?_
                      unfold gives
                      obtain ⟨g, hg1, hg2, hg3⟩ := h12
                      refine gives_store_row 35 _ _ rfl g (bv ru) hg1 h10 (bv (zs 32)) 35 hg3 (hInfo' _ HPR.out.2) (by first | rfl | (rw [bv_length, bv_length, HPR.out.2]; simp [zs])) (bv_one _) ?_
                      intro wy h1 h2
                      exact obC_sa hg1 hg2 h2 h1
                    refine ⟨fun r wx hG hs hq hf => ?_, ?_⟩
                    · have h11 : r 86 = .int .i64 0 := hf.1
                      have h13 : ∃ g, r 19 = .pointer (some ⟨g, 0, none⟩) ∧ wb.heap.size ≤ g ∧ wx.heap[g]? = some (.cells (bv ru).toArray 35 (0, 0)) := hf.2.1
                      clear hs hq hf
                      refine wanted_pos rfl ?_
                      unfold gives
                      go_simp
                      exact obC_q (Below.refl _ _) rfl
                    exact trivial
                  case hend =>
                    intro u wz hG hfin
                    have z13 : ∃ g, u 12 = .pointer (some ⟨g, 0, none⟩) ∧ wb.heap.size ≤ g ∧ wz.heap[g]? = some (.cells (bv ru).toArray 35 (0, 0)) := hfin 13 (by decide) (by kernel_rfl)
                    have z14 : u 14 = .int .i64 0 := hfin 14 (by decide) (by kernel_rfl)
                    clear hfin
                    obtain ⟨ga12, hga12, hgb12, hgr12⟩ := z13
                    simp only [fill]
                    have HZ2 := Lib.hid (And.intro hgr12 (show Below wb.heap.size wb wz from hG.below (Nat.le_refl _) (by simp)))
                    clear hG
                    obtain ⟨wc, hwc⟩ : ∃ q, q = wz := ⟨_, rfl⟩
                    subst hwc
                    obtain ⟨gr, hgre⟩ : ∃ q, q = ga12 := ⟨_, rfl⟩
                    have HRU := Lib.hid (fun wx (hb : Below wc.heap.size wc wx) => (show wx.heap[gr]? = some (.cells (bv ru).toArray 35 (0, 0)) by rw [hgre]; exact (hb.block _ (Array.getElem?_eq_some_iff.1 HZ2.out.1).1).trans HZ2.out.1))
                    have HBC := Lib.hid (HBB.out.trans (HZ2.out.2.mono HBB.out.size))
                    have HRG := Lib.hid (fun wx (hb : Below wc.heap.size wc wx) => range_keepS HPQ.out.1 (HBC.out.trans (hb.mono HBC.out.size)))
                    have hgp : u 12 = .pointer (some ⟨gr, 0, none⟩) := by rw [hgre]; exact hga12
                    rw [hgp]
                    clear hga12 hgr12 hgb12 hgre
                    go_simp
                    go_upto_region 16 with fail
                    refine wp_region_steps [some 87, some 88, some 89, some 90, some 91, some 92, some 21] [] (p16F pb po pc z gr ru ph) (fun _ wx wy => Below wx.heap.size wx wy) (fun wx => Below wc.heap.size wc wx) (by kernel_rfl) (by kernel_rfl) rfl (by kernel_rfl) (Below.refl _ _).drew (fun _ wx => Below.refl _ _) (fun _ wx wy h k => h.trans (k.mono h.size)) ?hF ?hstep ?hend
                    case hF =>
                      exact ⟨fun _ _ _ _ _ _ h => h, ⟨fun _ _ _ _ _ _ h => h, ⟨fun _ _ _ _ _ _ h => h, ⟨fun _ _ _ _ _ _ h => h, ⟨fun _ _ _ _ _ _ h => h, ⟨fun _ _ _ _ _ k h => Rd.keep h k, ⟨fun _ _ _ _ _ k h => Rd.keep h k, trivial⟩⟩⟩⟩⟩⟩⟩
                    case hstep =>
                      refine ⟨fun r wx hG hs hq hf => ?_, ?_⟩
                      · have e19 : r 19 = .pointer (some ⟨gr, 0, none⟩) := hs 19 rfl
                        refine (if_pos rfl).symm ▸ ?_
                        clear hs hq hf
                        unfold gives
                        refine gives_load_row 35 _ rfl gr e19 35 _ (0, 0) _ (HRU.out wx hG) Tryd.underlying35 rfl (hInfo _ HPR.out.2) ?_
                        exact ⟨Below.refl _ _, rfl⟩
                      refine ⟨fun r wx hG hs hq hf => ?_, ?_⟩
                      · have e4 : r 4 = .slice (some ⟨pb, po, none⟩) (z + 1) pc := hs 4 rfl
                        refine (if_pos rfl).symm ▸ ?_
                        clear hs hq hf
                        unfold gives
                        go_simp
                        exact ⟨Below.refl _ _, rfl⟩
                      refine ⟨fun r wx hG hs hq hf => ?_, ?_⟩
                      · have e17 : r 17 = .int .i64 z := hs 17 rfl
                        refine (if_pos rfl).symm ▸ ?_
                        clear hs hq hf
                        unfold gives
                        go_simp
                        exact ⟨Below.refl _ _, rfl⟩
                      refine ⟨fun r wx hG hs hq hf => ?_, ?_⟩
                      · have h1 : r 88 = .slice (some ⟨pb, po, none⟩) (z + 1) pc := hf.1
                        have h2 : r 89 = .int .i64 z := hf.2.1
                        refine (if_pos rfl).symm ▸ ?_
                        clear hs hq hf
                        unfold gives
                        have z0 : (0 : Int) ≤ (z : Int) := by omega
                        have z1 : (z : Int) < ((z + 1 : Nat) : Int) := by omega
                        have z2 : (z : Int) < (z : Int) + 1 := by omega
                        go_simp
                        exact ⟨Below.refl _ _, rfl⟩
                      refine ⟨fun r wx hG hs hq hf => ?_, ?_⟩
                      · have h3 : r 90 = .pointer (some ⟨pb, po + z * 32, none⟩) := hf.1
                        refine (if_pos rfl).symm ▸ ?_
                        clear hs hq hf
                        unfold gives
                        refine gives_load_mid 35 _ rfl pb (po + z * 32) h3 (bv ph) _ (HRG.out wx hG) Tryd.underlying35 rfl (hInfo' _ HPR.out.1) ?_
                        exact ⟨Below.refl _ _, rfl⟩
                      refine ⟨fun r wx hG hs hq hf => ?_, ?_⟩
                      · have h0 : r 87 = .agg (bv ru).toArray := hf.1
                        have h4 : r 91 = .agg (bv ph).toArray := hf.2.1
                        refine (if_pos rfl).symm ▸ ?_
                        clear hs hq hf
                        unfold gives
                        go_simp
                        refine (refNodeText_any ru ph wx HPR.out.2 HPR.out.1).mono ?_
                        rintro e wy ⟨v', rfl, hq1, hb1⟩
                        rw [show (1 :: (ru ++ ph)).length = 65 by simp [HPR.out.1, HPR.out.2]] at hq1
                        exact ⟨_, rfl, hb1, hq1⟩
                      refine ⟨fun r wx hG hs hq hf => ?_, ?_⟩
                      · have h5 : Rd wx 1 (r 92) 65 (bv (1 :: (ru ++ ph))) := hf.1
                        refine (if_pos rfl).symm ▸ ?_
                        clear hs hq hf
                        unfold gives
                        go_simp
                        exact ⟨Below.refl _ _, h5⟩
                      exact trivial
                    case hend =>
                      intro u wz hG hfin
                      have z6 : Rd wz 1 (u 6) 65 (bv (1 :: (ru ++ ph))) := hfin 6 (by decide) (by kernel_rfl)
                      clear hfin
                      simp only [fill]
                      have HZ := Lib.hid (And.intro z6 (And.intro ((HHR.out.keep HZ2.out.2).keep hG) (HBC.out.trans (hG.mono HBC.out.size))))
                      obtain ⟨xa2, xc2, hxf⟩ := z6.form
                      rw [hxf] at HZ ⊢
                      clear z6 hG hxf
                      have hs1 := string_of_bytes (P := Tryd.prog) (w := wz) Tryd.underlying25 Tryd.underlying5 Tryd.underlying9 (l := 1 :: (ru ++ ph)) (v := .slice xa2 65 xc2) (by rw [show (1 :: (ru ++ ph)).length = 65 by simp [HPR.out.1, HPR.out.2]]; exact HZ.out.1)
                      have hs2 := string_of_bytes (P := Tryd.prog) (w := wz) Tryd.underlying25 Tryd.underlying5 Tryd.underlying9 (l := tx (hw W) ll) (v := .slice ha 65 hc) (by rw [HT65.out]; exact HZ.out.2.1)
                      obtain ⟨xT, hxT⟩ : ∃ q, q = 1 :: (ru ++ ph) := ⟨_, rfl⟩
                      obtain ⟨xR, hxR⟩ : ∃ q, q = tx (hw W) ll := ⟨_, rfl⟩
                      rw [← hxT] at hs1
                      rw [← hxR] at hs2
                      have HXX := Lib.hid (And.intro hxT hxR)
                      have RZ := Lib.hid (And.intro ((HZ.out.2.2.block _ (Array.getElem?_eq_some_iff.1 RZ.out.1).1).trans RZ.out.1) (RZ.out.2.trans (HZ.out.2.2.mono RZ.out.2.size)))
                      by_cases hq : xT = xR
                      · have hqb : (xT == xR) = true := beq_iff_eq.2 hq
                        have HQ2 := Lib.hid hq
                        clear hq hxT hxR
                        go_simp
                        go_wp2_with fail
                        go_roundw
                        case rel =>
                          refine ⟨f, K, j, z, ll.take K, qs, _, _, _, _, by first | rfl | go_num, by first | rfl | go_num, rfl, by omega, by omega, Lib.hid ⟨?_, HPQ.out.2.2.2, by have := HI.out.2.2.1; omega, fun t h => HI.out.2.2.2.1 t (List.mem_of_mem_take h), HPQ.out.2.2.1, HSZ.out, ?_, ?_, HPQ.out.2.1.keep HZ.out.2.2, HI.out.2.2.2.2.2.2.2.2.2.trans (HZ.out.2.2.mono HI.out.2.2.2.2.2.2.2.2.2.size)⟩⟩
                          · rw [List.length_take, HI.out.1]; omega
                          · have h := HGF.out
                            rwa [if_neg (by rw [← HXX.out.1, ← HXX.out.2]; simp [HQ2.out])] at h
                          · exact (HTV.out.take HI.out.1 K (by omega)).keep HZ.out.2.2
                        case measure => simp; omega
                      · have hqb : (xT == xR) = false := beq_eq_false_iff_ne.2 hq
                        have HGF2 := Lib.hid (show PF = (xR, xT) by
                          have h := HGF.out
                          rw [if_pos (by rw [← HXX.out.1, ← HXX.out.2]; exact hq)] at h
                          rw [← h, HXX.out.1, HXX.out.2])
                        have hlT : xT.length = 65 := by rw [hxT]; simp [HPR.out.1, HPR.out.2]
                        have hlR : xR.length = 65 := by rw [hxR]; exact HT65.out
                        have HMM := Lib.hid (And.intro hlR hlT)
                        have hx1 : Rd wz 1 (.slice ha 65 hc) 65 (bv xR) := by rw [hxR]; exact HZ.out.2.1
                        have hx2 : Rd wz 1 (.slice xa2 65 xc2) 65 (bv xT) := by rw [hxT]; exact HZ.out.1
                        have HS6 := Lib.hid (And.intro (s2_facts (a := .slice ha 65 hc) (b := .slice xa2 65 xc2) RZ.out.1) (And.intro (hx1.s2 (a := .slice ha 65 hc) (b := .slice xa2 65 xc2) RZ.out.1) (hx2.s2 (a := .slice ha 65 hc) (b := .slice xa2 65 xc2) RZ.out.1)))
                        have h60 : wz.cell? ⟨w.heap.size, 0, none⟩ = some (.slice none 0 0) := cell_of_rowp RZ.out.1 rfl
                        have h61 : wz.cell? ⟨w.heap.size, 1, none⟩ = some (.slice none 0 0) := cell_of_rowp RZ.out.1 rfl
                        have z60 : wz.frozen? ⟨w.heap.size, 0, none⟩ = false := by simp [World.frozen?, RZ.out.1]
                        have z61 : wz.frozen? ⟨w.heap.size, 1, none⟩ = false := by simp [World.frozen?, RZ.out.1]
                        clear hx1 hx2 hlT hlR hq hxT hxR
                        go_simp
                        go_wp2_with fail
                        have hld := pair_ld Tryd.prog _ w.heap.size _ _ _ 27 HS6.out.1.1 Tryd.underlying27 rfl pairInfo
                        have hbz := below_ofp RZ.out.2 (Nat.le_refl _) HS6.out.1.2
                        have k1 := HS6.out.2.1
                        have k2 := HS6.out.2.2
                        obtain ⟨w9, hw9⟩ : ∃ x, x = (wz.setCell ⟨w.heap.size, 0, none⟩ (.slice ha 65 hc)).setCell ⟨w.heap.size, 1, none⟩ (.slice xa2 65 xc2) := ⟨_, rfl⟩
                        rw [← hw9] at hld hbz k1 k2 ⊢
                        refine bodyPost_ret (v := .tuple #[.agg #[.slice ha 65 hc, .slice xa2 65 xc2], .int .i64 0]) ?_ ?_ ?_
                        · simp [results, Tryd.results16, asAddr, hld]
                        · rfl
                        · refine (show PairE w w9 AN _ from ?_)
                          rw [HAN.out, HGF2.out]
                          exact ⟨_, _, _, _, by rw [HMM.out.1, HMM.out.2], by rw [HMM.out.1]; exact k1, by rw [HMM.out.2]; exact k2, hbz⟩
                · rw [path_right (hw W) f ll j qs ph x (by omega) (by rw [hkl, ← hK]; omega), hkl, ← hK] at hgf
                  rw [if_neg (by omega)] at hzz
                  have hsz : z = sz 64 (j - K) (k - K - 1) := by omega
                  have HCB0 := Lib.hid (fun wx (hb : Below wr.heap.size wr wx) => (show Calls Tryd.prog 49 #[.int .i64 W, .agg (bv h).toArray, .int .u64 ((j - K : Nat) : Int), .int .u64 ((k - K : Nat) : Int), .slice (some ⟨pb, po, none⟩) z pc] wx fun e w' => e = .returned (.tuple #[.agg (bv (cl (nodeH W) 64 (j - K) (k - K - 1) h qs)).toArray, .int .i64 0]) ∧ Below wx.heap.size wx w' by
                    have hcc := refClimb_any W h (j - K) (k - K) qs (some ⟨pb, po, none⟩) pc wx HARG.out.2.2.2.2.2.1 HHL.out (by omega) (by omega) hq32 (by rw [hql]; omega) (by rw [hql]; exact hrq.keep hb) ((HARG.out.2.2.1.keepB HBr.out).keepB hb)
                    have hE0 : climbE (j - K) (k - K) qs.length = 0 := by rw [climbE, if_neg (by omega), if_neg (by rw [sizeN, if_pos (by omega), hql]; omega), if_neg (by rw [sizeN, if_pos (by omega), hql]; omega)]
                    rw [climbH, hE0, if_pos rfl, hql] at hcc
                    exact hcc))
                  have hru32 := cl_32 W 64 (j - K) (k - K - 1) h qs HHL.out
                  obtain ⟨ru, hru⟩ : ∃ q, q = cl (nodeH W) 64 (j - K) (k - K - 1) h qs := ⟨_, rfl⟩
                  rw [← hru] at HCB0 hru32
                  have HGF := Lib.hid (show (if 1 :: (ph ++ ru) ≠ tx (hw W) ll then (tx (hw W) ll, 1 :: (ph ++ ru)) else pathF (hw W) f (ll.drop K) (j - K) qs x) = PF by rw [← hgf, hru, HLF.out]; rfl)
                  have HPR := Lib.hid (And.intro hph32 hru32)
                  have HSZ := Lib.hid hsz
                  have yj : ¬ (j : Int) < (K : Int) := by omega
                  clear hgf hru hru32 hsz hzz hst hrg hrq hq32 hql hph32 hqs hqe hcell hcap hph hpl hrdp htxv hlcap hts hBr htx65 hkl hK hlat
                  go_wp2_with fail
                  refine (HSP.out _).mono ?_
                  rintro e ws ⟨rfl, hbs⟩
                  have HBs := Lib.hid hbs
                  clear hbs
                  go_wp2_with fail
                  refine (HHS.out _ HBs.out).mono ?_
                  rintro e wb ⟨vh, rfl, hhr, hba⟩
                  obtain ⟨ha, hc, rfl⟩ := hhr.form
                  have HBB := Lib.hid (HBs.out.trans (hba.mono HBs.out.size))
                  have HHR := Lib.hid hhr
                  clear hhr hba
                  go_upto_region 20 with fail
                  have HRI := Lib.hid (show wb.heap[g13]? = some (.cells (bv h).toArray 35 (0, 0)) by
                    have h1 := ((HG45.out.trans (HG56.out.mono HG45.out.size)).block _ (Array.getElem?_eq_some_iff.1 HR13.out).1).trans HR13.out
                    have h1' := (HI.out.2.2.2.2.2.2.2.2.2.block _ (Array.getElem?_eq_some_iff.1 h1).1).trans h1
                    exact (HBB.out.block _ (Array.getElem?_eq_some_iff.1 h1').1).trans h1')
                  have HOL := Lib.hid HHL.out
                  have HCB := Lib.hid (fun wx (hb : KeptT [] wb wx) => HCB0.out wx (HBB.out.trans (hb.below HBB.out.size (by simp))))
                  have hz := (zero_of_info info32).1
                  refine wp_region_desc [some 105, some 106, some 107, some 108, some 109, some 110, some 111, some 112, some 113, some 114, some 115, some 116, some 117, some 118, some 119, some 104, some 120, some 121, some 22, none, some 23] [] [] [(0, 0), (0, 0), (0, 0), (0, 0), (0, 0), (0, 0), (0, 0), (0, 0), (0, 0), (0, 0), (0, 0), (0, 0), (0, 0), (0, 0), (0, 0), (0, 0), (0, 0), (0, 0), (1, 0), (3, 18), (0, 0)] [18] [] [] [] (p20P W g13 lb lo_ lc k j pb po pc z K h ru wb) (fun _ _ _ => True) (p20O W g13 lb lo_ lc k j pb po pc z K h ru wb) (by kernel_rfl) (by kernel_rfl) rfl (by kernel_rfl) (by kernel_rfl) (by kernel_rfl) rfl trivial (by simp; try omega) rfl (fun i hi => (no4 (by kernel_rfl) i hi).elim) ?hstep ?hend
                  case hstep =>
                    refine ⟨fun r wx hG hs hq hf => ?_, ?_⟩
                    · have e0 : r 0 = .int .i64 W := hs 0 rfl
                      clear hs hq hf
                      refine wanted_pos rfl ?_
                      unfold gives
                      go_simp
                      exact obC_q (Below.refl _ _) rfl
                    refine ⟨fun r wx hG hs hq hf => ?_, ?_⟩
                    · have e13 : r 13 = .pointer (some ⟨g13, 0, none⟩) := hs 13 rfl
                      clear hs hq hf
                      refine wanted_pos rfl ?_
                      unfold gives
                      refine gives_load_row 35 _ rfl g13 e13 35 _ (0, 0) _ (hG.row (by simp; try omega) HRI.out) Tryd.underlying35 rfl (hInfo _ HOL.out) ?_
                      exact obC_q (Below.refl _ _) rfl
                    refine ⟨fun r wx hG hs hq hf => ?_, ?_⟩
                    · have e2 : r 2 = .int .u64 j := hs 2 rfl
                      clear hs hq hf
                      refine wanted_pos rfl ?_
                      unfold gives
                      go_simp
                      exact obC_q (Below.refl _ _) rfl
                    refine ⟨fun r wx hG hs hq hf => ?_, ?_⟩
                    · have e16 : r 16 = .int .i64 (K : Nat) := hs 16 rfl
                      clear hs hq hf
                      refine wanted_pos rfl ?_
                      unfold gives
                      go_simp
                      exact obC_q (Below.refl _ _) rfl
                    refine ⟨fun r wx hG hs hq hf => ?_, ?_⟩
                    · have h3 : r 108 = .int .i64 (K : Nat) := hf.1
                      clear hs hq hf
                      refine wanted_pos rfl ?_
                      unfold gives
                      have zw : IntKind.u64.wrap (K : Int) = (K : Int) := IntWalk.u64_in _ (by omega)
                      go_simp
                      exact obC_q (Below.refl _ _) rfl
                    refine ⟨fun r wx hG hs hq hf => ?_, ?_⟩
                    · have h2 : r 107 = .int .u64 j := hf.1
                      have h4 : r 109 = .int .u64 (K : Nat) := hf.2.1
                      clear hs hq hf
                      refine wanted_pos rfl ?_
                      unfold gives
                      have zw : IntKind.u64.wrap ((j : Int) - (K : Int)) = ((j - K : Nat) : Int) := (IntWalk.u64_in _ (by omega)).trans (by omega)
                      go_simp
                      exact obC_q (Below.refl _ _) rfl
                    refine ⟨fun r wx hG hs hq hf => ?_, ?_⟩
                    · have e1 : r 1 = .slice (some ⟨lb, lo_, none⟩) k lc := hs 1 rfl
                      clear hs hq hf
                      refine wanted_pos rfl ?_
                      unfold gives
                      go_simp
                      exact obC_q (Below.refl _ _) rfl
                    refine ⟨fun r wx hG hs hq hf => ?_, ?_⟩
                    · have h6 : r 111 = .slice (some ⟨lb, lo_, none⟩) k lc := hf.1
                      clear hs hq hf
                      refine wanted_pos rfl ?_
                      unfold gives
                      go_simp
                      exact obC_q (Below.refl _ _) rfl
                    refine ⟨fun r wx hG hs hq hf => ?_, ?_⟩
                    · have e16 : r 16 = .int .i64 (K : Nat) := hs 16 rfl
                      clear hs hq hf
                      refine wanted_pos rfl ?_
                      unfold gives
                      go_simp
                      exact obC_q (Below.refl _ _) rfl
                    refine ⟨fun r wx hG hs hq hf => ?_, ?_⟩
                    · have h7 : r 112 = .int .i64 (k : Nat) := hf.1
                      have h8 : r 113 = .int .i64 (K : Nat) := hf.2.1
                      clear hs hq hf
                      refine wanted_pos rfl ?_
                      unfold gives
                      have zw : IntKind.i64.wrap ((k : Int) - (K : Int)) = ((k - K : Nat) : Int) := (IntWalk.i64_in _ (by omega)).trans (by omega)
                      go_simp
                      exact obC_q (Below.refl _ _) rfl
                    refine ⟨fun r wx hG hs hq hf => ?_, ?_⟩
                    · have h9 : r 114 = .int .i64 ((k - K : Nat) : Int) := hf.1
                      clear hs hq hf
                      refine wanted_pos rfl ?_
                      unfold gives
                      have zw : IntKind.u64.wrap ((k - K : Nat) : Int) = ((k - K : Nat) : Int) := IntWalk.u64_in _ (by omega)
                      go_simp
                      exact obC_q (Below.refl _ _) rfl
                    refine ⟨fun r wx hG hs hq hf => ?_, ?_⟩
                    · have e4 : r 4 = .slice (some ⟨pb, po, none⟩) ((z + 1)) pc := hs 4 rfl
                      clear hs hq hf
                      refine wanted_pos rfl ?_
                      unfold gives
                      go_simp
                      exact obC_q (Below.refl _ _) rfl
                    refine ⟨fun r wx hG hs hq hf => ?_, ?_⟩
                    · have e17 : r 17 = .int .i64 (z : Nat) := hs 17 rfl
                      clear hs hq hf
                      refine wanted_pos rfl ?_
                      unfold gives
                      go_simp
                      exact obC_q (Below.refl _ _) rfl
                    refine ⟨fun r wx hG hs hq hf => ?_, ?_⟩
                    · have h11 : r 116 = .slice (some ⟨pb, po, none⟩) ((z + 1)) pc := hf.1
                      have h12 : r 117 = .int .i64 (z : Nat) := hf.2.1
                      clear hs hq hf
                      refine wanted_pos rfl ?_
                      unfold gives
                      have z0 : (0 : Int) ≤ (z : Int) := by omega
                      have z1 : (z : Int) ≤ (pc : Int) := by omega
                      go_simp
                      exact obC_q (Below.refl _ _) rfl
                    refine ⟨fun r wx hG hs hq hf => ?_, ?_⟩
                    · have h0 : r 105 = .int .i64 W := hf.1
                      have h1 : r 106 = .agg (bv h).toArray := hf.2.1
                      have h5 : r 110 = .int .u64 ((j - K : Nat) : Int) := hf.2.2.1
                      have h10 : r 115 = .int .u64 ((k - K : Nat) : Int) := hf.2.2.2.1
                      have h13 : r 118 = .slice (some ⟨pb, po, none⟩) z pc := hf.2.2.2.2.1
                      clear hs hq hf
                      refine wanted_pos rfl ?_
                      unfold gives
                      go_simp
                      refine (HCB.out wx hG).mono ?_
                      rintro e wy ⟨rfl, hb1⟩
                      exact ⟨_, rfl, obC_q hb1 rfl⟩
                    refine ⟨fun r wx hG hs hq hf => ?_, ?_⟩
                    · have h14 : r 119 = .tuple #[.agg (bv ru).toArray, .int .i64 0] := hf.1
                      clear hs hq hf
                      refine wanted_pos rfl ?_
                      unfold gives
                      go_simp
                      exact obC_q (Below.refl _ _) rfl
                    refine ⟨fun r wx hG hs hq hf => ?_, ?_⟩
                    · have h15 : r 104 = .tuple #[.agg (bv ru).toArray, .int .i64 0] := hf.1
                      clear hs hq hf
                      refine wanted_pos rfl ?_
                      unfold gives
                      go_simp
                      exact obC_q (Below.refl _ _) rfl
                    refine ⟨fun r wx hG hs hq hf => ?_, ?_⟩
                    · have h15 : r 104 = .tuple #[.agg (bv ru).toArray, .int .i64 0] := hf.1
                      clear hs hq hf
                      refine wanted_pos rfl ?_
                      unfold gives
                      go_simp
                      exact obC_q (Below.refl _ _) rfl
                    refine ⟨fun r wx hG hs hq hf => ?_, ?_⟩
                    · clear hs hq hf
                      refine wanted_pos rfl ?_
                      unfold gives
                      go_simp
                      exact obC_al rfl (Nat.le_refl _) (heap_alloc_new _ _) ((Below.refl _ _).alloc (Nat.le_refl _) _)
                    refine ⟨fun r wx hG hs hq hf => ?_, ?_⟩
                    · have h18 : ∃ g, r 22 = .pointer (some ⟨g, 0, none⟩) ∧ wb.heap.size ≤ g ∧ wx.heap[g]? = some (.cells (bv (zs 32)).toArray 35 (0, 0)) := hf.1
                      have h16 : r 120 = .agg (bv ru).toArray := hf.2.1
                      clear hs hq hf
                      refine wanted_pos rfl ?_
                      unfold gives
                      obtain ⟨g, hg1, hg2, hg3⟩ := h18
                      refine gives_store_row 35 _ _ rfl g (bv ru) hg1 h16 (bv (zs 32)) 35 hg3 (hInfo' _ HPR.out.2) (by first | rfl | (rw [bv_length, bv_length, HPR.out.2]; simp [zs])) (bv_one _) ?_
                      intro wy h1 h2
                      exact obC_sa hg1 hg2 h2 h1
                    refine ⟨fun r wx hG hs hq hf => ?_, ?_⟩
                    · have h17 : r 121 = .int .i64 0 := hf.1
                      have h19 : ∃ g, r 22 = .pointer (some ⟨g, 0, none⟩) ∧ wb.heap.size ≤ g ∧ wx.heap[g]? = some (.cells (bv ru).toArray 35 (0, 0)) := hf.2.1
                      clear hs hq hf
                      refine wanted_pos rfl ?_
                      unfold gives
                      go_simp
                      exact obC_q (Below.refl _ _) rfl
                    exact trivial
                  case hend =>
                    intro u wz hG hfin
                    have z19 : ∃ g, u 18 = .pointer (some ⟨g, 0, none⟩) ∧ wb.heap.size ≤ g ∧ wz.heap[g]? = some (.cells (bv ru).toArray 35 (0, 0)) := hfin 19 (by decide) (by kernel_rfl)
                    have z20 : u 20 = .int .i64 0 := hfin 20 (by decide) (by kernel_rfl)
                    clear hfin
                    obtain ⟨ga18, hga18, hgb18, hgr18⟩ := z19
                    simp only [fill]
                    have HZ2 := Lib.hid (And.intro hgr18 (show Below wb.heap.size wb wz from hG.below (Nat.le_refl _) (by simp)))
                    clear hG
                    obtain ⟨wc, hwc⟩ : ∃ q, q = wz := ⟨_, rfl⟩
                    subst hwc
                    obtain ⟨gr, hgre⟩ : ∃ q, q = ga18 := ⟨_, rfl⟩
                    have HRU := Lib.hid (fun wx (hb : Below wc.heap.size wc wx) => (show wx.heap[gr]? = some (.cells (bv ru).toArray 35 (0, 0)) by rw [hgre]; exact (hb.block _ (Array.getElem?_eq_some_iff.1 HZ2.out.1).1).trans HZ2.out.1))
                    have HBC := Lib.hid (HBB.out.trans (HZ2.out.2.mono HBB.out.size))
                    have HRG := Lib.hid (fun wx (hb : Below wc.heap.size wc wx) => range_keepS HPQ.out.1 (HBC.out.trans (hb.mono HBC.out.size)))
                    have hgp : u 18 = .pointer (some ⟨gr, 0, none⟩) := by rw [hgre]; exact hga18
                    rw [hgp]
                    clear hga18 hgr18 hgb18 hgre
                    go_simp
                    go_upto_region 21 with fail
                    refine wp_region_steps [some 122, some 123, some 124, some 125, some 126, some 127, some 24] [] (p21F pb po pc z gr ru ph) (fun _ wx wy => Below wx.heap.size wx wy) (fun wx => Below wc.heap.size wc wx) (by kernel_rfl) (by kernel_rfl) rfl (by kernel_rfl) (Below.refl _ _).drew (fun _ wx => Below.refl _ _) (fun _ wx wy h k => h.trans (k.mono h.size)) ?hF ?hstep ?hend
                    case hF =>
                      exact ⟨fun _ _ _ _ _ _ h => h, ⟨fun _ _ _ _ _ _ h => h, ⟨fun _ _ _ _ _ _ h => h, ⟨fun _ _ _ _ _ _ h => h, ⟨fun _ _ _ _ _ _ h => h, ⟨fun _ _ _ _ _ k h => Rd.keep h k, ⟨fun _ _ _ _ _ k h => Rd.keep h k, trivial⟩⟩⟩⟩⟩⟩⟩
                    case hstep =>
                      refine ⟨fun r wx hG hs hq hf => ?_, ?_⟩
                      · have e4 : r 4 = .slice (some ⟨pb, po, none⟩) (z + 1) pc := hs 4 rfl
                        refine (if_pos rfl).symm ▸ ?_
                        clear hs hq hf
                        unfold gives
                        go_simp
                        exact ⟨Below.refl _ _, rfl⟩
                      refine ⟨fun r wx hG hs hq hf => ?_, ?_⟩
                      · have e17 : r 17 = .int .i64 z := hs 17 rfl
                        refine (if_pos rfl).symm ▸ ?_
                        clear hs hq hf
                        unfold gives
                        go_simp
                        exact ⟨Below.refl _ _, rfl⟩
                      refine ⟨fun r wx hG hs hq hf => ?_, ?_⟩
                      · have h0 : r 122 = .slice (some ⟨pb, po, none⟩) (z + 1) pc := hf.1
                        have h1 : r 123 = .int .i64 z := hf.2.1
                        refine (if_pos rfl).symm ▸ ?_
                        clear hs hq hf
                        unfold gives
                        have z0 : (0 : Int) ≤ (z : Int) := by omega
                        have z1 : (z : Int) < ((z + 1 : Nat) : Int) := by omega
                        have z2 : (z : Int) < (z : Int) + 1 := by omega
                        go_simp
                        exact ⟨Below.refl _ _, rfl⟩
                      refine ⟨fun r wx hG hs hq hf => ?_, ?_⟩
                      · have h2 : r 124 = .pointer (some ⟨pb, po + z * 32, none⟩) := hf.1
                        refine (if_pos rfl).symm ▸ ?_
                        clear hs hq hf
                        unfold gives
                        refine gives_load_mid 35 _ rfl pb (po + z * 32) h2 (bv ph) _ (HRG.out wx hG) Tryd.underlying35 rfl (hInfo' _ HPR.out.1) ?_
                        exact ⟨Below.refl _ _, rfl⟩
                      refine ⟨fun r wx hG hs hq hf => ?_, ?_⟩
                      · have e22 : r 22 = .pointer (some ⟨gr, 0, none⟩) := hs 22 rfl
                        refine (if_pos rfl).symm ▸ ?_
                        clear hs hq hf
                        unfold gives
                        refine gives_load_row 35 _ rfl gr e22 35 _ (0, 0) _ (HRU.out wx hG) Tryd.underlying35 rfl (hInfo _ HPR.out.2) ?_
                        exact ⟨Below.refl _ _, rfl⟩
                      refine ⟨fun r wx hG hs hq hf => ?_, ?_⟩
                      · have h3 : r 125 = .agg (bv ph).toArray := hf.1
                        have h4 : r 126 = .agg (bv ru).toArray := hf.2.1
                        refine (if_pos rfl).symm ▸ ?_
                        clear hs hq hf
                        unfold gives
                        go_simp
                        refine (refNodeText_any ph ru wx HPR.out.1 HPR.out.2).mono ?_
                        rintro e wy ⟨v', rfl, hq1, hb1⟩
                        rw [show (1 :: (ph ++ ru)).length = 65 by simp [HPR.out.1, HPR.out.2]] at hq1
                        exact ⟨_, rfl, hb1, hq1⟩
                      refine ⟨fun r wx hG hs hq hf => ?_, ?_⟩
                      · have h5 : Rd wx 1 (r 127) 65 (bv (1 :: (ph ++ ru))) := hf.1
                        refine (if_pos rfl).symm ▸ ?_
                        clear hs hq hf
                        unfold gives
                        go_simp
                        exact ⟨Below.refl _ _, h5⟩
                      exact trivial
                    case hend =>
                      intro u wz hG hfin
                      have z6 : Rd wz 1 (u 6) 65 (bv (1 :: (ph ++ ru))) := hfin 6 (by decide) (by kernel_rfl)
                      clear hfin
                      simp only [fill]
                      have HZ := Lib.hid (And.intro z6 (And.intro ((HHR.out.keep HZ2.out.2).keep hG) (HBC.out.trans (hG.mono HBC.out.size))))
                      obtain ⟨xa2, xc2, hxf⟩ := z6.form
                      rw [hxf] at HZ ⊢
                      clear z6 hG hxf
                      have hs1 := string_of_bytes (P := Tryd.prog) (w := wz) Tryd.underlying25 Tryd.underlying5 Tryd.underlying9 (l := 1 :: (ph ++ ru)) (v := .slice xa2 65 xc2) (by rw [show (1 :: (ph ++ ru)).length = 65 by simp [HPR.out.1, HPR.out.2]]; exact HZ.out.1)
                      have hs2 := string_of_bytes (P := Tryd.prog) (w := wz) Tryd.underlying25 Tryd.underlying5 Tryd.underlying9 (l := tx (hw W) ll) (v := .slice ha 65 hc) (by rw [HT65.out]; exact HZ.out.2.1)
                      obtain ⟨xT, hxT⟩ : ∃ q, q = 1 :: (ph ++ ru) := ⟨_, rfl⟩
                      obtain ⟨xR, hxR⟩ : ∃ q, q = tx (hw W) ll := ⟨_, rfl⟩
                      rw [← hxT] at hs1
                      rw [← hxR] at hs2
                      have HXX := Lib.hid (And.intro hxT hxR)
                      have RZ := Lib.hid (And.intro ((HZ.out.2.2.block _ (Array.getElem?_eq_some_iff.1 RZ.out.1).1).trans RZ.out.1) (RZ.out.2.trans (HZ.out.2.2.mono RZ.out.2.size)))
                      by_cases hq : xT = xR
                      · have hqb : (xT == xR) = true := beq_iff_eq.2 hq
                        have HQ2 := Lib.hid hq
                        clear hq hxT hxR
                        go_simp
                        go_wp2_with fail
                        go_roundw
                        case rel =>
                          refine ⟨f, k - K, j - K, z, ll.drop K, qs, _, _, _, _, by first | rfl | go_num, by first | rfl | go_num, rfl, by omega, by omega, Lib.hid ⟨?_, HPQ.out.2.2.2, by have := HI.out.2.2.1; omega, fun t h => HI.out.2.2.2.1 t (List.mem_of_mem_drop h), HPQ.out.2.2.1, HSZ.out, ?_, ?_, HPQ.out.2.1.keep HZ.out.2.2, HI.out.2.2.2.2.2.2.2.2.2.trans (HZ.out.2.2.mono HI.out.2.2.2.2.2.2.2.2.2.size)⟩⟩
                          · rw [List.length_drop, HI.out.1]
                          · have h := HGF.out
                            rwa [if_neg (by rw [← HXX.out.1, ← HXX.out.2]; simp [HQ2.out])] at h
                          · exact (HTV.out.drop HI.out.1 K (by omega)).keep HZ.out.2.2
                        case measure => simp; omega
                      · have hqb : (xT == xR) = false := beq_eq_false_iff_ne.2 hq
                        have HGF2 := Lib.hid (show PF = (xR, xT) by
                          have h := HGF.out
                          rw [if_pos (by rw [← HXX.out.1, ← HXX.out.2]; exact hq)] at h
                          rw [← h, HXX.out.1, HXX.out.2])
                        have hlT : xT.length = 65 := by rw [hxT]; simp [HPR.out.1, HPR.out.2]
                        have hlR : xR.length = 65 := by rw [hxR]; exact HT65.out
                        have HMM := Lib.hid (And.intro hlR hlT)
                        have hx1 : Rd wz 1 (.slice ha 65 hc) 65 (bv xR) := by rw [hxR]; exact HZ.out.2.1
                        have hx2 : Rd wz 1 (.slice xa2 65 xc2) 65 (bv xT) := by rw [hxT]; exact HZ.out.1
                        have HS6 := Lib.hid (And.intro (s2_facts (a := .slice ha 65 hc) (b := .slice xa2 65 xc2) RZ.out.1) (And.intro (hx1.s2 (a := .slice ha 65 hc) (b := .slice xa2 65 xc2) RZ.out.1) (hx2.s2 (a := .slice ha 65 hc) (b := .slice xa2 65 xc2) RZ.out.1)))
                        have h60 : wz.cell? ⟨w.heap.size, 0, none⟩ = some (.slice none 0 0) := cell_of_rowp RZ.out.1 rfl
                        have h61 : wz.cell? ⟨w.heap.size, 1, none⟩ = some (.slice none 0 0) := cell_of_rowp RZ.out.1 rfl
                        have z60 : wz.frozen? ⟨w.heap.size, 0, none⟩ = false := by simp [World.frozen?, RZ.out.1]
                        have z61 : wz.frozen? ⟨w.heap.size, 1, none⟩ = false := by simp [World.frozen?, RZ.out.1]
                        clear hx1 hx2 hlT hlR hq hxT hxR
                        go_simp
                        go_wp2_with fail
                        have hld := pair_ld Tryd.prog _ w.heap.size _ _ _ 27 HS6.out.1.1 Tryd.underlying27 rfl pairInfo
                        have hbz := below_ofp RZ.out.2 (Nat.le_refl _) HS6.out.1.2
                        have k1 := HS6.out.2.1
                        have k2 := HS6.out.2.2
                        obtain ⟨w9, hw9⟩ : ∃ x, x = (wz.setCell ⟨w.heap.size, 0, none⟩ (.slice ha 65 hc)).setCell ⟨w.heap.size, 1, none⟩ (.slice xa2 65 xc2) := ⟨_, rfl⟩
                        rw [← hw9] at hld hbz k1 k2 ⊢
                        refine bodyPost_ret (v := .tuple #[.agg #[.slice ha 65 hc, .slice xa2 65 xc2], .int .i64 0]) ?_ ?_ ?_
                        · simp [results, Tryd.results16, asAddr, hld]
                        · rfl
                        · refine (show PairE w w9 AN _ from ?_)
                          rw [HAN.out, HGF2.out]
                          exact ⟨_, _, _, _, by rw [HMM.out.1, HMM.out.2], by rw [HMM.out.1]; exact k1, by rw [HMM.out.2]; exact k2, hbz⟩
    · have HQB := Lib.hid (show (hcm == rl) = false from beq_eq_false_iff_ne.2 hqb)
      clear hqb
      go_upto_region 6 with fail
      refine wp_region_steps [some 44, some 45, some 46, some 47, some 48] [] (p6bF W g14 tb tf tc n hcm rl) (fun _ wx wy => Below wx.heap.size wx wy) (fun wx => Below w4.heap.size w4 wx) (by kernel_rfl) (by kernel_rfl) rfl (by kernel_rfl) (Below.refl _ _).drew (fun _ wx => Below.refl _ _) (fun _ wx wy h k => h.trans (k.mono h.size)) ?hF ?hstep ?hend
      case hF =>
        exact ⟨fun _ _ _ _ _ _ h => h, ⟨fun _ _ _ _ _ _ h => h, ⟨fun _ _ _ _ _ _ h => h, ⟨fun _ _ _ _ _ _ h => h, ⟨fun _ _ _ _ _ _ h => h, trivial⟩⟩⟩⟩⟩
      case hstep =>
        refine ⟨fun r wx hG hs hq hf => ?_, ?_⟩
        · have e14 : r 14 = .pointer (some ⟨g14, 0, none⟩) := hs 14 rfl
          refine (if_pos rfl).symm ▸ ?_
          clear hs hq hf
          unfold gives
          refine gives_load_row 35 _ rfl g14 e14 35 _ (0, 0) _ (HR14.out wx hG) Tryd.underlying35 rfl (hInfo _ HLN.out.1) ?_
          exact ⟨Below.refl _ _, rfl⟩
        refine ⟨fun r wx hG hs hq hf => ?_, ?_⟩
        · have e0 : r 0 = .int .i64 W := hs 0 rfl
          refine (if_pos rfl).symm ▸ ?_
          clear hs hq hf
          unfold gives
          go_simp
          exact ⟨Below.refl _ _, rfl⟩
        refine ⟨fun r wx hG hs hq hf => ?_, ?_⟩
        · have e1 : r 1 = .slice (some ⟨tb, tf, none⟩) n tc := hs 1 rfl
          refine (if_pos rfl).symm ▸ ?_
          clear hs hq hf
          unfold gives
          go_simp
          exact ⟨Below.refl _ _, rfl⟩
        refine ⟨fun r wx hG hs hq hf => ?_, ?_⟩
        · have h1 : r 45 = .int .i64 W := hf.1
          have h2 : r 46 = .slice (some ⟨tb, tf, none⟩) n tc := hf.2.1
          refine (if_pos rfl).symm ▸ ?_
          clear hs hq hf
          unfold gives
          go_simp
          refine (HRO.out wx hG).mono ?_
          rintro e wy ⟨rfl, hb1⟩
          exact ⟨_, rfl, hb1, rfl⟩
        refine ⟨fun r wx hG hs hq hf => ?_, ?_⟩
        · have h0 : r 44 = .agg (bv hcm).toArray := hf.1
          have h3 : r 47 = .agg (bv rl).toArray := hf.2.1
          refine (if_pos rfl).symm ▸ ?_
          clear hs hq hf
          unfold gives
          have hqe := eqIn_hash hcm rl HLN.out.1 HLN.out.2 wx
          rw [HQB.out] at hqe
          have hgd := eq_guard
          go_simp
          exact ⟨Below.refl _ _, rfl⟩
        exact trivial
      case hend =>
        intro u wz hG hfin
        have z4 : u 4 = .bool true := hfin 4 (by decide) (by kernel_rfl)
        clear hfin
        simp only [fill]
        have R5 := Lib.hid (And.intro ((hG.block _ (Array.getElem?_eq_some_iff.1 R4.out.1).1).trans R4.out.1) (R4.out.2.trans (hG.mono R4.out.2.size)))
        have HG45 := Lib.hid hG
        clear hG
        obtain ⟨w5, hw5⟩ : ∃ x, x = wz := ⟨_, rfl⟩
        subst hw5
        go_simp
        have h60 : w5.cell? ⟨w.heap.size, 0, none⟩ = some (.slice none 0 0) := cell_of_rowp R5.out.1 rfl
        have h61 : w5.cell? ⟨w.heap.size, 1, none⟩ = some (.slice none 0 0) := cell_of_rowp R5.out.1 rfl
        have z60 : w5.frozen? ⟨w.heap.size, 0, none⟩ = false := by simp [World.frozen?, R5.out.1]
        have z61 : w5.frozen? ⟨w.heap.size, 1, none⟩ = false := by simp [World.frozen?, R5.out.1]
        have HE := Lib.hid (FIN.out w5 3 (by rw [HEE.out, if_neg (by simp), if_pos (beq_eq_false_iff_ne.1 HQB.out)]) R5.out.1 R5.out.2)
        go_wp2_with fail
        obtain ⟨hld, fin⟩ := HE.out
        obtain ⟨w9, hw9⟩ : ∃ x, x = (w5.setCell ⟨w.heap.size, 0, none⟩ (.slice none 0 0)).setCell ⟨w.heap.size, 1, none⟩ (.slice none 0 0) := ⟨_, rfl⟩
        rw [← hw9] at hld fin ⊢
        refine bodyPost_ret (v := .tuple #[.agg #[.slice none 0 0, .slice none 0 0], .int .i64 3]) ?_ ?_ ?_
        · simp [results, Tryd.results16, asAddr, hld]
        · rfl
        · exact fin
  · have y1 : (ER != 0) = true := by simp [hE0]
    have HE0 := Lib.hid hE0
    clear hE0
    have h60 : w4.cell? ⟨w.heap.size, 0, none⟩ = some (.slice none 0 0) := cell_of_rowp R4.out.1 rfl
    have h61 : w4.cell? ⟨w.heap.size, 1, none⟩ = some (.slice none 0 0) := cell_of_rowp R4.out.1 rfl
    have z60 : w4.frozen? ⟨w.heap.size, 0, none⟩ = false := by simp [World.frozen?, R4.out.1]
    have z61 : w4.frozen? ⟨w.heap.size, 1, none⟩ = false := by simp [World.frozen?, R4.out.1]
    have HE := Lib.hid (FIN.out w4 ER (by rw [HEE.out, if_pos HE0.out]) R4.out.1 R4.out.2)
    go_wp2_with fail
    obtain ⟨hld, fin⟩ := HE.out
    obtain ⟨w9, hw9⟩ : ∃ x, x = (w4.setCell ⟨w.heap.size, 0, none⟩ (.slice none 0 0)).setCell ⟨w.heap.size, 1, none⟩ (.slice none 0 0) := ⟨_, rfl⟩
    rw [← hw9] at hld fin ⊢
    refine bodyPost_ret (v := .tuple #[.agg #[.slice none 0 0, .slice none 0 0], .int .i64 ER]) ?_ ?_ ?_
    · simp [results, Tryd.results16, asAddr, hld]
    · rfl
    · exact fin
end Go.Proofs.YtfibhmgjkooemaaDoor
