/- ClashTrust: the law, the walk. (printed by gen/clx.py) -/
import Derived.Test.YtfibhmgjkooemaaDoorClR
import Derived.Test.YtfibhmgjkooemaaDoorClL
import Derived.Test.YtfibhmgjkooemaaDoorLeafI
import Derived.Test.YtfibhmgjkooemaaDoorLeafLs
import Derived.Test.YtfibhmgjkooemaaDoorPathE
import Derived.Test.YtfibhmgjkooemaaDoorGrKB
import Derived.Test.YtfibhmgjkooemaaDoorLaidL
namespace Go.Proofs.YtfibhmgjkooemaaDoor
open Go.RowKit Sha Root Path Growth Clash

theorem takeNS {w : World} {size : Nat} {a : Option Addr} {n c : Nat} {xs : List Value} (h : Rd w size (.slice a n c) n xs) (k : Nat) (hk : k ≤ n) : Rd w size (.slice a k c) k (xs.take (k * size)) := by
  obtain ⟨hl, ho, ⟨h2, h3⟩ | ⟨ad, c', hv, hc, hcell⟩⟩ := h
  · cases h2
    obtain rfl : k = 0 := by omega
    exact ⟨by simp, by simp, .inl ⟨rfl, rfl⟩⟩
  · cases hv
    refine ⟨by rw [List.length_take, hl]; exact Nat.min_eq_left (Nat.mul_le_mul_right _ hk), fun u hu => ho u (List.mem_of_mem_take hu), .inr ⟨_, _, rfl, by omega, fun j u hu => ?_⟩⟩
    have hj : j < k * size := by have := (List.getElem?_eq_some_iff.1 hu).1; simp at this; omega
    rw [List.getElem?_take_of_lt hj] at hu
    exact hcell j u hu
/-- A proof that passes the checker, with a text that is not the list's: told. -/
theorem trust_path (W : Int) (l : List (List UInt8)) (i : Nat) (x : List UInt8) (ps : List (List UInt8)) (h : (climbE i l.length ps.length == 0 && climbH W (leafH W x) i l.length ps == rt (hw W) l) = true) (hx : x ≠ l[i]?.getD []) : (ansP W l i x ps).1 = 0 := by
  obtain ⟨h1, h2⟩ := Bool.and_eq_true_iff.1 h
  rw [ansP, if_neg (by simpa using h1), if_neg (by simpa using h2), if_neg hx]
theorem trust_grow (W : Int) (l : List (List UInt8)) (m : Nat) (old : List UInt8) (ps : List (List UInt8)) (h32 : ∀ p ∈ ps, p.length = 32) (h : gB W m l.length old (rt (hw W) l) ps = true) (hm : 0 < m) (ho : old ≠ rt (hw W) (l.take m)) : (ansG W l m old ps).1 = 0 := by
  unfold gB at h
  split at h
  · simp at h
  · rw [if_neg (by omega)] at h
    obtain ⟨h12, h3⟩ := Bool.and_eq_true_iff.1 h
    obtain ⟨h1, h2⟩ := Bool.and_eq_true_iff.1 h12
    have h0 : gE m l.length ps.length = 0 := by simpa using h1
    have e2 : (gS W m l.length old ps).1 = old := by simpa using h2
    have e3 : (gS W m l.length old ps).2 = rt (hw W) l := by simpa using h3
    rw [ansG, if_neg (by rw [h0]; simp), if_neg (by rw [e2, e3]; simp), if_neg ho]
    obtain ⟨k1, k2, k3⟩ := gE_zero _ _ _ h0
    have hgs : gS W m l.length old ps = showG (nodeH W) m l.length old true ps := by rw [gS, if_pos h0]
    have ht := grow_tells (hw W) (hw32 W) l.length l m old ps true (Nat.le_refl _) k1 k2 h32 k3 (by rw [← nodeH_nd, ← hgs]; exact e3)
    cases hg : growF (hw W) l.length l m old ps true with
    | none =>
      have h4 := ht.2 hg
      rw [← nodeH_nd, ← hgs, e2] at h4
      exact absurd h4 ho
    | some p => rfl

/-- What each operation hands on. -/
def t7fF (W : Int) (_tb _tf _tc n j xn xc _yn _yc _g10 _g13 _c13 _g15 L c : Nat) (a xa _ya : Option Addr) (_x _y h rl : List UInt8) : Nat → Value → World → Prop
  | 0, v, _ => v = .int .i64 W
  | 1, v, _ => v = .int .i64 W
  | 2, v, _ => v = .slice xa xn xc
  | 3, v, _ => v = .agg (bv h).toArray
  | 4, v, _ => v = .int .u64 j
  | 5, v, _ => v = .int .u64 n
  | 6, v, _ => v = .slice a L c
  | 7, v, _ => v = .agg (bv rl).toArray
  | 8, v, _ => v = .bool false
  | 9, v, _ => v = .bool false
  | 10, v, _ => v = undef
  | 11, v, _ => v = undef
  | 12, v, _ => v = undef
  | 13, v, _ => v = undef
  | 14, v, _ => v = undef
  | 15, v, _ => v = undef
  | 16, v, _ => v = undef
  | 17, v, _ => v = undef
  | 18, v, _ => v = .bool false
  | _, _, _ => True
/-- What each operation hands on. -/
def t7yF (W : Int) (tb tf tc n j xn xc yn yc _g10 _g13 _c13 _g15 L c : Nat) (a xa ya : Option Addr) (x y h rl : List UInt8) : Nat → Value → World → Prop
  | 0, v, _ => v = .int .i64 W
  | 1, v, _ => v = .int .i64 W
  | 2, v, _ => v = .slice xa xn xc
  | 3, v, _ => v = .agg (bv h).toArray
  | 4, v, _ => v = .int .u64 j
  | 5, v, _ => v = .int .u64 n
  | 6, v, _ => v = .slice a L c
  | 7, v, _ => v = .agg (bv rl).toArray
  | 8, v, _ => v = .bool true
  | 9, v, _ => v = .bool true
  | 10, v, _ => v = .slice xa xn xc
  | 11, v, _ => v = .string ⟨x.toArray⟩
  | 12, v, _ => v = .slice (some ⟨tb, tf, none⟩) n tc
  | 13, v, _ => v = .int .u64 j
  | 14, v, _ => v = .pointer (some ⟨tb, tf + j, none⟩)
  | 15, v, _ => v = .slice ya yn yc
  | 16, v, _ => v = .string ⟨y.toArray⟩
  | 17, v, _ => v = .bool false
  | 18, v, _ => v = .bool false
  | _, _, _ => True
/-- What each operation hands on. -/
def t7nF (W : Int) (tb tf tc n j xn xc yn yc _g10 _g13 _c13 _g15 L c : Nat) (a xa ya : Option Addr) (x y h rl : List UInt8) : Nat → Value → World → Prop
  | 0, v, _ => v = .int .i64 W
  | 1, v, _ => v = .int .i64 W
  | 2, v, _ => v = .slice xa xn xc
  | 3, v, _ => v = .agg (bv h).toArray
  | 4, v, _ => v = .int .u64 j
  | 5, v, _ => v = .int .u64 n
  | 6, v, _ => v = .slice a L c
  | 7, v, _ => v = .agg (bv rl).toArray
  | 8, v, _ => v = .bool true
  | 9, v, _ => v = .bool true
  | 10, v, _ => v = .slice xa xn xc
  | 11, v, _ => v = .string ⟨x.toArray⟩
  | 12, v, _ => v = .slice (some ⟨tb, tf, none⟩) n tc
  | 13, v, _ => v = .int .u64 j
  | 14, v, _ => v = .pointer (some ⟨tb, tf + j, none⟩)
  | 15, v, _ => v = .slice ya yn yc
  | 16, v, _ => v = .string ⟨y.toArray⟩
  | 17, v, _ => v = .bool true
  | 18, v, _ => v = .bool true
  | _, _, _ => True
/-- What each operation hands on. -/
def t11fF (W : Int) (_tb _tf _tc n j _xn _xc _g10 _g13 _c13 _g15 L c : Nat) (a _xa : Option Addr) (old rl _rk : List UInt8) : Nat → Value → World → Prop
  | 0, v, _ => v = .int .i64 W
  | 1, v, _ => v = .int .u64 j
  | 2, v, _ => v = .int .u64 ((j + 1 : Nat) : Int)
  | 3, v, _ => v = .int .u64 n
  | 4, v, _ => v = .agg (bv old).toArray
  | 5, v, _ => v = .agg (bv rl).toArray
  | 6, v, _ => v = .slice a L c
  | 7, v, _ => v = .bool false
  | 8, v, _ => v = .bool false
  | 9, v, _ => v = undef
  | 10, v, _ => v = undef
  | 11, v, _ => v = undef
  | 12, v, _ => v = undef
  | 13, v, _ => v = undef
  | 14, v, _ => v = undef
  | 15, v, _ => v = undef
  | 16, v, _ => v = undef
  | 17, v, _ => v = .bool false
  | _, _, _ => True
/-- What each operation hands on. -/
def t11yF (W : Int) (_tb _tf _tc n j _xn _xc _g10 g13 c13 _g15 L c : Nat) (a _xa : Option Addr) (old rl rk : List UInt8) : Nat → Value → World → Prop
  | 0, v, _ => v = .int .i64 W
  | 1, v, _ => v = .int .u64 j
  | 2, v, _ => v = .int .u64 ((j + 1 : Nat) : Int)
  | 3, v, _ => v = .int .u64 n
  | 4, v, _ => v = .agg (bv old).toArray
  | 5, v, _ => v = .agg (bv rl).toArray
  | 6, v, _ => v = .slice a L c
  | 7, v, _ => v = .bool true
  | 8, v, _ => v = .bool true
  | 9, v, _ => v = .agg (bv old).toArray
  | 10, v, _ => v = .int .i64 W
  | 11, v, _ => v = .slice (some ⟨g13, 0, none⟩) n c13
  | 12, v, _ => v = .int .u64 j
  | 13, v, _ => v = .int .u64 ((j + 1 : Nat) : Int)
  | 14, v, _ => v = .slice (some ⟨g13, 0, none⟩) (j + 1) c13
  | 15, v, _ => v = .agg (bv rk).toArray
  | 16, v, _ => v = .bool false
  | 17, v, _ => v = .bool false
  | _, _, _ => True
/-- What each operation hands on. -/
def t11nF (W : Int) (_tb _tf _tc n j _xn _xc _g10 g13 c13 _g15 L c : Nat) (a _xa : Option Addr) (old rl rk : List UInt8) : Nat → Value → World → Prop
  | 0, v, _ => v = .int .i64 W
  | 1, v, _ => v = .int .u64 j
  | 2, v, _ => v = .int .u64 ((j + 1 : Nat) : Int)
  | 3, v, _ => v = .int .u64 n
  | 4, v, _ => v = .agg (bv old).toArray
  | 5, v, _ => v = .agg (bv rl).toArray
  | 6, v, _ => v = .slice a L c
  | 7, v, _ => v = .bool true
  | 8, v, _ => v = .bool true
  | 9, v, _ => v = .agg (bv old).toArray
  | 10, v, _ => v = .int .i64 W
  | 11, v, _ => v = .slice (some ⟨g13, 0, none⟩) n c13
  | 12, v, _ => v = .int .u64 j
  | 13, v, _ => v = .int .u64 ((j + 1 : Nat) : Int)
  | 14, v, _ => v = .slice (some ⟨g13, 0, none⟩) (j + 1) c13
  | 15, v, _ => v = .agg (bv rk).toArray
  | 16, v, _ => v = .bool true
  | 17, v, _ => v = .bool true
  | _, _, _ => True

set_option maxHeartbeats 8000000 in
set_option maxRecDepth 100000 in
theorem clashTrust_walk (W : Int) (l : List (List UInt8)) (i : Nat) (x old : List UInt8) (ps : List (List UInt8)) (v : Value) (xa : Option Addr) (xc : Nat) (a : Option Addr) (c : Nat) (w : World) (hW : -9223372036854775808 ≤ W ∧ W ≤ 9223372036854775807) (hl : l.length * 24 ≤ 140737488351232) (hm : i < 18446744073709551616) (hxl : x.length ≤ 140737488351232) (ho : old.length = 32) (hpl : ps.length * 32 ≤ 140737488351232) (h32 : ∀ p ∈ ps, p.length = 32) (hv : Txw w v l) (hx : Rd w 1 (.slice xa x.length xc) x.length (bv x)) (hr : Rd w 32 (.slice a ps.length c) ps.length (ps.flatMap bv)) (hT : TabsRD w) :
    Calls Tryd.prog 7 #[.int .i64 W, v, .int .u64 i, .slice xa x.length xc, .agg (bv old).toArray, .slice a ps.length c] w fun e w' => e = .returned (.bool true) ∧ Below w.heap.size w w' := by
  have hz := (zero_of_info info32).1
  have HZ32 := Lib.hid (show (zs 32).length = 32 by simp [zs])
  obtain ⟨va, vc, rfl⟩ := hv.form
  have HAW := Lib.hid (fun wx (hb : Below w.heap.size w wx) => awake17_any wx (hT.1.toTabs.keepB hb))
  have HFA := Lib.hid (fun wx (hb : Below w.heap.size w wx) => few_any l (.slice va l.length vc) wx hl (hv.keep hb))
  have HTT := Lib.hid hT
  have HWW := Lib.hid hW
  have HMO := Lib.hid (And.intro hm ho)
  have HARG0 := Lib.hid (And.intro hv (And.intro hx (And.intro hr h32)))
  obtain ⟨n, hn⟩ : ∃ n, n = l.length := ⟨_, rfl⟩
  obtain ⟨L, hL⟩ : ∃ n, n = ps.length := ⟨_, rfl⟩
  obtain ⟨xn, hxn⟩ : ∃ n, n = x.length := ⟨_, rfl⟩
  rw [← hn] at HFA ⊢
  rw [← hL] at hpl ⊢
  rw [← hxn] at hxl ⊢
  have HN := Lib.hid (And.intro hn (And.intro hL hxn))
  obtain ⟨w0, hw0⟩ : ∃ q : World, q = w.alloc (.cells (bv old).toArray 35) := ⟨_, rfl⟩
  have hB0 : Below w.heap.size w w0 := by rw [hw0]; exact (Below.refl _ _).alloc (Nat.le_refl _) _
  have hr0 : w0.heap[w.heap.size]? = some (.cells (bv old).toArray 35 (0, 0)) := by rw [hw0]; exact heap_alloc_new _ _
  have HW0 := Lib.hid hw0
  have H0 := Lib.hid hB0
  have HR0 := Lib.hid hr0
  clear hv hx hr h32 hT hn hL hxn hw0 hB0 hr0 hm ho hl hW
  go_enter Tryd.func7, Tryd.ntmps7
  go_upto_region 1 with fail
  rw [show w.alloc (.cells (bv old).toArray 35) = w0 from HW0.out.symm]
  go_wp2_with fail
  refine (HAW.out _ H0.out).mono ?_
  rintro e w1 ⟨rfl, hb1⟩
  have H1 := Lib.hid (H0.out.trans (hb1.mono H0.out.size))
  have HR1 := Lib.hid ((hb1.block _ (Array.getElem?_eq_some_iff.1 HR0.out).1).trans HR0.out)
  clear hb1
  go_wp2_with fail
  refine (HFA.out _ H1.out).mono ?_
  rintro e w2 ⟨rfl, hb2⟩
  have H3 := Lib.hid (H1.out.trans (hb2.mono H1.out.size))
  have HR2 := Lib.hid ((hb2.block _ (Array.getElem?_eq_some_iff.1 HR1.out).1).trans HR1.out)
  clear hb2
  cases hfa : fewB l with
  | false =>
    clear hfa
    go_wp2_with fail
    refine (HAW.out _ H3.out).mono ?_
    rintro e w9 ⟨rfl, hb9⟩
    have H9 := Lib.hid (H3.out.trans (hb9.mono H3.out.size))
    clear hb9
    go_wp2_with fail
    go_ret
    exact ⟨rfl, H9.out⟩
  | true =>
    have HFA2 := Lib.hid (few_small l hfa)
    clear hfa
    by_cases hT4 : 4000 < xn
    · have y0 : (4000 : Int) < (xn : Int) := by omega
      go_wp2_with fail
      refine (HAW.out _ H3.out).mono ?_
      rintro e w9 ⟨rfl, hb9⟩
      have H9 := Lib.hid (H3.out.trans (hb9.mono H3.out.size))
      clear hb9
      go_wp2_with fail
      go_ret
      exact ⟨rfl, H9.out⟩
    · have y0 : ¬ (4000 : Int) < (xn : Int) := by omega
      by_cases hL80 : 80 < L
      · have y1 : (80 : Int) < (L : Int) := by omega
        go_wp2_with fail
        refine (HAW.out _ H3.out).mono ?_
        rintro e w9 ⟨rfl, hb9⟩
        have H9 := Lib.hid (H3.out.trans (hb9.mono H3.out.size))
        clear hb9
        go_wp2_with fail
        go_ret
        exact ⟨rfl, H9.out⟩
      · have y1 : ¬ (80 : Int) < (L : Int) := by omega
        by_cases hn0 : n = 0
        · have y2 : ((n : Int) == 0) = true := by simp; omega
          go_wp2_with fail
          refine (HAW.out _ H3.out).mono ?_
          rintro e w9 ⟨rfl, hb9⟩
          have H9 := Lib.hid (H3.out.trans (hb9.mono H3.out.size))
          clear hb9
          go_wp2_with fail
          go_ret
          exact ⟨rfl, H9.out⟩
        · have y2 : ((n : Int) == 0) = false := by simp; omega
          have y2b : ¬ (n : Int) = 0 := by omega
          have hn80 : n ≤ 80 := by rw [HN.out.1]; exact HFA2.out.1
          have z3 : IntKind.u64.wrap (n : Int) = (n : Int) := IntWalk.u64_in _ (by omega)
          obtain ⟨j, hje⟩ : ∃ j, j = i % n := ⟨_, rfl⟩
          have hjn : j < n := by rw [hje]; exact Nat.mod_lt _ (by omega)
          have z4 : (i : Int) % (n : Int) = (j : Int) := by rw [hje]; simp
          have z4b : Int.tmod (i : Int) (n : Int) = (j : Int) := by rw [hje]; rfl
          have z5 : IntKind.u64.wrap (j : Int) = (j : Int) := IntWalk.u64_in _ (by omega)
          obtain ⟨ls, hls⟩ : ∃ q, q = l.map (leafH W) := ⟨_, rfl⟩
          have hlsl : ls.length = n := by rw [hls, List.length_map, ← HN.out.1]
          have hls32 : ∀ p ∈ ls, p.length = 32 := fun p hp => by rw [hls] at hp; obtain ⟨t, _, rfl⟩ := List.mem_map.1 hp; exact leafH_length W t
          have hlv := refLeaves_any W l (.slice va l.length vc) w2 HWW.out (by rw [← HN.out.1]; omega) (fun t h => Nat.le_trans (HFA2.out.2 t h) (by omega)) (HARG0.out.1.keep H3.out) (HTT.out.1.keepB H3.out)
          rw [← hls, ← HN.out.1] at hlv
          obtain ⟨rl, hrl⟩ : ∃ q, q = rt (hw W) l := ⟨_, rfl⟩
          have HLS := Lib.hid (And.intro hls (And.intro hlsl (And.intro hls32 hrl)))
          have HLV := Lib.hid hlv
          have HJE := Lib.hid hje
          clear hje hls hlsl hls32 hlv hrl
          go_wp2_with fail
          refine HLV.out.mono ?_
          rintro e w3 ⟨va3, c13, rfl, how3, hb3⟩
          obtain ⟨g13, c13b, hv3, hg13, hc13, _, hg13b⟩ := own_at how3 (by omega)
          simp only [Value.slice.injEq, true_and] at hv3
          obtain ⟨rfl, rfl⟩ := hv3
          have hrd3 := own_rd how3 (fun u hu => by obtain ⟨t, _, ht⟩ := List.mem_flatMap.1 hu; exact bv_one t u ht)
          have hB3 := H3.out.trans (hb3.mono H3.out.size)
          have hrt := Root_any W ls (.slice (some ⟨g13, 0, none⟩) n c13) w3 HWW.out HLS.out.2.2.1 (by rw [HLS.out.2.1]; omega) (by rw [HLS.out.2.1]; exact hrd3) (HTT.out.1.toTabs.keepB hB3) (HTT.out.2.keepB hB3)
          rw [show rootH W ls = rl by rw [HLS.out.1, rootH_rt, HLS.out.2.2.2]] at hrt
          have HRT := Lib.hid hrt
          have HRD3 := Lib.hid hrd3
          have HB3 := Lib.hid hB3
          have HC13 := Lib.hid hc13
          have HR3 := Lib.hid ((hb3.block _ (Array.getElem?_eq_some_iff.1 HR2.out).1).trans HR2.out)
          clear how3 hb3 hg13 hg13b hrd3 hB3 hrt hc13
          go_wp2_with fail
          refine HRT.out.mono ?_
          rintro e w4 ⟨rfl, hb4⟩
          have HB4 := Lib.hid hb4
          have H7c := Lib.hid (heap_alloc_new w4 (.cells (bv (zs 32)).toArray 35))
          clear hb4
          have hrl32 : rl.length = 32 := by rw [HLS.out.2.2.2]; exact rt32 W l
          have HLR := Lib.hid hrl32
          clear hrl32
          go_upto_region 6 with (with_reducible show wpList _ _ _ (⟨none, Op.store _ _ _, _, _, _, _⟩ :: _) _ _; refine wpList_store_whole rfl _ _ _ rfl w4.heap.size (bv rl) rfl rfl (bv (zs 32)) _ H7c.out (hInfo' _ HLR.out) (by rw [bv_length, bv_length, HLR.out, HZ32.out]) (bv_one _) ?_; intro w6 HG6 hg6)
          have hb46 : Below w4.heap.size w4 w6 := below_grow ((Below.refl _ _).alloc (Nat.le_refl _) _) hg6 (Nat.le_refl _) (by simp)
          obtain ⟨g15, hg15⟩ : ∃ g, g = w4.heap.size := ⟨_, rfl⟩
          obtain ⟨g10, hg10⟩ : ∃ g, g = w.heap.size := ⟨_, rfl⟩
          have hr15 : w6.heap[g15]? = some (.cells (bv rl).toArray 35 (0, 0)) := by rw [hg15]; exact HG6.out
          have hb36 := HB4.out.trans (hb46.mono HB4.out.size)
          have hr10 : w6.heap[g10]? = some (.cells (bv old).toArray 35 (0, 0)) := by rw [hg10]; exact (hb36.block _ (Array.getElem?_eq_some_iff.1 HR3.out).1).trans HR3.out
          have hB6 := HB3.out.trans (hb36.mono HB3.out.size)
          have hrd6 := HRD3.out.keep hb36
          rw [← hg15]
          have HB6 := Lib.hid hB6
          have HRO := Lib.hid (fun wx (hb : Below w6.heap.size w6 wx) => (hb.block _ (Array.getElem?_eq_some_iff.1 hr10).1).trans hr10)
          have HRR := Lib.hid (fun wx (hb : Below w6.heap.size w6 wx) => (hb.block _ (Array.getElem?_eq_some_iff.1 hr15).1).trans hr15)
          obtain ⟨h, hh⟩ : ∃ q, q = leafH W x := ⟨_, rfl⟩
          obtain ⟨rk, hrk⟩ : ∃ q, q = rt (hw W) (l.take (j + 1)) := ⟨_, rfl⟩
          have HLN := Lib.hid (And.intro HMO.out.2 (And.intro HLR.out (show rk.length = 32 by rw [hrk]; exact rt32 W _)))
          have HLF := Lib.hid (fun wx (hb : Below w6.heap.size w6 wx) => (show Calls Tryd.prog 22 #[.int .i64 W, .slice xa xn xc] wx fun e w' => e = .returned (.agg (bv h).toArray) ∧ Below wx.heap.size wx w' by
            rw [HN.out.2.2, hh]; exact Leaf_any W x (.slice xa x.length xc) wx HWW.out (by rw [← HN.out.2.2]; omega) ((HARG0.out.2.1.keep hB6).keep hb) ((HTT.out.1.toTabs.keepB hB6).keepB hb)))
          have HCK0 := Lib.hid (fun wx (hb : Below w6.heap.size w6 wx) => Check_any W h rl j n ps a c wx HWW.out (by rw [hh]; exact leafH_length W x) HLR.out (by omega) (by omega) HARG0.out.2.2.2 (by rw [← HN.out.2.1]; omega) ((HARG0.out.2.2.1.keep hB6).keep hb) ((HTT.out.1.toTabs.keepB hB6).keepB hb))
          have HGK0 := Lib.hid (fun wx (hb : Below w6.heap.size w6 wx) => gCheck_any W (j + 1) n old rl ps a c wx HWW.out HMO.out.2 HLR.out (by omega) (by omega) HARG0.out.2.2.2 (by rw [← HN.out.2.1]; omega) ((HARG0.out.2.2.1.keep hB6).keep hb) ((HTT.out.1.toTabs.keepB hB6).keepB hb))
          have HRK0 := Lib.hid (fun wx (hb : Below w6.heap.size w6 wx) => (show Calls Tryd.prog 20 #[.int .i64 W, .slice (some ⟨g13, 0, none⟩) (j + 1) c13] wx fun e w' => e = .returned (.agg (bv rk).toArray) ∧ Below wx.heap.size wx w' by
            have q1 := takeNS (hrd6.keep hb) (j + 1) (by omega)
            rw [← flat_take32 ls (j + 1) HLS.out.2.2.1] at q1
            have q2 : (ls.take (j + 1)).length = j + 1 := by rw [List.length_take, HLS.out.2.1]; omega
            have q3 := Root_any W (ls.take (j + 1)) (.slice (some ⟨g13, 0, none⟩) (j + 1) c13) wx HWW.out (fun p hp => HLS.out.2.2.1 p (List.mem_of_mem_take hp)) (by rw [q2]; omega) (by rw [q2]; exact q1) ((HTT.out.1.toTabs.keepB hB6).keepB hb) ((HTT.out.2.keepB hB6).keepB hb)
            rw [HLS.out.1, ← List.map_take, rootH_rt, ← hrk] at q3
            exact q3))
          rw [← HN.out.2.1] at HCK0 HGK0
          have HHE := Lib.hid (And.intro hh hrk)
          obtain ⟨tb, tf, tc, hvs, hvc, hvat⟩ := HARG0.out.1.at (by rw [← HN.out.1]; omega)
          simp only [Value.slice.injEq] at hvs
          obtain ⟨rfl, -, htc⟩ := hvs
          have htc2 := htc.symm
          subst htc2
          have HARG := HARG0
          obtain ⟨y, hy⟩ : ∃ q, q = l[j]?.getD [] := ⟨_, rfl⟩
          have hys : l[j]? = some y := by rw [hy, List.getElem?_eq_getElem (by rw [← HN.out.1]; exact hjn)]; rfl
          obtain ⟨ya, yc, hcy, hry⟩ := hvat j y hys
          obtain ⟨yn, hyn⟩ : ∃ q, q = y.length := ⟨_, rfl⟩
          rw [← hyn] at hcy
          have hcy6 := (hB6.cell (p := ⟨tb, tf + j, none⟩) (World.block_lt_of_cell? w _ hcy)).trans hcy
          have HC := Lib.hid (fun wx (hb : Below w6.heap.size w6 wx) => (hb.cell (p := ⟨tb, tf + j, none⟩) (World.block_lt_of_cell? w6 _ hcy6)).trans hcy6)
          have HXY := Lib.hid (show Rd w6 1 (.slice xa xn xc) x.length (bv x) ∧ Rd w6 1 (.slice ya yn yc) y.length (bv y) by
            constructor
            · have := HARG.out.2.1.keep hB6; rwa [← HN.out.2.2] at this ⊢
            · rw [hyn]; exact hry.keep hB6)
          have HYY := Lib.hid hy
          obtain ⟨c1, hc1⟩ : ∃ q, q = (climbE j n L == 0 && climbH W h j n ps == rl) := ⟨_, rfl⟩
          obtain ⟨c2, hc2⟩ : ∃ q, q = gB W (j + 1) n old rl ps := ⟨_, rfl⟩
          rw [← hc1] at HCK0
          rw [← hc2] at HGK0
          have HC1 := Lib.hid (show c1 = true → x ≠ y → (ansP W l j x ps).1 = 0 from fun e1 e2 => trust_path W l j x ps (by rw [← HN.out.1, ← HN.out.2.1, ← hh, ← HLS.out.2.2.2, ← hc1]; exact e1) (by rw [← hy]; exact e2))
          have HC2 := Lib.hid (show c2 = true → old ≠ rk → (ansG W l (j + 1) old ps).1 = 0 from fun e1 e2 => trust_grow W l (j + 1) old ps HARG.out.2.2.2 (by rw [← HN.out.1, ← HLS.out.2.2.2, ← hc2]; exact e1) (by omega) (by rw [← hrk]; exact e2))
          rw [← hg10]
          clear hr15 hr10 hB6 hrd6 hh hrk hvc hvat hy hys hcy hry hyn hcy6 hc1 hc2 HG6 hg6 hb46 hb36 hg15 hg10
          go_upto_region 7 with fail
          go_cut [73] (fun s73 wz => ∃ b : Bool, s73 = .bool b ∧ (b = true → (ansP W l j x ps).1 = 0) ∧ Below w6.heap.size w6 wz)
          case first =>
            cases c1 with
            | false =>
              have HCK := HCK0
              refine wp_region_steps [some 55, some 56, some 57, some 58, some 59, some 60, some 61, some 62, some 63, some 64, some 65, some 66, some 67, some 68, some 69, some 70, some 71, some 72, some 73] [] (t7fF W tb tf tc n j xn xc yn yc g10 g13 c13 g15 L c a xa ya x y h rl) (fun _ wx wy => Below wx.heap.size wx wy) (fun wx => Below w6.heap.size w6 wx) (by kernel_rfl) (by kernel_rfl) rfl (by kernel_rfl) (Below.refl _ _).drew (fun _ wx => Below.refl _ _) (fun _ wx wy h k => h.trans (k.mono h.size)) ?hF ?hstep ?hend
              case hF =>
                exact ⟨fun _ _ _ _ _ _ h => h, ⟨fun _ _ _ _ _ _ h => h, ⟨fun _ _ _ _ _ _ h => h, ⟨fun _ _ _ _ _ _ h => h, ⟨fun _ _ _ _ _ _ h => h, ⟨fun _ _ _ _ _ _ h => h, ⟨fun _ _ _ _ _ _ h => h, ⟨fun _ _ _ _ _ _ h => h, ⟨fun _ _ _ _ _ _ h => h, ⟨fun _ _ _ _ _ _ h => h, ⟨fun _ _ _ _ _ _ h => h, ⟨fun _ _ _ _ _ _ h => h, ⟨fun _ _ _ _ _ _ h => h, ⟨fun _ _ _ _ _ _ h => h, ⟨fun _ _ _ _ _ _ h => h, ⟨fun _ _ _ _ _ _ h => h, ⟨fun _ _ _ _ _ _ h => h, ⟨fun _ _ _ _ _ _ h => h, ⟨fun _ _ _ _ _ _ h => h, trivial⟩⟩⟩⟩⟩⟩⟩⟩⟩⟩⟩⟩⟩⟩⟩⟩⟩⟩⟩
              case hstep =>
                refine ⟨fun r wx hG hs hq hf => ?_, ?_⟩
                · have e0 : r 0 = .int .i64 W := hs 0 rfl
                  refine (if_pos rfl).symm ▸ ?_
                  clear hs hq hf
                  unfold gives
                  go_simp
                  exact ⟨Below.refl _ _, rfl⟩
                refine ⟨fun r wx hG hs hq hf => ?_, ?_⟩
                · have e0 : r 0 = .int .i64 W := hs 0 rfl
                  refine (if_pos rfl).symm ▸ ?_
                  clear hs hq hf
                  unfold gives
                  go_simp
                  exact ⟨Below.refl _ _, rfl⟩
                refine ⟨fun r wx hG hs hq hf => ?_, ?_⟩
                · have e3 : r 3 = .slice xa xn xc := hs 3 rfl
                  refine (if_pos rfl).symm ▸ ?_
                  clear hs hq hf
                  unfold gives
                  go_simp
                  exact ⟨Below.refl _ _, rfl⟩
                refine ⟨fun r wx hG hs hq hf => ?_, ?_⟩
                · have h1 : r 56 = .int .i64 W := hf.1
                  have h2 : r 57 = .slice xa xn xc := hf.2.1
                  refine (if_pos rfl).symm ▸ ?_
                  clear hs hq hf
                  unfold gives
                  go_simp
                  refine (HLF.out wx hG).mono ?_
                  rintro e wy ⟨rfl, hb1⟩
                  exact ⟨_, rfl, hb1, rfl⟩
                refine ⟨fun r wx hG hs hq hf => ?_, ?_⟩
                · have e2 : r 2 = .int .u64 j := hs 2 rfl
                  refine (if_pos rfl).symm ▸ ?_
                  clear hs hq hf
                  unfold gives
                  go_simp
                  exact ⟨Below.refl _ _, rfl⟩
                refine ⟨fun r wx hG hs hq hf => ?_, ?_⟩
                · have e14 : r 14 = .int .u64 n := hs 14 rfl
                  refine (if_pos rfl).symm ▸ ?_
                  clear hs hq hf
                  unfold gives
                  go_simp
                  exact ⟨Below.refl _ _, rfl⟩
                refine ⟨fun r wx hG hs hq hf => ?_, ?_⟩
                · have e5 : r 5 = .slice a L c := hs 5 rfl
                  refine (if_pos rfl).symm ▸ ?_
                  clear hs hq hf
                  unfold gives
                  go_simp
                  exact ⟨Below.refl _ _, rfl⟩
                refine ⟨fun r wx hG hs hq hf => ?_, ?_⟩
                · have e15 : r 15 = .pointer (some ⟨g15, 0, none⟩) := hs 15 rfl
                  refine (if_pos rfl).symm ▸ ?_
                  clear hs hq hf
                  unfold gives
                  refine gives_load_row 35 _ rfl g15 e15 35 _ (0, 0) _ (HRR.out wx hG) Tryd.underlying35 rfl (hInfo _ HLN.out.2.1) ?_
                  exact ⟨Below.refl _ _, rfl⟩
                refine ⟨fun r wx hG hs hq hf => ?_, ?_⟩
                · have h0 : r 55 = .int .i64 W := hf.1
                  have h3 : r 58 = .agg (bv h).toArray := hf.2.1
                  have h4 : r 59 = .int .u64 j := hf.2.2.1
                  have h5 : r 60 = .int .u64 n := hf.2.2.2.1
                  have h6 : r 61 = .slice a L c := hf.2.2.2.2.1
                  have h7 : r 62 = .agg (bv rl).toArray := hf.2.2.2.2.2.1
                  refine (if_pos rfl).symm ▸ ?_
                  clear hs hq hf
                  unfold gives
                  go_simp
                  refine (HCK.out wx hG).mono ?_
                  rintro e wy ⟨rfl, hb1⟩
                  exact ⟨_, rfl, hb1, rfl⟩
                refine ⟨fun r wx hG hs hq hf => ?_, ?_⟩
                · have h8 : r 63 = .bool false := hf.1
                  refine (if_pos rfl).symm ▸ ?_
                  clear hs hq hf
                  unfold gives
                  go_simp
                  exact ⟨Below.refl _ _, rfl⟩
                refine ⟨fun r wx hG hs hq hf => ?_, ?_⟩
                · have e3 : r 3 = .slice xa xn xc := hs 3 rfl
                  have h9 : r 64 = .bool false := hf.1
                  have hy : ydD [some 55, some 56, some 57, some 58, some 59, some 60, some 61, some 62, some 63, some 64, some 65, some 66, some 67, some 68, some 69, some 70, some 71, some 72, some 73] r 9 = some false := by show (match r 64 with | .bool b => some b | _ => none) = some false; rw [h9]
                  simp only [Region.wanted, hy]
                  rw [if_neg (show ¬ (some false == some true) = true by decide)]
                  clear hs hq hf hy
                  rfl
                refine ⟨fun r wx hG hs hq hf => ?_, ?_⟩
                · have h10 : r 65 = undef := hf.1
                  have h9 : r 64 = .bool false := hf.2.1
                  have hy : ydD [some 55, some 56, some 57, some 58, some 59, some 60, some 61, some 62, some 63, some 64, some 65, some 66, some 67, some 68, some 69, some 70, some 71, some 72, some 73] r 9 = some false := by show (match r 64 with | .bool b => some b | _ => none) = some false; rw [h9]
                  simp only [Region.wanted, hy]
                  rw [if_neg (show ¬ (some false == some true) = true by decide)]
                  clear hs hq hf hy
                  rfl
                refine ⟨fun r wx hG hs hq hf => ?_, ?_⟩
                · have e1 : r 1 = .slice (some ⟨tb, tf, none⟩) n tc := hs 1 rfl
                  have h9 : r 64 = .bool false := hf.1
                  have hy : ydD [some 55, some 56, some 57, some 58, some 59, some 60, some 61, some 62, some 63, some 64, some 65, some 66, some 67, some 68, some 69, some 70, some 71, some 72, some 73] r 9 = some false := by show (match r 64 with | .bool b => some b | _ => none) = some false; rw [h9]
                  simp only [Region.wanted, hy]
                  rw [if_neg (show ¬ (some false == some true) = true by decide)]
                  clear hs hq hf hy
                  rfl
                refine ⟨fun r wx hG hs hq hf => ?_, ?_⟩
                · have e2 : r 2 = .int .u64 j := hs 2 rfl
                  have h9 : r 64 = .bool false := hf.1
                  have hy : ydD [some 55, some 56, some 57, some 58, some 59, some 60, some 61, some 62, some 63, some 64, some 65, some 66, some 67, some 68, some 69, some 70, some 71, some 72, some 73] r 9 = some false := by show (match r 64 with | .bool b => some b | _ => none) = some false; rw [h9]
                  simp only [Region.wanted, hy]
                  rw [if_neg (show ¬ (some false == some true) = true by decide)]
                  clear hs hq hf hy
                  rfl
                refine ⟨fun r wx hG hs hq hf => ?_, ?_⟩
                · have h12 : r 67 = undef := hf.1
                  have h13 : r 68 = undef := hf.2.1
                  have h9 : r 64 = .bool false := hf.2.2.1
                  have hy : ydD [some 55, some 56, some 57, some 58, some 59, some 60, some 61, some 62, some 63, some 64, some 65, some 66, some 67, some 68, some 69, some 70, some 71, some 72, some 73] r 9 = some false := by show (match r 64 with | .bool b => some b | _ => none) = some false; rw [h9]
                  simp only [Region.wanted, hy]
                  rw [if_neg (show ¬ (some false == some true) = true by decide)]
                  clear hs hq hf hy
                  rfl
                refine ⟨fun r wx hG hs hq hf => ?_, ?_⟩
                · have h14 : r 69 = undef := hf.1
                  have h9 : r 64 = .bool false := hf.2.1
                  have hy : ydD [some 55, some 56, some 57, some 58, some 59, some 60, some 61, some 62, some 63, some 64, some 65, some 66, some 67, some 68, some 69, some 70, some 71, some 72, some 73] r 9 = some false := by show (match r 64 with | .bool b => some b | _ => none) = some false; rw [h9]
                  simp only [Region.wanted, hy]
                  rw [if_neg (show ¬ (some false == some true) = true by decide)]
                  clear hs hq hf hy
                  rfl
                refine ⟨fun r wx hG hs hq hf => ?_, ?_⟩
                · have h15 : r 70 = undef := hf.1
                  have h9 : r 64 = .bool false := hf.2.1
                  have hy : ydD [some 55, some 56, some 57, some 58, some 59, some 60, some 61, some 62, some 63, some 64, some 65, some 66, some 67, some 68, some 69, some 70, some 71, some 72, some 73] r 9 = some false := by show (match r 64 with | .bool b => some b | _ => none) = some false; rw [h9]
                  simp only [Region.wanted, hy]
                  rw [if_neg (show ¬ (some false == some true) = true by decide)]
                  clear hs hq hf hy
                  rfl
                refine ⟨fun r wx hG hs hq hf => ?_, ?_⟩
                · have h11 : r 66 = undef := hf.1
                  have h16 : r 71 = undef := hf.2.1
                  have h9 : r 64 = .bool false := hf.2.2.1
                  have hy : ydD [some 55, some 56, some 57, some 58, some 59, some 60, some 61, some 62, some 63, some 64, some 65, some 66, some 67, some 68, some 69, some 70, some 71, some 72, some 73] r 9 = some false := by show (match r 64 with | .bool b => some b | _ => none) = some false; rw [h9]
                  simp only [Region.wanted, hy]
                  rw [if_neg (show ¬ (some false == some true) = true by decide)]
                  clear hs hq hf hy
                  rfl
                refine ⟨fun r wx hG hs hq hf => ?_, ?_⟩
                · have h9 : r 64 = .bool false := hf.1
                  have h17 : r 72 = undef := hf.2.1
                  refine (if_pos rfl).symm ▸ ?_
                  clear hs hq hf
                  unfold gives
                  go_simp
                  exact ⟨Below.refl _ _, rfl⟩
                exact trivial
              case hend =>
                intro u wz hG hfin
                have z18 : u 18 = .bool false := hfin 18 (by decide) (by kernel_rfl)
                clear hfin
                simp only [fill]
                go_simp
                go_step
                go_meet
                exact ⟨false, rfl, fun hh => by simp at hh, hG⟩
            | true =>
              have HCK := HCK0
              by_cases hqm : x = y
              · have HQX := Lib.hid (show (x == y) = true from beq_iff_eq.2 hqm)
                clear hqm
                refine wp_region_steps [some 55, some 56, some 57, some 58, some 59, some 60, some 61, some 62, some 63, some 64, some 65, some 66, some 67, some 68, some 69, some 70, some 71, some 72, some 73] [] (t7yF W tb tf tc n j xn xc yn yc g10 g13 c13 g15 L c a xa ya x y h rl) (fun _ wx wy => Below wx.heap.size wx wy) (fun wx => Below w6.heap.size w6 wx) (by kernel_rfl) (by kernel_rfl) rfl (by kernel_rfl) (Below.refl _ _).drew (fun _ wx => Below.refl _ _) (fun _ wx wy h k => h.trans (k.mono h.size)) ?hF ?hstep ?hend
                case hF =>
                  exact ⟨fun _ _ _ _ _ _ h => h, ⟨fun _ _ _ _ _ _ h => h, ⟨fun _ _ _ _ _ _ h => h, ⟨fun _ _ _ _ _ _ h => h, ⟨fun _ _ _ _ _ _ h => h, ⟨fun _ _ _ _ _ _ h => h, ⟨fun _ _ _ _ _ _ h => h, ⟨fun _ _ _ _ _ _ h => h, ⟨fun _ _ _ _ _ _ h => h, ⟨fun _ _ _ _ _ _ h => h, ⟨fun _ _ _ _ _ _ h => h, ⟨fun _ _ _ _ _ _ h => h, ⟨fun _ _ _ _ _ _ h => h, ⟨fun _ _ _ _ _ _ h => h, ⟨fun _ _ _ _ _ _ h => h, ⟨fun _ _ _ _ _ _ h => h, ⟨fun _ _ _ _ _ _ h => h, ⟨fun _ _ _ _ _ _ h => h, ⟨fun _ _ _ _ _ _ h => h, trivial⟩⟩⟩⟩⟩⟩⟩⟩⟩⟩⟩⟩⟩⟩⟩⟩⟩⟩⟩
                case hstep =>
                  refine ⟨fun r wx hG hs hq hf => ?_, ?_⟩
                  · have e0 : r 0 = .int .i64 W := hs 0 rfl
                    refine (if_pos rfl).symm ▸ ?_
                    clear hs hq hf
                    unfold gives
                    go_simp
                    exact ⟨Below.refl _ _, rfl⟩
                  refine ⟨fun r wx hG hs hq hf => ?_, ?_⟩
                  · have e0 : r 0 = .int .i64 W := hs 0 rfl
                    refine (if_pos rfl).symm ▸ ?_
                    clear hs hq hf
                    unfold gives
                    go_simp
                    exact ⟨Below.refl _ _, rfl⟩
                  refine ⟨fun r wx hG hs hq hf => ?_, ?_⟩
                  · have e3 : r 3 = .slice xa xn xc := hs 3 rfl
                    refine (if_pos rfl).symm ▸ ?_
                    clear hs hq hf
                    unfold gives
                    go_simp
                    exact ⟨Below.refl _ _, rfl⟩
                  refine ⟨fun r wx hG hs hq hf => ?_, ?_⟩
                  · have h1 : r 56 = .int .i64 W := hf.1
                    have h2 : r 57 = .slice xa xn xc := hf.2.1
                    refine (if_pos rfl).symm ▸ ?_
                    clear hs hq hf
                    unfold gives
                    go_simp
                    refine (HLF.out wx hG).mono ?_
                    rintro e wy ⟨rfl, hb1⟩
                    exact ⟨_, rfl, hb1, rfl⟩
                  refine ⟨fun r wx hG hs hq hf => ?_, ?_⟩
                  · have e2 : r 2 = .int .u64 j := hs 2 rfl
                    refine (if_pos rfl).symm ▸ ?_
                    clear hs hq hf
                    unfold gives
                    go_simp
                    exact ⟨Below.refl _ _, rfl⟩
                  refine ⟨fun r wx hG hs hq hf => ?_, ?_⟩
                  · have e14 : r 14 = .int .u64 n := hs 14 rfl
                    refine (if_pos rfl).symm ▸ ?_
                    clear hs hq hf
                    unfold gives
                    go_simp
                    exact ⟨Below.refl _ _, rfl⟩
                  refine ⟨fun r wx hG hs hq hf => ?_, ?_⟩
                  · have e5 : r 5 = .slice a L c := hs 5 rfl
                    refine (if_pos rfl).symm ▸ ?_
                    clear hs hq hf
                    unfold gives
                    go_simp
                    exact ⟨Below.refl _ _, rfl⟩
                  refine ⟨fun r wx hG hs hq hf => ?_, ?_⟩
                  · have e15 : r 15 = .pointer (some ⟨g15, 0, none⟩) := hs 15 rfl
                    refine (if_pos rfl).symm ▸ ?_
                    clear hs hq hf
                    unfold gives
                    refine gives_load_row 35 _ rfl g15 e15 35 _ (0, 0) _ (HRR.out wx hG) Tryd.underlying35 rfl (hInfo _ HLN.out.2.1) ?_
                    exact ⟨Below.refl _ _, rfl⟩
                  refine ⟨fun r wx hG hs hq hf => ?_, ?_⟩
                  · have h0 : r 55 = .int .i64 W := hf.1
                    have h3 : r 58 = .agg (bv h).toArray := hf.2.1
                    have h4 : r 59 = .int .u64 j := hf.2.2.1
                    have h5 : r 60 = .int .u64 n := hf.2.2.2.1
                    have h6 : r 61 = .slice a L c := hf.2.2.2.2.1
                    have h7 : r 62 = .agg (bv rl).toArray := hf.2.2.2.2.2.1
                    refine (if_pos rfl).symm ▸ ?_
                    clear hs hq hf
                    unfold gives
                    go_simp
                    refine (HCK.out wx hG).mono ?_
                    rintro e wy ⟨rfl, hb1⟩
                    exact ⟨_, rfl, hb1, rfl⟩
                  refine ⟨fun r wx hG hs hq hf => ?_, ?_⟩
                  · have h8 : r 63 = .bool true := hf.1
                    refine (if_pos rfl).symm ▸ ?_
                    clear hs hq hf
                    unfold gives
                    go_simp
                    exact ⟨Below.refl _ _, rfl⟩
                  refine ⟨fun r wx hG hs hq hf => ?_, ?_⟩
                  · have e3 : r 3 = .slice xa xn xc := hs 3 rfl
                    have h9 : r 64 = .bool true := hf.1
                    have hy : ydD [some 55, some 56, some 57, some 58, some 59, some 60, some 61, some 62, some 63, some 64, some 65, some 66, some 67, some 68, some 69, some 70, some 71, some 72, some 73] r 9 = some true := by show (match r 64 with | .bool b => some b | _ => none) = some true; rw [h9]
                    simp only [Region.wanted, hy, beq_self_eq_true, if_true]
                    clear hs hq hf hy
                    unfold gives
                    go_simp
                    exact ⟨Below.refl _ _, rfl⟩
                  refine ⟨fun r wx hG hs hq hf => ?_, ?_⟩
                  · have h10 : r 65 = .slice xa xn xc := hf.1
                    have h9 : r 64 = .bool true := hf.2.1
                    have hy : ydD [some 55, some 56, some 57, some 58, some 59, some 60, some 61, some 62, some 63, some 64, some 65, some 66, some 67, some 68, some 69, some 70, some 71, some 72, some 73] r 9 = some true := by show (match r 64 with | .bool b => some b | _ => none) = some true; rw [h9]
                    simp only [Region.wanted, hy, beq_self_eq_true, if_true]
                    clear hs hq hf hy
                    unfold gives
                    have hs := string_of_bytes (P := Tryd.prog) (w := wx) Tryd.underlying25 Tryd.underlying5 Tryd.underlying9 (HXY.out.1.keep hG)
                    go_simp
                    exact ⟨Below.refl _ _, rfl⟩
                  refine ⟨fun r wx hG hs hq hf => ?_, ?_⟩
                  · have e1 : r 1 = .slice (some ⟨tb, tf, none⟩) n tc := hs 1 rfl
                    have h9 : r 64 = .bool true := hf.1
                    have hy : ydD [some 55, some 56, some 57, some 58, some 59, some 60, some 61, some 62, some 63, some 64, some 65, some 66, some 67, some 68, some 69, some 70, some 71, some 72, some 73] r 9 = some true := by show (match r 64 with | .bool b => some b | _ => none) = some true; rw [h9]
                    simp only [Region.wanted, hy, beq_self_eq_true, if_true]
                    clear hs hq hf hy
                    unfold gives
                    go_simp
                    exact ⟨Below.refl _ _, rfl⟩
                  refine ⟨fun r wx hG hs hq hf => ?_, ?_⟩
                  · have e2 : r 2 = .int .u64 j := hs 2 rfl
                    have h9 : r 64 = .bool true := hf.1
                    have hy : ydD [some 55, some 56, some 57, some 58, some 59, some 60, some 61, some 62, some 63, some 64, some 65, some 66, some 67, some 68, some 69, some 70, some 71, some 72, some 73] r 9 = some true := by show (match r 64 with | .bool b => some b | _ => none) = some true; rw [h9]
                    simp only [Region.wanted, hy, beq_self_eq_true, if_true]
                    clear hs hq hf hy
                    unfold gives
                    go_simp
                    exact ⟨Below.refl _ _, rfl⟩
                  refine ⟨fun r wx hG hs hq hf => ?_, ?_⟩
                  · have h12 : r 67 = .slice (some ⟨tb, tf, none⟩) n tc := hf.1
                    have h13 : r 68 = .int .u64 j := hf.2.1
                    have h9 : r 64 = .bool true := hf.2.2.1
                    have hy : ydD [some 55, some 56, some 57, some 58, some 59, some 60, some 61, some 62, some 63, some 64, some 65, some 66, some 67, some 68, some 69, some 70, some 71, some 72, some 73] r 9 = some true := by show (match r 64 with | .bool b => some b | _ => none) = some true; rw [h9]
                    simp only [Region.wanted, hy, beq_self_eq_true, if_true]
                    clear hs hq hf hy
                    unfold gives
                    have y1 : (0 : Int) ≤ (j : Int) := by omega
                    have y2 : (j : Int) < (n : Int) := by omega
                    go_simp
                    exact ⟨Below.refl _ _, rfl⟩
                  refine ⟨fun r wx hG hs hq hf => ?_, ?_⟩
                  · have h14 : r 69 = .pointer (some ⟨tb, tf + j, none⟩) := hf.1
                    have h9 : r 64 = .bool true := hf.2.1
                    have hy : ydD [some 55, some 56, some 57, some 58, some 59, some 60, some 61, some 62, some 63, some 64, some 65, some 66, some 67, some 68, some 69, some 70, some 71, some 72, some 73] r 9 = some true := by show (match r 64 with | .bool b => some b | _ => none) = some true; rw [h9]
                    simp only [Region.wanted, hy, beq_self_eq_true, if_true]
                    clear hs hq hf hy
                    unfold gives
                    have hcl := HC.out wx hG
                    go_simp
                    exact ⟨Below.refl _ _, rfl⟩
                  refine ⟨fun r wx hG hs hq hf => ?_, ?_⟩
                  · have h15 : r 70 = .slice ya yn yc := hf.1
                    have h9 : r 64 = .bool true := hf.2.1
                    have hy : ydD [some 55, some 56, some 57, some 58, some 59, some 60, some 61, some 62, some 63, some 64, some 65, some 66, some 67, some 68, some 69, some 70, some 71, some 72, some 73] r 9 = some true := by show (match r 64 with | .bool b => some b | _ => none) = some true; rw [h9]
                    simp only [Region.wanted, hy, beq_self_eq_true, if_true]
                    clear hs hq hf hy
                    unfold gives
                    have hs := string_of_bytes (P := Tryd.prog) (w := wx) Tryd.underlying25 Tryd.underlying5 Tryd.underlying9 (HXY.out.2.keep hG)
                    go_simp
                    exact ⟨Below.refl _ _, rfl⟩
                  refine ⟨fun r wx hG hs hq hf => ?_, ?_⟩
                  · have h11 : r 66 = .string ⟨x.toArray⟩ := hf.1
                    have h16 : r 71 = .string ⟨y.toArray⟩ := hf.2.1
                    have h9 : r 64 = .bool true := hf.2.2.1
                    have hy : ydD [some 55, some 56, some 57, some 58, some 59, some 60, some 61, some 62, some 63, some 64, some 65, some 66, some 67, some 68, some 69, some 70, some 71, some 72, some 73] r 9 = some true := by show (match r 64 with | .bool b => some b | _ => none) = some true; rw [h9]
                    simp only [Region.wanted, hy, beq_self_eq_true, if_true]
                    clear hs hq hf hy
                    unfold gives
                    have hqb := HQX.out
                    go_simp
                    exact ⟨Below.refl _ _, by first | rfl | simp [t7yF]⟩
                  refine ⟨fun r wx hG hs hq hf => ?_, ?_⟩
                  · have h9 : r 64 = .bool true := hf.1
                    have h17 : r 72 = .bool false := hf.2.1
                    refine (if_pos rfl).symm ▸ ?_
                    clear hs hq hf
                    unfold gives
                    go_simp
                    exact ⟨Below.refl _ _, rfl⟩
                  exact trivial
                case hend =>
                  intro u wz hG hfin
                  have z18 : u 18 = .bool false := hfin 18 (by decide) (by kernel_rfl)
                  clear hfin
                  simp only [fill]
                  go_simp
                  go_step
                  go_meet
                  exact ⟨false, rfl, fun hh => by simp at hh, hG⟩
              · have HQX := Lib.hid (show (x == y) = false from beq_eq_false_iff_ne.2 hqm)
                have HCX := Lib.hid (HC1.out rfl hqm)
                clear hqm
                refine wp_region_steps [some 55, some 56, some 57, some 58, some 59, some 60, some 61, some 62, some 63, some 64, some 65, some 66, some 67, some 68, some 69, some 70, some 71, some 72, some 73] [] (t7nF W tb tf tc n j xn xc yn yc g10 g13 c13 g15 L c a xa ya x y h rl) (fun _ wx wy => Below wx.heap.size wx wy) (fun wx => Below w6.heap.size w6 wx) (by kernel_rfl) (by kernel_rfl) rfl (by kernel_rfl) (Below.refl _ _).drew (fun _ wx => Below.refl _ _) (fun _ wx wy h k => h.trans (k.mono h.size)) ?hF ?hstep ?hend
                case hF =>
                  exact ⟨fun _ _ _ _ _ _ h => h, ⟨fun _ _ _ _ _ _ h => h, ⟨fun _ _ _ _ _ _ h => h, ⟨fun _ _ _ _ _ _ h => h, ⟨fun _ _ _ _ _ _ h => h, ⟨fun _ _ _ _ _ _ h => h, ⟨fun _ _ _ _ _ _ h => h, ⟨fun _ _ _ _ _ _ h => h, ⟨fun _ _ _ _ _ _ h => h, ⟨fun _ _ _ _ _ _ h => h, ⟨fun _ _ _ _ _ _ h => h, ⟨fun _ _ _ _ _ _ h => h, ⟨fun _ _ _ _ _ _ h => h, ⟨fun _ _ _ _ _ _ h => h, ⟨fun _ _ _ _ _ _ h => h, ⟨fun _ _ _ _ _ _ h => h, ⟨fun _ _ _ _ _ _ h => h, ⟨fun _ _ _ _ _ _ h => h, ⟨fun _ _ _ _ _ _ h => h, trivial⟩⟩⟩⟩⟩⟩⟩⟩⟩⟩⟩⟩⟩⟩⟩⟩⟩⟩⟩
                case hstep =>
                  refine ⟨fun r wx hG hs hq hf => ?_, ?_⟩
                  · have e0 : r 0 = .int .i64 W := hs 0 rfl
                    refine (if_pos rfl).symm ▸ ?_
                    clear hs hq hf
                    unfold gives
                    go_simp
                    exact ⟨Below.refl _ _, rfl⟩
                  refine ⟨fun r wx hG hs hq hf => ?_, ?_⟩
                  · have e0 : r 0 = .int .i64 W := hs 0 rfl
                    refine (if_pos rfl).symm ▸ ?_
                    clear hs hq hf
                    unfold gives
                    go_simp
                    exact ⟨Below.refl _ _, rfl⟩
                  refine ⟨fun r wx hG hs hq hf => ?_, ?_⟩
                  · have e3 : r 3 = .slice xa xn xc := hs 3 rfl
                    refine (if_pos rfl).symm ▸ ?_
                    clear hs hq hf
                    unfold gives
                    go_simp
                    exact ⟨Below.refl _ _, rfl⟩
                  refine ⟨fun r wx hG hs hq hf => ?_, ?_⟩
                  · have h1 : r 56 = .int .i64 W := hf.1
                    have h2 : r 57 = .slice xa xn xc := hf.2.1
                    refine (if_pos rfl).symm ▸ ?_
                    clear hs hq hf
                    unfold gives
                    go_simp
                    refine (HLF.out wx hG).mono ?_
                    rintro e wy ⟨rfl, hb1⟩
                    exact ⟨_, rfl, hb1, rfl⟩
                  refine ⟨fun r wx hG hs hq hf => ?_, ?_⟩
                  · have e2 : r 2 = .int .u64 j := hs 2 rfl
                    refine (if_pos rfl).symm ▸ ?_
                    clear hs hq hf
                    unfold gives
                    go_simp
                    exact ⟨Below.refl _ _, rfl⟩
                  refine ⟨fun r wx hG hs hq hf => ?_, ?_⟩
                  · have e14 : r 14 = .int .u64 n := hs 14 rfl
                    refine (if_pos rfl).symm ▸ ?_
                    clear hs hq hf
                    unfold gives
                    go_simp
                    exact ⟨Below.refl _ _, rfl⟩
                  refine ⟨fun r wx hG hs hq hf => ?_, ?_⟩
                  · have e5 : r 5 = .slice a L c := hs 5 rfl
                    refine (if_pos rfl).symm ▸ ?_
                    clear hs hq hf
                    unfold gives
                    go_simp
                    exact ⟨Below.refl _ _, rfl⟩
                  refine ⟨fun r wx hG hs hq hf => ?_, ?_⟩
                  · have e15 : r 15 = .pointer (some ⟨g15, 0, none⟩) := hs 15 rfl
                    refine (if_pos rfl).symm ▸ ?_
                    clear hs hq hf
                    unfold gives
                    refine gives_load_row 35 _ rfl g15 e15 35 _ (0, 0) _ (HRR.out wx hG) Tryd.underlying35 rfl (hInfo _ HLN.out.2.1) ?_
                    exact ⟨Below.refl _ _, rfl⟩
                  refine ⟨fun r wx hG hs hq hf => ?_, ?_⟩
                  · have h0 : r 55 = .int .i64 W := hf.1
                    have h3 : r 58 = .agg (bv h).toArray := hf.2.1
                    have h4 : r 59 = .int .u64 j := hf.2.2.1
                    have h5 : r 60 = .int .u64 n := hf.2.2.2.1
                    have h6 : r 61 = .slice a L c := hf.2.2.2.2.1
                    have h7 : r 62 = .agg (bv rl).toArray := hf.2.2.2.2.2.1
                    refine (if_pos rfl).symm ▸ ?_
                    clear hs hq hf
                    unfold gives
                    go_simp
                    refine (HCK.out wx hG).mono ?_
                    rintro e wy ⟨rfl, hb1⟩
                    exact ⟨_, rfl, hb1, rfl⟩
                  refine ⟨fun r wx hG hs hq hf => ?_, ?_⟩
                  · have h8 : r 63 = .bool true := hf.1
                    refine (if_pos rfl).symm ▸ ?_
                    clear hs hq hf
                    unfold gives
                    go_simp
                    exact ⟨Below.refl _ _, rfl⟩
                  refine ⟨fun r wx hG hs hq hf => ?_, ?_⟩
                  · have e3 : r 3 = .slice xa xn xc := hs 3 rfl
                    have h9 : r 64 = .bool true := hf.1
                    have hy : ydD [some 55, some 56, some 57, some 58, some 59, some 60, some 61, some 62, some 63, some 64, some 65, some 66, some 67, some 68, some 69, some 70, some 71, some 72, some 73] r 9 = some true := by show (match r 64 with | .bool b => some b | _ => none) = some true; rw [h9]
                    simp only [Region.wanted, hy, beq_self_eq_true, if_true]
                    clear hs hq hf hy
                    unfold gives
                    go_simp
                    exact ⟨Below.refl _ _, rfl⟩
                  refine ⟨fun r wx hG hs hq hf => ?_, ?_⟩
                  · have h10 : r 65 = .slice xa xn xc := hf.1
                    have h9 : r 64 = .bool true := hf.2.1
                    have hy : ydD [some 55, some 56, some 57, some 58, some 59, some 60, some 61, some 62, some 63, some 64, some 65, some 66, some 67, some 68, some 69, some 70, some 71, some 72, some 73] r 9 = some true := by show (match r 64 with | .bool b => some b | _ => none) = some true; rw [h9]
                    simp only [Region.wanted, hy, beq_self_eq_true, if_true]
                    clear hs hq hf hy
                    unfold gives
                    have hs := string_of_bytes (P := Tryd.prog) (w := wx) Tryd.underlying25 Tryd.underlying5 Tryd.underlying9 (HXY.out.1.keep hG)
                    go_simp
                    exact ⟨Below.refl _ _, rfl⟩
                  refine ⟨fun r wx hG hs hq hf => ?_, ?_⟩
                  · have e1 : r 1 = .slice (some ⟨tb, tf, none⟩) n tc := hs 1 rfl
                    have h9 : r 64 = .bool true := hf.1
                    have hy : ydD [some 55, some 56, some 57, some 58, some 59, some 60, some 61, some 62, some 63, some 64, some 65, some 66, some 67, some 68, some 69, some 70, some 71, some 72, some 73] r 9 = some true := by show (match r 64 with | .bool b => some b | _ => none) = some true; rw [h9]
                    simp only [Region.wanted, hy, beq_self_eq_true, if_true]
                    clear hs hq hf hy
                    unfold gives
                    go_simp
                    exact ⟨Below.refl _ _, rfl⟩
                  refine ⟨fun r wx hG hs hq hf => ?_, ?_⟩
                  · have e2 : r 2 = .int .u64 j := hs 2 rfl
                    have h9 : r 64 = .bool true := hf.1
                    have hy : ydD [some 55, some 56, some 57, some 58, some 59, some 60, some 61, some 62, some 63, some 64, some 65, some 66, some 67, some 68, some 69, some 70, some 71, some 72, some 73] r 9 = some true := by show (match r 64 with | .bool b => some b | _ => none) = some true; rw [h9]
                    simp only [Region.wanted, hy, beq_self_eq_true, if_true]
                    clear hs hq hf hy
                    unfold gives
                    go_simp
                    exact ⟨Below.refl _ _, rfl⟩
                  refine ⟨fun r wx hG hs hq hf => ?_, ?_⟩
                  · have h12 : r 67 = .slice (some ⟨tb, tf, none⟩) n tc := hf.1
                    have h13 : r 68 = .int .u64 j := hf.2.1
                    have h9 : r 64 = .bool true := hf.2.2.1
                    have hy : ydD [some 55, some 56, some 57, some 58, some 59, some 60, some 61, some 62, some 63, some 64, some 65, some 66, some 67, some 68, some 69, some 70, some 71, some 72, some 73] r 9 = some true := by show (match r 64 with | .bool b => some b | _ => none) = some true; rw [h9]
                    simp only [Region.wanted, hy, beq_self_eq_true, if_true]
                    clear hs hq hf hy
                    unfold gives
                    have y1 : (0 : Int) ≤ (j : Int) := by omega
                    have y2 : (j : Int) < (n : Int) := by omega
                    go_simp
                    exact ⟨Below.refl _ _, rfl⟩
                  refine ⟨fun r wx hG hs hq hf => ?_, ?_⟩
                  · have h14 : r 69 = .pointer (some ⟨tb, tf + j, none⟩) := hf.1
                    have h9 : r 64 = .bool true := hf.2.1
                    have hy : ydD [some 55, some 56, some 57, some 58, some 59, some 60, some 61, some 62, some 63, some 64, some 65, some 66, some 67, some 68, some 69, some 70, some 71, some 72, some 73] r 9 = some true := by show (match r 64 with | .bool b => some b | _ => none) = some true; rw [h9]
                    simp only [Region.wanted, hy, beq_self_eq_true, if_true]
                    clear hs hq hf hy
                    unfold gives
                    have hcl := HC.out wx hG
                    go_simp
                    exact ⟨Below.refl _ _, rfl⟩
                  refine ⟨fun r wx hG hs hq hf => ?_, ?_⟩
                  · have h15 : r 70 = .slice ya yn yc := hf.1
                    have h9 : r 64 = .bool true := hf.2.1
                    have hy : ydD [some 55, some 56, some 57, some 58, some 59, some 60, some 61, some 62, some 63, some 64, some 65, some 66, some 67, some 68, some 69, some 70, some 71, some 72, some 73] r 9 = some true := by show (match r 64 with | .bool b => some b | _ => none) = some true; rw [h9]
                    simp only [Region.wanted, hy, beq_self_eq_true, if_true]
                    clear hs hq hf hy
                    unfold gives
                    have hs := string_of_bytes (P := Tryd.prog) (w := wx) Tryd.underlying25 Tryd.underlying5 Tryd.underlying9 (HXY.out.2.keep hG)
                    go_simp
                    exact ⟨Below.refl _ _, rfl⟩
                  refine ⟨fun r wx hG hs hq hf => ?_, ?_⟩
                  · have h11 : r 66 = .string ⟨x.toArray⟩ := hf.1
                    have h16 : r 71 = .string ⟨y.toArray⟩ := hf.2.1
                    have h9 : r 64 = .bool true := hf.2.2.1
                    have hy : ydD [some 55, some 56, some 57, some 58, some 59, some 60, some 61, some 62, some 63, some 64, some 65, some 66, some 67, some 68, some 69, some 70, some 71, some 72, some 73] r 9 = some true := by show (match r 64 with | .bool b => some b | _ => none) = some true; rw [h9]
                    simp only [Region.wanted, hy, beq_self_eq_true, if_true]
                    clear hs hq hf hy
                    unfold gives
                    have hqb := HQX.out
                    go_simp
                    exact ⟨Below.refl _ _, by first | rfl | simp [t7nF]⟩
                  refine ⟨fun r wx hG hs hq hf => ?_, ?_⟩
                  · have h9 : r 64 = .bool true := hf.1
                    have h17 : r 72 = .bool true := hf.2.1
                    refine (if_pos rfl).symm ▸ ?_
                    clear hs hq hf
                    unfold gives
                    go_simp
                    exact ⟨Below.refl _ _, rfl⟩
                  exact trivial
                case hend =>
                  intro u wz hG hfin
                  have z18 : u 18 = .bool true := hfin 18 (by decide) (by kernel_rfl)
                  clear hfin
                  simp only [fill]
                  go_simp
                  go_step
                  go_meet
                  exact ⟨true, rfl, fun _ => HCX.out, hG⟩
          case rest =>
            obtain ⟨b0, rfl, hp1, hb7⟩ := hcut
            have HP1 := Lib.hid hp1
            have H7 := Lib.hid hb7
            clear hp1 hb7
            obtain ⟨w7, hw7⟩ : ∃ q, q = wc := ⟨_, rfl⟩
            subst hw7
            go_upto_if 73 with fail
            go_cut [] (fun wz => Below w6.heap.size w6 wz)
            case first =>
              cases b0 with
              | false =>
                go_wp2_with fail
                go_meet
                exact H7.out
              | true =>
                have HB7 := Lib.hid (HB6.out.trans (H7.out.mono HB6.out.size))
                have hcl := cPath_any W l j x ps (.slice (some ⟨tb, tf, none⟩) l.length tc) (.slice xa x.length xc) a c w7 HWW.out (by rw [← HN.out.1]; omega) (fun t h => Nat.le_trans (HFA2.out.2 t h) (by omega)) (by omega) (by rw [← HN.out.2.2]; omega) HARG.out.2.2.2 (by rw [← HN.out.2.1]; omega) (HARG.out.1.keep HB7.out) (HARG.out.2.1.keep HB7.out) (HARG.out.2.2.1.keep HB7.out) (HTT.out.1.toTabs.keepB HB7.out)
                rw [← HN.out.1, ← HN.out.2.1, ← HN.out.2.2] at hcl
                have hac := ansP_tells W l j x ps (by rw [← HN.out.1]; omega) HARG.out.2.2.2
                have hln := ansP_len W l j x ps (by rw [← HN.out.1]; omega) (fun t h => Nat.le_trans (HFA2.out.2 t h) (by omega)) (by rw [← HN.out.2.2]; omega) HARG.out.2.2.2
                have han := HP1.out rfl
                obtain ⟨AN, hAN⟩ : ∃ q, q = ansP W l j x ps := ⟨_, rfl⟩
                rw [← hAN] at hcl hac hln han
                obtain ⟨E, X, Y⟩ := AN
                have hE : E = 0 := han
                subst hE
                have HCL := Lib.hid hcl
                have HCB := Lib.hid (show clB W X Y = true from hac.symm.trans (by simp))
                have HLN2 := Lib.hid (show X.length ≤ 4001 ∧ Y.length ≤ 4001 from hln)
                clear hcl hac hln han hAN
                go_wp2_with fail
                refine HCL.out.mono ?_
                rintro e wp ⟨x1, d1, x2, d2, he, hx1, hx2, hbp⟩
                have he : e = .returned (.tuple #[.agg #[.slice x1 X.length d1, .slice x2 Y.length d2], .int .i64 0]) := he
                have hx1 : Rd wp 1 (.slice x1 X.length d1) X.length (bv X) := hx1
                have hx2 : Rd wp 1 (.slice x2 Y.length d2) Y.length (bv Y) := hx2
                subst he
                obtain ⟨wq, hwq⟩ : ∃ q : World, q = wp.alloc (.cells #[.slice x1 X.length d1, .slice x2 Y.length d2] 27) := ⟨_, rfl⟩
                have hbq : Below wp.heap.size wp wq := by rw [hwq]; exact (Below.refl _ _).alloc (Nat.le_refl _) _
                have hrq : wq.heap[wp.heap.size]? = some (.cells #[.slice x1 X.length d1, .slice x2 Y.length d2] 27 (0, 0)) := by rw [hwq]; exact heap_alloc_new _ _
                have hBq : Below w6.heap.size w6 wq := H7.out.trans ((hbp.trans (hbq.mono hbp.size)).mono H7.out.size)
                have HBQ := Lib.hid hBq
                have HWQ := Lib.hid hwq
                have q0 : wq.cell? ⟨wp.heap.size, 0, none⟩ = some (.slice x1 X.length d1) := cell_of_rowp hrq rfl
                have q1 : wq.cell? ⟨wp.heap.size, 1, none⟩ = some (.slice x2 Y.length d2) := cell_of_rowp hrq rfl
                have HCS := Lib.hid (clash_any W X Y x1 x2 d1 d2 wq HWW.out (by have : X.length ≤ 4001 := HLN2.out.1; omega) (by have : Y.length ≤ 4001 := HLN2.out.2; omega) (hx1.keep hbq) (hx2.keep hbq) (HTT.out.1.keepB (HB6.out.trans (hBq.mono HB6.out.size))))
                clear hx1 hx2 hbp hbq hrq hwq hBq
                go_upto_region 9 with fail
                rw [show wp.alloc (.cells #[.slice x1 X.length d1, .slice x2 Y.length d2] 27) = wq from HWQ.out.symm]
                go_wp2_with fail
                refine HCS.out.mono ?_
                rintro e ws ⟨rfl, hbs⟩
                rw [show clB W X Y = true from HCB.out]
                have HBS := Lib.hid (HBQ.out.trans (hbs.mono HBQ.out.size))
                clear hbs
                go_wp2_with fail
                go_meet
                exact HBS.out
            case rest =>
              have H10 := Lib.hid hcut
              clear hcut
              obtain ⟨w10, hw10⟩ : ∃ q, q = wc := ⟨_, rfl⟩
              subst hw10
              have HRO10 := Lib.hid (fun wx (hb : Below w10.heap.size w10 wx) => HRO.out wx (H10.out.trans (hb.mono H10.out.size)))
              have HRR10 := Lib.hid (fun wx (hb : Below w10.heap.size w10 wx) => HRR.out wx (H10.out.trans (hb.mono H10.out.size)))
              have HGK10 := Lib.hid (fun wx (hb : Below w10.heap.size w10 wx) => HGK0.out wx (H10.out.trans (hb.mono H10.out.size)))
              have HRK := Lib.hid (fun wx (hb : Below w10.heap.size w10 wx) => HRK0.out wx (H10.out.trans (hb.mono H10.out.size)))
              have HROsave := HRO
              clear HRO HRR
              have HRO := HRO10
              have HRR := HRR10
              clear HRO10 HRR10
              go_upto_region 11 with fail
              go_cut [108] (fun s108 wz => ∃ b : Bool, s108 = .bool b ∧ (b = true → (ansG W l (j + 1) old ps).1 = 0) ∧ Below w10.heap.size w10 wz)
              case first =>
                cases c2 with
                | false =>
                  have HGK := HGK10
                  refine wp_region_steps [some 91, some 92, some 93, some 94, some 95, some 96, some 97, some 98, some 99, some 100, some 101, some 102, some 103, some 104, some 105, some 106, some 107, some 108] [] (t11fF W tb tf tc n j xn xc g10 g13 c13 g15 L c a xa old rl rk) (fun _ wx wy => Below wx.heap.size wx wy) (fun wx => Below w10.heap.size w10 wx) (by kernel_rfl) (by kernel_rfl) rfl (by kernel_rfl) (Below.refl _ _).drew (fun _ wx => Below.refl _ _) (fun _ wx wy h k => h.trans (k.mono h.size)) ?hF ?hstep ?hend
                  case hF =>
                    exact ⟨fun _ _ _ _ _ _ h => h, ⟨fun _ _ _ _ _ _ h => h, ⟨fun _ _ _ _ _ _ h => h, ⟨fun _ _ _ _ _ _ h => h, ⟨fun _ _ _ _ _ _ h => h, ⟨fun _ _ _ _ _ _ h => h, ⟨fun _ _ _ _ _ _ h => h, ⟨fun _ _ _ _ _ _ h => h, ⟨fun _ _ _ _ _ _ h => h, ⟨fun _ _ _ _ _ _ h => h, ⟨fun _ _ _ _ _ _ h => h, ⟨fun _ _ _ _ _ _ h => h, ⟨fun _ _ _ _ _ _ h => h, ⟨fun _ _ _ _ _ _ h => h, ⟨fun _ _ _ _ _ _ h => h, ⟨fun _ _ _ _ _ _ h => h, ⟨fun _ _ _ _ _ _ h => h, ⟨fun _ _ _ _ _ _ h => h, trivial⟩⟩⟩⟩⟩⟩⟩⟩⟩⟩⟩⟩⟩⟩⟩⟩⟩⟩
                  case hstep =>
                    refine ⟨fun r wx hG hs hq hf => ?_, ?_⟩
                    · have e0 : r 0 = .int .i64 W := hs 0 rfl
                      refine (if_pos rfl).symm ▸ ?_
                      clear hs hq hf
                      unfold gives
                      go_simp
                      exact ⟨Below.refl _ _, rfl⟩
                    refine ⟨fun r wx hG hs hq hf => ?_, ?_⟩
                    · have e2 : r 2 = .int .u64 j := hs 2 rfl
                      refine (if_pos rfl).symm ▸ ?_
                      clear hs hq hf
                      unfold gives
                      go_simp
                      exact ⟨Below.refl _ _, rfl⟩
                    refine ⟨fun r wx hG hs hq hf => ?_, ?_⟩
                    · have h1 : r 92 = .int .u64 j := hf.1
                      refine (if_pos rfl).symm ▸ ?_
                      clear hs hq hf
                      unfold gives
                      have zj : IntKind.u64.wrap ((j : Int) + 1) = ((j + 1 : Nat) : Int) := (IntWalk.u64_in _ (by omega)).trans (by omega)
                      go_simp
                      exact ⟨Below.refl _ _, rfl⟩
                    refine ⟨fun r wx hG hs hq hf => ?_, ?_⟩
                    · have e14 : r 14 = .int .u64 n := hs 14 rfl
                      refine (if_pos rfl).symm ▸ ?_
                      clear hs hq hf
                      unfold gives
                      go_simp
                      exact ⟨Below.refl _ _, rfl⟩
                    refine ⟨fun r wx hG hs hq hf => ?_, ?_⟩
                    · have e10 : r 10 = .pointer (some ⟨g10, 0, none⟩) := hs 10 rfl
                      refine (if_pos rfl).symm ▸ ?_
                      clear hs hq hf
                      unfold gives
                      refine gives_load_row 35 _ rfl g10 e10 35 _ (0, 0) _ (HRO.out wx hG) Tryd.underlying35 rfl (hInfo _ HLN.out.1) ?_
                      exact ⟨Below.refl _ _, rfl⟩
                    refine ⟨fun r wx hG hs hq hf => ?_, ?_⟩
                    · have e15 : r 15 = .pointer (some ⟨g15, 0, none⟩) := hs 15 rfl
                      refine (if_pos rfl).symm ▸ ?_
                      clear hs hq hf
                      unfold gives
                      refine gives_load_row 35 _ rfl g15 e15 35 _ (0, 0) _ (HRR.out wx hG) Tryd.underlying35 rfl (hInfo _ HLN.out.2.1) ?_
                      exact ⟨Below.refl _ _, rfl⟩
                    refine ⟨fun r wx hG hs hq hf => ?_, ?_⟩
                    · have e5 : r 5 = .slice a L c := hs 5 rfl
                      refine (if_pos rfl).symm ▸ ?_
                      clear hs hq hf
                      unfold gives
                      go_simp
                      exact ⟨Below.refl _ _, rfl⟩
                    refine ⟨fun r wx hG hs hq hf => ?_, ?_⟩
                    · have h0 : r 91 = .int .i64 W := hf.1
                      have h2 : r 93 = .int .u64 ((j + 1 : Nat) : Int) := hf.2.1
                      have h3 : r 94 = .int .u64 n := hf.2.2.1
                      have h4 : r 95 = .agg (bv old).toArray := hf.2.2.2.1
                      have h5 : r 96 = .agg (bv rl).toArray := hf.2.2.2.2.1
                      have h6 : r 97 = .slice a L c := hf.2.2.2.2.2.1
                      refine (if_pos rfl).symm ▸ ?_
                      clear hs hq hf
                      unfold gives
                      go_simp
                      refine (HGK.out wx hG).mono ?_
                      rintro e wy ⟨rfl, hb1⟩
                      exact ⟨_, rfl, hb1, rfl⟩
                    refine ⟨fun r wx hG hs hq hf => ?_, ?_⟩
                    · have h7 : r 98 = .bool false := hf.1
                      refine (if_pos rfl).symm ▸ ?_
                      clear hs hq hf
                      unfold gives
                      go_simp
                      exact ⟨Below.refl _ _, rfl⟩
                    refine ⟨fun r wx hG hs hq hf => ?_, ?_⟩
                    · have e10 : r 10 = .pointer (some ⟨g10, 0, none⟩) := hs 10 rfl
                      have h8 : r 99 = .bool false := hf.1
                      have hy : ydD [some 91, some 92, some 93, some 94, some 95, some 96, some 97, some 98, some 99, some 100, some 101, some 102, some 103, some 104, some 105, some 106, some 107, some 108] r 8 = some false := by show (match r 99 with | .bool b => some b | _ => none) = some false; rw [h8]
                      simp only [Region.wanted, hy]
                      rw [if_neg (show ¬ (some false == some true) = true by decide)]
                      clear hs hq hf hy
                      rfl
                    refine ⟨fun r wx hG hs hq hf => ?_, ?_⟩
                    · have e0 : r 0 = .int .i64 W := hs 0 rfl
                      have h8 : r 99 = .bool false := hf.1
                      have hy : ydD [some 91, some 92, some 93, some 94, some 95, some 96, some 97, some 98, some 99, some 100, some 101, some 102, some 103, some 104, some 105, some 106, some 107, some 108] r 8 = some false := by show (match r 99 with | .bool b => some b | _ => none) = some false; rw [h8]
                      simp only [Region.wanted, hy]
                      rw [if_neg (show ¬ (some false == some true) = true by decide)]
                      clear hs hq hf hy
                      rfl
                    refine ⟨fun r wx hG hs hq hf => ?_, ?_⟩
                    · have e13 : r 13 = .slice (some ⟨g13, 0, none⟩) n c13 := hs 13 rfl
                      have h8 : r 99 = .bool false := hf.1
                      have hy : ydD [some 91, some 92, some 93, some 94, some 95, some 96, some 97, some 98, some 99, some 100, some 101, some 102, some 103, some 104, some 105, some 106, some 107, some 108] r 8 = some false := by show (match r 99 with | .bool b => some b | _ => none) = some false; rw [h8]
                      simp only [Region.wanted, hy]
                      rw [if_neg (show ¬ (some false == some true) = true by decide)]
                      clear hs hq hf hy
                      rfl
                    refine ⟨fun r wx hG hs hq hf => ?_, ?_⟩
                    · have e2 : r 2 = .int .u64 j := hs 2 rfl
                      have h8 : r 99 = .bool false := hf.1
                      have hy : ydD [some 91, some 92, some 93, some 94, some 95, some 96, some 97, some 98, some 99, some 100, some 101, some 102, some 103, some 104, some 105, some 106, some 107, some 108] r 8 = some false := by show (match r 99 with | .bool b => some b | _ => none) = some false; rw [h8]
                      simp only [Region.wanted, hy]
                      rw [if_neg (show ¬ (some false == some true) = true by decide)]
                      clear hs hq hf hy
                      rfl
                    refine ⟨fun r wx hG hs hq hf => ?_, ?_⟩
                    · have h12 : r 103 = undef := hf.1
                      have h8 : r 99 = .bool false := hf.2.1
                      have hy : ydD [some 91, some 92, some 93, some 94, some 95, some 96, some 97, some 98, some 99, some 100, some 101, some 102, some 103, some 104, some 105, some 106, some 107, some 108] r 8 = some false := by show (match r 99 with | .bool b => some b | _ => none) = some false; rw [h8]
                      simp only [Region.wanted, hy]
                      rw [if_neg (show ¬ (some false == some true) = true by decide)]
                      clear hs hq hf hy
                      rfl
                    refine ⟨fun r wx hG hs hq hf => ?_, ?_⟩
                    · have h11 : r 102 = undef := hf.1
                      have h13 : r 104 = undef := hf.2.1
                      have h8 : r 99 = .bool false := hf.2.2.1
                      have hy : ydD [some 91, some 92, some 93, some 94, some 95, some 96, some 97, some 98, some 99, some 100, some 101, some 102, some 103, some 104, some 105, some 106, some 107, some 108] r 8 = some false := by show (match r 99 with | .bool b => some b | _ => none) = some false; rw [h8]
                      simp only [Region.wanted, hy]
                      rw [if_neg (show ¬ (some false == some true) = true by decide)]
                      clear hs hq hf hy
                      rfl
                    refine ⟨fun r wx hG hs hq hf => ?_, ?_⟩
                    · have h10 : r 101 = undef := hf.1
                      have h14 : r 105 = undef := hf.2.1
                      have h8 : r 99 = .bool false := hf.2.2.1
                      have hy : ydD [some 91, some 92, some 93, some 94, some 95, some 96, some 97, some 98, some 99, some 100, some 101, some 102, some 103, some 104, some 105, some 106, some 107, some 108] r 8 = some false := by show (match r 99 with | .bool b => some b | _ => none) = some false; rw [h8]
                      simp only [Region.wanted, hy]
                      rw [if_neg (show ¬ (some false == some true) = true by decide)]
                      clear hs hq hf hy
                      rfl
                    refine ⟨fun r wx hG hs hq hf => ?_, ?_⟩
                    · have h9 : r 100 = undef := hf.1
                      have h15 : r 106 = undef := hf.2.1
                      have h8 : r 99 = .bool false := hf.2.2.1
                      have hy : ydD [some 91, some 92, some 93, some 94, some 95, some 96, some 97, some 98, some 99, some 100, some 101, some 102, some 103, some 104, some 105, some 106, some 107, some 108] r 8 = some false := by show (match r 99 with | .bool b => some b | _ => none) = some false; rw [h8]
                      simp only [Region.wanted, hy]
                      rw [if_neg (show ¬ (some false == some true) = true by decide)]
                      clear hs hq hf hy
                      rfl
                    refine ⟨fun r wx hG hs hq hf => ?_, ?_⟩
                    · have h8 : r 99 = .bool false := hf.1
                      have h16 : r 107 = undef := hf.2.1
                      refine (if_pos rfl).symm ▸ ?_
                      clear hs hq hf
                      unfold gives
                      go_simp
                      exact ⟨Below.refl _ _, rfl⟩
                    exact trivial
                  case hend =>
                    intro u wz hG hfin
                    have z17 : u 17 = .bool false := hfin 17 (by decide) (by kernel_rfl)
                    clear hfin
                    simp only [fill]
                    go_simp
                    go_step
                    go_meet
                    exact ⟨false, rfl, fun hh => by simp at hh, hG⟩
                | true =>
                  have HGK := HGK10
                  by_cases hqm : old = rk
                  · have HQB := Lib.hid (show (old == rk) = true from beq_iff_eq.2 hqm)
                    clear hqm
                    refine wp_region_steps [some 91, some 92, some 93, some 94, some 95, some 96, some 97, some 98, some 99, some 100, some 101, some 102, some 103, some 104, some 105, some 106, some 107, some 108] [] (t11yF W tb tf tc n j xn xc g10 g13 c13 g15 L c a xa old rl rk) (fun _ wx wy => Below wx.heap.size wx wy) (fun wx => Below w10.heap.size w10 wx) (by kernel_rfl) (by kernel_rfl) rfl (by kernel_rfl) (Below.refl _ _).drew (fun _ wx => Below.refl _ _) (fun _ wx wy h k => h.trans (k.mono h.size)) ?hF ?hstep ?hend
                    case hF =>
                      exact ⟨fun _ _ _ _ _ _ h => h, ⟨fun _ _ _ _ _ _ h => h, ⟨fun _ _ _ _ _ _ h => h, ⟨fun _ _ _ _ _ _ h => h, ⟨fun _ _ _ _ _ _ h => h, ⟨fun _ _ _ _ _ _ h => h, ⟨fun _ _ _ _ _ _ h => h, ⟨fun _ _ _ _ _ _ h => h, ⟨fun _ _ _ _ _ _ h => h, ⟨fun _ _ _ _ _ _ h => h, ⟨fun _ _ _ _ _ _ h => h, ⟨fun _ _ _ _ _ _ h => h, ⟨fun _ _ _ _ _ _ h => h, ⟨fun _ _ _ _ _ _ h => h, ⟨fun _ _ _ _ _ _ h => h, ⟨fun _ _ _ _ _ _ h => h, ⟨fun _ _ _ _ _ _ h => h, ⟨fun _ _ _ _ _ _ h => h, trivial⟩⟩⟩⟩⟩⟩⟩⟩⟩⟩⟩⟩⟩⟩⟩⟩⟩⟩
                    case hstep =>
                      refine ⟨fun r wx hG hs hq hf => ?_, ?_⟩
                      · have e0 : r 0 = .int .i64 W := hs 0 rfl
                        refine (if_pos rfl).symm ▸ ?_
                        clear hs hq hf
                        unfold gives
                        go_simp
                        exact ⟨Below.refl _ _, rfl⟩
                      refine ⟨fun r wx hG hs hq hf => ?_, ?_⟩
                      · have e2 : r 2 = .int .u64 j := hs 2 rfl
                        refine (if_pos rfl).symm ▸ ?_
                        clear hs hq hf
                        unfold gives
                        go_simp
                        exact ⟨Below.refl _ _, rfl⟩
                      refine ⟨fun r wx hG hs hq hf => ?_, ?_⟩
                      · have h1 : r 92 = .int .u64 j := hf.1
                        refine (if_pos rfl).symm ▸ ?_
                        clear hs hq hf
                        unfold gives
                        have zj : IntKind.u64.wrap ((j : Int) + 1) = ((j + 1 : Nat) : Int) := (IntWalk.u64_in _ (by omega)).trans (by omega)
                        go_simp
                        exact ⟨Below.refl _ _, rfl⟩
                      refine ⟨fun r wx hG hs hq hf => ?_, ?_⟩
                      · have e14 : r 14 = .int .u64 n := hs 14 rfl
                        refine (if_pos rfl).symm ▸ ?_
                        clear hs hq hf
                        unfold gives
                        go_simp
                        exact ⟨Below.refl _ _, rfl⟩
                      refine ⟨fun r wx hG hs hq hf => ?_, ?_⟩
                      · have e10 : r 10 = .pointer (some ⟨g10, 0, none⟩) := hs 10 rfl
                        refine (if_pos rfl).symm ▸ ?_
                        clear hs hq hf
                        unfold gives
                        refine gives_load_row 35 _ rfl g10 e10 35 _ (0, 0) _ (HRO.out wx hG) Tryd.underlying35 rfl (hInfo _ HLN.out.1) ?_
                        exact ⟨Below.refl _ _, rfl⟩
                      refine ⟨fun r wx hG hs hq hf => ?_, ?_⟩
                      · have e15 : r 15 = .pointer (some ⟨g15, 0, none⟩) := hs 15 rfl
                        refine (if_pos rfl).symm ▸ ?_
                        clear hs hq hf
                        unfold gives
                        refine gives_load_row 35 _ rfl g15 e15 35 _ (0, 0) _ (HRR.out wx hG) Tryd.underlying35 rfl (hInfo _ HLN.out.2.1) ?_
                        exact ⟨Below.refl _ _, rfl⟩
                      refine ⟨fun r wx hG hs hq hf => ?_, ?_⟩
                      · have e5 : r 5 = .slice a L c := hs 5 rfl
                        refine (if_pos rfl).symm ▸ ?_
                        clear hs hq hf
                        unfold gives
                        go_simp
                        exact ⟨Below.refl _ _, rfl⟩
                      refine ⟨fun r wx hG hs hq hf => ?_, ?_⟩
                      · have h0 : r 91 = .int .i64 W := hf.1
                        have h2 : r 93 = .int .u64 ((j + 1 : Nat) : Int) := hf.2.1
                        have h3 : r 94 = .int .u64 n := hf.2.2.1
                        have h4 : r 95 = .agg (bv old).toArray := hf.2.2.2.1
                        have h5 : r 96 = .agg (bv rl).toArray := hf.2.2.2.2.1
                        have h6 : r 97 = .slice a L c := hf.2.2.2.2.2.1
                        refine (if_pos rfl).symm ▸ ?_
                        clear hs hq hf
                        unfold gives
                        go_simp
                        refine (HGK.out wx hG).mono ?_
                        rintro e wy ⟨rfl, hb1⟩
                        exact ⟨_, rfl, hb1, rfl⟩
                      refine ⟨fun r wx hG hs hq hf => ?_, ?_⟩
                      · have h7 : r 98 = .bool true := hf.1
                        refine (if_pos rfl).symm ▸ ?_
                        clear hs hq hf
                        unfold gives
                        go_simp
                        exact ⟨Below.refl _ _, rfl⟩
                      refine ⟨fun r wx hG hs hq hf => ?_, ?_⟩
                      · have e10 : r 10 = .pointer (some ⟨g10, 0, none⟩) := hs 10 rfl
                        have h8 : r 99 = .bool true := hf.1
                        have hy : ydD [some 91, some 92, some 93, some 94, some 95, some 96, some 97, some 98, some 99, some 100, some 101, some 102, some 103, some 104, some 105, some 106, some 107, some 108] r 8 = some true := by show (match r 99 with | .bool b => some b | _ => none) = some true; rw [h8]
                        simp only [Region.wanted, hy, beq_self_eq_true, if_true]
                        clear hs hq hf hy
                        unfold gives
                        refine gives_load_row 35 _ rfl g10 e10 35 _ (0, 0) _ (HRO.out wx hG) Tryd.underlying35 rfl (hInfo _ HLN.out.1) ?_
                        exact ⟨Below.refl _ _, rfl⟩
                      refine ⟨fun r wx hG hs hq hf => ?_, ?_⟩
                      · have e0 : r 0 = .int .i64 W := hs 0 rfl
                        have h8 : r 99 = .bool true := hf.1
                        have hy : ydD [some 91, some 92, some 93, some 94, some 95, some 96, some 97, some 98, some 99, some 100, some 101, some 102, some 103, some 104, some 105, some 106, some 107, some 108] r 8 = some true := by show (match r 99 with | .bool b => some b | _ => none) = some true; rw [h8]
                        simp only [Region.wanted, hy, beq_self_eq_true, if_true]
                        clear hs hq hf hy
                        unfold gives
                        go_simp
                        exact ⟨Below.refl _ _, rfl⟩
                      refine ⟨fun r wx hG hs hq hf => ?_, ?_⟩
                      · have e13 : r 13 = .slice (some ⟨g13, 0, none⟩) n c13 := hs 13 rfl
                        have h8 : r 99 = .bool true := hf.1
                        have hy : ydD [some 91, some 92, some 93, some 94, some 95, some 96, some 97, some 98, some 99, some 100, some 101, some 102, some 103, some 104, some 105, some 106, some 107, some 108] r 8 = some true := by show (match r 99 with | .bool b => some b | _ => none) = some true; rw [h8]
                        simp only [Region.wanted, hy, beq_self_eq_true, if_true]
                        clear hs hq hf hy
                        unfold gives
                        go_simp
                        exact ⟨Below.refl _ _, rfl⟩
                      refine ⟨fun r wx hG hs hq hf => ?_, ?_⟩
                      · have e2 : r 2 = .int .u64 j := hs 2 rfl
                        have h8 : r 99 = .bool true := hf.1
                        have hy : ydD [some 91, some 92, some 93, some 94, some 95, some 96, some 97, some 98, some 99, some 100, some 101, some 102, some 103, some 104, some 105, some 106, some 107, some 108] r 8 = some true := by show (match r 99 with | .bool b => some b | _ => none) = some true; rw [h8]
                        simp only [Region.wanted, hy, beq_self_eq_true, if_true]
                        clear hs hq hf hy
                        unfold gives
                        go_simp
                        exact ⟨Below.refl _ _, rfl⟩
                      refine ⟨fun r wx hG hs hq hf => ?_, ?_⟩
                      · have h12 : r 103 = .int .u64 j := hf.1
                        have h8 : r 99 = .bool true := hf.2.1
                        have hy : ydD [some 91, some 92, some 93, some 94, some 95, some 96, some 97, some 98, some 99, some 100, some 101, some 102, some 103, some 104, some 105, some 106, some 107, some 108] r 8 = some true := by show (match r 99 with | .bool b => some b | _ => none) = some true; rw [h8]
                        simp only [Region.wanted, hy, beq_self_eq_true, if_true]
                        clear hs hq hf hy
                        unfold gives
                        have zj : IntKind.u64.wrap ((j : Int) + 1) = ((j + 1 : Nat) : Int) := (IntWalk.u64_in _ (by omega)).trans (by omega)
                        go_simp
                        exact ⟨Below.refl _ _, rfl⟩
                      refine ⟨fun r wx hG hs hq hf => ?_, ?_⟩
                      · have h11 : r 102 = .slice (some ⟨g13, 0, none⟩) n c13 := hf.1
                        have h13 : r 104 = .int .u64 ((j + 1 : Nat) : Int) := hf.2.1
                        have h8 : r 99 = .bool true := hf.2.2.1
                        have hy : ydD [some 91, some 92, some 93, some 94, some 95, some 96, some 97, some 98, some 99, some 100, some 101, some 102, some 103, some 104, some 105, some 106, some 107, some 108] r 8 = some true := by show (match r 99 with | .bool b => some b | _ => none) = some true; rw [h8]
                        simp only [Region.wanted, hy, beq_self_eq_true, if_true]
                        clear hs hq hf hy
                        unfold gives
                        have hc13 := HC13.out
                        have y1 : (0 : Int) ≤ ((j + 1 : Nat) : Int) := by omega
                        have y2 : ((j + 1 : Nat) : Int) ≤ (c13 : Int) := by omega
                        have y3 : (0 : Int) ≤ (j : Int) + 1 := by omega
                        have y4 : (j : Int) + 1 ≤ (c13 : Int) := by omega
                        go_simp
                        exact ⟨Below.refl _ _, rfl⟩
                      refine ⟨fun r wx hG hs hq hf => ?_, ?_⟩
                      · have h10 : r 101 = .int .i64 W := hf.1
                        have h14 : r 105 = .slice (some ⟨g13, 0, none⟩) (j + 1) c13 := hf.2.1
                        have h8 : r 99 = .bool true := hf.2.2.1
                        have hy : ydD [some 91, some 92, some 93, some 94, some 95, some 96, some 97, some 98, some 99, some 100, some 101, some 102, some 103, some 104, some 105, some 106, some 107, some 108] r 8 = some true := by show (match r 99 with | .bool b => some b | _ => none) = some true; rw [h8]
                        simp only [Region.wanted, hy, beq_self_eq_true, if_true]
                        clear hs hq hf hy
                        unfold gives
                        go_simp
                        refine (HRK.out wx hG).mono ?_
                        rintro e wy ⟨rfl, hb1⟩
                        exact ⟨_, rfl, hb1, rfl⟩
                      refine ⟨fun r wx hG hs hq hf => ?_, ?_⟩
                      · have h9 : r 100 = .agg (bv old).toArray := hf.1
                        have h15 : r 106 = .agg (bv rk).toArray := hf.2.1
                        have h8 : r 99 = .bool true := hf.2.2.1
                        have hy : ydD [some 91, some 92, some 93, some 94, some 95, some 96, some 97, some 98, some 99, some 100, some 101, some 102, some 103, some 104, some 105, some 106, some 107, some 108] r 8 = some true := by show (match r 99 with | .bool b => some b | _ => none) = some true; rw [h8]
                        simp only [Region.wanted, hy, beq_self_eq_true, if_true]
                        clear hs hq hf hy
                        unfold gives
                        have hqe := eqIn_hash old rk HLN.out.1 HLN.out.2.2 wx
                        rw [HQB.out] at hqe
                        have hgd := eq_guard
                        go_simp
                        exact ⟨Below.refl _ _, by first | rfl | simp [t11yF]⟩
                      refine ⟨fun r wx hG hs hq hf => ?_, ?_⟩
                      · have h8 : r 99 = .bool true := hf.1
                        have h16 : r 107 = .bool false := hf.2.1
                        refine (if_pos rfl).symm ▸ ?_
                        clear hs hq hf
                        unfold gives
                        go_simp
                        exact ⟨Below.refl _ _, rfl⟩
                      exact trivial
                    case hend =>
                      intro u wz hG hfin
                      have z17 : u 17 = .bool false := hfin 17 (by decide) (by kernel_rfl)
                      clear hfin
                      simp only [fill]
                      go_simp
                      go_step
                      go_meet
                      exact ⟨false, rfl, fun hh => by simp at hh, hG⟩
                  · have HQB := Lib.hid (show (old == rk) = false from beq_eq_false_iff_ne.2 hqm)
                    have HCX := Lib.hid (HC2.out rfl hqm)
                    clear hqm
                    refine wp_region_steps [some 91, some 92, some 93, some 94, some 95, some 96, some 97, some 98, some 99, some 100, some 101, some 102, some 103, some 104, some 105, some 106, some 107, some 108] [] (t11nF W tb tf tc n j xn xc g10 g13 c13 g15 L c a xa old rl rk) (fun _ wx wy => Below wx.heap.size wx wy) (fun wx => Below w10.heap.size w10 wx) (by kernel_rfl) (by kernel_rfl) rfl (by kernel_rfl) (Below.refl _ _).drew (fun _ wx => Below.refl _ _) (fun _ wx wy h k => h.trans (k.mono h.size)) ?hF ?hstep ?hend
                    case hF =>
                      exact ⟨fun _ _ _ _ _ _ h => h, ⟨fun _ _ _ _ _ _ h => h, ⟨fun _ _ _ _ _ _ h => h, ⟨fun _ _ _ _ _ _ h => h, ⟨fun _ _ _ _ _ _ h => h, ⟨fun _ _ _ _ _ _ h => h, ⟨fun _ _ _ _ _ _ h => h, ⟨fun _ _ _ _ _ _ h => h, ⟨fun _ _ _ _ _ _ h => h, ⟨fun _ _ _ _ _ _ h => h, ⟨fun _ _ _ _ _ _ h => h, ⟨fun _ _ _ _ _ _ h => h, ⟨fun _ _ _ _ _ _ h => h, ⟨fun _ _ _ _ _ _ h => h, ⟨fun _ _ _ _ _ _ h => h, ⟨fun _ _ _ _ _ _ h => h, ⟨fun _ _ _ _ _ _ h => h, ⟨fun _ _ _ _ _ _ h => h, trivial⟩⟩⟩⟩⟩⟩⟩⟩⟩⟩⟩⟩⟩⟩⟩⟩⟩⟩
                    case hstep =>
                      refine ⟨fun r wx hG hs hq hf => ?_, ?_⟩
                      · have e0 : r 0 = .int .i64 W := hs 0 rfl
                        refine (if_pos rfl).symm ▸ ?_
                        clear hs hq hf
                        unfold gives
                        go_simp
                        exact ⟨Below.refl _ _, rfl⟩
                      refine ⟨fun r wx hG hs hq hf => ?_, ?_⟩
                      · have e2 : r 2 = .int .u64 j := hs 2 rfl
                        refine (if_pos rfl).symm ▸ ?_
                        clear hs hq hf
                        unfold gives
                        go_simp
                        exact ⟨Below.refl _ _, rfl⟩
                      refine ⟨fun r wx hG hs hq hf => ?_, ?_⟩
                      · have h1 : r 92 = .int .u64 j := hf.1
                        refine (if_pos rfl).symm ▸ ?_
                        clear hs hq hf
                        unfold gives
                        have zj : IntKind.u64.wrap ((j : Int) + 1) = ((j + 1 : Nat) : Int) := (IntWalk.u64_in _ (by omega)).trans (by omega)
                        go_simp
                        exact ⟨Below.refl _ _, rfl⟩
                      refine ⟨fun r wx hG hs hq hf => ?_, ?_⟩
                      · have e14 : r 14 = .int .u64 n := hs 14 rfl
                        refine (if_pos rfl).symm ▸ ?_
                        clear hs hq hf
                        unfold gives
                        go_simp
                        exact ⟨Below.refl _ _, rfl⟩
                      refine ⟨fun r wx hG hs hq hf => ?_, ?_⟩
                      · have e10 : r 10 = .pointer (some ⟨g10, 0, none⟩) := hs 10 rfl
                        refine (if_pos rfl).symm ▸ ?_
                        clear hs hq hf
                        unfold gives
                        refine gives_load_row 35 _ rfl g10 e10 35 _ (0, 0) _ (HRO.out wx hG) Tryd.underlying35 rfl (hInfo _ HLN.out.1) ?_
                        exact ⟨Below.refl _ _, rfl⟩
                      refine ⟨fun r wx hG hs hq hf => ?_, ?_⟩
                      · have e15 : r 15 = .pointer (some ⟨g15, 0, none⟩) := hs 15 rfl
                        refine (if_pos rfl).symm ▸ ?_
                        clear hs hq hf
                        unfold gives
                        refine gives_load_row 35 _ rfl g15 e15 35 _ (0, 0) _ (HRR.out wx hG) Tryd.underlying35 rfl (hInfo _ HLN.out.2.1) ?_
                        exact ⟨Below.refl _ _, rfl⟩
                      refine ⟨fun r wx hG hs hq hf => ?_, ?_⟩
                      · have e5 : r 5 = .slice a L c := hs 5 rfl
                        refine (if_pos rfl).symm ▸ ?_
                        clear hs hq hf
                        unfold gives
                        go_simp
                        exact ⟨Below.refl _ _, rfl⟩
                      refine ⟨fun r wx hG hs hq hf => ?_, ?_⟩
                      · have h0 : r 91 = .int .i64 W := hf.1
                        have h2 : r 93 = .int .u64 ((j + 1 : Nat) : Int) := hf.2.1
                        have h3 : r 94 = .int .u64 n := hf.2.2.1
                        have h4 : r 95 = .agg (bv old).toArray := hf.2.2.2.1
                        have h5 : r 96 = .agg (bv rl).toArray := hf.2.2.2.2.1
                        have h6 : r 97 = .slice a L c := hf.2.2.2.2.2.1
                        refine (if_pos rfl).symm ▸ ?_
                        clear hs hq hf
                        unfold gives
                        go_simp
                        refine (HGK.out wx hG).mono ?_
                        rintro e wy ⟨rfl, hb1⟩
                        exact ⟨_, rfl, hb1, rfl⟩
                      refine ⟨fun r wx hG hs hq hf => ?_, ?_⟩
                      · have h7 : r 98 = .bool true := hf.1
                        refine (if_pos rfl).symm ▸ ?_
                        clear hs hq hf
                        unfold gives
                        go_simp
                        exact ⟨Below.refl _ _, rfl⟩
                      refine ⟨fun r wx hG hs hq hf => ?_, ?_⟩
                      · have e10 : r 10 = .pointer (some ⟨g10, 0, none⟩) := hs 10 rfl
                        have h8 : r 99 = .bool true := hf.1
                        have hy : ydD [some 91, some 92, some 93, some 94, some 95, some 96, some 97, some 98, some 99, some 100, some 101, some 102, some 103, some 104, some 105, some 106, some 107, some 108] r 8 = some true := by show (match r 99 with | .bool b => some b | _ => none) = some true; rw [h8]
                        simp only [Region.wanted, hy, beq_self_eq_true, if_true]
                        clear hs hq hf hy
                        unfold gives
                        refine gives_load_row 35 _ rfl g10 e10 35 _ (0, 0) _ (HRO.out wx hG) Tryd.underlying35 rfl (hInfo _ HLN.out.1) ?_
                        exact ⟨Below.refl _ _, rfl⟩
                      refine ⟨fun r wx hG hs hq hf => ?_, ?_⟩
                      · have e0 : r 0 = .int .i64 W := hs 0 rfl
                        have h8 : r 99 = .bool true := hf.1
                        have hy : ydD [some 91, some 92, some 93, some 94, some 95, some 96, some 97, some 98, some 99, some 100, some 101, some 102, some 103, some 104, some 105, some 106, some 107, some 108] r 8 = some true := by show (match r 99 with | .bool b => some b | _ => none) = some true; rw [h8]
                        simp only [Region.wanted, hy, beq_self_eq_true, if_true]
                        clear hs hq hf hy
                        unfold gives
                        go_simp
                        exact ⟨Below.refl _ _, rfl⟩
                      refine ⟨fun r wx hG hs hq hf => ?_, ?_⟩
                      · have e13 : r 13 = .slice (some ⟨g13, 0, none⟩) n c13 := hs 13 rfl
                        have h8 : r 99 = .bool true := hf.1
                        have hy : ydD [some 91, some 92, some 93, some 94, some 95, some 96, some 97, some 98, some 99, some 100, some 101, some 102, some 103, some 104, some 105, some 106, some 107, some 108] r 8 = some true := by show (match r 99 with | .bool b => some b | _ => none) = some true; rw [h8]
                        simp only [Region.wanted, hy, beq_self_eq_true, if_true]
                        clear hs hq hf hy
                        unfold gives
                        go_simp
                        exact ⟨Below.refl _ _, rfl⟩
                      refine ⟨fun r wx hG hs hq hf => ?_, ?_⟩
                      · have e2 : r 2 = .int .u64 j := hs 2 rfl
                        have h8 : r 99 = .bool true := hf.1
                        have hy : ydD [some 91, some 92, some 93, some 94, some 95, some 96, some 97, some 98, some 99, some 100, some 101, some 102, some 103, some 104, some 105, some 106, some 107, some 108] r 8 = some true := by show (match r 99 with | .bool b => some b | _ => none) = some true; rw [h8]
                        simp only [Region.wanted, hy, beq_self_eq_true, if_true]
                        clear hs hq hf hy
                        unfold gives
                        go_simp
                        exact ⟨Below.refl _ _, rfl⟩
                      refine ⟨fun r wx hG hs hq hf => ?_, ?_⟩
                      · have h12 : r 103 = .int .u64 j := hf.1
                        have h8 : r 99 = .bool true := hf.2.1
                        have hy : ydD [some 91, some 92, some 93, some 94, some 95, some 96, some 97, some 98, some 99, some 100, some 101, some 102, some 103, some 104, some 105, some 106, some 107, some 108] r 8 = some true := by show (match r 99 with | .bool b => some b | _ => none) = some true; rw [h8]
                        simp only [Region.wanted, hy, beq_self_eq_true, if_true]
                        clear hs hq hf hy
                        unfold gives
                        have zj : IntKind.u64.wrap ((j : Int) + 1) = ((j + 1 : Nat) : Int) := (IntWalk.u64_in _ (by omega)).trans (by omega)
                        go_simp
                        exact ⟨Below.refl _ _, rfl⟩
                      refine ⟨fun r wx hG hs hq hf => ?_, ?_⟩
                      · have h11 : r 102 = .slice (some ⟨g13, 0, none⟩) n c13 := hf.1
                        have h13 : r 104 = .int .u64 ((j + 1 : Nat) : Int) := hf.2.1
                        have h8 : r 99 = .bool true := hf.2.2.1
                        have hy : ydD [some 91, some 92, some 93, some 94, some 95, some 96, some 97, some 98, some 99, some 100, some 101, some 102, some 103, some 104, some 105, some 106, some 107, some 108] r 8 = some true := by show (match r 99 with | .bool b => some b | _ => none) = some true; rw [h8]
                        simp only [Region.wanted, hy, beq_self_eq_true, if_true]
                        clear hs hq hf hy
                        unfold gives
                        have hc13 := HC13.out
                        have y1 : (0 : Int) ≤ ((j + 1 : Nat) : Int) := by omega
                        have y2 : ((j + 1 : Nat) : Int) ≤ (c13 : Int) := by omega
                        have y3 : (0 : Int) ≤ (j : Int) + 1 := by omega
                        have y4 : (j : Int) + 1 ≤ (c13 : Int) := by omega
                        go_simp
                        exact ⟨Below.refl _ _, rfl⟩
                      refine ⟨fun r wx hG hs hq hf => ?_, ?_⟩
                      · have h10 : r 101 = .int .i64 W := hf.1
                        have h14 : r 105 = .slice (some ⟨g13, 0, none⟩) (j + 1) c13 := hf.2.1
                        have h8 : r 99 = .bool true := hf.2.2.1
                        have hy : ydD [some 91, some 92, some 93, some 94, some 95, some 96, some 97, some 98, some 99, some 100, some 101, some 102, some 103, some 104, some 105, some 106, some 107, some 108] r 8 = some true := by show (match r 99 with | .bool b => some b | _ => none) = some true; rw [h8]
                        simp only [Region.wanted, hy, beq_self_eq_true, if_true]
                        clear hs hq hf hy
                        unfold gives
                        go_simp
                        refine (HRK.out wx hG).mono ?_
                        rintro e wy ⟨rfl, hb1⟩
                        exact ⟨_, rfl, hb1, rfl⟩
                      refine ⟨fun r wx hG hs hq hf => ?_, ?_⟩
                      · have h9 : r 100 = .agg (bv old).toArray := hf.1
                        have h15 : r 106 = .agg (bv rk).toArray := hf.2.1
                        have h8 : r 99 = .bool true := hf.2.2.1
                        have hy : ydD [some 91, some 92, some 93, some 94, some 95, some 96, some 97, some 98, some 99, some 100, some 101, some 102, some 103, some 104, some 105, some 106, some 107, some 108] r 8 = some true := by show (match r 99 with | .bool b => some b | _ => none) = some true; rw [h8]
                        simp only [Region.wanted, hy, beq_self_eq_true, if_true]
                        clear hs hq hf hy
                        unfold gives
                        have hqe := eqIn_hash old rk HLN.out.1 HLN.out.2.2 wx
                        rw [HQB.out] at hqe
                        have hgd := eq_guard
                        go_simp
                        exact ⟨Below.refl _ _, by first | rfl | simp [t11nF]⟩
                      refine ⟨fun r wx hG hs hq hf => ?_, ?_⟩
                      · have h8 : r 99 = .bool true := hf.1
                        have h16 : r 107 = .bool true := hf.2.1
                        refine (if_pos rfl).symm ▸ ?_
                        clear hs hq hf
                        unfold gives
                        go_simp
                        exact ⟨Below.refl _ _, rfl⟩
                      exact trivial
                    case hend =>
                      intro u wz hG hfin
                      have z17 : u 17 = .bool true := hfin 17 (by decide) (by kernel_rfl)
                      clear hfin
                      simp only [fill]
                      go_simp
                      go_step
                      go_meet
                      exact ⟨true, rfl, fun _ => HCX.out, hG⟩
              case rest =>
                obtain ⟨b0, rfl, hp2, hb11⟩ := hcut
                have HP2 := Lib.hid hp2
                have H11 := Lib.hid (H10.out.trans (hb11.mono H10.out.size))
                have HRO11 := Lib.hid (HRO.out wc hb11)
                clear hp2 hb11
                obtain ⟨w11, hw11⟩ : ∃ q, q = wc := ⟨_, rfl⟩
                subst hw11
                have HB11 := Lib.hid (HB6.out.trans (H11.out.mono HB6.out.size))
                cases b0 with
                | false =>
                  go_wp2_with fail
                  go_ret
                  exact ⟨rfl, HB11.out⟩
                | true =>
                  have zj : IntKind.u64.wrap ((j : Int) + 1) = ((j + 1 : Nat) : Int) := (IntWalk.u64_in _ (by omega)).trans (by omega)
                  have hcl := cGrowth_any W l (j + 1) old ps (.slice (some ⟨tb, tf, none⟩) l.length tc) a c w11 HWW.out (by rw [← HN.out.1]; omega) (fun t h => Nat.le_trans (HFA2.out.2 t h) (by omega)) (by omega) HLN.out.1 HARG.out.2.2.2 (by rw [← HN.out.2.1]; omega) (HARG.out.1.keep HB11.out) (HARG.out.2.2.1.keep HB11.out) (HTT.out.1.toTabs.keepB HB11.out)
                  rw [← HN.out.1, ← HN.out.2.1] at hcl
                  have hac := ansG_tells W l (j + 1) old ps HARG.out.2.2.2
                  have hln := ansG_len W l (j + 1) old ps HLN.out.1 HARG.out.2.2.2
                  have han := HP2.out rfl
                  obtain ⟨AN, hAN⟩ : ∃ q, q = ansG W l (j + 1) old ps := ⟨_, rfl⟩
                  rw [← hAN] at hcl hac hln han
                  obtain ⟨E, X, Y⟩ := AN
                  have hE : E = 0 := han
                  subst hE
                  have HCL := Lib.hid hcl
                  have HCB := Lib.hid (show clB W X Y = true from hac.symm.trans (by simp))
                  have HLN2 := Lib.hid (show X.length ≤ 4001 ∧ Y.length ≤ 4001 from hln)
                  clear hcl hac hln han hAN
                  go_wp2_with (with_reducible show wpList _ _ _ (⟨some 114, _, _, _, _, _⟩ :: _) _ _; refine wpList_load_row rfl _ _ rfl g10 rfl _ _ (0, 0) _ HRO11.out Tryd.underlying35 rfl (hInfo _ HLN.out.1) ?_)
                  refine HCL.out.mono ?_
                  rintro e wp ⟨x1, d1, x2, d2, he, hx1, hx2, hbp⟩
                  have he : e = .returned (.tuple #[.agg #[.slice x1 X.length d1, .slice x2 Y.length d2], .int .i64 0]) := he
                  have hx1 : Rd wp 1 (.slice x1 X.length d1) X.length (bv X) := hx1
                  have hx2 : Rd wp 1 (.slice x2 Y.length d2) Y.length (bv Y) := hx2
                  subst he
                  obtain ⟨wq, hwq⟩ : ∃ q : World, q = wp.alloc (.cells #[.slice x1 X.length d1, .slice x2 Y.length d2] 27) := ⟨_, rfl⟩
                  have hbq : Below wp.heap.size wp wq := by rw [hwq]; exact (Below.refl _ _).alloc (Nat.le_refl _) _
                  have hrq : wq.heap[wp.heap.size]? = some (.cells #[.slice x1 X.length d1, .slice x2 Y.length d2] 27 (0, 0)) := by rw [hwq]; exact heap_alloc_new _ _
                  have hBq : Below w6.heap.size w6 wq := H11.out.trans ((hbp.trans (hbq.mono hbp.size)).mono H11.out.size)
                  have HBQ := Lib.hid hBq
                  have HWQ := Lib.hid hwq
                  have q0 : wq.cell? ⟨wp.heap.size, 0, none⟩ = some (.slice x1 X.length d1) := cell_of_rowp hrq rfl
                  have q1 : wq.cell? ⟨wp.heap.size, 1, none⟩ = some (.slice x2 Y.length d2) := cell_of_rowp hrq rfl
                  have HCS := Lib.hid (clash_any W X Y x1 x2 d1 d2 wq HWW.out (by have : X.length ≤ 4001 := HLN2.out.1; omega) (by have : Y.length ≤ 4001 := HLN2.out.2; omega) (hx1.keep hbq) (hx2.keep hbq) (HTT.out.1.keepB (HB6.out.trans (hBq.mono HB6.out.size))))
                  clear hx1 hx2 hbp hbq hrq hwq hBq
                  go_upto_region 13 with fail
                  rw [show wp.alloc (.cells #[.slice x1 X.length d1, .slice x2 Y.length d2] 27) = wq from HWQ.out.symm]
                  go_wp2_with fail
                  refine HCS.out.mono ?_
                  rintro e ws ⟨rfl, hbs⟩
                  rw [show clB W X Y = true from HCB.out]
                  have HBS := Lib.hid (HBQ.out.trans (hbs.mono HBQ.out.size))
                  clear hbs
                  go_wp2_with fail
                  go_ret
                  exact ⟨rfl, HB6.out.trans (HBS.out.mono HB6.out.size)⟩
end Go.Proofs.YtfibhmgjkooemaaDoor
