/- The law LeafGrows: the walk. (printed by gen/leafgr.py) -/
import Derived.Test.YtdjmebfjanophaaDoorLeafU
import Derived.Test.YtdjmebfjanophaaDoorLeafL
import Derived.Test.YtdjmebfjanophaaDoorLeafT
import Derived.Test.YtdjmebfjanophaaDoorPathP
import Derived.Test.YtdjmebfjanophaaDoorRowsBuild
import Derived.Deep.DeepCutAuto
namespace Go.Proofs.YtdjmebfjanophaaDoor
open Go.RowKit Sha Root Ones

theorem range_at' {w : World} {b off i : Nat} {ps : List (List UInt8)} {x : List UInt8} (h32 : ∀ p ∈ ps, p.length = 32) (hx : ps[i]? = some x) (hc : ∀ j u, (ps.flatMap bv)[j]? = some u → w.cell? ⟨b, off + j, none⟩ = some u) : w.rangeAt b (off + i * 32) (bv x) := fun j u hu => by
  have hx32 := h32 x (List.mem_of_getElem? hx)
  have hj : j < 32 := by have := (List.getElem?_eq_some_iff.1 hu).1; rwa [bv_length, hx32] at this
  have := hc (i * 32 + j) u (by rw [flat_at32 ps i j x h32 hx hj]; exact hu)
  rwa [← Nat.add_assoc] at this
theorem pk_len (n : Int) : ∀ (k : Nat) (l : List (List UInt8)), l.length ≤ k → l.length < 18446744073709551616 → (pkH n l).length = pop 64 l.length
  | 0, l, h, _ => by
    have : l = [] := List.eq_nil_of_length_eq_zero (by omega)
    subst this
    rw [show (([] : List (List UInt8)).length) = 0 from rfl, Path.popZ]; rfl
  | k + 1, l, h, hb => by
    by_cases h0 : l.length = 0
    · have : l = [] := List.eq_nil_of_length_eq_zero h0
      subst this
      rw [show (([] : List (List UInt8)).length) = 0 from rfl, Path.popZ]; rfl
    · have h1 := hi_le l.length h0
      have h2 := hi_lt l.length
      have hp := hi_pos l.length
      obtain ⟨p, hpe⟩ : ∃ p, hi l.length = 2 ^ p := ⟨_, rfl⟩
      have hp64 : p < 64 := by
        apply Nat.lt_of_not_le
        intro hc
        have := Nat.pow_le_pow_right (show 0 < 2 by omega) hc
        omega
      have hd : (l.drop (hi l.length)).length = l.length - hi l.length := List.length_drop
      have ih := pk_len n k (l.drop (hi l.length)) (by omega) (by omega)
      have e1 : pkH n l = rootL (nodeH n) (emptyH n) (l.take (hi l.length)) :: pkH n (l.drop (hi l.length)) := pk_cons (nodeH n) (emptyH n) l (by omega)
      rw [e1, List.length_cons, ih, hd]
      have := Path.popAdd p 64 (l.length - hi l.length) hp64 (by omega)
      rw [← hpe, show hi l.length + (l.length - hi l.length) = l.length by omega] at this
      exact this.symm
theorem pk_ne_nil (n : Int) (l : List (List UInt8)) (h : pkH n l ≠ []) : 0 < l.length := by
  cases l with
  | nil => exact absurd rfl h
  | cons x r => simp
theorem own_other {w : World} {B : Nat} {e t : TypeId} {size n p : Nat} {cs : Array Value} {fr : Nat × Nat} {v : Value} {xs : List Value} (h : w.ownsRow B e size v n xs) (hp : w.heap[p]? = some (.cells cs t fr)) (hne : t ≠ e) : v.ownBlock = none ∨ v.ownBlock ≠ some p := by
  refine .inr fun e1 => ?_
  obtain ⟨_, h2 | ⟨g, cap, cur, hv, hb, hg, _⟩⟩ := h
  · rw [h2.1] at e1; cases e1
  · rw [hv] at e1
    simp only [Value.ownBlock, Option.some.injEq] at e1
    subst e1
    rw [hp] at hg
    simp only [Option.some.injEq, Obj.cells.injEq] at hg
    exact hne hg.2.1
/-- One operation stores a range's row. -/
def kR (q B : Nat) (j : Nat) (w w' : World) : Prop := ∃ r, w.grownBy w' r ∧ ∀ i, r = some i → B ≤ i ∧ j = q ∧ ∃ cs fr, w.heap[i]? = some (.cells cs 31 fr)
theorem kR_refl (q B j : Nat) {w : World} : kR q B j w w := ⟨none, World.grownBy.refl _ _, fun i e => by cases e⟩
theorem kR_of {q B j : Nat} {w w' : World} (h : Below w.heap.size w w') : kR q B j w w' := ⟨none, below_grown h none, fun i e => by cases e⟩
theorem kR_G {q B j : Nat} {w0 w w' : World} (hB : B ≤ w0.heap.size) (h : Below B w0 w) (k : kR q B j w w') : Below B w0 w' := by
  obtain ⟨r, hg, hr⟩ := k
  exact h.trans ⟨hg.os, hg.tape, hg.output, hg.size, fun i hi => hg.block i (Nat.lt_of_lt_of_le hi (Nat.le_trans hB h.size)) (fun e => by have := (hr i e.symm).1; omega)⟩
theorem kR_own {q B j n B' : Nat} {v : Value} {xs : List Value} {w w' : World} (k : kR q B j w w') (h : w.ownsRow B' 33 32 v n xs) : w'.ownsRow B' 33 32 v n xs := by
  obtain ⟨r, hg, hr⟩ := k
  refine h.kept hg ?_
  cases r with
  | none => cases v.ownBlock <;> simp
  | some i => obtain ⟨_, _, cs2, fr2, h2⟩ := hr i rfl; exact own_other h h2 (by decide)
theorem kR_row {q B j p : Nat} {o : Obj} {w w' : World} (hj : j ≠ q) (k : kR q B j w w') (h : w.heap[p]? = some o) : w'.heap[p]? = some o := by
  obtain ⟨r, hg, hr⟩ := k
  refine (hg.block p (Array.getElem?_eq_some_iff.1 h).1 fun e => ?_).trans h
  exact hj (hr p e.symm).2.1
/-- What each operation hands on. -/
def lg10F (W : Int) (m c i L vc g5 b7 : Nat) (a va : Option Addr) (rt : List UInt8) : Nat → Value → World → Prop
  | 0, v, _ => v = .int .i64 0
  | 1, v, _ => v = .bool false
  | 2, v, _ => v = .bool false
  | 3, v, _ => v = .agg (bv rt).toArray
  | 4, v, _ => v = .int .i64 W
  | 5, v, _ => v = .slice a m c
  | 6, v, _ => v = .int .i64 (i : Nat)
  | 7, v, _ => v = .slice a i c
  | 8, v, _ => v = .agg (bv rt).toArray
  | 9, v, _ => v = .bool false
  | 10, v, _ => v = .bool false
  | 11, v, _ => v = .bool false
  | 12, v, _ => v = .pointer (some ⟨g5, 0, none⟩)
  | 13, v, _ => v = .int .u64 (i : Nat)
  | 14, v, _ => v = .int .i64 (i : Nat)
  | 15, v, _ => v = .int .u64 (i : Nat)
  | 16, v, _ => v = .bool false
  | 17, v, _ => v = .bool false
  | 18, v, _ => v = .bool false
  | 19, v, _ => v = .agg #[.int .u64 (i : Nat), .slice va L vc]
  | 20, v, _ => v = .bool true
  | 21, v, _ => v = .bool false
  | 22, v, _ => v = .bool false
  | _, _, _ => True

/-- What each operation hands on. -/
def lg19F (W : Int) (m c L vc g5 k at_ N gp b off o2 : Nat) (y : List UInt8) : Nat → Value → World → Prop
  | 0, v, _ => v = .pointer (some ⟨g5, 1, none⟩)
  | 1, v, _ => v = .slice (some ⟨gp, 0, none⟩) L vc
  | 2, v, _ => v = .int .i64 (k : Nat)
  | 3, v, _ => v = .pointer (some ⟨gp, k * 32, none⟩)
  | 4, v, _ => v = .agg (bv y).toArray
  | 5, v, _ => v = .int .i64 W
  | 6, v, _ => v = .slice (some ⟨b, off, none⟩) m c
  | 7, v, _ => v = .int .i64 (at_ : Nat)
  | 8, v, _ => v = .int .i64 (at_ : Nat)
  | 9, v, _ => v = .int .i64 (N : Nat)
  | 10, v, _ => v = .int .i64 ((at_ + N : Nat) : Int)
  | 11, v, _ => v = .slice (some ⟨b, o2, none⟩) N (c - at_)
  | 12, v, _ => v = .agg (bv y).toArray
  | 13, v, _ => v = .bool false
  | _, _, _ => True

/-- What each operation hands on. -/
def lg25F (W : Int) (m c i ni L vc L2 g5 b off Bq : Nat) (va : Option Addr) (x : List UInt8) (pk2 : List (List UInt8)) : Nat → Value → World → Prop
  | 0, v, _ => v = .int .i64 W
  | 1, v, _ => v = .agg #[.int .u64 (i : Nat), .slice va L vc]
  | 2, v, _ => v = .slice (some ⟨b, off, none⟩) m c
  | 3, v, _ => v = .int .i64 (i : Nat)
  | 4, v, _ => v = .pointer (some ⟨b, off + i * 32, none⟩)
  | 5, v, _ => v = .agg (bv x).toArray
  | 6, v, w => ∃ a2 c2, v = .tuple #[.agg #[.int .u64 (ni : Nat), .slice a2 L2 c2], .int .i64 0] ∧ w.ownsRow Bq 33 32 (.slice a2 L2 c2) L2 (pk2.flatMap bv)
  | 7, v, w => ∃ a2 c2, v = .tuple #[.agg #[.int .u64 (ni : Nat), .slice a2 L2 c2], .int .i64 0] ∧ w.ownsRow Bq 33 32 (.slice a2 L2 c2) L2 (pk2.flatMap bv)
  | 8, v, w => ∃ a2 c2, v = .agg #[.int .u64 (ni : Nat), .slice a2 L2 c2] ∧ w.ownsRow Bq 33 32 (.slice a2 L2 c2) L2 (pk2.flatMap bv)
  | 9, v, _ => v = .int .i64 0
  | 10, v, w => ∃ p, v = .pointer (some ⟨p, 0, none⟩) ∧ Bq ≤ p ∧ w.heap[p]? = some (.cells #[.int .u64 0, .slice none 0 0] 31 (0, 0))
  | 11, v, w => ∃ p a2 c2, v = .pointer (some ⟨p, 0, none⟩) ∧ Bq ≤ p ∧ w.heap[p]? = some (.cells #[.int .u64 (ni : Nat), .slice a2 L2 c2] 31 (0, 0)) ∧ w.ownsRow Bq 33 32 (.slice a2 L2 c2) L2 (pk2.flatMap bv)
  | 12, v, _ => v = .int .i64 0
  | _, _, _ => True

set_option maxHeartbeats 32000000 in
set_option maxRecDepth 100000 in
theorem leafGrows_walk (W : Int) (a : Option Addr) (c : Nat) (ls0 : List (List UInt8)) (w : World) (hW : -9223372036854775808 ≤ W ∧ W ≤ 9223372036854775807) (h32a : ∀ p ∈ ls0, p.length = 32) (hl : ls0.length * 32 ≤ 140737488351232) (hr : Rd w 32 (.slice a ls0.length c) ls0.length (ls0.flatMap bv)) (hT : Tabs w) (hD : TabD w) :
    Calls Tryd.prog 8 #[.int .i64 W, .slice a ls0.length c] w fun e w' => e = .returned (.bool true) ∧ Below w.heap.size w w' := by
  have hz := (zero_of_info info32).1
  have hzr := (zero_of_info (P := Tryd.prog) (t := 31) (v := .agg #[.int .u64 0, .slice none 0 0]) (n := 2) (by kernel_rfl)).1
  have HON := Lib.hid (fun (s : Nat) (x : Option Addr) (l c' : Nat) => show ∀ v ∈ [Value.int .u64 s, Value.slice x l c'], v.oneCell' = true by intro u hu; simp only [List.mem_cons, List.not_mem_nil, or_false] at hu; rcases hu with rfl | rfl <;> rfl)
  have hcap : ls0.length ≤ c := by
    obtain ⟨_, _, ⟨hv, h0⟩ | ⟨ad, c', hv, hc, _⟩⟩ := hr
    · simp at hv; omega
    · simp at hv; omega
  have HR := Lib.hid hr
  have HT := Lib.hid (And.intro hT (And.intro hD h32a))
  have HN := Lib.hid hW
  clear hr hT hD h32a hW
  go_enter Tryd.func8, Tryd.ntmps8
  go_wp2_with fail
  refine (awake14_any w HT.out.1).mono ?_
  rintro e w1 ⟨rfl, hb1⟩
  have HB1 := Lib.hid hb1
  clear hb1
  go_upto_if 21 with fail
  go_cut [1] (fun s1 wz => s1 = .slice a (min ls0.length 70) c ∧ wz = w1)
  case first =>
    by_cases hgt : 70 < ls0.length
    · have z2 : (70 : Int) < (ls0.length : Int) := by omega
      have z4 : (70 : Int) ≤ (c : Int) := by omega
      go_wp2_with fail
      go_meet
      exact ⟨by rw [show min ls0.length 70 = 70 by omega], rfl⟩
    · have z2 : ¬ (70 : Int) < (ls0.length : Int) := by omega
      go_wp2_with fail
      go_meet
      exact ⟨by rw [show min ls0.length 70 = ls0.length by omega], rfl⟩
  case rest =>
    obtain ⟨rfl, rfl⟩ := hcut
    obtain ⟨m, hm⟩ : ∃ m, m = min ls0.length 70 := ⟨_, rfl⟩
    rw [← hm]
    have hm3 : m ≤ ls0.length := by omega
    have hm4 : m ≤ 70 := by omega
    have h32 : ∀ q ∈ ls0.take m, q.length = 32 := fun q hq => HT.out.2.2 q (List.mem_of_mem_take hq)
    have hR : Rd w 32 (.slice a m c) m ((ls0.take m).flatMap bv) := by
      rw [flat_take32 _ _ HT.out.2.2]; exact rd_take HR.out m hm3
    have hlm : (ls0.take m).length = m := by rw [List.length_take]; omega
    have hmc : m ≤ c := by omega
    obtain ⟨ls, hls⟩ : ∃ l, l = ls0.take m := ⟨_, rfl⟩
    rw [← hls] at hR h32 hlm
    have HRD := Lib.hid hR
    have H32 := Lib.hid (And.intro h32 hlm)
    clear hR h32 hls hm hm3 hlm hcap
    obtain ⟨w2, hw2⟩ : ∃ x : World, x = wc.alloc (.cells #[.int .u64 0, .slice none 0 0] 31) := ⟨_, rfl⟩
    obtain ⟨g5, hg5⟩ : ∃ g, g = wc.heap.size := ⟨_, rfl⟩
    have hrow2 : w2.heap[g5]? = some (.cells #[.int .u64 0, .slice none 0 0] 31 (0, 0)) := by rw [hw2, hg5]; exact heap_alloc_new _ _
    have hbw2 : Below w.heap.size w w2 := by rw [hw2]; exact HB1.out.alloc HB1.out.size _
    have hwg5 : w.heap.size ≤ g5 := by rw [hg5]; exact HB1.out.size
    have HW2 := Lib.hid hw2
    have H2 := Lib.hid (And.intro hrow2 hbw2)
    clear hrow2 hbw2 hw2
    go_upto_region 6 with fail
    rw [show wc.alloc (.cells #[.int .u64 0, .slice none 0 0] 31) = w2 from HW2.out.symm, ← hg5]
    clear hg5
    go_wp2_with fail
    go_loopw [6] (fun s6 wr => ∃ (i : Nat) (va : Option Addr) (vc : Nat), i ≤ m ∧ s6 = .int .i64 i ∧ wr.heap[g5]? = some (.cells #[.int .u64 i, .slice va (pkH W (ls.take i)).length vc] 31 (0, 0)) ∧
      wr.ownsRow (g5 + 1) 33 32 (.slice va (pkH W (ls.take i)).length vc) (pkH W (ls.take i)).length ((pkH W (ls.take i)).flatMap bv) ∧ Below w.heap.size w wr) (fun s6 _ => m - (intOf s6).toNat)
    case atStart => exact ⟨0, none, 0, by omega, rfl, H2.out.1, World.ownsRow_nil _ _ _ _, H2.out.2⟩
    case round =>
      obtain ⟨i, va, vc, him, rfl, hrow, hown, hbw⟩ := hrel
      have z1 : (i : Int) ≤ (m : Int) := by omega
      have hli : (ls.take i).length = i := by rw [List.length_take, H32.out.2]; omega
      have hi32 : ∀ p ∈ ls.take i, p.length = 32 := fun p hp => H32.out.1 p (List.mem_of_mem_take hp)
      have hpk32 := pkH_32 W (ls.take i) hi32
      have hpl := pk_len W i (ls.take i) (by omega) (by omega)
      rw [hli] at hpl
      have hpb := pkH_length W (ls.take i)
      rw [hli] at hpb
      have hov : overH W (pkH W (ls.take i)) = rootH W (ls.take i) := over_pk (nodeH W) (emptyH W) _ (ls.take i) (Nat.le_refl _)
      have hrt32 := rootH_32 W (ls.take i) hi32
      obtain ⟨pk, hpk⟩ : ∃ p, p = pkH W (ls.take i) := ⟨_, rfl⟩
      obtain ⟨rt, hrt⟩ : ∃ p, p = rootH W (ls.take i) := ⟨_, rfl⟩
      have hRi : Rd w 32 (.slice a i c) i ((ls.take i).flatMap bv) := by
        rw [flat_take32 _ _ H32.out.1]; exact rd_take HRD.out i him
      have hroot := fun wx (hb : Below w.heap.size w wx) => Root_any W (ls.take i) (.slice a i c) wx HN.out hi32 (by omega) (by rw [hli]; exact hRi.keep hb) (HT.out.1.keepB hb) (HT.out.2.1.keepB hb)
      rw [← hpk] at hrow hown hpk32 hpl hpb hov
      rw [← hrt] at hov hrt32 hroot
      have hrd := own_rd hown (flat_one32 _)
      have hpeak := Peak_any W i (.slice va pk.length vc) pk wr HN.out (by omega) hpk32 (by omega) hrd (HT.out.1.keepB hbw)
      rw [peakV, if_pos hpl, hov] at hpeak
      obtain ⟨L, hL⟩ : ∃ l, l = pk.length := ⟨_, rfl⟩
      have hright := fun wx => Right_any i va L vc wx (by omega) (by omega)
      rw [show decide (L = pop 64 i) = true by rw [hL]; exact decide_eq_true hpl] at hright
      rw [← hL] at hrow hown hpeak hpb
      have HPEAK := Lib.hid hpeak
      have HROOT0 := Lib.hid hroot
      have HRIGHT := Lib.hid hright
      have HRT := Lib.hid (And.intro hrt32 hpk32)
      have HPK := Lib.hid (And.intro hpk (And.intro hL hpl))
      have HQ := Lib.hid (fun w => eqIn_hash rt rt hrt32 hrt32 w)
      have H3 := Lib.hid (And.intro hrow (And.intro hown hbw))
      have hgw : g5 < wr.heap.size := (Array.getElem?_eq_some_iff.1 hrow).1
      clear hli hi32 hpk32 hpl hov hrt32 hpk hrt hRi hroot hrd hpeak hL hright hrow hown hbw
      go_wp2_with (with_reducible show wpList _ _ _ (⟨some 32, _, _, _, _, _⟩ :: _) _ _; refine wpList_load_row rfl _ _ rfl g5 rfl _ _ (0, 0) _ H3.out.1 Tryd.underlying31 rfl infoR3 ?_)
      refine HPEAK.out.mono ?_
      rintro e w2b ⟨rfl, hb2⟩
      have H2b := Lib.hid (And.intro ((hb2.block _ (Array.getElem?_eq_some_iff.1 H3.out.1).1).trans H3.out.1) (And.intro (own_keep H3.out.2.1 hb2) (H3.out.2.2.trans (hb2.mono H3.out.2.2.size))))
      have H2n := Lib.hid (heap_alloc_new w2b (.cells (bv (zs 32)).toArray 33))
      clear hb2
      go_upto_region 10 with (with_reducible show wpList _ _ _ (⟨none, Op.store _ _ _, _, _, _, _⟩ :: _) _ _; refine wpList_store_whole rfl _ _ _ rfl w2b.heap.size (bv rt) rfl rfl (bv (zs 32)) _ H2n.out (hInfo' _ HRT.out.1) (by rw [bv_length, bv_length, HRT.out.1]; simp [zs]) (bv_one _) ?_; intro w3 HGx hgx)
      have k3 : Below w2b.heap.size w2b w3 := below_grow ((Below.refl _ _).alloc (Nat.le_refl _) _) hgx (Nat.le_refl _) (by simp)
      obtain ⟨b7, hb7⟩ : ∃ g, g = w2b.heap.size := ⟨_, rfl⟩
      have hrow7 := HGx.out
      rw [← hb7] at hrow7 ⊢
      have hrow5 := (k3.block _ (Array.getElem?_eq_some_iff.1 H2b.out.1).1).trans H2b.out.1
      have hown5 := own_keep H2b.out.2.1 k3
      have hbw5 := H2b.out.2.2.trans (k3.mono H2b.out.2.2.size)
      have HB7 := Lib.hid (fun wx (h : Below w3.heap.size w3 wx) => (h.block b7 (Array.getElem?_eq_some_iff.1 hrow7).1).trans hrow7)
      have HG5 := Lib.hid (fun wx (h : Below w3.heap.size w3 wx) => (h.block g5 (Array.getElem?_eq_some_iff.1 hrow5).1).trans hrow5)
      have HC5 := Lib.hid (fun wx (h : Below w3.heap.size w3 wx) => show wx.cell? ⟨g5, 0, none⟩ = some (.int .u64 i) by rw [cell_of_row _ _ _ _ _ _ ((h.block g5 (Array.getElem?_eq_some_iff.1 hrow5).1).trans hrow5)]; rfl)
      have HROOT := Lib.hid (fun wx (h : Below w3.heap.size w3 wx) => HROOT0.out wx (hbw5.trans (h.mono hbw5.size)))
      have H5 := Lib.hid (And.intro hrow5 (And.intro hown5 hbw5))
      clear hrow7 hrow5 hown5 hbw5 k3 HGx hgx hb7
      refine wp_region_steps [some 36, some 37, some 38, some 39, some 40, some 41, some 42, some 43, some 44, some 45, some 46, some 47, some 48, some 49, some 50, some 51, some 52, some 53, some 54, some 55, some 56, some 57, some 58] [] (lg10F W m c i L vc g5 b7 a va rt) (fun _ wx wy => Below wx.heap.size wx wy) (fun wx => Below w3.heap.size w3 wx) (by kernel_rfl) (by kernel_rfl) rfl (by kernel_rfl) (Below.refl _ _).drew (fun _ wx => Below.refl _ _) (fun _ wx wy h k => h.trans (k.mono h.size)) ?hF ?hstep ?hend
      case hF =>
        exact ⟨fun _ _ _ _ _ _ h => h, ⟨fun _ _ _ _ _ _ h => h, ⟨fun _ _ _ _ _ _ h => h, ⟨fun _ _ _ _ _ _ h => h, ⟨fun _ _ _ _ _ _ h => h, ⟨fun _ _ _ _ _ _ h => h, ⟨fun _ _ _ _ _ _ h => h, ⟨fun _ _ _ _ _ _ h => h, ⟨fun _ _ _ _ _ _ h => h, ⟨fun _ _ _ _ _ _ h => h, ⟨fun _ _ _ _ _ _ h => h, ⟨fun _ _ _ _ _ _ h => h, ⟨fun _ _ _ _ _ _ h => h, ⟨fun _ _ _ _ _ _ h => h, ⟨fun _ _ _ _ _ _ h => h, ⟨fun _ _ _ _ _ _ h => h, ⟨fun _ _ _ _ _ _ h => h, ⟨fun _ _ _ _ _ _ h => h, ⟨fun _ _ _ _ _ _ h => h, ⟨fun _ _ _ _ _ _ h => h, ⟨fun _ _ _ _ _ _ h => h, ⟨fun _ _ _ _ _ _ h => h, ⟨fun _ _ _ _ _ _ h => h, trivial⟩⟩⟩⟩⟩⟩⟩⟩⟩⟩⟩⟩⟩⟩⟩⟩⟩⟩⟩⟩⟩⟩⟩
      case hstep =>
        -- operation 0: Op.move (tmp 8)
        refine ⟨fun r wx hG hs hq hf => ?_, ?_⟩
        · have e8 : r 8 = .int .i64 0 := hs 8 rfl
          refine (if_pos rfl).symm ▸ ?_
          clear hs hq hf
          unfold gives
          go_simp
          exact ⟨Below.refl _ _, rfl⟩
        -- operation 1: Op.binOp BinOp.neq 24 (tmp 36) (const (Value.int IntKind.i64 0)) 24
        refine ⟨fun r wx hG hs hq hf => ?_, ?_⟩
        · have h0 : r 36 = .int .i64 0 := hf.1
          refine (if_pos rfl).symm ▸ ?_
          clear hs hq hf
          unfold gives
          go_simp
          exact ⟨Below.refl _ _, rfl⟩
        -- operation 2: Op.move (tmp 37)
        refine ⟨fun r wx hG hs hq hf => ?_, ?_⟩
        · have h1 : r 37 = .bool false := hf.1
          refine (if_pos rfl).symm ▸ ?_
          clear hs hq hf
          unfold gives
          go_simp
          exact ⟨Below.refl _ _, rfl⟩
        -- operation 3: Op.load 33 (tmp 7)
        refine ⟨fun r wx hG hs hq hf => ?_, ?_⟩
        · have e7 : r 7 = .pointer (some ⟨b7, 0, none⟩) := hs 7 rfl
          have h2 : r 38 = .bool false := hf.1
          have hy : ydD [some 36, some 37, some 38, some 39, some 40, some 41, some 42, some 43, some 44, some 45, some 46, some 47, some 48, some 49, some 50, some 51, some 52, some 53, some 54, some 55, some 56, some 57, some 58] r 2 = some false := by show (match r 38 with | .bool b => some b | _ => none) = some false; rw [h2]
          simp only [Region.wanted, hy, beq_self_eq_true, if_true]
          clear hs hq hf hy
          unfold gives
          refine gives_load_row 33 _ rfl b7 e7 33 _ (0, 0) _ (HB7.out wx hG) Tryd.underlying33 rfl (hInfo _ HRT.out.1) ?_
          exact ⟨Below.refl _ _, rfl⟩
        -- operation 4: Op.move (tmp 0)
        refine ⟨fun r wx hG hs hq hf => ?_, ?_⟩
        · have e0 : r 0 = .int .i64 W := hs 0 rfl
          have h2 : r 38 = .bool false := hf.1
          have hy : ydD [some 36, some 37, some 38, some 39, some 40, some 41, some 42, some 43, some 44, some 45, some 46, some 47, some 48, some 49, some 50, some 51, some 52, some 53, some 54, some 55, some 56, some 57, some 58] r 2 = some false := by show (match r 38 with | .bool b => some b | _ => none) = some false; rw [h2]
          simp only [Region.wanted, hy, beq_self_eq_true, if_true]
          clear hs hq hf hy
          unfold gives
          go_simp
          exact ⟨Below.refl _ _, rfl⟩
        -- operation 5: Op.move (tmp 1)
        refine ⟨fun r wx hG hs hq hf => ?_, ?_⟩
        · have e1 : r 1 = .slice a m c := hs 1 rfl
          have h2 : r 38 = .bool false := hf.1
          have hy : ydD [some 36, some 37, some 38, some 39, some 40, some 41, some 42, some 43, some 44, some 45, some 46, some 47, some 48, some 49, some 50, some 51, some 52, some 53, some 54, some 55, some 56, some 57, some 58] r 2 = some false := by show (match r 38 with | .bool b => some b | _ => none) = some false; rw [h2]
          simp only [Region.wanted, hy, beq_self_eq_true, if_true]
          clear hs hq hf hy
          unfold gives
          go_simp
          exact ⟨Below.refl _ _, rfl⟩
        -- operation 6: Op.move (tmp 6)
        refine ⟨fun r wx hG hs hq hf => ?_, ?_⟩
        · have e6 : r 6 = .int .i64 (i : Nat) := hs 6 rfl
          have h2 : r 38 = .bool false := hf.1
          have hy : ydD [some 36, some 37, some 38, some 39, some 40, some 41, some 42, some 43, some 44, some 45, some 46, some 47, some 48, some 49, some 50, some 51, some 52, some 53, some 54, some 55, some 56, some 57, some 58] r 2 = some false := by show (match r 38 with | .bool b => some b | _ => none) = some false; rw [h2]
          simp only [Region.wanted, hy, beq_self_eq_true, if_true]
          clear hs hq hf hy
          unfold gives
          go_simp
          exact ⟨Below.refl _ _, rfl⟩
        -- operation 7: Op.slice 22 (tmp 41) none (some (tmp 42)) none
        refine ⟨fun r wx hG hs hq hf => ?_, ?_⟩
        · have h5 : r 41 = .slice a m c := hf.1
          have h6 : r 42 = .int .i64 (i : Nat) := hf.2.1
          have h2 : r 38 = .bool false := hf.2.2.1
          have hy : ydD [some 36, some 37, some 38, some 39, some 40, some 41, some 42, some 43, some 44, some 45, some 46, some 47, some 48, some 49, some 50, some 51, some 52, some 53, some 54, some 55, some 56, some 57, some 58] r 2 = some false := by show (match r 38 with | .bool b => some b | _ => none) = some false; rw [h2]
          simp only [Region.wanted, hy, beq_self_eq_true, if_true]
          clear hs hq hf hy
          unfold gives
          have z0 : (0 : Int) ≤ (i : Int) := by omega
          have z1 : (i : Int) ≤ (c : Int) := by omega
          go_simp
          exact ⟨Below.refl _ _, rfl⟩
        -- operation 8: Op.call ( callee := Callee.value (func 33), args := #[tmp 40, tmp 43], argTypes := #[3, 22] )
        refine ⟨fun r wx hG hs hq hf => ?_, ?_⟩
        · have h4 : r 40 = .int .i64 W := hf.1
          have h7 : r 43 = .slice a i c := hf.2.1
          have h2 : r 38 = .bool false := hf.2.2.1
          have hy : ydD [some 36, some 37, some 38, some 39, some 40, some 41, some 42, some 43, some 44, some 45, some 46, some 47, some 48, some 49, some 50, some 51, some 52, some 53, some 54, some 55, some 56, some 57, some 58] r 2 = some false := by show (match r 38 with | .bool b => some b | _ => none) = some false; rw [h2]
          simp only [Region.wanted, hy, beq_self_eq_true, if_true]
          clear hs hq hf hy
          unfold gives
          go_simp
          refine (HROOT.out wx hG).mono ?_
          rintro e wy ⟨rfl, hb1⟩
          exact ⟨_, rfl, hb1, rfl⟩
        -- operation 9: Op.binOp BinOp.neq 33 (tmp 39) (tmp 44) 33
        refine ⟨fun r wx hG hs hq hf => ?_, ?_⟩
        · have h3 : r 39 = .agg (bv rt).toArray := hf.1
          have h8 : r 44 = .agg (bv rt).toArray := hf.2.1
          have h2 : r 38 = .bool false := hf.2.2.1
          have hy : ydD [some 36, some 37, some 38, some 39, some 40, some 41, some 42, some 43, some 44, some 45, some 46, some 47, some 48, some 49, some 50, some 51, some 52, some 53, some 54, some 55, some 56, some 57, some 58] r 2 = some false := by show (match r 38 with | .bool b => some b | _ => none) = some false; rw [h2]
          simp only [Region.wanted, hy, beq_self_eq_true, if_true]
          clear hs hq hf hy
          unfold gives
          have hgd := eq_guard
          have he := HQ.out wx
          go_simp
          exact ⟨Below.refl _ _, rfl⟩
        -- operation 10: Op.pick (tmp 38) (const (Value.bool true)) (tmp 45)
        refine ⟨fun r wx hG hs hq hf => ?_, ?_⟩
        · have h2 : r 38 = .bool false := hf.1
          have h9 : r 45 = .bool false := hf.2.1
          refine (if_pos rfl).symm ▸ ?_
          clear hs hq hf
          unfold gives
          go_simp
          exact ⟨Below.refl _ _, rfl⟩
        -- operation 11: Op.move (tmp 46)
        refine ⟨fun r wx hG hs hq hf => ?_, ?_⟩
        · have h10 : r 46 = .bool false := hf.1
          refine (if_pos rfl).symm ▸ ?_
          clear hs hq hf
          unfold gives
          go_simp
          exact ⟨Below.refl _ _, rfl⟩
        -- operation 12: Op.fieldAddr 31 (tmp 5) 0
        refine ⟨fun r wx hG hs hq hf => ?_, ?_⟩
        · have e5 : r 5 = .pointer (some ⟨g5, 0, none⟩) := hs 5 rfl
          have h11 : r 47 = .bool false := hf.1
          have hy : ydD [some 36, some 37, some 38, some 39, some 40, some 41, some 42, some 43, some 44, some 45, some 46, some 47, some 48, some 49, some 50, some 51, some 52, some 53, some 54, some 55, some 56, some 57, some 58] r 11 = some false := by show (match r 47 with | .bool b => some b | _ => none) = some false; rw [h11]
          simp only [Region.wanted, hy, beq_self_eq_true, if_true]
          clear hs hq hf hy
          unfold gives
          go_simp
          exact ⟨Below.refl _ _, rfl⟩
        -- operation 13: Op.load 29 (tmp 48)
        refine ⟨fun r wx hG hs hq hf => ?_, ?_⟩
        · have h12 : r 48 = .pointer (some ⟨g5, 0, none⟩) := hf.1
          have h11 : r 47 = .bool false := hf.2.1
          have hy : ydD [some 36, some 37, some 38, some 39, some 40, some 41, some 42, some 43, some 44, some 45, some 46, some 47, some 48, some 49, some 50, some 51, some 52, some 53, some 54, some 55, some 56, some 57, some 58] r 11 = some false := by show (match r 47 with | .bool b => some b | _ => none) = some false; rw [h11]
          simp only [Region.wanted, hy, beq_self_eq_true, if_true]
          clear hs hq hf hy
          unfold gives
          have hc := HC5.out wx hG
          go_simp
          exact ⟨Below.refl _ _, rfl⟩
        -- operation 14: Op.move (tmp 6)
        refine ⟨fun r wx hG hs hq hf => ?_, ?_⟩
        · have e6 : r 6 = .int .i64 (i : Nat) := hs 6 rfl
          have h11 : r 47 = .bool false := hf.1
          have hy : ydD [some 36, some 37, some 38, some 39, some 40, some 41, some 42, some 43, some 44, some 45, some 46, some 47, some 48, some 49, some 50, some 51, some 52, some 53, some 54, some 55, some 56, some 57, some 58] r 11 = some false := by show (match r 47 with | .bool b => some b | _ => none) = some false; rw [h11]
          simp only [Region.wanted, hy, beq_self_eq_true, if_true]
          clear hs hq hf hy
          unfold gives
          go_simp
          exact ⟨Below.refl _ _, rfl⟩
        -- operation 15: Op.convert 3 29 (tmp 50)
        refine ⟨fun r wx hG hs hq hf => ?_, ?_⟩
        · have h14 : r 50 = .int .i64 (i : Nat) := hf.1
          have h11 : r 47 = .bool false := hf.2.1
          have hy : ydD [some 36, some 37, some 38, some 39, some 40, some 41, some 42, some 43, some 44, some 45, some 46, some 47, some 48, some 49, some 50, some 51, some 52, some 53, some 54, some 55, some 56, some 57, some 58] r 11 = some false := by show (match r 47 with | .bool b => some b | _ => none) = some false; rw [h11]
          simp only [Region.wanted, hy, beq_self_eq_true, if_true]
          clear hs hq hf hy
          unfold gives
          have zw : IntKind.u64.wrap (i : Int) = (i : Int) := IntWalk.u64_in _ (by omega)
          go_simp
          exact ⟨Below.refl _ _, rfl⟩
        -- operation 16: Op.binOp BinOp.neq 29 (tmp 49) (tmp 51) 29
        refine ⟨fun r wx hG hs hq hf => ?_, ?_⟩
        · have h13 : r 49 = .int .u64 (i : Nat) := hf.1
          have h15 : r 51 = .int .u64 (i : Nat) := hf.2.1
          have h11 : r 47 = .bool false := hf.2.2.1
          have hy : ydD [some 36, some 37, some 38, some 39, some 40, some 41, some 42, some 43, some 44, some 45, some 46, some 47, some 48, some 49, some 50, some 51, some 52, some 53, some 54, some 55, some 56, some 57, some 58] r 11 = some false := by show (match r 47 with | .bool b => some b | _ => none) = some false; rw [h11]
          simp only [Region.wanted, hy, beq_self_eq_true, if_true]
          clear hs hq hf hy
          unfold gives
          go_simp
          exact ⟨Below.refl _ _, rfl⟩
        -- operation 17: Op.pick (tmp 47) (const (Value.bool true)) (tmp 52)
        refine ⟨fun r wx hG hs hq hf => ?_, ?_⟩
        · have h11 : r 47 = .bool false := hf.1
          have h16 : r 52 = .bool false := hf.2.1
          refine (if_pos rfl).symm ▸ ?_
          clear hs hq hf
          unfold gives
          go_simp
          exact ⟨Below.refl _ _, rfl⟩
        -- operation 18: Op.move (tmp 53)
        refine ⟨fun r wx hG hs hq hf => ?_, ?_⟩
        · have h17 : r 53 = .bool false := hf.1
          refine (if_pos rfl).symm ▸ ?_
          clear hs hq hf
          unfold gives
          go_simp
          exact ⟨Below.refl _ _, rfl⟩
        -- operation 19: Op.load 31 (tmp 5)
        refine ⟨fun r wx hG hs hq hf => ?_, ?_⟩
        · have e5 : r 5 = .pointer (some ⟨g5, 0, none⟩) := hs 5 rfl
          have h18 : r 54 = .bool false := hf.1
          have hy : ydD [some 36, some 37, some 38, some 39, some 40, some 41, some 42, some 43, some 44, some 45, some 46, some 47, some 48, some 49, some 50, some 51, some 52, some 53, some 54, some 55, some 56, some 57, some 58] r 18 = some false := by show (match r 54 with | .bool b => some b | _ => none) = some false; rw [h18]
          simp only [Region.wanted, hy, beq_self_eq_true, if_true]
          clear hs hq hf hy
          unfold gives
          refine gives_load_row 31 _ rfl g5 e5 31 _ (0, 0) _ (HG5.out wx hG) Tryd.underlying31 rfl infoR3 ?_
          exact ⟨Below.refl _ _, rfl⟩
        -- operation 20: Op.call ( callee := Callee.value (func 24), args := #[tmp 55], argTypes := #[31] )
        refine ⟨fun r wx hG hs hq hf => ?_, ?_⟩
        · have h19 : r 55 = .agg #[.int .u64 (i : Nat), .slice va L vc] := hf.1
          have h18 : r 54 = .bool false := hf.2.1
          have hy : ydD [some 36, some 37, some 38, some 39, some 40, some 41, some 42, some 43, some 44, some 45, some 46, some 47, some 48, some 49, some 50, some 51, some 52, some 53, some 54, some 55, some 56, some 57, some 58] r 18 = some false := by show (match r 54 with | .bool b => some b | _ => none) = some false; rw [h18]
          simp only [Region.wanted, hy, beq_self_eq_true, if_true]
          clear hs hq hf hy
          unfold gives
          go_simp
          refine (HRIGHT.out wx).mono ?_
          rintro e wy ⟨rfl, hb1⟩
          exact ⟨_, rfl, hb1, rfl⟩
        -- operation 21: Op.unOp UnOp.not 4 (tmp 56)
        refine ⟨fun r wx hG hs hq hf => ?_, ?_⟩
        · have h20 : r 56 = .bool true := hf.1
          have h18 : r 54 = .bool false := hf.2.1
          have hy : ydD [some 36, some 37, some 38, some 39, some 40, some 41, some 42, some 43, some 44, some 45, some 46, some 47, some 48, some 49, some 50, some 51, some 52, some 53, some 54, some 55, some 56, some 57, some 58] r 18 = some false := by show (match r 54 with | .bool b => some b | _ => none) = some false; rw [h18]
          simp only [Region.wanted, hy, beq_self_eq_true, if_true]
          clear hs hq hf hy
          unfold gives
          go_simp
          exact ⟨Below.refl _ _, rfl⟩
        -- operation 22: Op.pick (tmp 54) (const (Value.bool true)) (tmp 57)
        refine ⟨fun r wx hG hs hq hf => ?_, ?_⟩
        · have h18 : r 54 = .bool false := hf.1
          have h21 : r 57 = .bool false := hf.2.1
          refine (if_pos rfl).symm ▸ ?_
          clear hs hq hf
          unfold gives
          go_simp
          exact ⟨Below.refl _ _, rfl⟩
        exact trivial
      case hend =>
        intro u wz hG hfin
        have z22 : u 22 = .bool false := hfin 22 (by decide) (by kernel_rfl)
        clear hfin
        simp only [fill]
        have HG3 := Lib.hid hG
        clear hG
        go_simp
        have hbk := HG3.out
        have H6 := Lib.hid (And.intro ((hbk.block _ (Array.getElem?_eq_some_iff.1 H5.out.1).1).trans H5.out.1) (And.intro (own_keep H5.out.2.1 hbk) (H5.out.2.2.trans (hbk.mono H5.out.2.2.size))))
        clear hbk HG3 HB7 HG5 HC5 HROOT
        go_wp2_with fail
        go_loopw [9, 10] (fun s9 s10 wq => ∃ at_ k : Nat, s9 = .int .i64 at_ ∧ s10 = .int .i64 k ∧ at_ ≤ i ∧ k ≤ L ∧ pk.drop k = pkH W ((ls.take i).drop at_) ∧ Below wz.heap.size wz wq) (fun _ s10 _ => L - (intOf s10).toNat)
        case atStart => exact ⟨0, 0, rfl, rfl, by omega, by omega, by rw [List.drop_zero, List.drop_zero]; exact HPK.out.1, Below.refl _ _⟩
        case round =>
          obtain ⟨at_, k, rfl, rfl, hat, hkL, hdr, hbq⟩ := hrel
          have hrow6 := (hbq.block _ (Array.getElem?_eq_some_iff.1 H6.out.1).1).trans H6.out.1
          have hown6 := own_keep H6.out.2.1 hbq
          have hbw6 := H6.out.2.2.trans (hbq.mono H6.out.2.2.size)
          have hc6 : wr.cell? ⟨g5, 1, none⟩ = some (.slice va L vc) := by rw [cell_of_row _ _ _ _ _ _ hrow6]; rfl
          have hli : (ls.take i).length = i := by rw [List.length_take, H32.out.2]; omega
          have HBQ := Lib.hid hbq
          have H7 := Lib.hid (And.intro hrow6 (And.intro hown6 hbw6))
          clear hbq hrow6 hown6 hbw6
          by_cases hkl : k < L
          · have z2 : (k : Int) < (L : Int) := by omega
            have hpkd : 0 < ((ls.take i).drop at_).length := pk_ne_nil W _ (by
              rw [← hdr]
              intro e
              have := congrArg List.length e
              rw [List.length_drop, ← HPK.out.2.1] at this
              simp at this; omega)
            have hdl : ((ls.take i).drop at_).length = i - at_ := by rw [List.length_drop, hli]
            rw [hdl] at hpkd
            have hcons : pkH W ((ls.take i).drop at_) = rootL (nodeH W) (emptyH W) (((ls.take i).drop at_).take (hi ((ls.take i).drop at_).length)) :: pkH W (((ls.take i).drop at_).drop (hi ((ls.take i).drop at_).length)) := pk_cons (nodeH W) (emptyH W) _ (by rw [hdl]; exact hpkd)
            rw [hdl] at hcons
            have HD := Lib.hid (And.intro hdr (And.intro hcons hdl))
            clear hdr hcons hdl
            have HPKD := Lib.hid hpkd
            go_wp2_with fail
            go_loopw [11] (fun s11 wq => ∃ N p : Nat, N = 2 ^ p ∧ N ≤ i - at_ ∧ s11 = .int .i64 N ∧ Below wr.heap.size wr wq) (fun s11 _ => i - (intOf s11).toNat)
            case atStart => exact ⟨1, 0, rfl, by omega, rfl, Below.refl _ _⟩
            case round =>
              obtain ⟨N, p, hN, hNi, rfl, hbq⟩ := hrel
              have hN1 : 0 < N := by rw [hN]; exact Nat.pow_pos (by omega)
              have zw1 : IntKind.i64.wrap ((N : Int) * 2) = (N : Int) * 2 := IntWalk.i64_in _ (by omega)
              have zw2 : IntKind.i64.wrap ((i : Int) - (at_ : Int)) = (i : Int) - (at_ : Int) := IntWalk.i64_in _ (by omega)
              have HN2 := Lib.hid hN
              clear hN
              by_cases hn2 : N * 2 ≤ i - at_
              · have z3 : (N : Int) * 2 ≤ (i : Int) - (at_ : Int) := by omega
                have HBQ2 := Lib.hid hbq
                clear hbq
                go_wp2_with fail
                go_roundw
                case rel => exact ⟨N * 2, p + 1, by rw [HN2.out, Nat.pow_succ], by omega, by go_num, HBQ2.out⟩
                case measure => simp [intOf]; omega
              · have z3 : ¬ (N : Int) * 2 ≤ (i : Int) - (at_ : Int) := by omega
                have hhi : hi (i - at_) = N := by
                  rw [HN2.out]
                  have h2 := HN2.out
                  exact hi_unique (i - at_) p (by omega) (by rw [Nat.pow_succ]; omega)
                obtain ⟨hdr, hcons, hdl⟩ := HD.out
                rw [hhi] at hcons
                have hi32 : ∀ p ∈ ls.take i, p.length = 32 := fun p hp => H32.out.1 p (List.mem_of_mem_take hp)
                have hq32 : ∀ p ∈ ((ls.take i).drop at_).take N, p.length = 32 := fun p hp => hi32 p (List.mem_of_mem_drop (List.mem_of_mem_take hp))
                have hy32 := rootH_32 W _ hq32
                have hql : (((ls.take i).drop at_).take N).length = N := by rw [List.length_take, hdl]; omega
                have hlist : ((ls.take i).drop at_).take N = (ls.drop at_).take N := by
                  rw [List.drop_take, List.take_take, Nat.min_eq_left (by omega)]
                obtain ⟨y, hy⟩ : ∃ y, y = rootH W (((ls.take i).drop at_).take N) := ⟨_, rfl⟩
                have hcons2 : pkH W ((ls.take i).drop at_) = y :: pkH W (((ls.take i).drop at_).drop N) := by rw [hy]; exact hcons
                have hyk : pk[k]? = some y := by
                  have := congrArg (fun l => l[0]?) (hdr.trans hcons2)
                  simpa using this
                have hnext : pk.drop (k + 1) = pkH W ((ls.take i).drop (at_ + N)) := by
                  have := congrArg (List.drop 1) (hdr.trans hcons2)
                  rw [List.drop_drop, List.drop_succ_cons, List.drop_zero, List.drop_drop] at this
                  exact this
                rw [← hy] at hy32
                obtain ⟨gp, vc', hv, _, hvcap, _, _⟩ := own_at H7.out.2.1 (by omega)
                simp only [Value.slice.injEq, true_and] at hv
                obtain ⟨rfl, rfl⟩ := hv
                have hown6 := own_keep H7.out.2.1 hbq
                have hrow6 := (hbq.block _ (Array.getElem?_eq_some_iff.1 H7.out.1).1).trans H7.out.1
                have hbw6 := H7.out.2.2.trans (hbq.mono H7.out.2.2.size)
                have hrgp := own_range32 (ps := pk) (by rw [← HPK.out.2.1]; exact hown6) HRT.out.2 hyk
                obtain ⟨b, off, c', hv, _, _⟩ := HRD.out.atN (by omega) (by omega)
                simp only [Value.slice.injEq, true_and] at hv
                obtain ⟨rfl, rfl⟩ := hv
                have hRq : Rd w 32 (.slice (some ⟨b, off + at_ * 32, none⟩) N (c - at_)) N ((((ls.take i).drop at_).take N).flatMap bv) := by
                  have h1 := rd_drop HRD.out at_ (by omega)
                  have h2 := rd_take h1 N (by omega)
                  rw [← flat_drop32 _ _ H32.out.1, ← flat_take32 _ _ (fun p hp => H32.out.1 p (List.mem_of_mem_drop hp)), ← hlist] at h2
                  exact h2
                obtain ⟨o2, ho2⟩ : ∃ o, o = off + at_ * 32 := ⟨_, rfl⟩
                rw [← ho2] at hRq
                have HO2 := Lib.hid ho2
                have hroot2 := fun wx (hb : Below w.heap.size w wx) => Root_any W (((ls.take i).drop at_).take N) (.slice (some ⟨b, o2, none⟩) N (c - at_)) wx HN.out hq32 (by omega) (by rw [hql]; exact hRq.keep hb) (HT.out.1.keepB hb) (HT.out.2.1.keepB hb)
                rw [← hy] at hroot2
                have HC6 := Lib.hid (fun wx (h : Below wr.heap.size wr wx) => show wx.cell? ⟨g5, 1, none⟩ = some (.slice (some ⟨gp, 0, none⟩) L vc) by rw [cell_of_row _ _ _ _ _ _ ((h.block g5 (Array.getElem?_eq_some_iff.1 hrow6).1).trans hrow6)]; rfl)
                have HRGP := Lib.hid (fun wx (h : Below wr.heap.size wr wx) => show wx.rangeAt gp (k * 32) (bv y) from fun q u hu => (h.cell (World.block_lt_of_cell? wr _ (hrgp q u hu))).trans (hrgp q u hu))
                have HROOT2 := Lib.hid (fun wx (h : Below wr.heap.size wr wx) => hroot2 wx (hbw6.trans (h.mono hbw6.size)))
                have HY := Lib.hid hy32
                have HQY := Lib.hid (fun w => eqIn_hash y y hy32 hy32 w)
                have HNX := Lib.hid hnext
                have HBB := Lib.hid (HBQ.out.trans (hbq.mono HBQ.out.size))
                clear hhi hdr hcons hdl hi32 hq32 hy32 hql hlist hcons2 hyk hnext hy hown6 hrow6 hbw6 hrgp hRq ho2 hroot2 hbq hli
                go_upto_region 19 with fail
                refine wp_region_steps [some 74, some 75, some 76, some 77, some 78, some 79, some 80, some 81, some 82, some 83, some 84, some 85, some 86, some 87] [] (lg19F W m c L vc g5 k at_ N gp b off o2 y) (fun _ wx wy => Below wx.heap.size wx wy) (fun wx => Below wr.heap.size wr wx) (by kernel_rfl) (by kernel_rfl) rfl (by kernel_rfl) (Below.refl _ _).drew (fun _ wx => Below.refl _ _) (fun _ wx wy h k => h.trans (k.mono h.size)) ?hF ?hstep ?hend
                case hF =>
                  exact ⟨fun _ _ _ _ _ _ h => h, ⟨fun _ _ _ _ _ _ h => h, ⟨fun _ _ _ _ _ _ h => h, ⟨fun _ _ _ _ _ _ h => h, ⟨fun _ _ _ _ _ _ h => h, ⟨fun _ _ _ _ _ _ h => h, ⟨fun _ _ _ _ _ _ h => h, ⟨fun _ _ _ _ _ _ h => h, ⟨fun _ _ _ _ _ _ h => h, ⟨fun _ _ _ _ _ _ h => h, ⟨fun _ _ _ _ _ _ h => h, ⟨fun _ _ _ _ _ _ h => h, ⟨fun _ _ _ _ _ _ h => h, ⟨fun _ _ _ _ _ _ h => h, trivial⟩⟩⟩⟩⟩⟩⟩⟩⟩⟩⟩⟩⟩⟩
                case hstep =>
                  -- operation 0: Op.fieldAddr 31 (tmp 5) 1
                  refine ⟨fun r wx hG hs hq hf => ?_, ?_⟩
                  · have e5 : r 5 = .pointer (some ⟨g5, 0, none⟩) := hs 5 rfl
                    refine (if_pos rfl).symm ▸ ?_
                    clear hs hq hf
                    unfold gives
                    go_simp
                    exact ⟨Below.refl _ _, rfl⟩
                  -- operation 1: Op.load 22 (tmp 74)
                  refine ⟨fun r wx hG hs hq hf => ?_, ?_⟩
                  · have h0 : r 74 = .pointer (some ⟨g5, 1, none⟩) := hf.1
                    refine (if_pos rfl).symm ▸ ?_
                    clear hs hq hf
                    unfold gives
                    have hc := HC6.out wx hG
                    go_simp
                    exact ⟨Below.refl _ _, rfl⟩
                  -- operation 2: Op.move (tmp 10)
                  refine ⟨fun r wx hG hs hq hf => ?_, ?_⟩
                  · have e10 : r 10 = .int .i64 (k : Nat) := hs 10 rfl
                    refine (if_pos rfl).symm ▸ ?_
                    clear hs hq hf
                    unfold gives
                    go_simp
                    exact ⟨Below.refl _ _, rfl⟩
                  -- operation 3: Op.indexAddr 22 (tmp 75) (tmp 76)
                  refine ⟨fun r wx hG hs hq hf => ?_, ?_⟩
                  · have h1 : r 75 = .slice (some ⟨gp, 0, none⟩) L vc := hf.1
                    have h2 : r 76 = .int .i64 (k : Nat) := hf.2.1
                    refine (if_pos rfl).symm ▸ ?_
                    clear hs hq hf
                    unfold gives
                    have z0 : (0 : Int) ≤ (k : Int) := by omega
                    have z1 : (k : Int) < (L : Int) := by omega
                    go_simp
                    exact ⟨Below.refl _ _, rfl⟩
                  -- operation 4: Op.load 33 (tmp 77)
                  refine ⟨fun r wx hG hs hq hf => ?_, ?_⟩
                  · have h3 : r 77 = .pointer (some ⟨gp, k * 32, none⟩) := hf.1
                    refine (if_pos rfl).symm ▸ ?_
                    clear hs hq hf
                    unfold gives
                    refine gives_load_mid 33 _ rfl gp (k * 32) h3 (bv y) _ (HRGP.out wx hG) Tryd.underlying33 rfl (hInfo' _ HY.out) ⟨Below.refl _ _, rfl⟩
                  -- operation 5: Op.move (tmp 0)
                  refine ⟨fun r wx hG hs hq hf => ?_, ?_⟩
                  · have e0 : r 0 = .int .i64 W := hs 0 rfl
                    refine (if_pos rfl).symm ▸ ?_
                    clear hs hq hf
                    unfold gives
                    go_simp
                    exact ⟨Below.refl _ _, rfl⟩
                  -- operation 6: Op.move (tmp 1)
                  refine ⟨fun r wx hG hs hq hf => ?_, ?_⟩
                  · have e1 : r 1 = .slice (some ⟨b, off, none⟩) m c := hs 1 rfl
                    refine (if_pos rfl).symm ▸ ?_
                    clear hs hq hf
                    unfold gives
                    go_simp
                    exact ⟨Below.refl _ _, rfl⟩
                  -- operation 7: Op.move (tmp 9)
                  refine ⟨fun r wx hG hs hq hf => ?_, ?_⟩
                  · have e9 : r 9 = .int .i64 (at_ : Nat) := hs 9 rfl
                    refine (if_pos rfl).symm ▸ ?_
                    clear hs hq hf
                    unfold gives
                    go_simp
                    exact ⟨Below.refl _ _, rfl⟩
                  -- operation 8: Op.move (tmp 9)
                  refine ⟨fun r wx hG hs hq hf => ?_, ?_⟩
                  · have e9 : r 9 = .int .i64 (at_ : Nat) := hs 9 rfl
                    refine (if_pos rfl).symm ▸ ?_
                    clear hs hq hf
                    unfold gives
                    go_simp
                    exact ⟨Below.refl _ _, rfl⟩
                  -- operation 9: Op.move (tmp 11)
                  refine ⟨fun r wx hG hs hq hf => ?_, ?_⟩
                  · have e11 : r 11 = .int .i64 (N : Nat) := hs 11 rfl
                    refine (if_pos rfl).symm ▸ ?_
                    clear hs hq hf
                    unfold gives
                    go_simp
                    exact ⟨Below.refl _ _, rfl⟩
                  -- operation 10: Op.binOp BinOp.add 3 (tmp 82) (tmp 83) 3
                  refine ⟨fun r wx hG hs hq hf => ?_, ?_⟩
                  · have h8 : r 82 = .int .i64 (at_ : Nat) := hf.1
                    have h9 : r 83 = .int .i64 (N : Nat) := hf.2.1
                    refine (if_pos rfl).symm ▸ ?_
                    clear hs hq hf
                    unfold gives
                    have zw : IntKind.i64.wrap ((at_ : Int) + (N : Int)) = ((at_ + N : Nat) : Int) := (IntWalk.i64_in _ (by omega)).trans (by omega)
                    go_simp
                    exact ⟨Below.refl _ _, rfl⟩
                  -- operation 11: Op.slice 22 (tmp 80) (some (tmp 81)) (some (tmp 84)) none
                  refine ⟨fun r wx hG hs hq hf => ?_, ?_⟩
                  · have h6 : r 80 = .slice (some ⟨b, off, none⟩) m c := hf.1
                    have h7 : r 81 = .int .i64 (at_ : Nat) := hf.2.1
                    have h10 : r 84 = .int .i64 ((at_ + N : Nat) : Int) := hf.2.2.1
                    refine (if_pos rfl).symm ▸ ?_
                    clear hs hq hf
                    unfold gives
                    have z0 : (0 : Int) ≤ (at_ : Int) := by omega
                    have z1 : (at_ : Int) ≤ ((at_ + N : Nat) : Int) := by omega
                    have z2 : ((at_ + N : Nat) : Int) ≤ (c : Int) := by omega
                    have z1b : (at_ : Int) ≤ (at_ : Int) + (N : Int) := by omega
                    have z2b : (at_ : Int) + (N : Int) ≤ (c : Int) := by omega
                    have z2c : (0 : Int) ≤ (at_ : Int) + (N : Int) := by omega
                    have z3 : ¬ c = at_ := by omega
                    have z4 : (((at_ + N : Nat) : Int) - (at_ : Int)).toNat = N := by omega
                    have z4b : ((at_ : Int) + (N : Int) - (at_ : Int)).toNat = N := by omega
                    have z4c : ((at_ : Int) + (N : Int)).toNat = at_ + N := by omega
                    have z5 : ((c : Int) - (at_ : Int)).toNat = c - at_ := by omega
                    have z6 : at_ + N - at_ = N := by omega
                    have zo := HO2.out
                    go_simp
                    exact ⟨Below.refl _ _, by first | rfl | (rw [zo]; rfl) | (show _ = Value.slice _ _ _; rw [zo])⟩
                  -- operation 12: Op.call ( callee := Callee.value (func 33), args := #[tmp 79, tmp 85], argTypes := #[3, 22] )
                  refine ⟨fun r wx hG hs hq hf => ?_, ?_⟩
                  · have h5 : r 79 = .int .i64 W := hf.1
                    have h11 : r 85 = .slice (some ⟨b, o2, none⟩) N (c - at_) := hf.2.1
                    refine (if_pos rfl).symm ▸ ?_
                    clear hs hq hf
                    unfold gives
                    go_simp
                    refine (HROOT2.out wx hG).mono ?_
                    rintro e wy ⟨rfl, hb1⟩
                    exact ⟨_, rfl, hb1, rfl⟩
                  -- operation 13: Op.binOp BinOp.neq 33 (tmp 78) (tmp 86) 33
                  refine ⟨fun r wx hG hs hq hf => ?_, ?_⟩
                  · have h4 : r 78 = .agg (bv y).toArray := hf.1
                    have h12 : r 86 = .agg (bv y).toArray := hf.2.1
                    refine (if_pos rfl).symm ▸ ?_
                    clear hs hq hf
                    unfold gives
                    have hgd := eq_guard
                    have he := HQY.out wx
                    go_simp
                    exact ⟨Below.refl _ _, rfl⟩
                  exact trivial
                case hend =>
                  intro u wz hG hfin
                  have z13 : u 13 = .bool false := hfin 13 (by decide) (by kernel_rfl)
                  clear hfin
                  simp only [fill]
                  have HG4 := Lib.hid hG
                  clear hG
                  go_simp
                  have HBG := Lib.hid (HBB.out.trans (HG4.out.mono HBB.out.size))
                  clear HG4 HBB HC6 HRGP HROOT2 HQY
                  go_wp2_with fail
                  go_roundw
                  case rel => exact ⟨at_ + N, k + 1, by go_num, by go_num, by omega, by omega, HNX.out, HBG.out⟩
                  case measure => simp [intOf]; omega
          · have z2 : ¬ (k : Int) < (L : Int) := by omega
            have hai : at_ = i := by
              apply Classical.byContradiction
              intro hne
              have h1 : 0 < ((ls.take i).drop at_).length := by rw [List.length_drop, hli]; omega
              have h2 := pk_ne (nodeH W) (emptyH W) _ h1
              apply h2
              have h3 : pk.drop k = [] := List.drop_of_length_le (by rw [← HPK.out.2.1]; omega)
              rw [h3] at hdr
              exact hdr.symm
            have hai2 : i = at_ := hai.symm
            subst hai2
            clear hdr hai
            by_cases hlast : i = m
            · have z3 : ((i : Int) == (m : Int)) = true := by simp; omega
              have z4 : ((i : Int) == (i : Int)) = true := by simp
              go_wp2_with fail
              go_ret
              exact ⟨rfl, H7.out.2.2⟩
            · have z3 : ((i : Int) == (m : Int)) = false := by simp; omega
              have hxm : i < m := by omega
              obtain ⟨wr_, hwr_⟩ : ∃ x : World, x = wr := ⟨_, rfl⟩
              subst hwr_
              obtain ⟨b, off, c', hv, _, hcell⟩ := HRD.out.atN (by omega) (by omega)
              simp only [Value.slice.injEq, true_and] at hv
              obtain ⟨rfl, rfl⟩ := hv
              obtain ⟨x, hx⟩ : ∃ x, ls[i]? = some x := ⟨ls[i]'(by rw [H32.out.2]; exact hxm), List.getElem?_eq_getElem _⟩
              have hx32 := H32.out.1 x (List.mem_of_getElem? hx)
              have hrgx := range_at' (w := w) H32.out.1 hx hcell
              have hpp := push_pk (nodeH W) (emptyH W) x _ (ls.take i) (Nat.le_refl _)
              have htk : ls.take i ++ [x] = ls.take (i + 1) := by rw [List.take_add_one, hx]; rfl
              rw [htk, hli] at hpp
              have hpp1 : foldT (nodeH W) (tz1 i) (pk ++ [x]) = pkH W (ls.take (i + 1)) := by rw [HPK.out.1]; exact hpp.1
              have hppl := pkH_length W (ls.take (i + 1))
              rw [List.length_take, H32.out.2] at hppl
              have htz : tz1 i < pk.length + 1 := by
                have := hpp.2
                rw [HPK.out.1]
                exact Nat.lt_succ_of_le this
              have hpush := fun (h : List UInt8) (hh : h.length = 32) (wx : World) (hb : Below wr_.heap.size wr_ wx) => Push_ok W i va vc pk h wx HN.out (by omega) HRT.out.2 (by rw [← HPK.out.2.1]; omega) hh (by rw [← HPK.out.2.1]; exact (own_rd H7.out.2.1 (by have := flat_one32 pk; exact this)).keep hb) (HT.out.1.keepB (H7.out.2.2.trans (hb.mono H7.out.2.2.size))) (HT.out.2.1.keepB (H7.out.2.2.trans (hb.mono H7.out.2.2.size))) HPK.out.2.2
              rw [← HPK.out.2.1] at hpush
              have hg5s : g5 < wr_.heap.size := (Array.getElem?_eq_some_iff.1 H7.out.1).1
              obtain ⟨ni, hni⟩ : ∃ q, q = i + 1 := ⟨_, rfl⟩
              rw [← hni] at hpush
              have HNI := Lib.hid hni
              obtain ⟨pk2, hpk2⟩ : ∃ p, p = pkH W (ls.take (i + 1)) := ⟨_, rfl⟩
              obtain ⟨L2, hL2⟩ : ∃ l, l = pk2.length := ⟨_, rfl⟩
              have hpx := hpush x hx32
              rw [hpp1, ← hpk2, ← hL2] at hpx
              obtain ⟨po, hpo⟩ : ∃ p, p = foldT (nodeH W) (tz1 i) (pk ++ [hb 7]) := ⟨_, rfl⟩
              have hp7 := hpush (hb 7) (hb_length 7)
              rw [← hpo] at hp7
              have hpo32 : ∀ p ∈ po, p.length = 32 := by
                rw [hpo]
                exact foldT_32 W _ _ (fun p hp => (List.mem_append.1 hp).elim (fun h => HRT.out.2 p h) (fun h => by rw [List.mem_singleton.1 h]; exact hb_length 7))
              have hpol : po.length ≤ 71 := by
                rw [hpo, foldT_length _ _ _ (by rw [List.length_append]; exact htz), List.length_append, ← HPK.out.2.1]
                simp; omega
              obtain ⟨Lo, hLo⟩ : ∃ l, l = po.length := ⟨_, rfl⟩
              rw [← hLo] at hp7 hpol
              have HP7 := Lib.hid hp7
              have HPX := Lib.hid hpx
              have HX := Lib.hid hx32
              have HPO := Lib.hid (And.intro hpo32 hLo)
              have HPK2 := Lib.hid (And.intro hpk2 hL2)
              have HRX := Lib.hid hrgx
              have hL2b : L2 ≤ 71 := by rw [hL2, hpk2]; omega
              have H8 := Lib.hid (hb_length 8)
              clear hni hx hx32 hrgx hpp htk hpp1 hppl htz hpush hpk2 hL2 hpx hpo hp7 hpo32 hLo hcell hli
              have e7 : ((bv (zs 32)).set 0 (.int .u8 7)).toArray = (bv (hb 7)).toArray := rfl
              have e8 : ((bv (zs 32)).set 0 (.int .u8 8)).toArray = (bv (hb 8)).toArray := rfl
              go_wp2_with (with_reducible show wpList _ _ _ (⟨some 100, _, _, _, _, _⟩ :: _) _ _; refine wpList_load_row rfl _ _ rfl g5 rfl _ _ (0, 0) _ H7.out.1 Tryd.underlying31 rfl infoR3 ?_)
              refine (HP7.out _ (Below.refl _ _)).mono ?_
              rintro e w4 ⟨v4, rfl, ho4, hb4⟩
              obtain ⟨a4, c4, rfl⟩ := own_form ho4
              have H4 := Lib.hid (And.intro ho4 hb4)
              have H4n := Lib.hid (heap_alloc_new w4 (.cells #[.int .u64 0, .slice none 0 0] 31))
              clear ho4 hb4
              go_upto_region 25 with (with_reducible show wpList _ _ _ (⟨none, Op.store _ _ _, _, _, _, _⟩ :: _) _ _; refine wpList_store_whole rfl _ _ _ rfl w4.heap.size [.int .u64 (ni : Nat), .slice a4 Lo c4] rfl rfl [.int .u64 0, .slice none 0 0] _ H4n.out infoR2 rfl (HON.out _ _ _ _) ?_; intro w6 HGy hgy)
              have k6 : Below w4.heap.size w4 w6 := below_grow ((Below.refl _ _).alloc (Nat.le_refl _) _) hgy (Nat.le_refl _) (by simp)
              obtain ⟨g12, hg12⟩ : ∃ g, g = w4.heap.size := ⟨_, rfl⟩
              have hrow12 := HGy.out
              rw [← hg12] at hrow12 ⊢
              have hb46 : Below wr_.heap.size wr_ w6 := H4.out.2.trans (k6.mono H4.out.2.size)
              have hown4 := own_keep H4.out.1 k6
              obtain ⟨Bq, hBq⟩ : ∃ B, B = w6.heap.size := ⟨_, rfl⟩
              have hBs : Bq ≤ w6.heap.size := by omega
              have hrow56 := (hb46.block _ (Array.getElem?_eq_some_iff.1 H7.out.1).1).trans H7.out.1
              have hg5B : g5 < Bq := by rw [hBq]; exact (Array.getElem?_eq_some_iff.1 hrow56).1
              have hwr : wr_.heap.size ≤ Bq := by rw [hBq]; exact hb46.size
              have hww : w.heap.size ≤ wr_.heap.size := H7.out.2.2.size
              have HG5 := Lib.hid (fun wx (h : Below Bq w6 wx) => (h.block g5 hg5B).trans hrow56)
              have HRGX := Lib.hid (fun wx (h : Below Bq w6 wx) => show wx.rangeAt b (off + i * 32) (bv x) from fun q u hu => ((H7.out.2.2.trans ((hb46.trans (h.mono hwr)).mono hww)).cell (World.block_lt_of_cell? w _ (HRX.out q u hu))).trans (HRX.out q u hu))
              have HPUSH := Lib.hid (fun wx (h : Below Bq w6 wx) => HPX.out wx (hb46.trans (h.mono hwr)))
              have H12 := Lib.hid (And.intro hrow12 (And.intro hown4 (And.intro hb46 hBq)))
              have hg12B : g12 < Bq := by rw [hBq]; exact (Array.getElem?_eq_some_iff.1 hrow12).1
              have hwg12 : wr_.heap.size ≤ g12 := by rw [hg12]; exact H4.out.2.size
              have HG12 := Lib.hid hg12
              clear hrow12 k6 hgy HGy hg12 hown4 hrow56 hb46 hBq
              go_upto_region 25 with fail
              refine wp_region_link [some 106, some 107, some 108, some 109, some 110, some 111, some 112, some 105, some 113, some 114, some 14, none, some 15] [] 0 (fun _ => True) [] [(11, 10)] (lg25F W m c i ni L vc L2 g5 b off Bq va x pk2) (kR 11 Bq) (fun wx => Below Bq w6 wx) (by kernel_rfl) (by kernel_rfl) rfl (by kernel_rfl) (by kernel_rfl) (by kernel_rfl) (Below.refl _ _).drew (trivial) (fun _ _ _ _ _ _ => trivial) (fun _ _ => kR_refl _ _ _) (fun _ _ _ h k => kR_G hBs h k) ?hF ?hstep ?hend
              case hF =>
                exact ⟨fun _ _ _ _ _ _ h => h, ⟨fun _ _ _ _ _ _ h => h, ⟨fun _ _ _ _ _ _ h => h, ⟨fun _ _ _ _ _ _ h => h, ⟨fun _ _ _ _ _ _ h => h, ⟨fun _ _ _ _ _ _ h => h, ⟨fun j hg _ _ _ k h => by obtain ⟨a2, c2, h1, h2⟩ := h; exact ⟨a2, c2, h1, kR_own k h2⟩, ⟨fun j hg _ _ _ k h => by obtain ⟨a2, c2, h1, h2⟩ := h; exact ⟨a2, c2, h1, kR_own k h2⟩, ⟨fun j hg _ _ _ k h => by obtain ⟨a2, c2, h1, h2⟩ := h; exact ⟨a2, c2, h1, kR_own k h2⟩, ⟨fun _ _ _ _ _ _ h => h, ⟨fun j hg _ _ _ k h => by obtain ⟨p, h1, h2, h3⟩ := h; exact ⟨p, h1, h2, kR_row (by rintro rfl; exact absurd hg (by rw [show goneB _ 10 11 = true by kernel_rfl]; simp)) k h3⟩, ⟨fun j hg _ _ _ k h => by obtain ⟨p, a2, c2, h1, h2, h3, h4⟩ := h; exact ⟨p, a2, c2, h1, h2, kR_row (by rintro rfl; exact absurd hg (by rw [show goneB _ 11 11 = true by kernel_rfl]; simp)) k h3, kR_own k h4⟩, ⟨fun _ _ _ _ _ _ h => h, trivial⟩⟩⟩⟩⟩⟩⟩⟩⟩⟩⟩⟩⟩
              case hstep =>
                -- operation 0: Op.move (tmp 0)
                refine ⟨fun r wx hG hs hq hf => ?_, ?_⟩
                · have e0 : r 0 = .int .i64 W := hs 0 rfl
                  refine (if_pos rfl).symm ▸ ?_
                  clear hs hq hf
                  unfold gives
                  go_simp
                  exact ⟨kR_refl _ _ _, rfl⟩
                -- operation 1: Op.load 31 (tmp 5)
                refine ⟨fun r wx hG hs hq hf => ?_, ?_⟩
                · have e5 : r 5 = .pointer (some ⟨g5, 0, none⟩) := hs 5 rfl
                  refine (if_pos rfl).symm ▸ ?_
                  clear hs hq hf
                  unfold gives
                  refine gives_load_row 31 _ rfl g5 e5 31 _ (0, 0) _ (HG5.out wx hG) Tryd.underlying31 rfl infoR3 ?_
                  exact ⟨kR_refl _ _ _, rfl⟩
                -- operation 2: Op.move (tmp 1)
                refine ⟨fun r wx hG hs hq hf => ?_, ?_⟩
                · have e1 : r 1 = .slice (some ⟨b, off, none⟩) m c := hs 1 rfl
                  refine (if_pos rfl).symm ▸ ?_
                  clear hs hq hf
                  unfold gives
                  go_simp
                  exact ⟨kR_refl _ _ _, rfl⟩
                -- operation 3: Op.move (tmp 6)
                refine ⟨fun r wx hG hs hq hf => ?_, ?_⟩
                · have e6 : r 6 = .int .i64 (i : Nat) := hs 6 rfl
                  refine (if_pos rfl).symm ▸ ?_
                  clear hs hq hf
                  unfold gives
                  go_simp
                  exact ⟨kR_refl _ _ _, rfl⟩
                -- operation 4: Op.indexAddr 22 (tmp 108) (tmp 109)
                refine ⟨fun r wx hG hs hq hf => ?_, ?_⟩
                · have h2 : r 108 = .slice (some ⟨b, off, none⟩) m c := hf.1
                  have h3 : r 109 = .int .i64 (i : Nat) := hf.2.1
                  refine (if_pos rfl).symm ▸ ?_
                  clear hs hq hf
                  unfold gives
                  have z0 : (0 : Int) ≤ (i : Int) := by omega
                  have z1 : (i : Int) < (m : Int) := by omega
                  go_simp
                  exact ⟨kR_refl _ _ _, rfl⟩
                -- operation 5: Op.load 33 (tmp 110)
                refine ⟨fun r wx hG hs hq hf => ?_, ?_⟩
                · have h4 : r 110 = .pointer (some ⟨b, off + i * 32, none⟩) := hf.1
                  refine (if_pos rfl).symm ▸ ?_
                  clear hs hq hf
                  unfold gives
                  refine gives_load_mid 33 _ rfl b (off + i * 32) h4 (bv x) _ (HRGX.out wx hG) Tryd.underlying33 rfl (hInfo' _ HX.out) ⟨kR_refl _ _ _, rfl⟩
                -- operation 6: Op.call ( callee := Callee.value (func 20), args := #[tmp 106, tmp 107, tmp 111], argTypes := #[3, 31, 33] )
                refine ⟨fun r wx hG hs hq hf => ?_, ?_⟩
                · have h0 : r 106 = .int .i64 W := hf.1
                  have h1 : r 107 = .agg #[.int .u64 (i : Nat), .slice va L vc] := hf.2.1
                  have h5 : r 111 = .agg (bv x).toArray := hf.2.2.1
                  refine (if_pos rfl).symm ▸ ?_
                  clear hs hq hf
                  unfold gives
                  go_simp
                  refine (HPUSH.out wx hG).mono ?_
                  rintro e wy ⟨v', rfl, ho, hb1⟩
                  obtain ⟨a2, c2, rfl⟩ := own_form ho
                  exact ⟨_, rfl, kR_of hb1, a2, c2, rfl, own_base ho (Nat.le_trans hBs hG.size)⟩
                -- operation 7: Op.move (tmp 112)
                refine ⟨fun r wx hG hs hq hf => ?_, ?_⟩
                · have h6 : ∃ a2 c2, (r 112) = .tuple #[.agg #[.int .u64 (ni : Nat), .slice a2 L2 c2], .int .i64 0] ∧ wx.ownsRow Bq 33 32 (.slice a2 L2 c2) L2 (pk2.flatMap bv) := hf.1
                  refine (if_pos rfl).symm ▸ ?_
                  clear hs hq hf
                  unfold gives
                  obtain ⟨a2, c2, hv, ho⟩ := h6
                  go_simp
                  exact ⟨kR_refl _ _ _, a2, c2, rfl, ho⟩
                -- operation 8: Op.extract (tmp 105) 0
                refine ⟨fun r wx hG hs hq hf => ?_, ?_⟩
                · have h7 : ∃ a2 c2, (r 105) = .tuple #[.agg #[.int .u64 (ni : Nat), .slice a2 L2 c2], .int .i64 0] ∧ wx.ownsRow Bq 33 32 (.slice a2 L2 c2) L2 (pk2.flatMap bv) := hf.1
                  refine (if_pos rfl).symm ▸ ?_
                  clear hs hq hf
                  unfold gives
                  obtain ⟨a2, c2, hv, ho⟩ := h7
                  go_simp
                  exact ⟨kR_refl _ _ _, a2, c2, rfl, ho⟩
                -- operation 9: Op.extract (tmp 105) 1
                refine ⟨fun r wx hG hs hq hf => ?_, ?_⟩
                · have h7 : ∃ a2 c2, (r 105) = .tuple #[.agg #[.int .u64 (ni : Nat), .slice a2 L2 c2], .int .i64 0] ∧ wx.ownsRow Bq 33 32 (.slice a2 L2 c2) L2 (pk2.flatMap bv) := hf.1
                  refine (if_pos rfl).symm ▸ ?_
                  clear hs hq hf
                  unfold gives
                  obtain ⟨a2, c2, hv, ho⟩ := h7
                  go_simp
                  exact ⟨kR_refl _ _ _, rfl⟩
                -- operation 10: Op.alloc 31
                refine ⟨fun r wx hG hs hq hf => ?_, ?_⟩
                · refine (if_pos rfl).symm ▸ ?_
                  clear hs hq hf
                  unfold gives
                  go_simp
                  exact ⟨kR_of ((Below.refl _ _).alloc (Nat.le_refl _) _), _, rfl, Nat.le_trans hBs hG.size, heap_alloc_new _ _⟩
                -- operation 11: Op.store 31 (tmp 14) (tmp 113)
                refine ⟨fun r wx hG hs hq hf => ?_, ?_⟩
                · have h10 : ∃ p, (r 14) = .pointer (some ⟨p, 0, none⟩) ∧ Bq ≤ p ∧ wx.heap[p]? = some (.cells #[.int .u64 0, .slice none 0 0] 31 (0, 0)) := hf.1
                  have h8 : ∃ a2 c2, (r 113) = .agg #[.int .u64 (ni : Nat), .slice a2 L2 c2] ∧ wx.ownsRow Bq 33 32 (.slice a2 L2 c2) L2 (pk2.flatMap bv) := hf.2.1
                  have h6 : ∃ a2 c2, (r 112) = .tuple #[.agg #[.int .u64 (ni : Nat), .slice a2 L2 c2], .int .i64 0] ∧ wx.ownsRow Bq 33 32 (.slice a2 L2 c2) L2 (pk2.flatMap bv) := hf.2.2.1
                  refine (if_pos rfl).symm ▸ ?_
                  clear hs hq hf
                  unfold gives
                  obtain ⟨p, hp, hBp, hrow⟩ := h10
                  obtain ⟨a2, c2, hv, ho⟩ := h8
                  refine gives_store_row 31 _ _ rfl p [.int .u64 (ni : Nat), .slice a2 L2 c2] hp hv [.int .u64 0, .slice none 0 0] 31 hrow infoR2 rfl (HON.out _ _ _ _) ?_
                  intro wy h1 h2
                  refine ⟨⟨_, h2, fun i e => ?_⟩, p, a2, c2, hp, hBp, h1, ho.kept h2 (own_other ho hrow (by decide))⟩
                  obtain rfl : p = i := by simpa using e
                  exact ⟨hBp, rfl, _, _, hrow⟩
                -- operation 12: Op.assign (tmp 114)
                refine ⟨fun r wx hG hs hq hf => ?_, ?_⟩
                · have h9 : r 114 = .int .i64 0 := hf.1
                  have h11 : ∃ p a2 c2, (r 14) = .pointer (some ⟨p, 0, none⟩) ∧ Bq ≤ p ∧ wx.heap[p]? = some (.cells #[.int .u64 (ni : Nat), .slice a2 L2 c2] 31 (0, 0)) ∧ wx.ownsRow Bq 33 32 (.slice a2 L2 c2) L2 (pk2.flatMap bv) := hf.2.1
                  refine (if_pos rfl).symm ▸ ?_
                  clear hs hq hf
                  unfold gives
                  go_simp
                  exact ⟨kR_refl _ _ _, rfl⟩
                exact trivial
              case hend =>
                intro u wz hG hfin
                have z11 : ∃ p a2 c2, (u 10) = .pointer (some ⟨p, 0, none⟩) ∧ Bq ≤ p ∧ wz.heap[p]? = some (.cells #[.int .u64 (ni : Nat), .slice a2 L2 c2] 31 (0, 0)) ∧ wz.ownsRow Bq 33 32 (.slice a2 L2 c2) L2 (pk2.flatMap bv) := hfin 11 (by decide) (by kernel_rfl)
                have z12 : u 12 = .int .i64 0 := hfin 12 (by decide) (by kernel_rfl)
                clear hfin
                simp only [fill]
                obtain ⟨p14, a2, c2, hu14, hB14, hrow14, ho14⟩ := z11
                rw [hu14]
                have HG7 := Lib.hid hG
                have H14 := Lib.hid (And.intro hB14 (And.intro hrow14 ho14))
                clear hG hB14 hrow14 ho14 hu14
                go_simp
                have hk := show Below w6.heap.size w6 wz by rw [← H12.out.2.2.2]; exact HG7.out
                have hb7 : Below wr_.heap.size wr_ wz := H12.out.2.2.1.trans (HG7.out.mono hwr)
                have hr12 := (HG7.out.block g12 hg12B).trans H12.out.1
                have ho12 := own_keep H12.out.2.1 hk
                have hr5 := (HG7.out.block g5 hg5B).trans (HG5.out w6 (Below.refl _ _))
                have c0 : wz.cell? ⟨g12, 0, none⟩ = some (.int .u64 (ni : Nat)) := by rw [cell_of_row _ _ _ _ _ _ hr12]; rfl
                have c1 : wz.cell? ⟨g12, 1, none⟩ = some (.slice a4 Lo c4) := by rw [cell_of_row _ _ _ _ _ _ hr12]; rfl
                have c2' : wz.cell? ⟨p14, 0, none⟩ = some (.int .u64 (ni : Nat)) := by rw [cell_of_row _ _ _ _ _ _ H14.out.2.1]; rfl
                have hqb : ∀ j, (Value.slice a4 Lo c4).ownBlock = some j → wr_.heap.size ≤ j ∧ j < g12 := fun j hj => by
                  have h1 := ho12.lt j hj
                  have h2 := (H4.out.1.lt j hj).2
                  exact ⟨h1.1, by rw [HG12.out]; exact h2⟩
                have HR12 := Lib.hid hr12
                have HRO := Lib.hid (And.intro ho12 (And.intro hb7 (And.intro hr5 hqb)))
                have HC1 := Lib.hid c1
                clear hk hb7 hr12 ho12 hr5 hqb c1
                go_upto_region 28 with fail
                clear c0 c2'
                go_wp2_with fail
                go_loopw [16] (fun s16 wq => ∃ (k : Nat) (XS : List Value), k ≤ Lo ∧ s16 = .int .i64 k ∧ wq.ownsRow wr_.heap.size 33 32 (.slice a4 Lo c4) Lo XS ∧ wz.grownBy wq (Value.slice a4 Lo c4).ownBlock) (fun s16 _ => Lo - (intOf s16).toNat)
                case atStart => exact ⟨0, _, by omega, rfl, HRO.out.1, World.grownBy.refl _ _⟩
                case round =>
                  obtain ⟨k, XS, hkl, rfl, how, hgq⟩ := hrel
                  have hr12 := (hgq.block g12 (Array.getElem?_eq_some_iff.1 HR12.out).1 (fun e => by have := (HRO.out.2.2.2 _ e.symm).2; omega)).trans HR12.out
                  have c1 : wr.cell? ⟨g12, 1, none⟩ = some (.slice a4 Lo c4) := by rw [cell_of_row _ _ _ _ _ _ hr12]; rfl
                  by_cases hkl2 : k < Lo
                  · have z4 : (k : Int) < (Lo : Int) := by omega
                    have z5 : (0 : Int) ≤ (k : Int) := by omega
                    obtain ⟨gq, cq, hvq, _, _, _, _⟩ := own_at how (by omega)
                    simp only [Value.slice.injEq, true_and] at hvq
                    obtain ⟨rfl, rfl⟩ := hvq
                    have hsz : (bv (hb 8)).toArray.size = 32 := by rw [List.size_toArray, bv_length, H8.out]
                    have hth := own_there how (o := k * 32) (k := (bv (hb 8)).toArray.size) (by rw [hsz]; omega)
                    have hos := own_sets (bv (hb 8)) (k * 32) wr XS how
                    have HTH := Lib.hid (And.intro hth (all_oneCell_toArray (bv_one (hb 8))))
                    have HOS := Lib.hid (And.intro hos hgq)
                    clear hth hos hsz how hgq hr12
                    go_wp2_with (with_reducible show wpList _ _ _ (⟨none, Op.store _ _ _, _, _, _, _⟩ :: _) _ _; refine wpList_store_mid rfl _ _ _ rfl gq (k * 32) (bv (hb 8)).toArray rfl rfl HTH.out.1 (hInfo _ H8.out) HTH.out.2 ?_)
                    go_roundw
                    case rel => exact ⟨k + 1, _, by omega, by go_num, HOS.out.1.1, grown_trans HOS.out.2 HOS.out.1.2 (fun _ hj => .inl hj)⟩
                    case measure => simp [intOf]; omega
                  · have z4 : ¬ (k : Int) < (Lo : Int) := by omega
                    have hr14 := (hgq.block p14 (Array.getElem?_eq_some_iff.1 H14.out.2.1).1 (fun e => by have := (HRO.out.2.2.2 _ e.symm).2; have := H14.out.1; omega)).trans H14.out.2.1
                    have ho14 := H14.out.2.2.kept hgq (by
                      cases hq : (Value.slice a2 L2 c2).ownBlock with
                      | none => exact .inl rfl
                      | some j => exact .inr (fun e => by have h1 := own_block H14.out.2.2 j hq; have h2 := (HRO.out.2.2.2 j e.symm).2; omega))
                    have hr5 := (hgq.block g5 (Array.getElem?_eq_some_iff.1 HRO.out.2.2.1).1 (fun e => by have := (HRO.out.2.2.2 _ e.symm).1; omega)).trans HRO.out.2.2.1
                    have hbq : Below wr_.heap.size wr_ wr := HRO.out.2.1.trans ⟨hgq.os, hgq.tape, hgq.output, hgq.size, fun q hq => hgq.block q (Nat.lt_of_lt_of_le hq HRO.out.2.1.size) (fun e => by have := (HRO.out.2.2.2 _ e.symm).1; omega)⟩
                    have HZ := Lib.hid (And.intro hr14 (And.intro ho14 (And.intro hr5 (H7.out.2.2.trans (hbq.mono hww)))))
                    clear hr14 ho14 hr5 hbq how hgq hr12
                    go_wp2_with (first
                      | (with_reducible show wpList _ _ _ (⟨some 140, _, _, _, _, _⟩ :: _) _ _; refine wpList_load_row rfl _ _ rfl p14 rfl _ _ (0, 0) _ HZ.out.1 Tryd.underlying31 rfl infoR3 ?_)
                      | (with_reducible show wpList _ _ _ (⟨none, Op.store _ _ _, _, _, _, _⟩ :: _) _ _; refine wpList_store_whole rfl _ _ _ rfl g5 [.int .u64 (ni : Nat), .slice a2 L2 c2] rfl rfl [.int .u64 (i : Nat), .slice va L vc] _ HZ.out.2.2.1 infoR2 rfl (HON.out _ _ _ _) ?_; intro w9 HG9 hg9))
                    go_roundw
                    case rel =>
                      refine ⟨i + 1, a2, c2, by omega, by go_num, ?_, ?_, ?_⟩
                      · rw [← HPK2.out.1, ← HPK2.out.2, ← HNI.out]; exact HG9.out
                      · rw [← HPK2.out.1, ← HPK2.out.2]
                        exact own_base (HZ.out.2.1.kept hg9 (by
                          cases hq : (Value.slice a2 L2 c2).ownBlock with
                          | none => exact .inl rfl
                          | some j => exact .inr (fun e => by have h1 := own_block H14.out.2.2 j hq; simp only [Option.some.injEq] at e; omega))) (by omega)
                      · exact below_grow HZ.out.2.2.2 hg9 hwg5 (Array.getElem?_eq_some_iff.1 HZ.out.2.2.1).1
                    case measure => simp [intOf]; omega

end Go.Proofs.YtdjmebfjanophaaDoor
