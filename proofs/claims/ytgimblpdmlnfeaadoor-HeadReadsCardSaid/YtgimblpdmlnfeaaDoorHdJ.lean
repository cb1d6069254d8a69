/- head.Get. (printed by gen/hdj.py) -/
import Derived.Test.YtgimblpdmlnfeaaDoorHdI
import Derived.Test.YtgimblpdmlnfeaaDoorRdK
import Derived.Test.YtgimblpdmlnfeaaDoorRdA0
namespace Go.Proofs.YtgimblpdmlnfeaaDoor
open Go.RowKit Sha

/-- What bytes are as a head: the error; the head. -/
def hgE (b : List UInt8) : Int := if (rdN b).1 ≠ 0 then (rdN b).1 else if (rdN (rdN b).2.2).1 ≠ 0 then (rdN (rdN b).2.2).1 else if (rdN (rdN b).2.2).2.2.length < 64 then 2 else if 64 < (rdN (rdN b).2.2).2.2.length then 5 else 0
def hgN (b : List UInt8) : Nat := if hgE b = 0 then (rdN b).2.1 else 0
def hgZ (b : List UInt8) : Nat := if hgE b = 0 then (rdN (rdN b).2.2).2.1 else 0
def hgR (b : List UInt8) : List UInt8 := if hgE b = 0 then (rdN (rdN b).2.2).2.2.take 32 else zs 32
def hgM (b : List UInt8) : List UInt8 := if hgE b = 0 then (rdN (rdN b).2.2).2.2.drop 32 else zs 32
theorem hg_none (b : List UInt8) (h : hgE b ≠ 0) : hdL (hgN b) (hgZ b) (hgR b) (hgM b) = hdL 0 0 (zs 32) (zs 32) := by
  unfold hgN hgZ hgR hgM
  rw [if_neg h, if_neg h, if_neg h, if_neg h]
theorem hg_len (b : List UInt8) : (hgR b).length = 32 ∧ (hgM b).length = 32 := by
  unfold hgR hgM
  by_cases h : hgE b = 0
  · rw [if_pos h, if_pos h]
    unfold hgE at h
    split at h
    · rename_i h1; exact absurd h h1
    · split at h
      · rename_i h1; exact absurd h h1
      · split at h
        · cases h
        · split at h
          · cases h
          · simp; omega
  · rw [if_neg h, if_neg h]; exact ⟨by simp [zs], by simp [zs]⟩
theorem Left_row (w : World) (p : Nat) (a : Option Addr) (c L : Nat) (no : Int) (h : w.heap[p]? = some (.cells #[.slice a L c, .int .i64 no] 130 (0, 0))) :
    Calls Tryd.prog 61 #[.pointer (some ⟨p, 0, none⟩)] w fun e w' => e = .returned (.int .i64 L) ∧ w' = w := by
  have h0 : w.cell? ⟨p, 0, none⟩ = some (.slice a L c) := cell_of_row h rfl
  clear h
  go_enter Tryd.func61, Tryd.ntmps61
  go_wp2_with fail
  go_ret
  exact ⟨rfl, rfl⟩
theorem grow2 {B p : Nat} {w0 w w' : World} (hb : Below B w0 w) (h : w.grownBy w' (some p)) (hp : B ≤ p) (hs : B ≤ w.heap.size) : Below B w0 w' :=
  hb.trans ⟨h.os, h.tape, h.output, h.size, fun k hk => h.block k (by omega) (fun e => by simp at e; omega)⟩
theorem hd_set0 {w : World} {g n z m : Nat} {r k : List UInt8} {T : TypeId} (h : w.heap[g]? = some (.cells (hdL n z r k).toArray T (0, 0))) : (w.setCell ⟨g, 0, none⟩ (.int .u64 m)).heap[g]? = some (.cells (hdL m z r k).toArray T (0, 0)) := by
  rw [heap_setCell_same w g 0 _ _ _ h]; simp [hdL]
theorem hd_set1 {w : World} {g n z m : Nat} {r k : List UInt8} {T : TypeId} (h : w.heap[g]? = some (.cells (hdL n z r k).toArray T (0, 0))) : (w.setCell ⟨g, 1, none⟩ (.int .u64 m)).heap[g]? = some (.cells (hdL n m r k).toArray T (0, 0)) := by
  rw [heap_setCell_same w g 1 _ _ _ h]; simp [hdL]
theorem hd_froz {w : World} {g : Nat} {cs : Array Value} {T : TypeId} (h : w.heap[g]? = some (.cells cs T (0, 0))) (k : Nat) : w.frozen? ⟨g, k, none⟩ = false := by simp [World.frozen?, h]
/-- The row while the mark may have come. -/
def Row9 (w : World) (g N M : Nat) (r1 : List UInt8) : Prop := ∃ d : List UInt8, d.length = 32 ∧ w.heap[g]? = some (.cells (hdL N M r1 d).toArray 37 (0, 0))
/-- What Get's operations may change. -/
def kHG (g N M : Nat) (r1 m1 : List UInt8) (j : Nat) (w w' : World) : Prop := w.grownBy w' (some g) ∧ (j ≠ 9 → j ≠ 11 → Below w.heap.size w w') ∧ (j = 11 → w' = w ∨ w'.heap[g]? = some (.cells (hdL N M r1 m1).toArray 37 (0, 0)) ∧ m1.length = 32)
theorem kHG_refl (g N M : Nat) (r1 m1 : List UInt8) (j : Nat) (w : World) : kHG g N M r1 m1 j w w := ⟨World.grownBy.refl _ _, fun _ _ => Below.refl _ _, fun _ => .inl rfl⟩
theorem kHG_st9 {g N M : Nat} {r1 m1 : List UInt8} {w w' : World} (h : w.grownBy w' (some g)) : kHG g N M r1 m1 9 w w' := ⟨h, fun h => absurd rfl h, fun h => by cases h⟩
theorem kHG_st11 {g N M : Nat} {r1 m1 : List UInt8} {w w' : World} (h : w.grownBy w' (some g)) (hr : w'.heap[g]? = some (.cells (hdL N M r1 m1).toArray 37 (0, 0))) (hm : m1.length = 32 := by first | assumption | exact HQ.out.2.2.2.2.2) : kHG g N M r1 m1 11 w w' := ⟨h, fun _ h => absurd rfl h, fun _ => .inr ⟨hr, hm⟩⟩
theorem Row9.keep {w w' : World} {g N M j : Nat} {r1 m1 : List UInt8} (h : Row9 w g N M r1) (hj : j ≠ 9) (k : kHG g N M r1 m1 j w w') : Row9 w' g N M r1 := by
  obtain ⟨d, hd, h⟩ := h
  by_cases h11 : j = 11
  · rcases k.2.2 h11 with rfl | ⟨k, hm⟩
    · exact ⟨d, hd, h⟩
    · exact ⟨m1, hm, k⟩
  · exact ⟨d, hd, ((k.2.1 hj h11).block _ (Array.getElem?_eq_some_iff.1 h).1).trans h⟩
theorem splice_root (n z : Nat) (r r0 m : List UInt8) (hr0 : r0.length = 32) (hr : r.length = 32) : splice (hdL n z r0 m) 2 (bv r) = hdL n z r m := by
  unfold splice hdL
  rw [show ([Value.int .u64 (n : Int), .int .u64 (z : Int)] ++ (bv r0 ++ bv m)).take 2 = [Value.int .u64 (n : Int), .int .u64 (z : Int)] from rfl]
  rw [show ([Value.int .u64 (n : Int), .int .u64 (z : Int)] ++ (bv r0 ++ bv m)).drop (2 + (bv r).length) = bv m by
    rw [bv_length, hr, ← List.append_assoc, show 2 + 32 = ([Value.int .u64 (n : Int), .int .u64 (z : Int)] ++ bv r0).length by simp [bv_length, hr0], List.drop_left]]
  first | done | rw [List.append_assoc]
theorem splice_mk (n z : Nat) (r d m : List UInt8) (hr : r.length = 32) (hd : d.length = 32) (hm : m.length = 32) : splice (hdL n z r d) 34 (bv m) = hdL n z r m := by
  unfold splice hdL
  have e1 : ([Value.int .u64 (n : Int), .int .u64 (z : Int)] ++ (bv r ++ bv d)).take 34 = [Value.int .u64 (n : Int), .int .u64 (z : Int)] ++ bv r := by
    rw [← List.append_assoc, List.take_append_of_le_length (by simp [bv_length, hr]), List.take_of_length_le (by simp [bv_length, hr])]
  rw [e1, List.drop_of_length_le (by simp [bv_length, hr, hd, hm]), List.append_nil, List.append_assoc]
theorem run_stap (w : World) (q o n c : Nat) (hn : n = 32 := by rfl) : (Instr.arrayAt 35 (.slice (some ⟨q, o, none⟩) n c)).run Tryd.prog w = .ok (.pointer (some ⟨q, o, none⟩)) w := by
  subst hn
  kernel_rfl
theorem rd_rest {w : World} {q o n c p : Nat} {b : List UInt8} (h : Rd w 1 (.slice (some ⟨q, o, none⟩) n c) n (bv b)) (hp : p ≤ n) :
    Rd w 1 (.slice (some ⟨q, o + p, none⟩) (n - p) (c - p)) (n - p) (bv (b.drop p)) := by
  obtain ⟨hl, h1, ⟨hv, _⟩ | ⟨ad, c', hv, hc, hcell⟩⟩ := h
  · simp at hv
  · simp only [Value.slice.injEq, Option.some.injEq, true_and] at hv
    obtain ⟨rfl, rfl⟩ := hv
    refine ⟨by rw [bv_length] at hl ⊢; simp; omega, bv_one _, .inr ⟨⟨q, o + p, none⟩, c - p, rfl, by omega, fun j u hu => ?_⟩⟩
    have := hcell (p + j) u (by
      rw [← hu]
      simp only [bv, List.getElem?_map, List.getElem?_drop])
    rw [Addr.add_lit] at this ⊢
    rwa [Nat.add_assoc]
theorem rd_range {w : World} {q o n c : Nat} {t : List UInt8} (h : Rd w 1 (.slice (some ⟨q, o, none⟩) n c) n (bv t)) (p k : Nat) : w.rangeAt q (o + p) (bv ((t.drop p).take k)) := by
  obtain ⟨hl, h1, ⟨hv, _⟩ | ⟨ad, c', hv, hc, hcell⟩⟩ := h
  · simp at hv
  · simp only [Value.slice.injEq, Option.some.injEq, true_and] at hv
    obtain ⟨rfl, rfl⟩ := hv
    intro j u hu
    have hj : j < k := by have := (List.getElem?_eq_some_iff.1 hu).1; simp [bv_length] at this; omega
    have := hcell (p + j) u (by
      rw [← hu]
      simp only [bv, List.getElem?_map]
      rw [List.getElem?_take_of_lt hj, List.getElem?_drop])
    rw [Addr.add_lit] at this
    rwa [Nat.add_assoc]
/-- What each operation hands on. -/
def hdGetF (q o2 c2 g2 N M : Nat) (r1 m1 : List UInt8) : Nat → Value → World → Prop
  | 0, v, _ => v = .slice (some ⟨q, o2, none⟩) 64 c2
  | 1, v, _ => v = .slice (some ⟨q, o2, none⟩) 32 c2
  | 2, v, _ => v = .pointer (some ⟨q, o2, none⟩)
  | 3, v, _ => v = .agg (bv r1).toArray
  | 4, v, _ => v = .slice (some ⟨q, o2, none⟩) 64 c2
  | 5, v, _ => v = .slice (some ⟨q, o2 + 32, none⟩) 32 (c2 - 32)
  | 6, v, _ => v = .pointer (some ⟨q, o2 + 32, none⟩)
  | 7, v, _ => v = .agg (bv m1).toArray
  | 8, v, _ => v = .pointer (some ⟨g2, 2, none⟩)
  | 9, _, w => Row9 w g2 N M r1
  | 10, v, _ => v = .pointer (some ⟨g2, 34, none⟩)
  | 11, _, w => w.heap[g2]? = some (.cells (hdL N M r1 m1).toArray 37 (0, 0))
  | _, _, _ => True
set_option maxHeartbeats 16000000 in
set_option maxRecDepth 100000 in
theorem HGet_any (v : Value) (b : List UInt8) (w : World) (hl : b.length ≤ 140737488355328) (hr : Rd w 1 v b.length (bv b)) :
    Calls Tryd.prog 22 #[v] w fun e w' => e = .returned (.tuple #[.agg (hdL (hgN b) (hgZ b) (hgR b) (hgM b)).toArray, .int .i64 (hgE b)]) ∧ Below w.heap.size w w' := by
  obtain ⟨a, c, rfl⟩ := hr.form
  have hzd := (zero_of_info infoHead).1
  have hzl : (hdL 0 0 (zs 32) (zs 32)).length = 66 := hdL_length _ _ _ _ (by simp [zs]) (by simp [zs])
  have hzi := hdInfo' 0 0 (zs 32) (zs 32) (by simp [zs]) (by simp [zs])
  have hz1 := hdL_one 0 0 (zs 32) (zs 32)
  obtain ⟨Zl, hZl⟩ : ∃ l, l = hdL 0 0 (zs 32) (zs 32) := ⟨_, rfl⟩
  rw [← hZl] at hzd hzl hzi hz1
  have HZL := Lib.hid (And.intro hZl (And.intro hzi (And.intro hzl hz1)))
  obtain ⟨w0, hw0⟩ : ∃ x : World, x = w.alloc (.cells Zl.toArray 37) := ⟨_, rfl⟩
  have hrow0 : w0.heap[w.heap.size]? = some (.cells Zl.toArray 37 (0, 0)) := by rw [hw0]; exact heap_alloc_new _ _
  have hb0 : Below w.heap.size w w0 := by rw [hw0]; exact (Below.refl _ _).alloc (Nat.le_refl _) _
  have hnew := New_far (.slice a b.length c) b w0 (hr.keep hb0) hl
  obtain ⟨g2, hg2⟩ : ∃ g, g = w.heap.size := ⟨_, rfl⟩
  obtain ⟨n, hn⟩ : ∃ n, n = b.length := ⟨_, rfl⟩
  rw [← hn] at hr hl hnew ⊢
  rw [← hg2] at hrow0
  have HW0 := Lib.hid hw0
  have H0 := Lib.hid (And.intro hrow0 (And.intro hb0 (And.intro hr hn)))
  have HNEW := Lib.hid hnew
  have HG2 := Lib.hid (And.intro hg2 (show w.heap.size ≤ g2 by omega))
  obtain ⟨R, hR⟩ : ∃ R, R = rdN b := ⟨_, rfl⟩
  obtain ⟨S, hS⟩ : ∃ S, S = rdN R.2.2 := ⟨_, rfl⟩
  have hE : hgE b = if R.1 ≠ 0 then R.1 else if S.1 ≠ 0 then S.1 else if S.2.2.length < 64 then 2 else if 64 < S.2.2.length then 5 else 0 := by rw [hS, hR]; rfl
  have hV : hgE b = 0 → hdL (hgN b) (hgZ b) (hgR b) (hgM b) = hdL R.2.1 S.2.1 (S.2.2.take 32) (S.2.2.drop 32) := fun h => by unfold hgN hgZ hgR hgM; rw [if_pos h, if_pos h, if_pos h, if_pos h, hS, hR]
  have hokR : R.1 = 0 → b = numB R.2.1 ++ R.2.2 := fun h => (rdN_ok _ _ _ (by rw [← hR, ← h])).2
  have hokS : S.1 = 0 → R.2.2 = numB S.2.1 ++ S.2.2 := fun h => (rdN_ok _ _ _ (by rw [← hS, ← h])).2
  obtain ⟨N, hN⟩ : ∃ N, N = R.2.1 := ⟨_, rfl⟩
  obtain ⟨M, hM⟩ : ∃ N, N = S.2.1 := ⟨_, rfl⟩
  have HNN := Lib.hid hN
  have HMM := Lib.hid hM
  have HR := Lib.hid (And.intro hR hS)
  have HE := Lib.hid hE
  have HV := Lib.hid hV
  have HOK := Lib.hid (And.intro hokR hokS)
  clear hr hnew hw0 hrow0 hb0 hn hg2 hR hS hE hV hokR hokS hZl hzl hzi hz1 hN hM
  go_enter Tryd.func22, Tryd.ntmps22
  go_upto_region 1 with fail
  rw [← HW0.out, ← HG2.out.1]
  go_wp2_with fail
  refine HNEW.out.mono ?_
  rintro e w1 ⟨p, a1, c1, rfl, hp, hrd, hb1, hfar⟩
  have hr1 := (hb1.block _ (Array.getElem?_eq_some_iff.1 H0.out.1).1).trans H0.out.1
  have hp2 : g2 < p := Nat.lt_of_lt_of_le (Array.getElem?_eq_some_iff.1 H0.out.1).1 hp
  have hfar2 : ∀ x, a1 = some x → g2 < x.block := fun x hx => Nat.lt_of_lt_of_le (Array.getElem?_eq_some_iff.1 H0.out.1).1 (hfar x hx)
  have hb01 := H0.out.2.1.trans (hb1.mono H0.out.2.1.size)
  have H1 := Lib.hid (And.intro hr1 (And.intro hp2 (And.intro hb01 (And.intro hfar2 hrd))))
  clear hr1 hp2 hb01 hp hrd hb1 hfar hfar2 HNEW
  go_wp2_with fail
  obtain ⟨w2, hw2⟩ : ∃ x : World, x = w1.alloc (.cells #[.pointer (some ⟨g2, 0, none⟩), .pointer (some ⟨g2, 1, none⟩)] 88) := ⟨_, rfl⟩
  obtain ⟨gp, hgp⟩ : ∃ x, x = w1.heap.size := ⟨_, rfl⟩
  rw [← hw2, ← hgp]
  have hb12 : Below w1.heap.size w1 w2 := by rw [hw2]; exact (Below.refl _ _).alloc (Nat.le_refl _) _
  have hrp : w2.heap[gp]? = some (.cells #[.pointer (some ⟨g2, 0, none⟩), .pointer (some ⟨g2, 1, none⟩)] 88 (0, 0)) := by rw [hw2, hgp]; exact heap_alloc_new _ _
  have hr2 := (hb12.block _ (Array.getElem?_eq_some_iff.1 H1.out.1).1).trans H1.out.1
  have hbw2 := H1.out.2.2.1.trans (hb12.mono H1.out.2.2.1.size)
  have hrd2 := H1.out.2.2.2.2.below hb12
  have hpp : p < gp := by rw [hgp]; exact (Array.getElem?_eq_some_iff.1 H1.out.2.2.2.2.row).1
  have hnum := RNum_blk w2 p a1 c1 0 b hrd2
  have hp0 := cell_of_row (v := .pointer (some ⟨g2, 0, none⟩)) (i := 0) hrp rfl
  have H2 := Lib.hid (And.intro hr2 (And.intro hbw2 (And.intro hrp hpp)))
  have HNUM := Lib.hid hnum
  clear hb12 hrp hr2 hbw2 hrd2 hpp hnum hw2 hgp
  refine wp_loop_rounds 3 ?_
  rw [rounds_succ]
  go_wp2_with fail
  refine HNUM.out.mono ?_
  rintro e w3 ⟨hg, hres⟩
  rw [if_pos rfl, ← HR.out.1, ← HNN.out] at hres
  have hr3 := (hg.block g2 (Array.getElem?_eq_some_iff.1 H2.out.1).1 (by intro e; simp only [Option.some.injEq] at e; have := H1.out.2.1; omega)).trans H2.out.1
  have hrp3 := (hg.block gp (Array.getElem?_eq_some_iff.1 H2.out.2.2.1).1 (by intro e; simp only [Option.some.injEq] at e; have := H2.out.2.2.2; omega)).trans H2.out.2.2.1
  have hb3 : Below w.heap.size w w3 := grow2 H2.out.2.1 hg (by have := H1.out.2.1; have := HG2.out.2; omega) H2.out.2.1.size
  rw [HZL.out.1] at hr3
  have y0 := hd_cell0 hr3
  have hz := hd_froz hr3
  have H3 := Lib.hid (And.intro hr3 (And.intro hb3 hrp3))
  clear hr3 hb3 hrp3 hp0 hg HNUM
  by_cases hR0 : R.1 = 0
  · rw [if_pos hR0] at hres
    obtain ⟨rfl, a3, c3, hrd3, hk3⟩ := hres
    have hfar3 : ∀ x, a3 = some x → g2 < x.block := fun x hx => by obtain ⟨y, hy, e⟩ := hk3 x hx; rw [← e]; exact H1.out.2.2.2.1 y hy
    go_upto_region 6 with fail
    obtain ⟨w4, hw4⟩ : ∃ x : World, x = w3.setCell ⟨g2, 0, none⟩ (.int .u64 N) := ⟨_, rfl⟩
    rw [← hw4]
    have hg34 : w3.grownBy w4 (some g2) := by rw [hw4]; exact grown_set1 (World.grownBy.refl _ _) 0 _
    have hr4 : w4.heap[g2]? = some (.cells (hdL N 0 (zs 32) (zs 32)).toArray 37 (0, 0)) := by rw [hw4]; exact hd_set0 H3.out.1
    have hb4 : Below w.heap.size w w4 := grow2 H3.out.2.1 hg34 HG2.out.2 H3.out.2.1.size
    have hrd4 := hrd3.keep hg34 (by intro e; simp only [Option.some.injEq] at e; have := H1.out.2.1; omega) (fun x hx e => by have := hfar3 x hx; simp only [Option.some.injEq] at e; omega)
    have hrp4 := (hg34.block gp (Array.getElem?_eq_some_iff.1 H3.out.2.2).1 (by intro e; simp only [Option.some.injEq] at e; have := H1.out.2.1; have := H2.out.2.2.2; omega)).trans H3.out.2.2
    have hnum := RNum_blk w4 p a3 c3 0 R.2.2 hrd4
    have hp1 := cell_of_row (v := .pointer (some ⟨g2, 1, none⟩)) (i := 1) hrp4 rfl
    have H4 := Lib.hid (And.intro hr4 (And.intro hb4 hrp4))
    have HNUM := Lib.hid hnum
    have HF3 := Lib.hid hfar3
    clear hg34 hr4 hb4 hrd4 hrp4 hnum hw4 hfar3 hrd3 hk3 y0 hz H3
    go_wp2_with fail
    rw [rounds_succ]
    go_wp2_with fail
    refine HNUM.out.mono ?_
    rintro e w5 ⟨hg, hres⟩
    rw [if_pos rfl, ← HR.out.2, ← HMM.out] at hres
    have hr5 := (hg.block g2 (Array.getElem?_eq_some_iff.1 H4.out.1).1 (by intro e; simp only [Option.some.injEq] at e; have := H1.out.2.1; omega)).trans H4.out.1
    have hb5 : Below w.heap.size w w5 := grow2 H4.out.2.1 hg (by have := H1.out.2.1; have := HG2.out.2; omega) H4.out.2.1.size
    have y1 := hd_cell1 hr5
    have hz := hd_froz hr5
    have H5 := Lib.hid (And.intro hr5 hb5)
    clear hr5 hb5 hp1 hg HNUM H4
    by_cases hS0 : S.1 = 0
    · rw [if_pos hS0] at hres
      obtain ⟨rfl, a5, c5, hrd5, hk5⟩ := hres
      obtain ⟨t, ht⟩ : ∃ t, t = S.2.2 := ⟨_, rfl⟩
      rw [← ht] at hrd5
      go_upto_region 6 with fail
      obtain ⟨w6, hw6⟩ : ∃ x : World, x = w5.setCell ⟨g2, 1, none⟩ (.int .u64 M) := ⟨_, rfl⟩
      rw [← hw6]
      have hr6 : w6.heap[g2]? = some (.cells (hdL N M (zs 32) (zs 32)).toArray 37 (0, 0)) := by rw [hw6]; exact hd_set1 H5.out.1
      have hb6 : Below w.heap.size w w6 := by rw [hw6]; exact H5.out.2.setCell (show w.heap.size ≤ g2 from HG2.out.2) _
      have hp6 : w6.heap[p]? = some (.cells #[.slice a5 t.length c5, .int .i64 0] 130 (0, 0)) := by rw [hw6, heap_setCell_other _ _ _ _ (show p ≠ g2 by have := H1.out.2.1; omega)]; exact hrd5.row
      obtain ⟨L, hL⟩ : ∃ L, L = t.length := ⟨_, rfl⟩
      rw [← hL] at hp6
      have hleft := Left_row w6 p a5 c5 L 0 hp6
      have hb : b = numB N ++ (numB M ++ t) := by rw [HOK.out.1 hR0, HOK.out.2 hS0, HMM.out, ht, HNN.out]
      have hnl : (numB N).length + (numB M).length + L = n := by rw [H0.out.2.2.2, hb, hL]; simp; omega
      have hE1 : hgE b = if L < 64 then 2 else if 64 < L then 5 else 0 := by rw [HE.out, if_neg (fun h => h hR0), if_neg (fun h => h hS0), ← ht, ← hL]
      have hV1 : hgE b = 0 → hdL (hgN b) (hgZ b) (hgR b) (hgM b) = hdL N M (t.take 32) (t.drop 32) := fun h => by rw [HV.out h, HNN.out, HMM.out, ht]
      have H6 := Lib.hid (And.intro hr6 (And.intro hb6 (H0.out.2.2.1.keep hb6)))
      have HLE := Lib.hid hleft
      have HE1 := Lib.hid (And.intro hE1 hV1)
      have HB := Lib.hid (And.intro hb hL)
      clear hr6 hb6 hp6 hw6 hleft hb hL hE1 hV1 hrd5 hk5 y1 hz H5 HE HV HOK HR ht HNN HMM hR0 hS0
      go_wp2_with fail
      rw [rounds_succ]
      have hwn : IntKind.i64.wrap ((n : Int) - (L : Int)) = ((n - L : Nat) : Int) := (IntWalk.i64_in _ (by omega)).trans (by omega)
      by_cases h64 : L < 64
      · have z64 : (L : Int) < 64 := by omega
        go_wp2_with fail
        refine HLE.out.mono ?_
        rintro e w7 ⟨rfl, rfl⟩
        have he : hgE b = 2 := by rw [HE1.out.1, if_pos h64]
        have HEE := Lib.hid (And.intro he (hg_none b (by rw [he]; decide)))
        clear he h64
        go_wp2_with (with_reducible show wpList _ _ _ (⟨none, Op.store 37 _ _, _, _, _, _⟩ :: _) _ _; go_loud (refine wpList_store_whole rfl _ _ _ rfl g2 Zl rfl rfl (hdL N M (zs 32) (zs 32)) _ H6.out.1 HZL.out.2.1 (by rw [HZL.out.2.2.1, hdL_length _ _ _ _ (by simp [zs]) (by simp [zs])]) HZL.out.2.2.2 ?_); intro w9 HG9 hg9)
        all_goals
          rw [HEE.out.1, HEE.out.2, ← HZL.out.1]
          refine bodyPost_ret (v := .tuple #[.agg Zl.toArray, .int .i64 2]) ?_ ?_ ?_
          · have hld := run_loadVar_row (P := Tryd.prog) w9 g2 _ 37 _ (0, 0) _ HG9.out Tryd.underlying37 rfl (by rw [List.size_toArray]; exact HZL.out.2.1)
            simp [results, Tryd.results22, asAddr, hld]
          · rfl
          · exact ⟨rfl, grow2 H6.out.2.1 hg9 HG2.out.2 H6.out.2.1.size⟩
      · have z64 : ¬ (L : Int) < 64 := by omega
        obtain ⟨q, o, c', hv, hcn, _⟩ := H6.out.2.2.at (by omega)
        simp only [Value.slice.injEq, true_and] at hv
        obtain ⟨rfl, rfl⟩ := hv
        have hcne : ¬ c = n - L := by omega
        have hdr : b.drop (n - L) = t := by
          rw [HB.out.1, ← List.append_assoc, show n - L = (numB N ++ numB M).length by rw [List.length_append]; omega, List.drop_left]
        have hrest0 := rd_rest H0.out.2.2.1 (show n - L ≤ n by omega)
        rw [hdr, show n - (n - L) = L by omega] at hrest0
        go_upto_region 12 with fail
        refine HLE.out.mono ?_
        rintro e w7 ⟨rfl, rfl⟩
        go_upto_region 12 with fail
        rw [show n - (n - L) = L by omega]
        obtain ⟨o2, ho2⟩ : ∃ x, x = o + (n - L) := ⟨_, rfl⟩
        obtain ⟨c2, hc2⟩ : ∃ x, x = c - (n - L) := ⟨_, rfl⟩
        rw [← ho2, ← hc2] at hrest0 ⊢
        have h64c : 64 ≤ c2 := by omega
        have hLL : L ≤ c2 := by omega
        have hrest7 := hrest0.keepB H6.out.2.1 (Nat.le_refl _)
        have HRT := Lib.hid hrest7
        have HRT0 := Lib.hid hrest0
        clear hdr hrest0 hrest7 ho2 hc2 hcne hwn HLE hcn h64
        by_cases hgt : 64 < L
        · have zg : (64 : Int) < (L : Int) := by omega
          have he : hgE b = 5 := by rw [HE1.out.1, if_neg (by omega), if_pos hgt]
          have HEE := Lib.hid (And.intro he (hg_none b (by rw [he]; decide)))
          clear he hgt
          go_wp2_with (with_reducible show wpList _ _ _ (⟨none, Op.store 37 _ _, _, _, _, _⟩ :: _) _ _; go_loud (refine wpList_store_whole rfl _ _ _ rfl g2 Zl rfl rfl (hdL N M (zs 32) (zs 32)) _ H6.out.1 HZL.out.2.1 (by rw [HZL.out.2.2.1, hdL_length _ _ _ _ (by simp [zs]) (by simp [zs])]) HZL.out.2.2.2 ?_); intro w9 HG9 hg9)
          rw [HEE.out.1, HEE.out.2, ← HZL.out.1]
          refine bodyPost_ret (v := .tuple #[.agg Zl.toArray, .int .i64 5]) ?_ ?_ ?_
          · have hld := run_loadVar_row (P := Tryd.prog) w9 g2 _ 37 _ (0, 0) _ HG9.out Tryd.underlying37 rfl (by rw [List.size_toArray]; exact HZL.out.2.1)
            simp [results, Tryd.results22, asAddr, hld]
          · rfl
          · exact ⟨rfl, grow2 H6.out.2.1 hg9 HG2.out.2 H6.out.2.1.size⟩
        · have hL64 : L = 64 := by omega
          subst hL64
          have he : hgE b = 0 := by rw [HE1.out.1, if_neg (by omega), if_neg (by omega)]
          have HEE := Lib.hid (And.intro he (HE1.out.2 he))
          clear he hgt
          go_upto_region 10 with fail
          have hq2 : q ≠ g2 := by
            have h := rd_range H0.out.2.2.1 0 1
            have hlt : q < w.heap.size := World.block_lt_of_cell? _ _ (h 0 _ (by rw [List.drop_zero]; exact (List.getElem?_eq_getElem (by rw [bv_length, List.length_take, ← H0.out.2.2.2]; omega))))
            have := HG2.out.1; omega
          have htl : t.length = 64 := HB.out.2.symm
          obtain ⟨r1, hr1⟩ : ∃ x, x = t.take 32 := ⟨_, rfl⟩
          obtain ⟨m1, hm1⟩ : ∃ x, x = t.drop 32 := ⟨_, rfl⟩
          have hm2 : (t.drop 32).take 32 = m1 := by rw [hm1]; exact List.take_of_length_le (by simp; omega)
          have hk1 : ∀ wx, w7.grownBy wx (some g2) → wx.rangeAt q o2 (bv r1) := fun wx hg => by
            have h := rd_range HRT.out 0 32
            rw [List.drop_zero, ← hr1] at h
            intro j u hu
            have h2 := h j u hu
            rw [← h2]
            exact World.cell?_of_block (hg.block q (World.block_lt_of_cell? _ _ h2) (by intro e; simp only [Option.some.injEq] at e; exact hq2 e))
          have hk2 : ∀ wx, w7.grownBy wx (some g2) → wx.rangeAt q (o2 + 32) (bv m1) := fun wx hg => by
            have h := rd_range HRT.out 32 32
            rw [hm2] at h
            intro j u hu
            have h2 := h j u hu
            rw [← h2]
            exact World.cell?_of_block (hg.block q (World.block_lt_of_cell? _ _ h2) (by intro e; simp only [Option.some.injEq] at e; exact hq2 e))
          have HQ := Lib.hid (And.intro h64c (And.intro (And.intro hr1 hm1) (And.intro hk1 (And.intro hk2 (And.intro (show r1.length = 32 by rw [hr1]; simp; omega) (show m1.length = 32 by rw [hm1]; simp; omega))))))
          clear hq2 htl hr1 hm1 hm2 hk1 hk2 HRT HRT0
          refine wp_region_untilW [some 37, some 38, some 39, some 40, some 41, some 42, some 43, some 44, some 45, none, some 46, none] [] 9 (fun wx => wx.heap[g2]? = some (.cells (hdL N M (zs 32) (zs 32)).toArray 37 (0, 0))) [0, 1, 2, 3, 4, 5, 6, 7, 8, 9] (hdGetF q o2 c2 g2 N M r1 m1) (kHG g2 N M r1 m1) (fun wx => w7.grownBy wx (some g2)) (by kernel_rfl) (by kernel_rfl) rfl (by kernel_rfl) (by kernel_rfl) (kHS_drew _ _) H6.out.1 (fun j hj hj2 _ _ k h => ((k.2.1 hj (fun e => by subst e; exact absurd hj2 (by rw [show waits _ _ 11 9 = true by kernel_rfl]; simp))).block _ (Array.getElem?_eq_some_iff.1 h).1).trans h) (kHG_refl g2 N M r1 m1) (fun _ _ _ h k => grown_trans h k.1 (fun j hj => .inl hj)) ?hF ?hstep ?hend
          case hF =>
            exact ⟨fun _ _ _ _ _ _ h => h, ⟨fun _ _ _ _ _ _ h => h, ⟨fun _ _ _ _ _ _ h => h, ⟨fun _ _ _ _ _ _ h => h, ⟨fun _ _ _ _ _ _ h => h, ⟨fun _ _ _ _ _ _ h => h, ⟨fun _ _ _ _ _ _ h => h, ⟨fun _ _ _ _ _ _ h => h, ⟨fun _ _ _ _ _ _ h => h, ⟨fun j hg _ _ _ k h => Row9.keep h (fun e => by subst e; exact absurd hg (by rw [show goneB _ 9 9 = true by kernel_rfl]; simp)) k, ⟨fun _ _ _ _ _ _ h => h, ⟨fun j hg _ _ _ k h => ((k.2.1 (fun e => by subst e; exact absurd hg (by rw [show goneB _ 11 9 = true by kernel_rfl]; simp)) (fun e => by subst e; exact absurd hg (by rw [show goneB _ 11 11 = true by kernel_rfl]; simp))).block _ (Array.getElem?_eq_some_iff.1 h).1).trans h, trivial⟩⟩⟩⟩⟩⟩⟩⟩⟩⟩⟩⟩
          case hstep =>
            -- operation 0: Op.move (tmp 7)
            refine ⟨fun r wx hG hs hq hf => ?_, ?_⟩
            · have hQ := hq rfl
              have e7 : r 7 = .slice (some ⟨q, o2, none⟩) 64 c2 := hs 7 rfl
              refine (if_pos rfl).symm ▸ ?_
              clear hs hq hf
              unfold gives
              go_simp
              exact ⟨kHG_refl _ _ _ _ _ _ _, rfl⟩
            -- operation 1: Op.slice 25 (tmp 37) none (some (const (Value.int IntKind.i64 32))) none
            refine ⟨fun r wx hG hs hq hf => ?_, ?_⟩
            · have hQ := hq rfl
              have h0 : r 37 = .slice (some ⟨q, o2, none⟩) 64 c2 := hf.1
              refine (if_pos rfl).symm ▸ ?_
              clear hs hq hf
              unfold gives
              have h32c : (32 : Int) ≤ (c2 : Int) := by have := HQ.out.1; omega
              go_simp
              exact ⟨kHG_refl _ _ _ _ _ _ _, rfl⟩
            -- operation 2: Op.sliceToArrayPointer 35 (tmp 38)
            refine ⟨fun r wx hG hs hq hf => ?_, ?_⟩
            · have hQ := hq rfl
              have h1 : r 38 = .slice (some ⟨q, o2, none⟩) 32 c2 := hf.1
              refine (if_pos rfl).symm ▸ ?_
              clear hs hq hf
              unfold gives
              have hsp := run_stap wx q o2 32 c2
              go_simp
              exact ⟨kHG_refl _ _ _ _ _ _ _, rfl⟩
            -- operation 3: Op.load 35 (tmp 39)
            refine ⟨fun r wx hG hs hq hf => ?_, ?_⟩
            · have hQ := hq rfl
              have h2 : r 39 = .pointer (some ⟨q, o2, none⟩) := hf.1
              refine (if_pos rfl).symm ▸ ?_
              clear hs hq hf
              unfold gives
              refine gives_load_mid 35 _ rfl q o2 h2 (bv r1) _ (HQ.out.2.2.1 wx hG) Tryd.underlying35 rfl (hInfo' _ HQ.out.2.2.2.2.1) ?_
              exact ⟨kHG_refl _ _ _ _ _ _ _, rfl⟩
            -- operation 4: Op.move (tmp 7)
            refine ⟨fun r wx hG hs hq hf => ?_, ?_⟩
            · have hQ := hq rfl
              have e7 : r 7 = .slice (some ⟨q, o2, none⟩) 64 c2 := hs 7 rfl
              refine (if_pos rfl).symm ▸ ?_
              clear hs hq hf
              unfold gives
              go_simp
              exact ⟨kHG_refl _ _ _ _ _ _ _, rfl⟩
            -- operation 5: Op.slice 25 (tmp 41) (some (const (Value.int IntKind.i64 32))) none none
            refine ⟨fun r wx hG hs hq hf => ?_, ?_⟩
            · have hQ := hq rfl
              have h4 : r 41 = .slice (some ⟨q, o2, none⟩) 64 c2 := hf.1
              refine (if_pos rfl).symm ▸ ?_
              clear hs hq hf
              unfold gives
              have h32c : (64 : Int) ≤ (c2 : Int) := by have := HQ.out.1; omega
              have hne : ¬ c2 = 32 := by have := HQ.out.1; omega
              go_simp
              exact ⟨kHG_refl _ _ _ _ _ _ _, rfl⟩
            -- operation 6: Op.sliceToArrayPointer 35 (tmp 42)
            refine ⟨fun r wx hG hs hq hf => ?_, ?_⟩
            · have hQ := hq rfl
              have h5 : r 42 = .slice (some ⟨q, o2 + 32, none⟩) 32 (c2 - 32) := hf.1
              refine (if_pos rfl).symm ▸ ?_
              clear hs hq hf
              unfold gives
              have hsp := run_stap wx q (o2 + 32) 32 (c2 - 32)
              go_simp
              exact ⟨kHG_refl _ _ _ _ _ _ _, rfl⟩
            -- operation 7: Op.load 35 (tmp 43)
            refine ⟨fun r wx hG hs hq hf => ?_, ?_⟩
            · have hQ := hq rfl
              have h6 : r 43 = .pointer (some ⟨q, o2 + 32, none⟩) := hf.1
              refine (if_pos rfl).symm ▸ ?_
              clear hs hq hf
              unfold gives
              refine gives_load_mid 35 _ rfl q (o2 + 32) h6 (bv m1) _ (HQ.out.2.2.2.1 wx hG) Tryd.underlying35 rfl (hInfo' _ HQ.out.2.2.2.2.2) ?_
              exact ⟨kHG_refl _ _ _ _ _ _ _, rfl⟩
            -- operation 8: Op.fieldAddr 37 (tmp 2) 2
            refine ⟨fun r wx hG hs hq hf => ?_, ?_⟩
            · have hQ := hq rfl
              have e2 : r 2 = .pointer (some ⟨g2, 0, none⟩) := hs 2 rfl
              refine (if_pos rfl).symm ▸ ?_
              clear hs hq hf
              unfold gives
              go_simp
              exact ⟨kHG_refl _ _ _ _ _ _ _, rfl⟩
            -- operation 9: Op.store 35 (tmp 45) (tmp 40)
            refine ⟨fun r wx hG hs hq hf => ?_, ?_⟩
            · have hQ := hq rfl
              have h8 : r 45 = .pointer (some ⟨g2, 2, none⟩) := hf.1
              have h3 : r 40 = .agg (bv r1).toArray := hf.2.1
              refine (if_pos rfl).symm ▸ ?_
              clear hs hq hf
              unfold gives
              refine gives_store_splice 35 _ _ rfl g2 2 (bv r1) h8 h3 (hdL N M (zs 32) (zs 32)) 37 hQ (hInfo' _ HQ.out.2.2.2.2.1) (by rw [hdL_length _ _ _ _ (by simp [zs]) (by simp [zs]), bv_length, HQ.out.2.2.2.2.1]; decide) (bv_one _) ?_
              intro wy h1 h2
              rw [splice_root N M r1 (zs 32) (zs 32) (by simp [zs]) HQ.out.2.2.2.2.1] at h1
              exact ⟨kHG_st9 h2, zs 32, by simp [zs], h1⟩
            -- operation 10: Op.fieldAddr 37 (tmp 2) 3
            refine ⟨fun r wx hG hs hq hf => ?_, ?_⟩
            · have e2 : r 2 = .pointer (some ⟨g2, 0, none⟩) := hs 2 rfl
              refine (if_pos rfl).symm ▸ ?_
              clear hs hq hf
              unfold gives
              go_simp
              exact ⟨kHG_refl _ _ _ _ _ _ _, rfl⟩
            -- operation 11: Op.store 35 (tmp 46) (tmp 44)
            refine ⟨fun r wx hG hs hq hf => ?_, ?_⟩
            · have h10 : r 46 = .pointer (some ⟨g2, 34, none⟩) := hf.1
              have h7 : r 44 = .agg (bv m1).toArray := hf.2.1
              have h9 : Row9 wx g2 N M r1 := hf.2.2.1
              refine (if_pos rfl).symm ▸ ?_
              clear hs hq hf
              unfold gives
              obtain ⟨d0, hd0, h9⟩ := h9
              refine gives_store_splice 35 _ _ rfl g2 34 (bv m1) h10 h7 (hdL N M r1 d0) 37 h9 (hInfo' _ HQ.out.2.2.2.2.2) (by rw [hdL_length _ _ _ _ HQ.out.2.2.2.2.1 hd0, bv_length, HQ.out.2.2.2.2.2]; decide) (bv_one _) ?_
              intro wy h1 h2
              rw [splice_mk N M r1 d0 m1 HQ.out.2.2.2.2.1 hd0 HQ.out.2.2.2.2.2] at h1
              exact ⟨kHG_st11 h2 h1, h1⟩
            exact trivial
          case hend =>
            intro u wz hG hfin
            have z9 : Row9 wz g2 N M r1 := hfin 9 (by decide) (by kernel_rfl)
            have z11 : wz.heap[g2]? = some (.cells (hdL N M r1 m1).toArray 37 (0, 0)) := hfin 11 (by decide) (by kernel_rfl)
            clear hfin
            simp only [fill]
            have hbz := grow2 H6.out.2.1 hG HG2.out.2 H6.out.2.1.size
            have HZ := Lib.hid (And.intro z11 hbz)
            clear z11 z9 hG hbz
            go_simp
            have hrl := HQ.out.2.2.2.2.1
            have hml := HQ.out.2.2.2.2.2
            go_wp2_with (first
              | (with_reducible show wpList _ _ _ (⟨some 47, _, _, _, _, _⟩ :: _) _ _; refine wpList_load_row rfl _ _ rfl g2 rfl _ _ (0, 0) _ HZ.out.1 Tryd.underlying37 rfl (hdInfo _ _ _ _ hrl hml) ?_)
              | (with_reducible show wpList _ _ _ (⟨none, Op.store _ _ _, _, _, _, _⟩ :: _) _ _; refine wpList_store_whole rfl _ _ _ rfl g2 (hdL N M r1 m1) rfl rfl (hdL N M r1 m1) _ HZ.out.1 (hdInfo' _ _ _ _ hrl hml) rfl (hdL_one _ _ _ _) ?_; intro w9 HG9 hg9))
            rw [HEE.out.1, HEE.out.2, ← HQ.out.2.1.1, ← HQ.out.2.1.2]
            refine bodyPost_ret (v := .tuple #[.agg (hdL N M r1 m1).toArray, .int .i64 0]) ?_ ?_ ?_
            · have hld := run_loadVar_row (P := Tryd.prog) w9 g2 _ 37 _ (0, 0) _ HG9.out Tryd.underlying37 rfl (hdInfo _ _ _ _ hrl hml)
              simp [results, Tryd.results22, asAddr, hld]
            · rfl
            · exact ⟨rfl, grow2 HZ.out.2 hg9 HG2.out.2 HZ.out.2.size⟩
    · rw [if_neg hS0] at hres
      obtain ⟨rfl, hrd5⟩ := hres
      have he : hgE b = S.1 := by rw [HE.out, if_neg (fun h => h hR0), if_pos hS0]
      have hne := hg_none b (by rw [he]; exact hS0)
      obtain ⟨e0, he0⟩ : ∃ x, x = S.1 := ⟨_, rfl⟩
      rw [← he0] at hS0 he ⊢
      have hE2 : (e0 == 0) = false := by simp [hS0]
      have HEE := Lib.hid (And.intro he hne)
      clear he hne he0 hrd5 HE HV HOK HR hS0 hR0
      have hs5 := hd_set1 (m := 0) H5.out.1
      have hb5 : Below w.heap.size w (w5.setCell ⟨g2, 1, none⟩ (.int .u64 0)) := H5.out.2.setCell (show w.heap.size ≤ g2 from HG2.out.2) _
      have HS5 := Lib.hid (And.intro hs5 hb5)
      clear hs5 hb5
      go_wp2_with (with_reducible show wpList _ _ _ (⟨none, Op.store 37 _ _, _, _, _, _⟩ :: _) _ _; go_loud (refine wpList_store_whole rfl _ _ _ rfl g2 Zl rfl rfl (hdL N 0 (zs 32) (zs 32)) _ HS5.out.1 HZL.out.2.1 (by rw [HZL.out.2.2.1, hdL_length _ _ _ _ (by simp [zs]) (by simp [zs])]) HZL.out.2.2.2 ?_); intro w9 HG9 hg9)
      rw [HEE.out.1, HEE.out.2, ← HZL.out.1]
      refine bodyPost_ret (v := .tuple #[.agg Zl.toArray, .int .i64 e0]) ?_ ?_ ?_
      · have hld := run_loadVar_row (P := Tryd.prog) w9 g2 _ 37 _ (0, 0) _ HG9.out Tryd.underlying37 rfl (by rw [List.size_toArray]; exact HZL.out.2.1)
        simp [results, Tryd.results22, asAddr, hld]
      · rfl
      · exact ⟨rfl, grow2 HS5.out.2 hg9 HG2.out.2 HS5.out.2.size⟩
  · rw [if_neg hR0] at hres
    obtain ⟨rfl, hrd3⟩ := hres
    have he : hgE b = R.1 := by rw [HE.out, if_pos hR0]
    have hne := hg_none b (by rw [he]; exact hR0)
    obtain ⟨e0, he0⟩ : ∃ x, x = R.1 := ⟨_, rfl⟩
    rw [← he0] at hR0 he ⊢
    have hE2 : (e0 == 0) = false := by simp [hR0]
    have HEE := Lib.hid (And.intro he hne)
    clear he hne he0 hrd3 HE HV HOK HR hR0
    have hs3 := hd_set0 (m := 0) H3.out.1
    have hb3 : Below w.heap.size w (w3.setCell ⟨g2, 0, none⟩ (.int .u64 0)) := H3.out.2.1.setCell (show w.heap.size ≤ g2 from HG2.out.2) _
    have HS3 := Lib.hid (And.intro hs3 hb3)
    clear hs3 hb3
    go_wp2_with (with_reducible show wpList _ _ _ (⟨none, Op.store 37 _ _, _, _, _, _⟩ :: _) _ _; go_loud (refine wpList_store_whole rfl _ _ _ rfl g2 Zl rfl rfl (hdL 0 0 (zs 32) (zs 32)) _ HS3.out.1 HZL.out.2.1 (by rw [HZL.out.2.2.1, hdL_length _ _ _ _ (by simp [zs]) (by simp [zs])]) HZL.out.2.2.2 ?_); intro w9 HG9 hg9)
    rw [HEE.out.1, HEE.out.2, ← HZL.out.1]
    refine bodyPost_ret (v := .tuple #[.agg Zl.toArray, .int .i64 e0]) ?_ ?_ ?_
    · have hld := run_loadVar_row (P := Tryd.prog) w9 g2 _ 37 _ (0, 0) _ HG9.out Tryd.underlying37 rfl (by rw [List.size_toArray]; exact HZL.out.2.1)
      simp [results, Tryd.results22, asAddr, hld]
    · rfl
    · exact ⟨rfl, grow2 HS3.out.2 hg9 HG2.out.2 HS3.out.2.size⟩
end Go.Proofs.YtgimblpdmlnfeaaDoor
