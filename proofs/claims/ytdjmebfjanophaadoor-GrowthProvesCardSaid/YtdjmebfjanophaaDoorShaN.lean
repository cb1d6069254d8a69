/- A hash narrowed: the program's, the reference's. -/
import Derived.Test.YtdjmebfjanophaaDoorShaW
namespace Go.Proofs.YtdjmebfjanophaaDoor
open Go.RowKit Sha

/-- The first m bits of a byte. -/
def mk : Nat → UInt8
  | 0 => 0 | 1 => 128 | 2 => 192 | 3 => 224 | 4 => 240 | 5 => 248 | 6 => 252 | 7 => 254 | _ => 255
def nar (l : List UInt8) (k : Nat) : List UInt8 := bs (fun j => l.getD j 0 &&& mk (k - 8 * j)) 32
def clip (n : Int) : Nat := (max 0 (min n 256)).toNat
theorem clip_le (n : Int) : clip n ≤ 256 := by unfold clip; omega
theorem mk_min (a : Nat) : mk a = mk (min a 8) := by
  by_cases h : a < 8
  · rw [Nat.min_eq_left (by omega)]
  · obtain ⟨k, rfl⟩ : ∃ k, a = k + 8 := ⟨a - 8, by omega⟩
    rw [Nat.min_eq_right (by omega)]; rfl
theorem mk_and9 : ∀ a b : Fin 9, mk a &&& mk b = mk (min a.1 b.1) := by decide
theorem mk_and (a b : Nat) : mk a &&& mk b = mk (min a b) := by
  rw [mk_min a, mk_min b, mk_and9 ⟨min a 8, by omega⟩ ⟨min b 8, by omega⟩, mk_min (min a b)]
  congr 1; simp only []; omega
theorem nar_length (l : List UInt8) (k : Nat) : (nar l k).length = 32 := bs_length _ _
theorem nar_getD (l : List UInt8) (k j : Nat) (h : j < 32) : (nar l k).getD j 0 = l.getD j 0 &&& mk (k - 8 * j) := by
  rw [List.getD_eq_getElem?_getD, nar, bs_get _ _ _ h]; rfl
/-- Twice is the lesser one of both. -/
theorem nar_twice (l : List UInt8) (a b : Nat) : nar (nar l a) b = nar l (min a b) :=
  bs_congr _ _ 32 fun j hj => by
    rw [nar_getD _ _ _ hj, UInt8.and_assoc, mk_and]
    congr 2; omega
theorem nar_all (l : List UInt8) (h : l.length = 32) : nar l 256 = l := by
  have e := bs_self l
  rw [h] at e
  refine (bs_congr _ _ 32 fun j hj => ?_).trans e
  rw [mk_min, Nat.min_eq_right (by omega)]
  exact UInt8.and_neg_one
theorem nar_none (l : List UInt8) : nar l 0 = zs 32 := by
  have : nar l 0 = bs (fun _ => 0) 32 := bs_congr _ _ 32 fun j hj => by
    rw [Nat.zero_sub]; exact UInt8.and_zero
  rw [this]; rfl
theorem clip_min (a b : Int) : clip (min a b) = min (clip a) (clip b) := by unfold clip; omega
/-- One bit more. -/
theorem mk_next : ∀ r : Fin 8, mk r.1 ||| UInt8.ofNat (128 / 2 ^ r.1) = mk (r.1 + 1) := by decide
theorem u8_dist (x y z : UInt8) : x &&& (y ||| z) = x &&& y ||| x &&& z := by
  apply UInt8.eq_of_toBitVec_eq
  apply BitVec.eq_of_getLsbD_eq
  intro i hi
  simp [Bool.and_or_distrib_left]
theorem nar_next (l : List UInt8) (i : Nat) (hi : i < 256) :
    (nar l i).set (i / 8) ((nar l i).getD (i / 8) 0 ||| (l.getD (i / 8) 0 &&& UInt8.ofNat (128 / 2 ^ (i % 8)))) = nar l (i + 1) := by
  refine bs_set _ _ 32 (i / 8) _ ?_ fun j hj hne => ?_
  · rw [nar_getD _ _ _ (by omega), ← u8_dist]
    have e := mk_next ⟨i % 8, by omega⟩
    simp only [] at e
    rw [show i - 8 * (i / 8) = i % 8 by omega, e, show i + 1 - 8 * (i / 8) = i % 8 + 1 by omega]
  · rcases Nat.lt_or_gt_of_ne hne with h | h
    · rw [mk_min, mk_min (i - 8 * j), Nat.min_eq_right (by omega), Nat.min_eq_right (by omega)]
    · rw [show i + 1 - 8 * j = 0 by omega, show i - 8 * j = 0 by omega]
/-- The program's form: one byte masked, the rest cleared. -/
theorem nar_form (l : List UInt8) (h : l.length = 32) (k : Nat) (hk : k < 256) :
    splice (l.set (k / 8) (l.getD (k / 8) 0 &&& mk (k % 8))) (k / 8 + 1) (zs (31 - k / 8)) = nar l k := by
  apply List.ext_getElem?
  intro j
  by_cases hj : j < 32
  · rw [nar, bs_get _ _ _ hj, splice, List.getElem?_append]
    have hl : (List.take (k / 8 + 1) (l.set (k / 8) (l.getD (k / 8) 0 &&& mk (k % 8)))).length = k / 8 + 1 := by simp [h]; omega
    rw [hl]
    by_cases h1 : j < k / 8 + 1
    · rw [if_pos h1, List.getElem?_take_of_lt h1, List.getElem?_set]
      by_cases h2 : k / 8 = j
      · subst h2
        rw [if_pos rfl, if_pos (by omega), show k - 8 * (k / 8) = k % 8 by omega]
      · rw [if_neg h2, mk_min, Nat.min_eq_right (by omega), List.getElem?_eq_getElem (by omega), List.getD_eq_getElem?_getD, List.getElem?_eq_getElem (by omega)]
        exact congrArg some UInt8.and_neg_one.symm
    · rw [if_neg h1, List.getElem?_append_left (by simp [zs]; omega), show k - 8 * j = 0 by omega]
      rw [zs, List.getElem?_replicate_of_lt (by omega)]
      exact congrArg some UInt8.and_zero.symm
  · rw [List.getElem?_eq_none, List.getElem?_eq_none (by rw [nar_length]; omega)]
    rw [length_splice _ _ _ (by simp [zs, h]; omega)]; simp [h]; omega
theorem i8_and (x y : UInt8) : bits .and .u8 (x.toNat : Int) (y.toNat : Int) = ((x &&& y).toNat : Int) := by
  rw [Go.u8_and_nat _ _ x.toNat_lt y.toNat_lt, UInt8.toNat_and]
theorem i8_or (x y : UInt8) : bits .or .u8 (x.toNat : Int) (y.toNat : Int) = ((x ||| y).toNat : Int) := by
  rw [Go.u8_or_nat _ _ x.toNat_lt y.toNat_lt, UInt8.toNat_or]
theorem splice_bv (a b : List UInt8) (j : Nat) : splice (bv a) j (bv b) = bv (splice a j b) := by simp [splice, bv, List.map_take, List.map_drop]
theorem bv_zs (k : Nat) : bv (zs k) = List.replicate k (.int .u8 0) := by simp [bv, zs]

/-- clear on a slice of a row that is known whole. -/
theorem wpList_clear_row {P : Program} {w : World} {ops : Array Oper} {rest : List Oper} {o : Oper} {a : Act} {Q : Exit → Act → World → Prop} (hgd : o.guard = none) (x : Operand) (t : TypeId)
    (ho : o.op = .call { callee := .builtin .clear, args := #[x], argTypes := #[t] }) (e : TypeId) (z : Value) (ht : P.underlying t = some (.slice e)) (hv : ∀ w, (zeroValue e).run P w = .ok z w) (hz : z.cells = #[z]) (h1 : z.oneCell' = true)
    (ap : Option Addr) (n c : Nat) (hx : a.eval x = .slice ap n c) (g off : Nat) (hap : n ≠ 0 → ap = some ⟨g, off, none⟩)
    (cur : List Value) (T : TypeId) (hg : w.heap[g]? = some (.cells cur.toArray T (0, 0))) (hfit : off + n ≤ cur.length)
    (h : ∀ w', Hid (w'.heap[g]? = some (.cells (splice cur off (List.replicate n z)).toArray T (0, 0))) → w.grownBy w' (some g) → wpList P ops Q rest (a.put o.dst (.tuple #[])) w') :
    wpList P ops Q (o :: rest) a w := by
  refine wpList_plain hgd fun K hK => ?_
  have hrun : ∃ w', (Builtin.clear_ #[t] o.type #[.slice ap n c]).run P w = .ok (.tuple #[]) w' ∧ w'.heap[g]? = some (.cells (splice cur off (List.replicate n z)).toArray T (0, 0)) ∧ w.grownBy w' (some g) := by
    by_cases h0 : n = 0
    · subst h0
      refine ⟨w, ?_, by rw [hg]; simp [splice], World.grownBy.refl _ _⟩
      cases ap <;> simp [Builtin.clear_, run_underlying ht]
    · obtain ⟨m, rfl⟩ : ∃ m, n = m + 1 := ⟨n - 1, by omega⟩
      rw [hap h0]
      have hzc : (Builtin.zeroCells z.cells (m + 1)).toList = List.replicate (m + 1) z := by
        rw [hz]
        simp [Builtin.zeroCells]
        apply List.ext_getElem
        · simp
        · intro i h1 h2
          simp [Nat.mod_one]
      have hst := run_storeCells_at P g off T (List.replicate (m + 1) z) 0 cur.toArray w hg (by simpa using hfit) (by intro v hv'; rw [List.eq_of_mem_replicate hv']; exact h1)
      refine ⟨_, ?_, setRow_heap w g _ (splice cur off (List.replicate (m + 1) z)).toArray T _ hg, grown_setRow w g _⟩
      simp only [Nat.add_zero] at hst
      simp [Builtin.clear_, run_underlying ht, hv, hzc, hst, splice]
  obtain ⟨w', hr, h2, h3⟩ := hrun
  unfold Oper.wp
  simp [execOp, ho, resolve, invoke, builtin, hx, hr, Result.andThen]
  exact hK _ _ (h w' h2 h3)

set_option maxHeartbeats 4000000 in
set_option maxRecDepth 100000 in
theorem Narrow_any (l : List UInt8) (n : Int) (w : World) (hl : l.length = 32) (hn : -9223372036854775808 ≤ n ∧ n ≤ 9223372036854775807) :
    Calls Tryd.prog 56 #[.agg (bv l).toArray, .int .i64 n] w fun e w' => e = .returned (.agg (bv (nar l (clip n))).toArray) ∧ Below w.heap.size w w' := by
  have hz := (zero_of_info info32).1
  obtain ⟨k, hk⟩ : ∃ k, k = clip n := ⟨_, rfl⟩
  have hk2 : k ≤ 256 := by rw [hk]; exact clip_le n
  obtain ⟨A, hA⟩ : ∃ A, A = (bv l).toArray := ⟨_, rfl⟩
  have hsz : A.size = 32 := by rw [hA]; simp [bv_length, hl]
  rw [← hk, ← hA]
  go_enter Tryd.func56, Tryd.ntmps56
  go_upto_region 2 with fail
  have hkz : (if 0 < if 256 < n then 256 else n then if 256 < n then 256 else n else 0) = (k : Int) := by rw [hk]; unfold clip; split <;> split <;> omega
  rw [hkz]
  clear hkz
  generalize (if 256 < n then 256 else n) = n6
  obtain ⟨w1, hw1⟩ : ∃ x : World, x = (w.alloc (.cells (bv l).toArray 33)).alloc (.cells (bv (zs 32)).toArray 33) := ⟨_, rfl⟩
  rw [← hw1]
  have hr1 : w1.heap[w.heap.size]? = some (.cells (bv l).toArray 33 (0, 0)) := by
    rw [hw1]; exact (heap_alloc_old _ _ (by simp)).trans (heap_alloc_new _ _)
  have hs1 : w1.heap[w.heap.size + 1]? = some (.cells (bv (zs 32)).toArray 33 (0, 0)) := by
    rw [hw1]
    have h := heap_alloc_new (w.alloc (.cells (bv l).toArray 33)) (.cells (bv (zs 32)).toArray 33)
    simpa using h
  have hb1 : Below w.heap.size w w1 := by rw [hw1]; exact ((Below.refl _ _).alloc (Nat.le_refl _) _).alloc (by simp) _
  clear hw1 hA hsz hk
  go_upto_if 9 with fail
  go_cut [] (fun wq => RowKit.Hid (wq.heap[w.heap.size]? = some (.cells (bv (nar l k)).toArray 33 (0, 0)) ∧ wq.heap[w.heap.size + 1]? = some (.cells (bv (zs 32)).toArray 33 (0, 0)) ∧ Below w.heap.size w wq))
  case first =>
    by_cases hk256 : k = 256
    · subst hk256
      have hkf : ¬ (256 : Int) < 256 := by decide
      have HC := Lib.hid (And.intro hr1 (And.intro hs1 hb1))
      go_wp2_with fail
      go_meet
      rw [nar_all l hl]; exact HC
    · have hkl : k < 256 := by omega
      have hkt : (k : Int) < 256 := by omega
      have hkd : decide ((k : Int) < 256) = true := decide_eq_true hkt
      obtain ⟨q, hq⟩ : ∃ q, q = k / 8 := ⟨_, rfl⟩
      have hq32 : q < 32 := by omega
      have hqz : (0 : Int) ≤ (q : Int) ∧ (q : Int) < 32 := by omega
      have hd1 : (k : Int).tdiv 8 = (q : Int) := by rw [Int.tdiv_eq_ediv_of_nonneg (by omega)]; omega
      have hd2 : (k : Int) / 8 = (q : Int) := by omega
      have hqw : IntKind.i64.wrap (q : Int) = (q : Int) := IntWalk.i64_in _ (by omega)
      have hqw1 : IntKind.i64.wrap ((q : Int) + 1) = (q : Int) + 1 := IntWalk.i64_in _ (by omega)
      obtain ⟨r, hr⟩ : ∃ r, r = k % 8 := ⟨_, rfl⟩
      have hr8 : r = 0 ∨ r = 1 ∨ r = 2 ∨ r = 3 ∨ r = 4 ∨ r = 5 ∨ r = 6 ∨ r = 7 := by omega
      have hm1 : (k : Int).tmod 8 = (r : Int) := by rw [Int.tmod_eq_emod_of_nonneg (by omega)]; omega
      have hm2 : (k : Int) % 8 = (r : Int) := by omega
      obtain ⟨x, hx⟩ : ∃ x, x = l.getD q 0 := ⟨_, rfl⟩
      have hx1 : l[q]? = some x := by rw [hx, List.getD_eq_getElem?_getD, List.getElem?_eq_getElem (by omega)]; rfl
      have hc : w1.cell? ⟨w.heap.size, q, none⟩ = some (.int .u8 x.toNat) := by
        rw [cell_of_row _ _ _ _ _ _ hr1, List.getElem?_toArray]; simp [bv, hx1]
      have hf := frozen_of_row _ _ q _ _ hr1
      have HC := Lib.hid (And.intro hr1 (And.intro hs1 hb1))
      have HQ := Lib.hid (And.intro hq (And.intro hr (And.intro hx hkl)))
      clear hr1 hs1 hb1 hx1 hq hx hr hk256
      rcases hr8 with rfl | rfl | rfl | rfl | rfl | rfl | rfl | rfl
      · go_wp2_with fail
        go_still_tail 10, (by kernel_rfl)
        rw [show bits BinOp.xor IntKind.u8 (if IntKind.u8.signed = true then -1 else IntKind.u8.max) 255 = ((mk 0).toNat : Int) from rfl, i8_and]
        obtain ⟨y, hy⟩ : ∃ y, y = x &&& mk 0 := ⟨_, rfl⟩
        rw [← hy]
        have hrow2 : splice (l.set q y) (q + 1) (zs (31 - q)) = nar l k := by
          have e := nar_form l hl k HQ.out.2.2.2
          rw [← HQ.out.1, ← HQ.out.2.2.1, ← HQ.out.2.1, ← hy] at e; exact e
        clear hy HQ
        iterate 1
          change wpList _ _ _ _ _ w1.drew
          have hc' : w1.drew.cell? ⟨w.heap.size, q, none⟩ = some (.int .u8 x.toNat) := hc
          have hf' : w1.drew.frozen? ⟨w.heap.size, q, none⟩ = false := hf
          have HC' : RowKit.Hid (w1.drew.heap[w.heap.size]? = some (.cells (bv l).toArray 33 (0, 0)) ∧ w1.drew.heap[w.heap.size + 1]? = some (.cells (bv (zs 32)).toArray 33 (0, 0)) ∧ Below w.heap.size w w1.drew) := ⟨HC.out.1, HC.out.2.1, HC.out.2.2.drew⟩
          clear hc hf HC
          generalize w1.drew = w2 at *
          go_upto_region 4 with fail
          obtain ⟨w3, hw3⟩ : ∃ x : World, x = w2.setCell ⟨w.heap.size, q, none⟩ (.int .u8 y.toNat) := ⟨_, rfl⟩
          rw [← hw3]
          have hr3 : w3.heap[w.heap.size]? = some (.cells (bv (l.set q y)).toArray 33 (0, 0)) := by rw [hw3, heap_setCell_same _ _ _ _ _ _ HC'.out.1, rowB_set]
          have hs3 : w3.heap[w.heap.size + 1]? = some (.cells (bv (zs 32)).toArray 33 (0, 0)) := by rw [hw3]; exact (heap_setCell_other _ _ _ _ (by simp)).trans HC'.out.2.1
          have hb3 : Below w.heap.size w w3 := by rw [hw3]; exact HC'.out.2.2.setCell (p := ⟨_, _, none⟩) (Nat.le_refl _) _
          have H3 := Lib.hid (And.intro hr3 (And.intro hs3 (And.intro hb3 hrow2)))
          clear hw3 hr3 hs3 hb3 hrow2 hc' hf' HC'
          have hq1 : (q : Int) + 1 ≤ 32 := by omega
          have hq2 : (0 : Int) ≤ (q : Int) + 1 := by omega
          have hq3 : ((q : Int) + 1).toNat = q + 1 := by omega
          go_wp2_with (with_reducible show wpList _ _ _ (⟨none, Op.call _, _, _, _, _⟩ :: _) _ _; go_loud (refine wpList_clear_row rfl _ _ rfl 5 (.int .u8 0) rfl (fun _ => rfl) rfl rfl _ (31 - q) _ rfl w.heap.size (q + 1) (fun _ => by rw [if_neg (by omega)]) (bv (l.set q y)) _ H3.out.1 (by rw [bv_length, List.length_set]; omega) ?_; intro w9 HG9 hg9))
          all_goals
            go_meet
            refine show _ ∧ _ from ⟨?_, (hg9.block _ (Array.getElem?_eq_some_iff.1 H3.out.2.1).1 (by simp)).trans H3.out.2.1, below_grow H3.out.2.2.1 hg9 (Nat.le_refl _) (Array.getElem?_eq_some_iff.1 H3.out.1).1⟩
            have h := HG9.out
            rw [← bv_zs, splice_bv, H3.out.2.2.2] at h
            exact h
      · go_wp2_with fail
        go_still_tail 10, (by kernel_rfl)
        rw [show bits BinOp.xor IntKind.u8 (if IntKind.u8.signed = true then -1 else IntKind.u8.max) 127 = ((mk 1).toNat : Int) from rfl, i8_and]
        obtain ⟨y, hy⟩ : ∃ y, y = x &&& mk 1 := ⟨_, rfl⟩
        rw [← hy]
        have hrow2 : splice (l.set q y) (q + 1) (zs (31 - q)) = nar l k := by
          have e := nar_form l hl k HQ.out.2.2.2
          rw [← HQ.out.1, ← HQ.out.2.2.1, ← HQ.out.2.1, ← hy] at e; exact e
        clear hy HQ
        iterate 1
          change wpList _ _ _ _ _ w1.drew
          have hc' : w1.drew.cell? ⟨w.heap.size, q, none⟩ = some (.int .u8 x.toNat) := hc
          have hf' : w1.drew.frozen? ⟨w.heap.size, q, none⟩ = false := hf
          have HC' : RowKit.Hid (w1.drew.heap[w.heap.size]? = some (.cells (bv l).toArray 33 (0, 0)) ∧ w1.drew.heap[w.heap.size + 1]? = some (.cells (bv (zs 32)).toArray 33 (0, 0)) ∧ Below w.heap.size w w1.drew) := ⟨HC.out.1, HC.out.2.1, HC.out.2.2.drew⟩
          clear hc hf HC
          generalize w1.drew = w2 at *
          go_upto_region 4 with fail
          obtain ⟨w3, hw3⟩ : ∃ x : World, x = w2.setCell ⟨w.heap.size, q, none⟩ (.int .u8 y.toNat) := ⟨_, rfl⟩
          rw [← hw3]
          have hr3 : w3.heap[w.heap.size]? = some (.cells (bv (l.set q y)).toArray 33 (0, 0)) := by rw [hw3, heap_setCell_same _ _ _ _ _ _ HC'.out.1, rowB_set]
          have hs3 : w3.heap[w.heap.size + 1]? = some (.cells (bv (zs 32)).toArray 33 (0, 0)) := by rw [hw3]; exact (heap_setCell_other _ _ _ _ (by simp)).trans HC'.out.2.1
          have hb3 : Below w.heap.size w w3 := by rw [hw3]; exact HC'.out.2.2.setCell (p := ⟨_, _, none⟩) (Nat.le_refl _) _
          have H3 := Lib.hid (And.intro hr3 (And.intro hs3 (And.intro hb3 hrow2)))
          clear hw3 hr3 hs3 hb3 hrow2 hc' hf' HC'
          have hq1 : (q : Int) + 1 ≤ 32 := by omega
          have hq2 : (0 : Int) ≤ (q : Int) + 1 := by omega
          have hq3 : ((q : Int) + 1).toNat = q + 1 := by omega
          go_wp2_with (with_reducible show wpList _ _ _ (⟨none, Op.call _, _, _, _, _⟩ :: _) _ _; go_loud (refine wpList_clear_row rfl _ _ rfl 5 (.int .u8 0) rfl (fun _ => rfl) rfl rfl _ (31 - q) _ rfl w.heap.size (q + 1) (fun _ => by rw [if_neg (by omega)]) (bv (l.set q y)) _ H3.out.1 (by rw [bv_length, List.length_set]; omega) ?_; intro w9 HG9 hg9))
          all_goals
            go_meet
            refine show _ ∧ _ from ⟨?_, (hg9.block _ (Array.getElem?_eq_some_iff.1 H3.out.2.1).1 (by simp)).trans H3.out.2.1, below_grow H3.out.2.2.1 hg9 (Nat.le_refl _) (Array.getElem?_eq_some_iff.1 H3.out.1).1⟩
            have h := HG9.out
            rw [← bv_zs, splice_bv, H3.out.2.2.2] at h
            exact h
      · go_wp2_with fail
        go_still_tail 10, (by kernel_rfl)
        rw [show bits BinOp.xor IntKind.u8 (if IntKind.u8.signed = true then -1 else IntKind.u8.max) 63 = ((mk 2).toNat : Int) from rfl, i8_and]
        obtain ⟨y, hy⟩ : ∃ y, y = x &&& mk 2 := ⟨_, rfl⟩
        rw [← hy]
        have hrow2 : splice (l.set q y) (q + 1) (zs (31 - q)) = nar l k := by
          have e := nar_form l hl k HQ.out.2.2.2
          rw [← HQ.out.1, ← HQ.out.2.2.1, ← HQ.out.2.1, ← hy] at e; exact e
        clear hy HQ
        iterate 1
          change wpList _ _ _ _ _ w1.drew
          have hc' : w1.drew.cell? ⟨w.heap.size, q, none⟩ = some (.int .u8 x.toNat) := hc
          have hf' : w1.drew.frozen? ⟨w.heap.size, q, none⟩ = false := hf
          have HC' : RowKit.Hid (w1.drew.heap[w.heap.size]? = some (.cells (bv l).toArray 33 (0, 0)) ∧ w1.drew.heap[w.heap.size + 1]? = some (.cells (bv (zs 32)).toArray 33 (0, 0)) ∧ Below w.heap.size w w1.drew) := ⟨HC.out.1, HC.out.2.1, HC.out.2.2.drew⟩
          clear hc hf HC
          generalize w1.drew = w2 at *
          go_upto_region 4 with fail
          obtain ⟨w3, hw3⟩ : ∃ x : World, x = w2.setCell ⟨w.heap.size, q, none⟩ (.int .u8 y.toNat) := ⟨_, rfl⟩
          rw [← hw3]
          have hr3 : w3.heap[w.heap.size]? = some (.cells (bv (l.set q y)).toArray 33 (0, 0)) := by rw [hw3, heap_setCell_same _ _ _ _ _ _ HC'.out.1, rowB_set]
          have hs3 : w3.heap[w.heap.size + 1]? = some (.cells (bv (zs 32)).toArray 33 (0, 0)) := by rw [hw3]; exact (heap_setCell_other _ _ _ _ (by simp)).trans HC'.out.2.1
          have hb3 : Below w.heap.size w w3 := by rw [hw3]; exact HC'.out.2.2.setCell (p := ⟨_, _, none⟩) (Nat.le_refl _) _
          have H3 := Lib.hid (And.intro hr3 (And.intro hs3 (And.intro hb3 hrow2)))
          clear hw3 hr3 hs3 hb3 hrow2 hc' hf' HC'
          have hq1 : (q : Int) + 1 ≤ 32 := by omega
          have hq2 : (0 : Int) ≤ (q : Int) + 1 := by omega
          have hq3 : ((q : Int) + 1).toNat = q + 1 := by omega
          go_wp2_with (with_reducible show wpList _ _ _ (⟨none, Op.call _, _, _, _, _⟩ :: _) _ _; go_loud (refine wpList_clear_row rfl _ _ rfl 5 (.int .u8 0) rfl (fun _ => rfl) rfl rfl _ (31 - q) _ rfl w.heap.size (q + 1) (fun _ => by rw [if_neg (by omega)]) (bv (l.set q y)) _ H3.out.1 (by rw [bv_length, List.length_set]; omega) ?_; intro w9 HG9 hg9))
          all_goals
            go_meet
            refine show _ ∧ _ from ⟨?_, (hg9.block _ (Array.getElem?_eq_some_iff.1 H3.out.2.1).1 (by simp)).trans H3.out.2.1, below_grow H3.out.2.2.1 hg9 (Nat.le_refl _) (Array.getElem?_eq_some_iff.1 H3.out.1).1⟩
            have h := HG9.out
            rw [← bv_zs, splice_bv, H3.out.2.2.2] at h
            exact h
      · go_wp2_with fail
        go_still_tail 10, (by kernel_rfl)
        rw [show bits BinOp.xor IntKind.u8 (if IntKind.u8.signed = true then -1 else IntKind.u8.max) 31 = ((mk 3).toNat : Int) from rfl, i8_and]
        obtain ⟨y, hy⟩ : ∃ y, y = x &&& mk 3 := ⟨_, rfl⟩
        rw [← hy]
        have hrow2 : splice (l.set q y) (q + 1) (zs (31 - q)) = nar l k := by
          have e := nar_form l hl k HQ.out.2.2.2
          rw [← HQ.out.1, ← HQ.out.2.2.1, ← HQ.out.2.1, ← hy] at e; exact e
        clear hy HQ
        iterate 1
          change wpList _ _ _ _ _ w1.drew
          have hc' : w1.drew.cell? ⟨w.heap.size, q, none⟩ = some (.int .u8 x.toNat) := hc
          have hf' : w1.drew.frozen? ⟨w.heap.size, q, none⟩ = false := hf
          have HC' : RowKit.Hid (w1.drew.heap[w.heap.size]? = some (.cells (bv l).toArray 33 (0, 0)) ∧ w1.drew.heap[w.heap.size + 1]? = some (.cells (bv (zs 32)).toArray 33 (0, 0)) ∧ Below w.heap.size w w1.drew) := ⟨HC.out.1, HC.out.2.1, HC.out.2.2.drew⟩
          clear hc hf HC
          generalize w1.drew = w2 at *
          go_upto_region 4 with fail
          obtain ⟨w3, hw3⟩ : ∃ x : World, x = w2.setCell ⟨w.heap.size, q, none⟩ (.int .u8 y.toNat) := ⟨_, rfl⟩
          rw [← hw3]
          have hr3 : w3.heap[w.heap.size]? = some (.cells (bv (l.set q y)).toArray 33 (0, 0)) := by rw [hw3, heap_setCell_same _ _ _ _ _ _ HC'.out.1, rowB_set]
          have hs3 : w3.heap[w.heap.size + 1]? = some (.cells (bv (zs 32)).toArray 33 (0, 0)) := by rw [hw3]; exact (heap_setCell_other _ _ _ _ (by simp)).trans HC'.out.2.1
          have hb3 : Below w.heap.size w w3 := by rw [hw3]; exact HC'.out.2.2.setCell (p := ⟨_, _, none⟩) (Nat.le_refl _) _
          have H3 := Lib.hid (And.intro hr3 (And.intro hs3 (And.intro hb3 hrow2)))
          clear hw3 hr3 hs3 hb3 hrow2 hc' hf' HC'
          have hq1 : (q : Int) + 1 ≤ 32 := by omega
          have hq2 : (0 : Int) ≤ (q : Int) + 1 := by omega
          have hq3 : ((q : Int) + 1).toNat = q + 1 := by omega
          go_wp2_with (with_reducible show wpList _ _ _ (⟨none, Op.call _, _, _, _, _⟩ :: _) _ _; go_loud (refine wpList_clear_row rfl _ _ rfl 5 (.int .u8 0) rfl (fun _ => rfl) rfl rfl _ (31 - q) _ rfl w.heap.size (q + 1) (fun _ => by rw [if_neg (by omega)]) (bv (l.set q y)) _ H3.out.1 (by rw [bv_length, List.length_set]; omega) ?_; intro w9 HG9 hg9))
          all_goals
            go_meet
            refine show _ ∧ _ from ⟨?_, (hg9.block _ (Array.getElem?_eq_some_iff.1 H3.out.2.1).1 (by simp)).trans H3.out.2.1, below_grow H3.out.2.2.1 hg9 (Nat.le_refl _) (Array.getElem?_eq_some_iff.1 H3.out.1).1⟩
            have h := HG9.out
            rw [← bv_zs, splice_bv, H3.out.2.2.2] at h
            exact h
      · go_wp2_with fail
        go_still_tail 10, (by kernel_rfl)
        rw [show bits BinOp.xor IntKind.u8 (if IntKind.u8.signed = true then -1 else IntKind.u8.max) 15 = ((mk 4).toNat : Int) from rfl, i8_and]
        obtain ⟨y, hy⟩ : ∃ y, y = x &&& mk 4 := ⟨_, rfl⟩
        rw [← hy]
        have hrow2 : splice (l.set q y) (q + 1) (zs (31 - q)) = nar l k := by
          have e := nar_form l hl k HQ.out.2.2.2
          rw [← HQ.out.1, ← HQ.out.2.2.1, ← HQ.out.2.1, ← hy] at e; exact e
        clear hy HQ
        iterate 1
          change wpList _ _ _ _ _ w1.drew
          have hc' : w1.drew.cell? ⟨w.heap.size, q, none⟩ = some (.int .u8 x.toNat) := hc
          have hf' : w1.drew.frozen? ⟨w.heap.size, q, none⟩ = false := hf
          have HC' : RowKit.Hid (w1.drew.heap[w.heap.size]? = some (.cells (bv l).toArray 33 (0, 0)) ∧ w1.drew.heap[w.heap.size + 1]? = some (.cells (bv (zs 32)).toArray 33 (0, 0)) ∧ Below w.heap.size w w1.drew) := ⟨HC.out.1, HC.out.2.1, HC.out.2.2.drew⟩
          clear hc hf HC
          generalize w1.drew = w2 at *
          go_upto_region 4 with fail
          obtain ⟨w3, hw3⟩ : ∃ x : World, x = w2.setCell ⟨w.heap.size, q, none⟩ (.int .u8 y.toNat) := ⟨_, rfl⟩
          rw [← hw3]
          have hr3 : w3.heap[w.heap.size]? = some (.cells (bv (l.set q y)).toArray 33 (0, 0)) := by rw [hw3, heap_setCell_same _ _ _ _ _ _ HC'.out.1, rowB_set]
          have hs3 : w3.heap[w.heap.size + 1]? = some (.cells (bv (zs 32)).toArray 33 (0, 0)) := by rw [hw3]; exact (heap_setCell_other _ _ _ _ (by simp)).trans HC'.out.2.1
          have hb3 : Below w.heap.size w w3 := by rw [hw3]; exact HC'.out.2.2.setCell (p := ⟨_, _, none⟩) (Nat.le_refl _) _
          have H3 := Lib.hid (And.intro hr3 (And.intro hs3 (And.intro hb3 hrow2)))
          clear hw3 hr3 hs3 hb3 hrow2 hc' hf' HC'
          have hq1 : (q : Int) + 1 ≤ 32 := by omega
          have hq2 : (0 : Int) ≤ (q : Int) + 1 := by omega
          have hq3 : ((q : Int) + 1).toNat = q + 1 := by omega
          go_wp2_with (with_reducible show wpList _ _ _ (⟨none, Op.call _, _, _, _, _⟩ :: _) _ _; go_loud (refine wpList_clear_row rfl _ _ rfl 5 (.int .u8 0) rfl (fun _ => rfl) rfl rfl _ (31 - q) _ rfl w.heap.size (q + 1) (fun _ => by rw [if_neg (by omega)]) (bv (l.set q y)) _ H3.out.1 (by rw [bv_length, List.length_set]; omega) ?_; intro w9 HG9 hg9))
          all_goals
            go_meet
            refine show _ ∧ _ from ⟨?_, (hg9.block _ (Array.getElem?_eq_some_iff.1 H3.out.2.1).1 (by simp)).trans H3.out.2.1, below_grow H3.out.2.2.1 hg9 (Nat.le_refl _) (Array.getElem?_eq_some_iff.1 H3.out.1).1⟩
            have h := HG9.out
            rw [← bv_zs, splice_bv, H3.out.2.2.2] at h
            exact h
      · go_wp2_with fail
        go_still_tail 10, (by kernel_rfl)
        rw [show bits BinOp.xor IntKind.u8 (if IntKind.u8.signed = true then -1 else IntKind.u8.max) 7 = ((mk 5).toNat : Int) from rfl, i8_and]
        obtain ⟨y, hy⟩ : ∃ y, y = x &&& mk 5 := ⟨_, rfl⟩
        rw [← hy]
        have hrow2 : splice (l.set q y) (q + 1) (zs (31 - q)) = nar l k := by
          have e := nar_form l hl k HQ.out.2.2.2
          rw [← HQ.out.1, ← HQ.out.2.2.1, ← HQ.out.2.1, ← hy] at e; exact e
        clear hy HQ
        iterate 1
          change wpList _ _ _ _ _ w1.drew
          have hc' : w1.drew.cell? ⟨w.heap.size, q, none⟩ = some (.int .u8 x.toNat) := hc
          have hf' : w1.drew.frozen? ⟨w.heap.size, q, none⟩ = false := hf
          have HC' : RowKit.Hid (w1.drew.heap[w.heap.size]? = some (.cells (bv l).toArray 33 (0, 0)) ∧ w1.drew.heap[w.heap.size + 1]? = some (.cells (bv (zs 32)).toArray 33 (0, 0)) ∧ Below w.heap.size w w1.drew) := ⟨HC.out.1, HC.out.2.1, HC.out.2.2.drew⟩
          clear hc hf HC
          generalize w1.drew = w2 at *
          go_upto_region 4 with fail
          obtain ⟨w3, hw3⟩ : ∃ x : World, x = w2.setCell ⟨w.heap.size, q, none⟩ (.int .u8 y.toNat) := ⟨_, rfl⟩
          rw [← hw3]
          have hr3 : w3.heap[w.heap.size]? = some (.cells (bv (l.set q y)).toArray 33 (0, 0)) := by rw [hw3, heap_setCell_same _ _ _ _ _ _ HC'.out.1, rowB_set]
          have hs3 : w3.heap[w.heap.size + 1]? = some (.cells (bv (zs 32)).toArray 33 (0, 0)) := by rw [hw3]; exact (heap_setCell_other _ _ _ _ (by simp)).trans HC'.out.2.1
          have hb3 : Below w.heap.size w w3 := by rw [hw3]; exact HC'.out.2.2.setCell (p := ⟨_, _, none⟩) (Nat.le_refl _) _
          have H3 := Lib.hid (And.intro hr3 (And.intro hs3 (And.intro hb3 hrow2)))
          clear hw3 hr3 hs3 hb3 hrow2 hc' hf' HC'
          have hq1 : (q : Int) + 1 ≤ 32 := by omega
          have hq2 : (0 : Int) ≤ (q : Int) + 1 := by omega
          have hq3 : ((q : Int) + 1).toNat = q + 1 := by omega
          go_wp2_with (with_reducible show wpList _ _ _ (⟨none, Op.call _, _, _, _, _⟩ :: _) _ _; go_loud (refine wpList_clear_row rfl _ _ rfl 5 (.int .u8 0) rfl (fun _ => rfl) rfl rfl _ (31 - q) _ rfl w.heap.size (q + 1) (fun _ => by rw [if_neg (by omega)]) (bv (l.set q y)) _ H3.out.1 (by rw [bv_length, List.length_set]; omega) ?_; intro w9 HG9 hg9))
          all_goals
            go_meet
            refine show _ ∧ _ from ⟨?_, (hg9.block _ (Array.getElem?_eq_some_iff.1 H3.out.2.1).1 (by simp)).trans H3.out.2.1, below_grow H3.out.2.2.1 hg9 (Nat.le_refl _) (Array.getElem?_eq_some_iff.1 H3.out.1).1⟩
            have h := HG9.out
            rw [← bv_zs, splice_bv, H3.out.2.2.2] at h
            exact h
      · go_wp2_with fail
        go_still_tail 10, (by kernel_rfl)
        rw [show bits BinOp.xor IntKind.u8 (if IntKind.u8.signed = true then -1 else IntKind.u8.max) 3 = ((mk 6).toNat : Int) from rfl, i8_and]
        obtain ⟨y, hy⟩ : ∃ y, y = x &&& mk 6 := ⟨_, rfl⟩
        rw [← hy]
        have hrow2 : splice (l.set q y) (q + 1) (zs (31 - q)) = nar l k := by
          have e := nar_form l hl k HQ.out.2.2.2
          rw [← HQ.out.1, ← HQ.out.2.2.1, ← HQ.out.2.1, ← hy] at e; exact e
        clear hy HQ
        iterate 1
          change wpList _ _ _ _ _ w1.drew
          have hc' : w1.drew.cell? ⟨w.heap.size, q, none⟩ = some (.int .u8 x.toNat) := hc
          have hf' : w1.drew.frozen? ⟨w.heap.size, q, none⟩ = false := hf
          have HC' : RowKit.Hid (w1.drew.heap[w.heap.size]? = some (.cells (bv l).toArray 33 (0, 0)) ∧ w1.drew.heap[w.heap.size + 1]? = some (.cells (bv (zs 32)).toArray 33 (0, 0)) ∧ Below w.heap.size w w1.drew) := ⟨HC.out.1, HC.out.2.1, HC.out.2.2.drew⟩
          clear hc hf HC
          generalize w1.drew = w2 at *
          go_upto_region 4 with fail
          obtain ⟨w3, hw3⟩ : ∃ x : World, x = w2.setCell ⟨w.heap.size, q, none⟩ (.int .u8 y.toNat) := ⟨_, rfl⟩
          rw [← hw3]
          have hr3 : w3.heap[w.heap.size]? = some (.cells (bv (l.set q y)).toArray 33 (0, 0)) := by rw [hw3, heap_setCell_same _ _ _ _ _ _ HC'.out.1, rowB_set]
          have hs3 : w3.heap[w.heap.size + 1]? = some (.cells (bv (zs 32)).toArray 33 (0, 0)) := by rw [hw3]; exact (heap_setCell_other _ _ _ _ (by simp)).trans HC'.out.2.1
          have hb3 : Below w.heap.size w w3 := by rw [hw3]; exact HC'.out.2.2.setCell (p := ⟨_, _, none⟩) (Nat.le_refl _) _
          have H3 := Lib.hid (And.intro hr3 (And.intro hs3 (And.intro hb3 hrow2)))
          clear hw3 hr3 hs3 hb3 hrow2 hc' hf' HC'
          have hq1 : (q : Int) + 1 ≤ 32 := by omega
          have hq2 : (0 : Int) ≤ (q : Int) + 1 := by omega
          have hq3 : ((q : Int) + 1).toNat = q + 1 := by omega
          go_wp2_with (with_reducible show wpList _ _ _ (⟨none, Op.call _, _, _, _, _⟩ :: _) _ _; go_loud (refine wpList_clear_row rfl _ _ rfl 5 (.int .u8 0) rfl (fun _ => rfl) rfl rfl _ (31 - q) _ rfl w.heap.size (q + 1) (fun _ => by rw [if_neg (by omega)]) (bv (l.set q y)) _ H3.out.1 (by rw [bv_length, List.length_set]; omega) ?_; intro w9 HG9 hg9))
          all_goals
            go_meet
            refine show _ ∧ _ from ⟨?_, (hg9.block _ (Array.getElem?_eq_some_iff.1 H3.out.2.1).1 (by simp)).trans H3.out.2.1, below_grow H3.out.2.2.1 hg9 (Nat.le_refl _) (Array.getElem?_eq_some_iff.1 H3.out.1).1⟩
            have h := HG9.out
            rw [← bv_zs, splice_bv, H3.out.2.2.2] at h
            exact h
      · go_wp2_with fail
        go_still_tail 10, (by kernel_rfl)
        rw [show bits BinOp.xor IntKind.u8 (if IntKind.u8.signed = true then -1 else IntKind.u8.max) 1 = ((mk 7).toNat : Int) from rfl, i8_and]
        obtain ⟨y, hy⟩ : ∃ y, y = x &&& mk 7 := ⟨_, rfl⟩
        rw [← hy]
        have hrow2 : splice (l.set q y) (q + 1) (zs (31 - q)) = nar l k := by
          have e := nar_form l hl k HQ.out.2.2.2
          rw [← HQ.out.1, ← HQ.out.2.2.1, ← HQ.out.2.1, ← hy] at e; exact e
        clear hy HQ
        iterate 1
          change wpList _ _ _ _ _ w1.drew
          have hc' : w1.drew.cell? ⟨w.heap.size, q, none⟩ = some (.int .u8 x.toNat) := hc
          have hf' : w1.drew.frozen? ⟨w.heap.size, q, none⟩ = false := hf
          have HC' : RowKit.Hid (w1.drew.heap[w.heap.size]? = some (.cells (bv l).toArray 33 (0, 0)) ∧ w1.drew.heap[w.heap.size + 1]? = some (.cells (bv (zs 32)).toArray 33 (0, 0)) ∧ Below w.heap.size w w1.drew) := ⟨HC.out.1, HC.out.2.1, HC.out.2.2.drew⟩
          clear hc hf HC
          generalize w1.drew = w2 at *
          go_upto_region 4 with fail
          obtain ⟨w3, hw3⟩ : ∃ x : World, x = w2.setCell ⟨w.heap.size, q, none⟩ (.int .u8 y.toNat) := ⟨_, rfl⟩
          rw [← hw3]
          have hr3 : w3.heap[w.heap.size]? = some (.cells (bv (l.set q y)).toArray 33 (0, 0)) := by rw [hw3, heap_setCell_same _ _ _ _ _ _ HC'.out.1, rowB_set]
          have hs3 : w3.heap[w.heap.size + 1]? = some (.cells (bv (zs 32)).toArray 33 (0, 0)) := by rw [hw3]; exact (heap_setCell_other _ _ _ _ (by simp)).trans HC'.out.2.1
          have hb3 : Below w.heap.size w w3 := by rw [hw3]; exact HC'.out.2.2.setCell (p := ⟨_, _, none⟩) (Nat.le_refl _) _
          have H3 := Lib.hid (And.intro hr3 (And.intro hs3 (And.intro hb3 hrow2)))
          clear hw3 hr3 hs3 hb3 hrow2 hc' hf' HC'
          have hq1 : (q : Int) + 1 ≤ 32 := by omega
          have hq2 : (0 : Int) ≤ (q : Int) + 1 := by omega
          have hq3 : ((q : Int) + 1).toNat = q + 1 := by omega
          go_wp2_with (with_reducible show wpList _ _ _ (⟨none, Op.call _, _, _, _, _⟩ :: _) _ _; go_loud (refine wpList_clear_row rfl _ _ rfl 5 (.int .u8 0) rfl (fun _ => rfl) rfl rfl _ (31 - q) _ rfl w.heap.size (q + 1) (fun _ => by rw [if_neg (by omega)]) (bv (l.set q y)) _ H3.out.1 (by rw [bv_length, List.length_set]; omega) ?_; intro w9 HG9 hg9))
          all_goals
            go_meet
            refine show _ ∧ _ from ⟨?_, (hg9.block _ (Array.getElem?_eq_some_iff.1 H3.out.2.1).1 (by simp)).trans H3.out.2.1, below_grow H3.out.2.2.1 hg9 (Nat.le_refl _) (Array.getElem?_eq_some_iff.1 H3.out.1).1⟩
            have h := HG9.out
            rw [← bv_zs, splice_bv, H3.out.2.2.2] at h
            exact h
  case rest =>
    clear hr1 hs1 hb1
    have hnl := nar_length l k
    obtain ⟨out, ho⟩ : ∃ out, out = nar l k := ⟨_, rfl⟩
    rw [← ho] at hcut hnl
    have HO := Lib.hid ho
    clear ho
    go_wp2_with (first
      | (with_reducible show wpList _ _ _ (⟨some 24, _, _, _, _, _⟩ :: _) _ _; refine wpList_load_row rfl _ _ rfl w.heap.size rfl _ _ (0, 0) _ hcut.out.1 Tryd.underlying33 rfl (hInfo _ hnl) ?_)
      | (with_reducible show wpList _ _ _ (⟨none, Op.store _ _ _, _, _, _, _⟩ :: _) _ _; refine wpList_store_whole rfl _ _ _ rfl (w.heap.size + 1) _ rfl rfl _ _ hcut.out.2.1 (hInfo' _ hnl) (by rw [bv_length, bv_length, hnl]; simp [zs]) (bv_one _) ?_; intro w9 HG9 hg9))
    refine bodyPost_ret (v := .agg (bv out).toArray) ?_ ?_ ?_
    · exact results_cell_row Tryd.results56 _ _ (w.heap.size + 1) 33 _ (0, 0) _ rfl HG9.out Tryd.underlying33 rfl (hInfo _ hnl)
    · rfl
    · exact ⟨by rw [HO.out], below_grow hcut.out.2.2 hg9 (by omega) (Array.getElem?_eq_some_iff.1 hcut.out.2.1).1⟩
end Go.Proofs.YtdjmebfjanophaaDoor
