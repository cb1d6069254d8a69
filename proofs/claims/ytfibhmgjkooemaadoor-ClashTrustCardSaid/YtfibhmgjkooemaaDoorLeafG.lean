/- Rows of hashes stored into, cut short: plain words. · leaf.fold: the last two peaks put together, so many times. (printed by gen/leafg.py) -/
import Derived.Test.YtfibhmgjkooemaaDoorLeafB
import Derived.Test.YtfibhmgjkooemaaDoorGrowthP
import Derived.Shelf.Spec.TrailingZeros
namespace Go.Proofs.YtfibhmgjkooemaaDoor
open Go.RowKit Sha Root

theorem own_sets {e : TypeId} {size B g n cap : Nat} : ∀ (cs : List Value) (o : Nat) (w : World) (xs : List Value), w.ownsRow B e size (.slice (some ⟨g, 0, none⟩) n cap) n xs →
    (w.setCells g o cs).ownsRow B e size (.slice (some ⟨g, 0, none⟩) n cap) n (setsL xs o cs) ∧ w.grownBy (w.setCells g o cs) (some g)
  | [], _, w, _, h => ⟨h, World.grownBy.refl _ _⟩
  | v :: r, o, w, xs, h => by
    obtain ⟨h1, h2⟩ := h.stored o v
    obtain ⟨h3, h4⟩ := own_sets r (o + 1) _ _ h1
    exact ⟨h3, grown_trans h2 h4 (fun j hj => .inl hj)⟩
theorem own_short {w : World} {e : TypeId} {size B g n cap : Nat} {xs : List Value} (h : w.ownsRow B e size (.slice (some ⟨g, 0, none⟩) n cap) n xs) (k : Nat) (hk : k ≤ n) : w.ownsRow B e size (.slice (some ⟨g, 0, none⟩) k cap) k (xs.take (k * size)) := by
  obtain ⟨hl, ⟨hv, _⟩ | ⟨g', cap', cur, hv, hb, hg, hc, hm, hs, ht⟩⟩ := h
  · simp at hv
  · simp only [Value.slice.injEq, Option.some.injEq, Addr.mk.injEq, and_true, true_and] at hv
    obtain ⟨rfl, rfl⟩ := hv
    have hle : k * size ≤ n * size := Nat.mul_le_mul_right _ hk
    refine ⟨by rw [List.length_take, hl]; omega, .inr ⟨g, cap, cur, rfl, hb, hg, by omega, hm, hs, ?_⟩⟩
    rw [← ht, List.take_take, Nat.min_eq_left hle]
theorem own_range32 {w : World} {e : TypeId} {B g n cap : Nat} {ps : List (List UInt8)} (h : w.ownsRow B e 32 (.slice (some ⟨g, 0, none⟩) n cap) ps.length (ps.flatMap bv)) (h32 : ∀ p ∈ ps, p.length = 32) {k : Nat} {x : List UInt8} (hx : ps[k]? = some x) : w.rangeAt g (k * 32) (bv x) := fun j u hu => by
  have hk := (List.getElem?_eq_some_iff.1 hx).1
  have hj : j < 32 := by have := (List.getElem?_eq_some_iff.1 hu).1; rwa [bv_length, h32 x (List.mem_of_getElem? hx)] at this
  obtain ⟨g', c, hv, _⟩ := own_at h (by omega)
  simp only [Value.slice.injEq] at hv
  have hn := hv.2.1
  subst hn
  rw [h.cellAt _ (by omega), flat_at32 ps k j x h32 hx hj]
  exact hu
/-- The last two put together, as a store and a cut. -/
theorem merge1_set {α : Type} (node : α → α → α) : ∀ (l : List α) (x y : α), l[l.length - 2]? = some x → l[l.length - 1]? = some y → 2 ≤ l.length → merge1 node l = (l.set (l.length - 2) (node x y)).take (l.length - 1)
  | [], _, _, _, _, h => by simp at h
  | [_], _, _, _, _, h => by simp at h
  | [a, b], x, y, hx, hy, _ => by
    obtain rfl : a = x := by simpa using hx
    obtain rfl : b = y := by simpa using hy
    rfl
  | a :: b :: c :: r, x, y, hx, hy, _ => by
    have e2 : (a :: b :: c :: r).length - 2 = (b :: c :: r).length - 2 + 1 := by simp
    have e1 : (a :: b :: c :: r).length - 1 = (b :: c :: r).length - 1 + 1 := by simp
    rw [e2, List.getElem?_cons_succ] at hx; rw [e1, List.getElem?_cons_succ] at hy
    have := merge1_set node (b :: c :: r) x y hx hy (by simp)
    rw [e2, e1, List.set_cons_succ, List.take_succ_cons, ← this]
    rfl

theorem ctz_ones : ∀ (f i : Nat), i + 1 < 2 ^ f → Lib.ctzFrom f (2 ^ f - 1 - i) = tz1 i
  | 0, i, h => by simp at h
  | f + 1, i, h => by
    rw [Nat.pow_succ] at h ⊢
    unfold Lib.ctzFrom
    rcases Nat.mod_two_eq_zero_or_one i with h0 | h1
    · rw [if_pos (by omega), tz1_even i h0]
    · rw [if_neg (by omega), tz1_odd i h1, show (2 ^ f * 2 - 1 - i) / 2 = 2 ^ f - 1 - i / 2 by omega, ctz_ones f (i / 2) (by omega)]
theorem gives_store_mid {P : Program} {r : Nat → Value} {o : Oper} {w : World} {R : Value → World → Prop} (ty : TypeId) (x y : Operand) (ho : o.op = .store ty x y)
    (b off : Nat) (cs : List Value) (hx : rd r x = .pointer (some ⟨b, off, none⟩)) (hy : rd r y = .agg cs.toArray) (ht : w.there b off cs.length) (hi : (P.info? ty).map (·.size) = some cs.length) (h1 : ∀ v ∈ cs, v.oneCell' = true)
    (h : R undef (w.setCells b off cs)) : gives P r o w R := by
  have hrun := run_storeVar_mid (P := P) w b off ty cs.toArray (by simpa using ht) (by simpa using hi) (all_oneCell_toArray h1)
  unfold gives execOp
  simp only [ho, hx, hy, Instr.storeAt, Instr.sureAddr, Sem.run_bind, Sem.run_pure, Result.andThen_ok, hrun]
  exact h
theorem gives_load_mid {P : Program} {r : Nat → Value} {o : Oper} {w : World} {R : Value → World → Prop} (ty : TypeId) (x : Operand) (ho : o.op = .load ty x)
    (g off : Nat) (hx : rd r x = .pointer (some ⟨g, off, none⟩)) (cs : List Value) (d : TypeDesc) (hc : w.rangeAt g off cs)
    (hu : P.underlying ty = some d) (hd : d.isRow = true) (hi : (P.info? ty).map (·.size) = some cs.length)
    (h : R (.agg cs.toArray) w) : gives P r o w R := by
  unfold gives execOp
  simp only [ho, hx, Instr.loadAt, Instr.sureAddr, Sem.run_bind, Sem.run_pure, Result.andThen_ok, run_loadVar_mid w g off ty cs d hc hu hd hi]
  exact h
theorem own_there {w : World} {e : TypeId} {B g n cap o k : Nat} {xs : List Value} (h : w.ownsRow B e 32 (.slice (some ⟨g, 0, none⟩) n cap) n xs) (ho : o + k ≤ n * 32) : w.there g o k := fun j hj => by
  refine ⟨?_, h.frozenAt _⟩
  rw [h.cellAt _ (by omega), List.getElem?_eq_getElem (by rw [h.1]; omega)]; rfl
theorem merge1_32 (n : Int) : ∀ ps : List (List UInt8), (∀ p ∈ ps, p.length = 32) → ∀ p ∈ merge1 (nodeH n) ps, p.length = 32
  | [], _, p, hp => by simp [merge1] at hp
  | [x], h, p, hp => h p hp
  | [x, y], _, p, hp => by simp [merge1] at hp; subst hp; exact nodeH_length _ _ _
  | x :: y :: z :: r, h, p, hp => by
    rw [merge1, List.mem_cons] at hp
    rcases hp with rfl | hp
    · exact h p (by simp)
    · exact merge1_32 n (y :: z :: r) (fun q hq => h q (by simp at hq ⊢; right; exact hq)) p hp
theorem foldT_32 (n : Int) : ∀ (t : Nat) (ps : List (List UInt8)), (∀ p ∈ ps, p.length = 32) → ∀ p ∈ foldT (nodeH n) t ps, p.length = 32
  | 0, _, h => h
  | t + 1, ps, h => foldT_32 n t _ (merge1_32 n ps h)
theorem Tabs.keepAt {w w' : World} {B : Nat} (h : Tabs w) (k : Below B w w') (hB : max 0 4 + 1 ≤ B) : Tabs w' where
  begin j hj := (k.cell (p := ⟨0, j, none⟩) (by show 0 < B; omega)).trans (h.begin j hj)
  round j hj := (k.cell (p := ⟨4, j, none⟩) (by show 4 < B; omega)).trans (h.round j hj)
end Go.Proofs.YtfibhmgjkooemaaDoor
namespace Go.Proofs.YtfibhmgjkooemaaDoor
open Go.RowKit Sha Root

/-- What each operation hands on. -/
def foldF (n : Int) (g i cap B : Nat) (xs ys nx : List UInt8) (qsl : List Value) : Nat → Value → World → Prop
  | 0, v, _ => v = .slice (some ⟨g, 0, none⟩) (i + 2) cap
  | 1, v, _ => v = .int .i64 (i : Nat)
  | 2, v, _ => v = .int .i64 n
  | 3, v, _ => v = .slice (some ⟨g, 0, none⟩) (i + 2) cap
  | 4, v, _ => v = .int .i64 (i : Nat)
  | 5, v, _ => v = .pointer (some ⟨g, i * 32, none⟩)
  | 6, v, _ => v = .agg (bv xs).toArray
  | 7, v, _ => v = .slice (some ⟨g, 0, none⟩) (i + 2) cap
  | 8, v, _ => v = .int .i64 (i : Nat)
  | 9, v, _ => v = .int .i64 ((i : Int) + 1)
  | 10, v, _ => v = .pointer (some ⟨g, (i + 1) * 32, none⟩)
  | 11, v, _ => v = .agg (bv ys).toArray
  | 12, v, _ => v = .agg (bv nx).toArray
  | 13, v, _ => v = .pointer (some ⟨g, i * 32, none⟩)
  | 14, _, w => w.ownsRow B 35 32 (.slice (some ⟨g, 0, none⟩) (i + 2) cap) (i + 2) (setsL qsl (i * 32) (bv nx))
  | _, _, _ => True

set_option maxRecDepth 100000 in
set_option maxHeartbeats 8000000 in
theorem fold_any (n : Int) (ps : List (List UInt8)) (t : Nat) (v : Value) (w : World) (B : Nat) (hn : -9223372036854775808 ≤ n ∧ n ≤ 9223372036854775807) (h32 : ∀ p ∈ ps, p.length = 32) (ht : t < ps.length) (hl : ps.length ≤ 140737488355328)
    (hown : w.ownsRow B 35 32 v ps.length (ps.flatMap bv)) (hB3 : max 0 4 + 1 ≤ B) (hBw : B ≤ w.heap.size) (hT : Tabs w) :
    Calls Tryd.prog 54 #[.int .i64 n, v, .int .i64 t] w fun e w' => ∃ v', e = .returned v' ∧ w'.ownsRow B 35 32 v' (foldT (nodeH n) t ps).length ((foldT (nodeH n) t ps).flatMap bv) ∧ Below B w w' := by
  obtain ⟨g, cap, rfl, hBg, hcap, _, hgw0⟩ := own_at hown (by omega)
  have hTb : ∀ wx, Below B w wx → Tabs wx := fun wx h => hT.keepAt h hB3
  go_enter Tryd.func54, Tryd.ntmps54
  go_wp2_with fail
  go_loopw [1, 9] (fun s1 s9 wr => ∃ k m : Nat, m + k = ps.length ∧ k ≤ t ∧ s9 = .int .i64 k ∧ s1 = .slice (some ⟨g, 0, none⟩) m cap ∧ wr.ownsRow B 35 32 (.slice (some ⟨g, 0, none⟩) m cap) m ((foldT (nodeH n) k ps).flatMap bv) ∧ Below B w wr) (fun _ s9 _ => t - (intOf s9).toNat)
  case atStart => exact ⟨0, ps.length, by omega, by omega, rfl, rfl, hown, Below.refl _ _⟩
  case round =>
    obtain ⟨k, m, hm, hk, rfl, rfl, how, hb4⟩ := hrel
    have hlen := foldT_length (nodeH n) k ps (by omega)
    have hq32 := foldT_32 n k ps h32
    obtain ⟨qs, hqs⟩ : ∃ qs, qs = foldT (nodeH n) k ps := ⟨_, rfl⟩
    rw [← hqs] at how hlen hq32
    by_cases hkt : k < t
    · have z1 : (k : Int) < (t : Int) := by omega
      obtain ⟨i, rfl⟩ : ∃ i, m = i + 2 := ⟨m - 2, by omega⟩
      have hql : qs.length = i + 2 := by omega
      obtain ⟨xs, hx⟩ : ∃ x, qs[i]? = some x := ⟨qs[i], List.getElem?_eq_getElem (by omega)⟩
      obtain ⟨ys, hy⟩ : ∃ x, qs[i + 1]? = some x := ⟨qs[i + 1], List.getElem?_eq_getElem (by omega)⟩
      have hx32 := hq32 xs (List.mem_of_getElem? hx)
      have hy32 := hq32 ys (List.mem_of_getElem? hy)
      have how' := how
      rw [← hql] at how'
      have hrx := own_range32 how' hq32 hx
      have hry := own_range32 how' hq32 hy
      obtain ⟨nx, hnx⟩ : ∃ nx, nx = nodeH n xs ys := ⟨_, rfl⟩
      have hnx32 : nx.length = 32 := by rw [hnx]; exact nodeH_length _ _ _
      have hBw4 : B ≤ wr.heap.size := Nat.le_trans hBw hb4.size
      have hgw : g < wr.heap.size := Nat.lt_of_lt_of_le hgw0 hb4.size
      have hnd : ∀ wx, Below B wr wx → Calls Tryd.prog 45 #[.int .i64 n, .agg (bv xs).toArray, .agg (bv ys).toArray] wx fun e w' => e = .returned (.agg (bv nx).toArray) ∧ Below wx.heap.size wx w' := fun wx hx => by
        rw [hnx]; exact Node_any n xs ys wx hx32 hy32 hn (hTb wx (hb4.trans hx))
      have hsf : (setsL (qs.flatMap bv) (i * 32) (bv nx)).take ((i + 1) * 32) = (foldT (nodeH n) (k + 1) ps).flatMap bv := by
        rw [setsL_flat qs i nx (by omega) hq32 hnx32, ← flat_take32 _ _ (fun p hp => by
          rcases List.mem_or_eq_of_mem_set hp with h | h
          · exact hq32 p h
          · rw [h]; exact hnx32), foldT_next, ← hqs, merge1_set (nodeH n) qs xs ys (by rw [hql]; exact hx) (by rw [hql]; exact hy) (by omega), hql, ← hnx]; rfl
      have hz0 : IntKind.i64.wrap ((i : Int) + 2 - 2) = (i : Int) := by rw [IntWalk.i64_in _ (by omega)]; omega
      have HOW := Lib.hid how
      have HRG := Lib.hid (And.intro hrx hry)
      have HXY := Lib.hid (And.intro hx32 hy32)
      have HNX := Lib.hid hnx32
      have HND := Lib.hid hnd
      have HSF := Lib.hid hsf
      have HB4 := Lib.hid hb4
      obtain ⟨qsl, hqsl⟩ : ∃ l, l = qs.flatMap bv := ⟨_, rfl⟩
      rw [← hqsl] at HOW HSF
      clear how how' hrx hry hx32 hy32 hnx32 hnd hsf hb4 hqsl hlen hq32 hx hy hnx hql hqs
      go_upto_region 4 with fail
      refine wp_region_until [some 14, some 15, some 16, some 17, some 18, some 19, some 20, some 21, some 22, some 23, some 24, some 25, some 26, some 27, none] [] 14 (fun wx => Below wr.heap.size wr wx) [0, 1, 2, 3, 4, 5, 6, 7, 8, 9, 10, 11, 12, 13, 14] (foldF n g i cap B xs ys nx qsl) (kOne 14 B) (fun wx => Below B wr wx) (by kernel_rfl) (by kernel_rfl) rfl (by kernel_rfl) (by kernel_rfl) (Below.refl _ _).drew (Below.refl _ _).drew ((fun _ hj _ _ k h => h.trans ((kOne_below hj k).mono h.size))) (fun _ _ => kOne_refl _ _ _ _) (fun _ _ _ h k => h.trans (kOne_base (Nat.le_trans hBw4 h.size) k)) ?hF ?hstep ?hend
      case hF =>
        exact ⟨fun _ _ _ _ _ _ h => h, ⟨fun _ _ _ _ _ _ h => h, ⟨fun _ _ _ _ _ _ h => h, ⟨fun _ _ _ _ _ _ h => h, ⟨fun _ _ _ _ _ _ h => h, ⟨fun _ _ _ _ _ _ h => h, ⟨fun _ _ _ _ _ _ h => h, ⟨fun _ _ _ _ _ _ h => h, ⟨fun _ _ _ _ _ _ h => h, ⟨fun _ _ _ _ _ _ h => h, ⟨fun _ _ _ _ _ _ h => h, ⟨fun _ _ _ _ _ _ h => h, ⟨fun _ _ _ _ _ _ h => h, ⟨fun _ _ _ _ _ _ h => h, ⟨fun j hg _ _ _ k h => own_keep h (kOne_below (fun e => by subst e; exact absurd hg (by rw [show goneB _ 14 14 = true by kernel_rfl]; simp)) k), trivial⟩⟩⟩⟩⟩⟩⟩⟩⟩⟩⟩⟩⟩⟩⟩
      case hstep =>
        refine ⟨fun r wx hG hs hq hf => ?_, ?_⟩
        · have hQ := hq rfl
          have e1 : r 1 = .slice (some ⟨g, 0, none⟩) (i + 2) cap := hs 1 rfl
          refine (if_pos rfl).symm ▸ ?_
          clear hs hq hf
          unfold gives
          go_simp
          exact ⟨kOne_refl _ _ _ _, rfl⟩
        refine ⟨fun r wx hG hs hq hf => ?_, ?_⟩
        · have hQ := hq rfl
          have e7 : r 7 = .int .i64 i := hs 7 rfl
          refine (if_pos rfl).symm ▸ ?_
          clear hs hq hf
          unfold gives
          go_simp
          exact ⟨kOne_refl _ _ _ _, rfl⟩
        refine ⟨fun r wx hG hs hq hf => ?_, ?_⟩
        · have hQ := hq rfl
          have e0 : r 0 = .int .i64 n := hs 0 rfl
          refine (if_pos rfl).symm ▸ ?_
          clear hs hq hf
          unfold gives
          go_simp
          exact ⟨kOne_refl _ _ _ _, rfl⟩
        refine ⟨fun r wx hG hs hq hf => ?_, ?_⟩
        · have hQ := hq rfl
          have e1 : r 1 = .slice (some ⟨g, 0, none⟩) (i + 2) cap := hs 1 rfl
          refine (if_pos rfl).symm ▸ ?_
          clear hs hq hf
          unfold gives
          go_simp
          exact ⟨kOne_refl _ _ _ _, rfl⟩
        refine ⟨fun r wx hG hs hq hf => ?_, ?_⟩
        · have hQ := hq rfl
          have e7 : r 7 = .int .i64 i := hs 7 rfl
          refine (if_pos rfl).symm ▸ ?_
          clear hs hq hf
          unfold gives
          go_simp
          exact ⟨kOne_refl _ _ _ _, rfl⟩
        refine ⟨fun r wx hG hs hq hf => ?_, ?_⟩
        · have hQ := hq rfl
          have h3 : r 17 = .slice (some ⟨g, 0, none⟩) (i + 2) cap := hf.1
          have h4 : r 18 = .int .i64 (i : Nat) := hf.2.1
          refine (if_pos rfl).symm ▸ ?_
          clear hs hq hf
          unfold gives
          have z0 : (0 : Int) ≤ (i : Int) := by omega
          have z1 : (i : Int) < (i : Int) + 2 := by omega
          go_simp
          exact ⟨kOne_refl _ _ _ _, rfl⟩
        refine ⟨fun r wx hG hs hq hf => ?_, ?_⟩
        · have hQ := hq rfl
          have h5 : r 19 = .pointer (some ⟨g, i * 32, none⟩) := hf.1
          refine (if_pos rfl).symm ▸ ?_
          clear hs hq hf
          unfold gives
          refine gives_load_mid 35 _ rfl g (i * 32) h5 (bv xs) _ (fun q u hu => (hQ.cell (p := ⟨g, i * 32 + q, none⟩) hgw).trans (HRG.out.1 q u hu)) Tryd.underlying35 rfl (hInfo' _ HXY.out.1) ⟨kOne_refl _ _ _ _, rfl⟩
        refine ⟨fun r wx hG hs hq hf => ?_, ?_⟩
        · have hQ := hq rfl
          have e1 : r 1 = .slice (some ⟨g, 0, none⟩) (i + 2) cap := hs 1 rfl
          refine (if_pos rfl).symm ▸ ?_
          clear hs hq hf
          unfold gives
          go_simp
          exact ⟨kOne_refl _ _ _ _, rfl⟩
        refine ⟨fun r wx hG hs hq hf => ?_, ?_⟩
        · have hQ := hq rfl
          have e7 : r 7 = .int .i64 i := hs 7 rfl
          refine (if_pos rfl).symm ▸ ?_
          clear hs hq hf
          unfold gives
          go_simp
          exact ⟨kOne_refl _ _ _ _, rfl⟩
        refine ⟨fun r wx hG hs hq hf => ?_, ?_⟩
        · have hQ := hq rfl
          have h8 : r 22 = .int .i64 (i : Nat) := hf.1
          refine (if_pos rfl).symm ▸ ?_
          clear hs hq hf
          unfold gives
          have zw : IntKind.i64.wrap ((i : Int) + 1) = (i : Int) + 1 := IntWalk.i64_in _ (by omega)
          go_simp
          exact ⟨kOne_refl _ _ _ _, rfl⟩
        refine ⟨fun r wx hG hs hq hf => ?_, ?_⟩
        · have hQ := hq rfl
          have h7 : r 21 = .slice (some ⟨g, 0, none⟩) (i + 2) cap := hf.1
          have h9 : r 23 = .int .i64 ((i : Int) + 1) := hf.2.1
          refine (if_pos rfl).symm ▸ ?_
          clear hs hq hf
          unfold gives
          have z0 : (0 : Int) ≤ (i : Int) + 1 := by omega
          have z1 : (i : Int) + 1 < (i : Int) + 2 := by omega
          have z2 : ((i : Int) + 1).toNat = i + 1 := by omega
          go_simp
          exact ⟨kOne_refl _ _ _ _, rfl⟩
        refine ⟨fun r wx hG hs hq hf => ?_, ?_⟩
        · have hQ := hq rfl
          have h10 : r 24 = .pointer (some ⟨g, (i + 1) * 32, none⟩) := hf.1
          refine (if_pos rfl).symm ▸ ?_
          clear hs hq hf
          unfold gives
          refine gives_load_mid 35 _ rfl g ((i + 1) * 32) h10 (bv ys) _ (fun q u hu => (hQ.cell (p := ⟨g, (i + 1) * 32 + q, none⟩) hgw).trans (HRG.out.2 q u hu)) Tryd.underlying35 rfl (hInfo' _ HXY.out.2) ⟨kOne_refl _ _ _ _, rfl⟩
        refine ⟨fun r wx hG hs hq hf => ?_, ?_⟩
        · have hQ := hq rfl
          have h2 : r 16 = .int .i64 n := hf.1
          have h6 : r 20 = .agg (bv xs).toArray := hf.2.1
          have h11 : r 25 = .agg (bv ys).toArray := hf.2.2.1
          refine (if_pos rfl).symm ▸ ?_
          clear hs hq hf
          unfold gives
          go_simp
          refine (HND.out wx hG).mono ?_
          rintro e wy ⟨rfl, hb1⟩
          exact ⟨_, rfl, kOne_of rfl hb1, rfl⟩
        refine ⟨fun r wx hG hs hq hf => ?_, ?_⟩
        · have hQ := hq rfl
          have h0 : r 14 = .slice (some ⟨g, 0, none⟩) (i + 2) cap := hf.1
          have h1 : r 15 = .int .i64 (i : Nat) := hf.2.1
          refine (if_pos rfl).symm ▸ ?_
          clear hs hq hf
          unfold gives
          have z0 : (0 : Int) ≤ (i : Int) := by omega
          have z1 : (i : Int) < (i : Int) + 2 := by omega
          go_simp
          exact ⟨kOne_refl _ _ _ _, rfl⟩
        refine ⟨fun r wx hG hs hq hf => ?_, ?_⟩
        · have hQ := hq rfl
          have h13 : r 27 = .pointer (some ⟨g, i * 32, none⟩) := hf.1
          have h12 : r 26 = .agg (bv nx).toArray := hf.2.1
          refine (if_pos rfl).symm ▸ ?_
          clear hs hq hf
          unfold gives
          have how := own_keep HOW.out hQ
          have hst := own_sets (bv nx) (i * 32) wx _ how
          refine gives_store_mid 35 _ _ rfl g (i * 32) (bv nx) h13 h12 (own_there how (by rw [bv_length, HNX.out]; omega)) (hInfo' _ HNX.out) (bv_one _) ?_
          exact ⟨kOne_at (below_grow (Below.refl _ _) hst.2 hBg (Nat.lt_of_lt_of_le hgw hQ.size)), hst.1⟩
        exact trivial
      case hend =>
        intro u wz hG hfin
        have z14 : wz.ownsRow B 35 32 (.slice (some ⟨g, 0, none⟩) (i + 2) cap) (i + 2) (setsL qsl (i * 32) (bv nx)) := hfin 14 (by decide) (by kernel_rfl)
        clear hfin
        simp only [fill]
        have hz1 : IntKind.i64.wrap ((i : Int) + 1) = (i : Int) + 1 := IntWalk.i64_in _ (by omega)
        have hz2 : (0 : Int) ≤ (i : Int) + 1 := by omega
        have hz3 : (i : Int) + 1 ≤ (cap : Int) := by omega
        have hz4 : ((i : Int) + 1).toNat = i + 1 := by omega
        have HZ := Lib.hid z14
        clear z14
        go_simp
        go_wp2_with fail
        go_roundw
        case rel =>
          have hs := own_short HZ.out (i + 1) (by omega)
          rw [HSF.out] at hs
          exact ⟨k + 1, i + 1, by omega, by omega, by go_num, rfl, hs, HB4.out.trans hG⟩
        case measure => simp [intOf]; omega
    · have z1 : ¬ (k : Int) < (t : Int) := by omega
      obtain rfl : k = t := by omega
      have hml : m = qs.length := by omega
      subst hml
      have HX := Lib.hid (And.intro how (And.intro hb4 hqs))
      clear how hb4 hqs hlen hm hq32 ht hk
      go_wp2_with fail
      go_ret
      exact ⟨_, rfl, by rw [← HX.out.2.2]; exact HX.out.1, HX.out.2.1⟩
end Go.Proofs.YtfibhmgjkooemaaDoor
