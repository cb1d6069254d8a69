/- Rows of hashes stored into, cut short: plain words. -/
import Derived.Test.YtdjmebfjanophaaDoorLeafB
import Derived.Test.YtdjmebfjanophaaDoorFlat32
import Derived.Test.YtdjmebfjanophaaDoorRootP
import Derived.Shelf.Spec.TrailingZeros
namespace Go.Proofs.YtdjmebfjanophaaDoor
open Go.RowKit Sha Root

theorem own_sets {e : TypeId} {size B g n cap : Nat} : ∀ (cs : List Value) (o : Nat) (w : World) (xs : List Value), w.ownsRow B e size (.slice (some ⟨g, 0, none⟩) n cap) n xs →
    (w.setCells g o cs).ownsRow B e size (.slice (some ⟨g, 0, none⟩) n cap) n (setsL xs o cs) ∧ w.grownBy (w.setCells g o cs) (some g)
  | [], _, w, _, h => ⟨h, World.grownBy.refl _ _⟩
  | v :: r, o, w, xs, h => by
    obtain ⟨h1, h2⟩ := h.stored o v
    obtain ⟨h3, h4⟩ := own_sets r (o + 1) _ _ h1
    exact ⟨h3, grown_trans h2 h4 (fun j hj => .inl hj)⟩
theorem own_short {w : World} {e : TypeId} {size B g n cap : Nat} {xs : List Value} (h : w.ownsRow B e size (.slice (some ⟨g, 0, none⟩) n cap) n xs) (k : Nat) (hk : k ≤ n) : w.ownsRow B e size (.slice (some ⟨g, 0, none⟩) k cap) k (xs.take (k * size)) := by
  obtain ⟨hl, ⟨hv, _⟩ | ⟨g', cap', cur, hv, hb, hg, hc, hm, hs, ht⟩⟩ := h
  · simp at hv
  · simp only [Value.slice.injEq, Option.some.injEq, Addr.mk.injEq, and_true, true_and] at hv
    obtain ⟨rfl, rfl⟩ := hv
    have hle : k * size ≤ n * size := Nat.mul_le_mul_right _ hk
    refine ⟨by rw [List.length_take, hl]; omega, .inr ⟨g, cap, cur, rfl, hb, hg, by omega, hm, hs, ?_⟩⟩
    rw [← ht, List.take_take, Nat.min_eq_left hle]
theorem own_range32 {w : World} {e : TypeId} {B g n cap : Nat} {ps : List (List UInt8)} (h : w.ownsRow B e 32 (.slice (some ⟨g, 0, none⟩) n cap) ps.length (ps.flatMap bv)) (h32 : ∀ p ∈ ps, p.length = 32) {k : Nat} {x : List UInt8} (hx : ps[k]? = some x) : w.rangeAt g (k * 32) (bv x) := fun j u hu => by
  have hk := (List.getElem?_eq_some_iff.1 hx).1
  have hj : j < 32 := by have := (List.getElem?_eq_some_iff.1 hu).1; rwa [bv_length, h32 x (List.mem_of_getElem? hx)] at this
  obtain ⟨g', c, hv, _⟩ := own_at h (by omega)
  simp only [Value.slice.injEq] at hv
  have hn := hv.2.1
  subst hn
  rw [h.cellAt _ (by omega), flat_at32 ps k j x h32 hx hj]
  exact hu
/-- The last two put together, as a store and a cut. -/
theorem merge1_set {α : Type} (node : α → α → α) : ∀ (l : List α) (x y : α), l[l.length - 2]? = some x → l[l.length - 1]? = some y → 2 ≤ l.length → merge1 node l = (l.set (l.length - 2) (node x y)).take (l.length - 1)
  | [], _, _, _, _, h => by simp at h
  | [_], _, _, _, _, h => by simp at h
  | [a, b], x, y, hx, hy, _ => by
    obtain rfl : a = x := by simpa using hx
    obtain rfl : b = y := by simpa using hy
    rfl
  | a :: b :: c :: r, x, y, hx, hy, _ => by
    have e2 : (a :: b :: c :: r).length - 2 = (b :: c :: r).length - 2 + 1 := by simp
    have e1 : (a :: b :: c :: r).length - 1 = (b :: c :: r).length - 1 + 1 := by simp
    rw [e2, List.getElem?_cons_succ] at hx; rw [e1, List.getElem?_cons_succ] at hy
    have := merge1_set node (b :: c :: r) x y hx hy (by simp)
    rw [e2, e1, List.set_cons_succ, List.take_succ_cons, ← this]
    rfl

theorem ctz_ones : ∀ (f i : Nat), i + 1 < 2 ^ f → Lib.ctzFrom f (2 ^ f - 1 - i) = tz1 i
  | 0, i, h => by simp at h
  | f + 1, i, h => by
    rw [Nat.pow_succ] at h ⊢
    unfold Lib.ctzFrom
    rcases Nat.mod_two_eq_zero_or_one i with h0 | h1
    · rw [if_pos (by omega), tz1_even i h0]
    · rw [if_neg (by omega), tz1_odd i h1, show (2 ^ f * 2 - 1 - i) / 2 = 2 ^ f - 1 - i / 2 by omega, ctz_ones f (i / 2) (by omega)]
theorem gives_store_mid {P : Program} {r : Nat → Value} {o : Oper} {w : World} {R : Value → World → Prop} (ty : TypeId) (x y : Operand) (ho : o.op = .store ty x y)
    (b off : Nat) (cs : List Value) (hx : rd r x = .pointer (some ⟨b, off, none⟩)) (hy : rd r y = .agg cs.toArray) (ht : w.there b off cs.length) (hi : (P.info? ty).map (·.size) = some cs.length) (h1 : ∀ v ∈ cs, v.oneCell' = true)
    (h : R undef (w.setCells b off cs)) : gives P r o w R := by
  have hrun := run_storeVar_mid (P := P) w b off ty cs.toArray (by simpa using ht) (by simpa using hi) (all_oneCell_toArray h1)
  unfold gives execOp
  simp only [ho, hx, hy, Instr.storeAt, Instr.sureAddr, Sem.run_bind, Sem.run_pure, Result.andThen_ok, hrun]
  exact h
theorem gives_load_mid {P : Program} {r : Nat → Value} {o : Oper} {w : World} {R : Value → World → Prop} (ty : TypeId) (x : Operand) (ho : o.op = .load ty x)
    (g off : Nat) (hx : rd r x = .pointer (some ⟨g, off, none⟩)) (cs : List Value) (d : TypeDesc) (hc : w.rangeAt g off cs)
    (hu : P.underlying ty = some d) (hd : d.isRow = true) (hi : (P.info? ty).map (·.size) = some cs.length)
    (h : R (.agg cs.toArray) w) : gives P r o w R := by
  unfold gives execOp
  simp only [ho, hx, Instr.loadAt, Instr.sureAddr, Sem.run_bind, Sem.run_pure, Result.andThen_ok, run_loadVar_mid w g off ty cs d hc hu hd hi]
  exact h
theorem own_there {w : World} {e : TypeId} {B g n cap o k : Nat} {xs : List Value} (h : w.ownsRow B e 32 (.slice (some ⟨g, 0, none⟩) n cap) n xs) (ho : o + k ≤ n * 32) : w.there g o k := fun j hj => by
  refine ⟨?_, h.frozenAt _⟩
  rw [h.cellAt _ (by omega), List.getElem?_eq_getElem (by rw [h.1]; omega)]; rfl
theorem merge1_32 (n : Int) : ∀ ps : List (List UInt8), (∀ p ∈ ps, p.length = 32) → ∀ p ∈ merge1 (nodeH n) ps, p.length = 32
  | [], _, p, hp => by simp [merge1] at hp
  | [x], h, p, hp => h p hp
  | [x, y], _, p, hp => by simp [merge1] at hp; subst hp; exact nodeH_length _ _ _
  | x :: y :: z :: r, h, p, hp => by
    rw [merge1, List.mem_cons] at hp
    rcases hp with rfl | hp
    · exact h p (by simp)
    · exact merge1_32 n (y :: z :: r) (fun q hq => h q (by simp at hq ⊢; right; exact hq)) p hp
theorem foldT_32 (n : Int) : ∀ (t : Nat) (ps : List (List UInt8)), (∀ p ∈ ps, p.length = 32) → ∀ p ∈ foldT (nodeH n) t ps, p.length = 32
  | 0, _, h => h
  | t + 1, ps, h => foldT_32 n t _ (merge1_32 n ps h)
theorem Tabs.keepAt {w w' : World} {B : Nat} (h : Tabs w) (k : Below B w w') (hB : 3 ≤ B) : Tabs w' where
  begin j hj := (k.cell (p := ⟨1, j, none⟩) (by show 1 < B; omega)).trans (h.begin j hj)
  round j hj := (k.cell (p := ⟨2, j, none⟩) (by show 2 < B; omega)).trans (h.round j hj)
end Go.Proofs.YtdjmebfjanophaaDoor
