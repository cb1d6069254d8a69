import Derived.Test.YtdociiogddihfaaEdgeRef
import Derived.Deep.DeepCutAuto
import Derived.Test.YtdociiogddihfaaTw
import Derived.Test.YtdociiogddihfaaEdgePut
import Derived.Recover
import Derived.Orders
/- Cut out of XEdgeBytes. -/
namespace Go.Proofs.Ytdociiogddihfaa
open Go.ChangeShapes Go.WideShapes Go.ChangeAt Go.RowKit

theorem canB_ok (x : Nat) : fnan (canB x) = false ∨ canB x = 9221120237041090560 := by
  unfold canB
  cases h : fnan x with
  | true => exact .inr rfl
  | false => exact .inl h
theorem canB_of (x : Nat) (h : fnan x = false ∨ x = 9221120237041090560) : canB x = x := by
  unfold canB
  rcases h with h | rfl
  · rw [h]; rfl
  · rfl
theorem getP_cases (l : List UInt8) : ((getP l).2 ≠ 0 ∧ (getP l).1 = 0) ∨ ((getP l).2 = 0 ∧ canB (getP l).1 = (getP l).1 ∧ be 8 (getP l).1 = l) := by
  unfold getP
  by_cases h1 : l.length < 8
  · rw [if_pos h1]; exact .inl ⟨by decide, rfl⟩
  · rw [if_neg h1]
    by_cases h2 : 8 < l.length
    · rw [if_pos h2]; exact .inl ⟨by decide, rfl⟩
    · rw [if_neg h2]
      by_cases h3 : fnan (vl l) = false ∨ vl l = 9221120237041090560
      · rw [if_pos h3]
        refine .inr ⟨rfl, canB_of _ h3, ?_⟩
        have := be_vl l
        rw [show l.length = 8 by omega] at this
        exact this
      · rw [if_neg h3]; exact .inl ⟨by decide, rfl⟩
theorem getP_be (c : Nat) (hc : c < 18446744073709551616) (h : fnan c = false ∨ c = 9221120237041090560) : getP (be 8 c) = (c, 0) := by
  rw [getP_eight _ (be_length _ _), vl_be, Nat.mod_eq_of_lt (by exact hc), if_pos h]

end Go.Proofs.Ytdociiogddihfaa

/- How bytes are read as numbers: plain laws. -/
namespace Go.Proofs.Ytdociiogddihfaa

/-- The bytes of a number that are still to come: the error, the number, the rest. -/
def rdK : Nat → Nat → Nat → List UInt8 → Int × Nat × List UInt8
  | 0, _, acc, l => (0, acc, l)
  | _ + 1, _, _, [] => (2, 0, [])
  | k + 1, i, acc, c :: t => if i = 0 ∧ c.toNat = 0 then (3, 0, t) else rdK k (i + 1) (acc * 256 + c.toNat) t
/-- A number, its length ahead. -/
def rdN : List UInt8 → Int × Nat × List UInt8
  | [] => (2, 0, [])
  | c :: t => if 8 < c.toNat then (3, 0, t) else rdK c.toNat 0 0 t
theorem rdK_ok : ∀ (k i acc : Nat) (l : List UInt8) (v : Nat) (t : List UInt8), rdK k i acc l = (0, v, t) → ∃ bs, l = bs ++ t ∧ bs.length = k ∧ v = acc * 256 ^ k + vl bs ∧ (i = 0 → ∀ c r, bs = c :: r → c.toNat ≠ 0)
  | 0, i, acc, l, v, t, h => by
    simp only [rdK, Prod.mk.injEq, true_and] at h
    exact ⟨[], by simp [h.2], rfl, by simp [vl, h.1], fun _ c r e => by cases e⟩
  | k + 1, i, acc, [], v, t, h => by simp [rdK] at h
  | k + 1, i, acc, c :: l, v, t, h => by
    rw [rdK] at h
    split at h
    · simp at h
    · rename_i hc
      obtain ⟨bs, h1, h2, h3, _⟩ := rdK_ok k (i + 1) _ l v t h
      refine ⟨c :: bs, by rw [h1]; rfl, by rw [List.length_cons, h2], ?_, fun hi d r e => ?_⟩
      · rw [h3, vl, h2, Nat.pow_succ, Nat.add_mul, Nat.mul_assoc, Nat.mul_comm 256 (256 ^ k), Nat.add_assoc]
      · simp only [List.cons.injEq] at e
        rw [← e.1]
        exact fun h0 => hc ⟨hi, h0⟩
theorem rdK_of : ∀ (bs : List UInt8) (i acc : Nat) (t : List UInt8), (i = 0 → ∀ c r, bs = c :: r → c.toNat ≠ 0) → rdK bs.length i acc (bs ++ t) = (0, acc * 256 ^ bs.length + vl bs, t)
  | [], i, acc, t, _ => by simp [rdK, vl]
  | c :: bs, i, acc, t, h => by
    rw [List.length_cons, List.cons_append, rdK, if_neg (fun hc => h hc.1 c bs rfl hc.2), rdK_of bs (i + 1) _ t (fun h => by omega), vl, Nat.pow_succ, Nat.add_mul, Nat.mul_assoc, Nat.mul_comm 256 (256 ^ bs.length), Nat.add_assoc]
theorem vl_ge (c : UInt8) (r : List UInt8) (h : c.toNat ≠ 0) : 256 ^ r.length ≤ vl (c :: r) := by
  rw [vl]
  have : 1 * 256 ^ r.length ≤ c.toNat * 256 ^ r.length := Nat.mul_le_mul_right _ (by omega)
  omega
theorem nk_vl (bs : List UInt8) (h8 : bs.length ≤ 8) (h : ∀ c r, bs = c :: r → c.toNat ≠ 0) : nk (vl bs) = bs.length ∧ vl bs < 2 ^ 64 := by
  have hlt := vl_lt bs
  have h64 : vl bs < 2 ^ 64 := by
    have : 256 ^ bs.length ≤ 256 ^ 8 := Nat.pow_le_pow_right (by omega) h8
    have e : (256 : Nat) ^ 8 = 2 ^ 64 := by decide
    omega
  refine ⟨?_, h64⟩
  cases bs with
  | nil => simp [vl, nk_zero]
  | cons c r =>
    have hge := vl_ge c r (h c r rfl)
    have hp : 0 < 256 ^ r.length := Nat.pow_pos (by omega)
    have h1 := lt_nk _ h64
    have h2 := nk_ge _ (by omega) h64
    rw [List.length_cons] at hlt ⊢
    rcases Nat.lt_trichotomy (nk (vl (c :: r))) (r.length + 1) with h3 | h3 | h3
    · have : 256 ^ nk (vl (c :: r)) ≤ 256 ^ r.length := Nat.pow_le_pow_right (by omega) (by omega)
      omega
    · exact h3
    · have : 256 ^ (r.length + 1) ≤ 256 ^ (nk (vl (c :: r)) - 1) := Nat.pow_le_pow_right (by omega) (by omega)
      omega
/-- What is read is the number's own bytes. -/
theorem rdN_ok (l : List UInt8) (v : Nat) (t : List UInt8) (h : rdN l = (0, v, t)) : v < 2 ^ 64 ∧ l = numB v ++ t := by
  cases l with
  | nil => simp [rdN] at h
  | cons c s =>
    rw [rdN] at h
    split at h
    · simp at h
    · rename_i h8
      obtain ⟨bs, h1, h2, h3, h4⟩ := rdK_ok _ _ _ _ _ _ h
      rw [Nat.zero_mul, Nat.zero_add] at h3
      obtain ⟨h5, h6⟩ := nk_vl bs (by omega) (h4 rfl)
      rw [h3]
      refine ⟨h6, ?_⟩
      rw [numB, h5, be_vl, h1, h2]
      simp
/-- A number's bytes are read as it. -/
theorem rdN_numB (v : Nat) (t : List UInt8) (h : v < 2 ^ 64) : rdN (numB v ++ t) = (0, v, t) := by
  have hk := nk_le v h
  have hl : (be (nk v) v).length = nk v := be_length _ _
  have hf : ∀ c r, be (nk v) v = c :: r → c.toNat ≠ 0 := fun c r e h0 => by
    have hv := vl_numB v h
    rw [e, vl, h0, Nat.zero_mul, Nat.zero_add] at hv
    have hr : r.length + 1 = nk v := by rw [← hl, e]; rfl
    have h1 := vl_lt r
    have hpos : 0 < v := by
      rcases Nat.eq_zero_or_pos v with h2 | h2
      · rw [h2, nk_zero] at hr; omega
      · exact h2
    have h2 := nk_ge v hpos h
    rw [← hr, Nat.add_sub_cancel] at h2
    omega
  rw [numB, List.cons_append, rdN, u8_nat _ (by omega), if_neg (by omega)]
  have := rdK_of (be (nk v) v) 0 0 t (fun _ => hf)
  rw [hl, vl_numB v h, Nat.zero_mul, Nat.zero_add] at this
  exact this
end Go.Proofs.Ytdociiogddihfaa

/- A region that draws its order, in a deferred function that recovers. -/
namespace Go.Proofs.Ytdociiogddihfaa

section
variable {P : Program} {Q : Exit → Act → List Frame → World → Prop} {ops : Array Oper} {md : Region.Mode}
/-- One operation, where recover may come. -/
def wpOp1 (P : Program) (ops : Array Oper) (Q : Exit → Act → List Frame → World → Prop) (i : Nat) (K : Act → List Frame → World → Prop) (a : Act) (cs : List Frame) (w : World) : Prop :=
  match ops[i]? with
  | none => K a cs w
  | some o =>
    if Region.wanted o (yielded ops a.tmps) then
      match (execOp a.eval o).run P w with
      | .ok .recover w' =>
        match recoverD cs with
        | some (v, cs') => K (a.put o.dst v) cs' w'
        | none => K (a.put o.dst .nilIface) cs w'
      | r => o.upon P a (fun a' w' => K a' cs w') (fun e a' w' => Q e a' cs w') r
    else K (a.put o.dst undef) cs w
theorem wpOpsS_cons {i : Nat} {l : List Nat} {a : Act} {cs : List Frame} {w : World} : wpOpsS P ops Q (i :: l) a cs w = wpOp1 P ops Q i (wpOpsS P ops Q l) a cs w := by
  unfold wpOp1
  rw [wpOpsS]
  cases ops[i]? <;> rfl
theorem upon_mono {o : Oper} {a : Act} {K K' : Act → World → Prop} {E : Exit → Act → World → Prop} (h : ∀ a w, K a w → K' a w) {r : Result Next} (hh : o.upon P a K E r) : o.upon P a K' E r := by
  cases r with
  | ok n w' =>
    cases n <;> simp only [Oper.upon] at hh ⊢ <;>
      first
        | exact h _ _ hh
        | exact Calls.mono hh (fun e w'' he => by cases e <;> first | exact h _ _ he | exact he)
        | exact Rows.mono hh (fun _ _ he => h _ _ he)
  | halt x w' => cases x <;> simp only [Oper.upon] at hh ⊢ <;> exact hh
theorem wpOp1_mono {i : Nat} {K K' : Act → List Frame → World → Prop} (h : ∀ a cs w, K a cs w → K' a cs w) {a : Act} {cs : List Frame} {w : World} (hh : wpOp1 P ops Q i K a cs w) : wpOp1 P ops Q i K' a cs w := by
  unfold wpOp1 at *
  split
  · rename_i ho; simp only [ho] at hh; exact h _ _ _ hh
  · rename_i o ho
    simp only [ho] at hh
    split
    · rename_i hw
      simp only [hw, if_true] at hh
      split
      · rename_i w' hr
        simp only [hr] at hh
        split
        · rename_i v cs' hc; simp only [hc] at hh; exact h _ _ _ hh
        · rename_i hc; simp only [hc] at hh; exact h _ _ _ hh
      · rename_i r hr
        split at hh
        · rename_i w' hr2; exact absurd hr2 (hr w')
        · exact upon_mono (fun a w => h a cs w) hh
    · rename_i hw; simp only [hw] at hh; exact h _ _ _ hh
/-- Whatever order the edges allow. -/
def wpAnyR (P : Program) (md : Region.Mode) (ops : Array Oper) (Q : Exit → Act → List Frame → World → Prop) : Nat → Array Bool → Act → List Frame → World → Prop
  | 0, listed, a, cs, w => Region.ready md ops listed = [] ∧ Q .normal a cs w
  | fuel + 1, listed, a, cs, w =>
    (Region.ready md ops listed = [] → Q .normal a cs w) ∧
    ∀ i ∈ Region.ready md ops listed, wpOp1 P ops Q i (wpAnyR P md ops Q fuel (listed.setIfInBounds i true)) a cs w
theorem wpAnyR_at {fuel : Nat} {listed : Array Bool} {L : List Nat} {a : Act} {cs : List Frame} {w : World} (hr : Region.ready md ops listed = L) (hne : L ≠ []) (h : ∀ i ∈ L, wpOp1 P ops Q i (wpAnyR P md ops Q fuel (listed.setIfInBounds i true)) a cs w) : wpAnyR P md ops Q (fuel + 1) listed a cs w :=
  ⟨fun e => absurd (hr.symm.trans e) hne, fun i hi => h i (hr ▸ hi)⟩
theorem wpAnyR_end {fuel : Nat} {listed : Array Bool} {a : Act} {cs : List Frame} {w : World} (hr : Region.ready md ops listed = []) (h : Q .normal a cs w) : wpAnyR P md ops Q fuel listed a cs w := by
  cases fuel with
  | zero => exact ⟨hr, h⟩
  | succ f => exact ⟨fun _ => h, fun i hi => by rw [hr] at hi; cases hi⟩
theorem wpAnyR_sound : ∀ (fuel t : Nat) (listed : Array Bool) (a : Act) (cs : List Frame) (w : World), wpAnyR P md ops Q fuel listed a cs w →
    wpOpsS P ops Q (Region.linearise.go md ops fuel t listed []) a cs w := by
  intro fuel
  induction fuel with
  | zero => intro t listed a cs w h; simpa [Region.linearise.go, wpOpsS] using h.2
  | succ fuel ih =>
    intro t listed a cs w h
    obtain ⟨h₀, h₁⟩ := h
    simp only [Region.linearise.go]
    change wpOpsS P ops Q (match (Region.ready md ops listed)[t % (Region.ready md ops listed).length]? with
      | some i => Region.linearise.go md ops fuel (t / (Region.ready md ops listed).length) (listed.setIfInBounds i true) [i]
      | none => [].reverse) a cs w
    cases hi : (Region.ready md ops listed)[t % (Region.ready md ops listed).length]? with
    | none =>
      have hnil : Region.ready md ops listed = [] := by
        cases hr : Region.ready md ops listed with
        | nil => rfl
        | cons x xs =>
          rw [hr] at hi
          have hlt : t % (x :: xs).length < (x :: xs).length := Nat.mod_lt _ (by simp)
          simp at hi
          simp at hlt
          omega
      simpa [wpOpsS] using h₀ hnil
    | some i =>
      simp only []
      rw [linearise_go_acc, List.reverse_singleton, List.singleton_append, wpOpsS_cons]
      exact wpOp1_mono (fun a cs w => ih _ _ a cs w) (h₁ i (List.mem_of_getElem? hi))
theorem wpS_region_any {id : Nat} {a : Act} {cs : List Frame} {w : World} (hm : P.follows .mixedOrders = true)
    (h : wpAnyR P .any ops Q ops.size (Array.replicate ops.size false) a cs { w with drawn := w.drawn + 1 }) : (Code.region id ops true).wpS P Q a cs w := by
  intro b k hb hr
  have hs := step_region_draw (P := P) (b := b) (a := a) (k := k) (cs := cs) (w := w) (ops := ops) (id := id)
  have hl : wpOpsS P ops Q (Region.schedule (P.follows .mixedOrders) ops (w.tape w.drawn (.order b.fn id))) a cs { w with drawn := w.drawn + 1 } := by
    simp only [Region.schedule, hm, Bool.true_or, if_true]
    exact wpAnyR_sound (P := P) ops.size (w.tape w.drawn (.order b.fn id)) _ a cs _ h
  obtain ⟨e, a', cs', w', q, r⟩ := wp_opsS _ a cs _ hl b k hb hr
  exact ⟨e, a', cs', w', q, .of_steps (.one hs) r⟩
end
end Go.Proofs.Ytdociiogddihfaa
