/- A region that draws its order, in a deferred function that recovers. -/
import Derived.Recover
import Derived.Orders
namespace Go.Proofs.YtfibhmgjkooemaaDoor

section
variable {P : Program} {Q : Exit → Act → List Frame → World → Prop} {ops : Array Oper} {md : Region.Mode}
/-- One operation, where recover may come. -/
def wpOp1 (P : Program) (ops : Array Oper) (Q : Exit → Act → List Frame → World → Prop) (i : Nat) (K : Act → List Frame → World → Prop) (a : Act) (cs : List Frame) (w : World) : Prop :=
  match ops[i]? with
  | none => K a cs w
  | some o =>
    if Region.wanted o (yielded ops a.tmps) then
      match (execOp a.eval o).run P w with
      | .ok .recover w' =>
        match recoverD cs with
        | some (v, cs') => K (a.put o.dst v) cs' w'
        | none => K (a.put o.dst .nilIface) cs w'
      | r => o.upon P a (fun a' w' => K a' cs w') (fun e a' w' => Q e a' cs w') r
    else K (a.put o.dst undef) cs w
theorem wpOpsS_cons {i : Nat} {l : List Nat} {a : Act} {cs : List Frame} {w : World} : wpOpsS P ops Q (i :: l) a cs w = wpOp1 P ops Q i (wpOpsS P ops Q l) a cs w := by
  unfold wpOp1
  rw [wpOpsS]
  cases ops[i]? <;> rfl
theorem upon_mono {o : Oper} {a : Act} {K K' : Act → World → Prop} {E : Exit → Act → World → Prop} (h : ∀ a w, K a w → K' a w) {r : Result Next} (hh : o.upon P a K E r) : o.upon P a K' E r := by
  cases r with
  | ok n w' =>
    cases n <;> simp only [Oper.upon] at hh ⊢ <;>
      first
        | exact h _ _ hh
        | exact Calls.mono hh (fun e w'' he => by cases e <;> first | exact h _ _ he | exact he)
        | exact Rows.mono hh (fun _ _ he => h _ _ he)
  | halt x w' => cases x <;> simp only [Oper.upon] at hh ⊢ <;> exact hh
theorem wpOp1_mono {i : Nat} {K K' : Act → List Frame → World → Prop} (h : ∀ a cs w, K a cs w → K' a cs w) {a : Act} {cs : List Frame} {w : World} (hh : wpOp1 P ops Q i K a cs w) : wpOp1 P ops Q i K' a cs w := by
  unfold wpOp1 at *
  split
  · rename_i ho; simp only [ho] at hh; exact h _ _ _ hh
  · rename_i o ho
    simp only [ho] at hh
    split
    · rename_i hw
      simp only [hw, if_true] at hh
      split
      · rename_i w' hr
        simp only [hr] at hh
        split
        · rename_i v cs' hc; simp only [hc] at hh; exact h _ _ _ hh
        · rename_i hc; simp only [hc] at hh; exact h _ _ _ hh
      · rename_i r hr
        split at hh
        · rename_i w' hr2; exact absurd hr2 (hr w')
        · exact upon_mono (fun a w => h a cs w) hh
    · rename_i hw; simp only [hw] at hh; exact h _ _ _ hh
/-- Whatever order the edges allow. -/
def wpAnyR (P : Program) (md : Region.Mode) (ops : Array Oper) (Q : Exit → Act → List Frame → World → Prop) : Nat → Array Bool → Act → List Frame → World → Prop
  | 0, listed, a, cs, w => Region.ready md ops listed = [] ∧ Q .normal a cs w
  | fuel + 1, listed, a, cs, w =>
    (Region.ready md ops listed = [] → Q .normal a cs w) ∧
    ∀ i ∈ Region.ready md ops listed, wpOp1 P ops Q i (wpAnyR P md ops Q fuel (listed.setIfInBounds i true)) a cs w
theorem wpAnyR_at {fuel : Nat} {listed : Array Bool} {L : List Nat} {a : Act} {cs : List Frame} {w : World} (hr : Region.ready md ops listed = L) (hne : L ≠ []) (h : ∀ i ∈ L, wpOp1 P ops Q i (wpAnyR P md ops Q fuel (listed.setIfInBounds i true)) a cs w) : wpAnyR P md ops Q (fuel + 1) listed a cs w :=
  ⟨fun e => absurd (hr.symm.trans e) hne, fun i hi => h i (hr ▸ hi)⟩
theorem wpAnyR_end {fuel : Nat} {listed : Array Bool} {a : Act} {cs : List Frame} {w : World} (hr : Region.ready md ops listed = []) (h : Q .normal a cs w) : wpAnyR P md ops Q fuel listed a cs w := by
  cases fuel with
  | zero => exact ⟨hr, h⟩
  | succ f => exact ⟨fun _ => h, fun i hi => by rw [hr] at hi; cases hi⟩
theorem wpAnyR_sound : ∀ (fuel t : Nat) (listed : Array Bool) (a : Act) (cs : List Frame) (w : World), wpAnyR P md ops Q fuel listed a cs w →
    wpOpsS P ops Q (Region.linearise.go md ops fuel t listed []) a cs w := by
  intro fuel
  induction fuel with
  | zero => intro t listed a cs w h; simpa [Region.linearise.go, wpOpsS] using h.2
  | succ fuel ih =>
    intro t listed a cs w h
    obtain ⟨h₀, h₁⟩ := h
    simp only [Region.linearise.go]
    change wpOpsS P ops Q (match (Region.ready md ops listed)[t % (Region.ready md ops listed).length]? with
      | some i => Region.linearise.go md ops fuel (t / (Region.ready md ops listed).length) (listed.setIfInBounds i true) [i]
      | none => [].reverse) a cs w
    cases hi : (Region.ready md ops listed)[t % (Region.ready md ops listed).length]? with
    | none =>
      have hnil : Region.ready md ops listed = [] := by
        cases hr : Region.ready md ops listed with
        | nil => rfl
        | cons x xs =>
          rw [hr] at hi
          have hlt : t % (x :: xs).length < (x :: xs).length := Nat.mod_lt _ (by simp)
          simp at hi
          simp at hlt
          omega
      simpa [wpOpsS] using h₀ hnil
    | some i =>
      simp only []
      rw [linearise_go_acc, List.reverse_singleton, List.singleton_append, wpOpsS_cons]
      exact wpOp1_mono (fun a cs w => ih _ _ a cs w) (h₁ i (List.mem_of_getElem? hi))
theorem wpS_region_any {id : Nat} {a : Act} {cs : List Frame} {w : World} (hm : P.follows .mixedOrders = true)
    (h : wpAnyR P .any ops Q ops.size (Array.replicate ops.size false) a cs { w with drawn := w.drawn + 1 }) : (Code.region id ops true).wpS P Q a cs w := by
  intro b k hb hr
  have hs := step_region_draw (P := P) (b := b) (a := a) (k := k) (cs := cs) (w := w) (ops := ops) (id := id)
  have hl : wpOpsS P ops Q (Region.schedule (P.follows .mixedOrders) ops (w.tape w.drawn (.order b.fn id))) a cs { w with drawn := w.drawn + 1 } := by
    simp only [Region.schedule, hm, Bool.true_or, if_true]
    exact wpAnyR_sound (P := P) ops.size (w.tape w.drawn (.order b.fn id)) _ a cs _ h
  obtain ⟨e, a', cs', w', q, r⟩ := wp_opsS _ a cs _ hl b k hb hr
  exact ⟨e, a', cs', w', q, .of_steps (.one hs) r⟩
end
end Go.Proofs.YtfibhmgjkooemaaDoor
