/- A region that draws its order, by facts: each operation is walked once, from the facts of those that it waits for; what holds of an operation's value stays true whatever comes between. -/
import Derived.Test.YtdociiogddihfaaBase
import Derived.Orders
import Derived.RegionTactic
namespace Go.Proofs.Ytdociiogddihfaa

/-- What an operand reads, the slots being r. -/
def rd (r : Nat → Value) : Operand → Value
  | .tmp t => r t
  | .const v => v
  | .global g => .pointer (some ⟨g, 0, none⟩)
  | .func f => .func (.func f) #[] #[]

def slots (a : Act) : Nat → Value := fun s => a.tmps.getD s undef
theorem eval_rd (a : Act) : a.eval = rd (slots a) := by
  funext x; cases x <;> rfl

/-- One operation: it yields a value of which R holds in the world behind it. -/
def givesUpon (P : Program) (R : Value → World → Prop) : Result Next → Prop
  | .ok (.value v) w' => R v w'
  | .ok .skip w' => R undef w'
  | .ok (.enter f args) w' => Calls P f args w' fun e w'' => ∃ v, e = .returned v ∧ R v w''
  | _ => False

def gives (P : Program) (r : Nat → Value) (o : Oper) (w : World) (R : Value → World → Prop) : Prop := givesUpon P R ((execOp (rd r) o).run P w)

theorem wp_of_gives {P : Program} {o : Oper} {a : Act} {w : World} {R : Value → World → Prop} {K : Act → World → Prop} {Q : Exit → Act → World → Prop}
    (h : gives P (slots a) o w R) (hk : ∀ v w', R v w' → K (a.put o.dst v) w') : o.wp P a w K Q := by
  unfold gives at h
  unfold Oper.wp
  rw [eval_rd]
  generalize (execOp (rd (slots a)) o).run P w = x at *
  cases x with
  | ok n w' =>
    cases n <;> simp only [givesUpon] at h <;> simp only [Oper.upon]
    case value v => exact hk _ _ h
    case skip => exact hk _ _ h
    case enter f args => exact Calls.mono h fun e w'' ⟨v, he, hr⟩ => by subst he; exact hk _ _ hr
  | halt x w' => simp only [givesUpon] at h

/-- The slot that operation i writes. -/
def dstOf (l : List Oper) (i : Nat) : Option Nat := (l[i]?).bind (·.dst)
def valOf (l : List Oper) (r : Nat → Value) (i : Nat) : Value := match dstOf l i with | some d => r d | none => undef
def ydOf (l : List Oper) (r : Nat → Value) (j : Nat) : Option Bool := match valOf l r j with | .bool b => some b | _ => none
def dsts (l : List Oper) : List Nat := l.filterMap (·.dst)
def fill (t : Array Value) : List Oper → Nat → (Nat → Value) → Array Value
  | [], _, _ => t
  | o :: l, k, u => fill (match o.dst with | some d => t.setIfInBounds d (u k) | none => t) l (k + 1) u

/-- The region's form: each slot is written once, each edge leads back. -/
def factsB (n : Nat) (l : List Oper) : Bool :=
  (dsts l).all (· < n) && decide (dsts l).Nodup && (List.range l.length).all fun i => ((l[i]?).map fun o => o.after.all fun e => !Region.binds .any e || decide (e.on < i)).getD true

/-- Does the edge hand something on (all but the edges that only hold the assignments back)? -/
def hands (e : Edge) : Bool := Region.binds .any e && (match e.ground with | .phase => false | _ => true)
/-- Who waits for operation i, to use what it has made. -/
def usesAll (l : List Oper) (i : Nat) : List Nat := (List.range l.length).filter fun c => ((l[c]?).map fun o => o.after.any fun e => hands e && e.on == i).getD false
/-- Is it an assignment that others wait for by order alone? -/
def asgB (l : List Oper) (i : Nat) : Bool := ((l[i]?).map fun o => match o.op with | .assign _ => true | .store _ _ _ => true | _ => false).getD false && l.all fun o => o.after.all fun e => !(hands e && e.on == i) || (match e.ground with | .chain => true | _ => false)
/-- Who waits for operation i, to use what it has made; what is assigned stays. -/
def uses (l : List Oper) (i : Nat) : List Nat := if asgB l i then [] else usesAll l i
/-- Does operation j wait for operation c, over so many edges? -/
def waits (l : List Oper) : Nat → Nat → Nat → Bool
  | 0, _, _ => false
  | f + 1, j, c => ((l[j]?).map fun o => o.after.any fun e => Region.binds .any e && (e.on == c || waits l f e.on c)).getD false
/-- When j comes up: is i behind it, or used up by then? -/
def goneB (l : List Oper) (i j : Nat) : Bool := i == j || waits l l.length i j || (!(uses l i).isEmpty && (uses l i).all fun c => c == j || waits l l.length j c)

theorem yielded_yd (l : List Oper) (a : Act) (j : Nat) : yielded l.toArray a.tmps j = ydOf l (slots a) j := by
  unfold yielded ydOf valOf dstOf slots
  simp only [List.getElem?_toArray]
  cases h : (l[j]?).bind (·.dst) with
  | none => rfl
  | some d =>
    simp only [Option.bind_some, Array.getD_eq_getD_getElem?]
    cases h2 : a.tmps[d]? with
    | none => simp; rfl
    | some v => cases v <;> simp

theorem mem_dsts {l : List Oper} {i : Nat} {d : Nat} (h : dstOf l i = some d) : d ∈ dsts l := by
  unfold dstOf at h
  cases h2 : l[i]? with
  | none => simp [h2] at h
  | some o =>
    simp [h2] at h
    exact List.mem_filterMap.2 ⟨o, List.mem_of_getElem? h2, h⟩

theorem dst_inj : ∀ {l : List Oper} {i j : Nat} {d : Nat}, (dsts l).Nodup → dstOf l i = some d → dstOf l j = some d → i = j
  | [], i, _, _, _, h, _ => by simp [dstOf] at h
  | o :: l, 0, 0, _, _, _, _ => rfl
  | o :: l, i + 1, j + 1, d, hn, hi, hj => by
    have hn' : (dsts l).Nodup := by
      unfold dsts at hn ⊢
      rw [List.filterMap_cons] at hn
      cases ho : o.dst with
      | none => simpa [ho] using hn
      | some e => rw [ho] at hn; exact (List.nodup_cons.1 hn).2
    rw [dst_inj hn' (i := i) (j := j) (by simpa [dstOf] using hi) (by simpa [dstOf] using hj)]
  | o :: l, 0, j + 1, d, hn, hi, hj => by
    have ho : o.dst = some d := by simpa [dstOf] using hi
    have hm : d ∈ dsts l := mem_dsts (i := j) (by simpa [dstOf] using hj)
    unfold dsts at hn hm
    rw [List.filterMap_cons, ho] at hn
    exact absurd hm (List.nodup_cons.1 hn).1
  | o :: l, i + 1, 0, d, hn, hi, hj => by
    have ho : o.dst = some d := by simpa [dstOf] using hj
    have hm : d ∈ dsts l := mem_dsts (i := i) (by simpa [dstOf] using hi)
    unfold dsts at hn hm
    rw [List.filterMap_cons, ho] at hn
    exact absurd hm (List.nodup_cons.1 hn).1

theorem fill_other : ∀ (l : List Oper) (t : Array Value) (k : Nat) (u : Nat → Value) (s : Nat), s ∉ dsts l → (fill t l k u)[s]? = t[s]?
  | [], _, _, _, _, _ => rfl
  | o :: l, t, k, u, s, h => by
    rw [fill]
    cases ho : o.dst with
    | none =>
      rw [fill_other l _ _ _ _ (by simpa [dsts, List.filterMap_cons, ho] using h)]
    | some d =>
      have h' : s ≠ d ∧ s ∉ dsts l := by simpa [dsts, List.filterMap_cons, ho] using h
      rw [fill_other l _ _ _ _ h'.2]
      simp [Array.getElem?_setIfInBounds_ne (Ne.symm h'.1)]

theorem fill_at : ∀ (l : List Oper) (t : Array Value) (k : Nat) (u : Nat → Value) (i d : Nat), (dsts l).Nodup → dstOf l i = some d → d < t.size → (fill t l k u)[d]? = some (u (k + i))
  | [], _, _, _, i, d, _, h, _ => by simp [dstOf] at h
  | o :: l, t, k, u, 0, d, hn, h, hd => by
    have ho : o.dst = some d := by simpa [dstOf] using h
    rw [fill, ho]
    unfold dsts at hn
    rw [List.filterMap_cons, ho] at hn
    rw [fill_other l _ _ _ _ (List.nodup_cons.1 hn).1]
    simp [hd]
  | o :: l, t, k, u, i + 1, d, hn, h, hd => by
    rw [fill]
    have hn' : (dsts l).Nodup := by
      unfold dsts at hn ⊢
      rw [List.filterMap_cons] at hn
      cases ho : o.dst with
      | none => simpa [ho] using hn
      | some e => rw [ho] at hn; exact (List.nodup_cons.1 hn).2
    rw [fill_at l _ _ _ i d hn' (by simpa [dstOf] using h) (by cases o.dst <;> simpa using hd)]
    congr 2
    omega

theorem count_list : ∀ (l : List Bool) (i : Nat), l[i]? = some false → ((l.set i true).filter (!·)).length + 1 = (l.filter (!·)).length
  | [], _, h => by simp at h
  | b :: l, 0, h => by simp at h; subst h; simp
  | b :: l, i + 1, h => by
    have := count_list l i (by simpa using h)
    cases b <;> simp at * <;> omega
theorem count_set (x : Array Bool) (i : Nat) (h : x[i]? = some false) : ((x.setIfInBounds i true).toList.filter (!·)).length + 1 = (x.toList.filter (!·)).length := by
  rw [Array.toList_setIfInBounds]
  exact count_list _ _ (by simpa using h)

section
variable {P : Program} {id : Nat} {Q : Exit → Act → World → Prop} {t0 : Array Value} {df : List Deferred} {w : World} {l : List Oper}

/-- Is operation i listed, and something that uses it still to come (or nothing uses it)? -/
def alive (l : List Oper) (listed : Array Bool) (i : Nat) : Prop := listed[i]? = some true ∧ (uses l i = [] ∨ ∃ c ∈ uses l i, listed[c]? = some false)

/-- What holds on the way: the operations that have come up, and are not used up, have their facts. -/
structure OnWay (l : List Oper) (F : Nat → (Nat → Value) → World → Prop) (G : World → Prop) (q : Nat) (Gq : World → Prop) (t0 : Array Value) (df : List Deferred) (listed : Array Bool) (a : Act) (w : World) : Prop where
  size : listed.size = l.length
  closed : ∀ (j : Nat) (o : Oper), listed[j]? = some true → l[j]? = some o → ∀ e ∈ o.after, Region.binds .any e = true → listed[e.on]? = some true
  g : G w
  gq : listed[q]? ≠ some true → Gq w
  df : a.defers = df
  tsize : a.tmps.size = t0.size
  keep : ∀ s : Nat, (∀ j, dstOf l j = some s → listed[j]? ≠ some true) → a.tmps[s]? = t0[s]?
  fact : ∀ i : Nat, alive l listed i → F i (valOf l (slots a)) w
/-- One value anew. -/
def updV (u : Nat → Value) (i : Nat) (v : Value) : Nat → Value := fun m => if m = i then v else u m

theorem waits_listed {listed : Array Bool} (hc : ∀ (j : Nat) (o : Oper), listed[j]? = some true → l[j]? = some o → ∀ e ∈ o.after, Region.binds .any e = true → listed[e.on]? = some true) :
    ∀ (f j c : Nat), listed[j]? = some true → waits l f j c = true → listed[c]? = some true
  | 0, _, _, _, h => by simp [waits] at h
  | f + 1, j, c, hj, h => by
    unfold waits at h
    cases ho : l[j]? with
    | none => simp [ho] at h
    | some o =>
      simp only [ho, Option.map_some, Option.getD_some, Array.any_eq_true', Bool.and_eq_true, Bool.or_eq_true, beq_iff_eq] at h
      obtain ⟨e, he, hb, h1⟩ := h
      have h2 := hc j o hj ho e he hb
      rcases h1 with h1 | h1
      · rw [← h1]; exact h2
      · exact waits_listed hc f e.on c h2 h1
theorem waits_ready {listed : Array Bool} (hc : ∀ (j : Nat) (o : Oper), listed[j]? = some true → l[j]? = some o → ∀ e ∈ o.after, Region.binds .any e = true → listed[e.on]? = some true) {j c : Nat} {o : Oper} (ho : l[j]? = some o)
    (hpre : ∀ e ∈ o.after, Region.binds .any e = true → listed[e.on]? = some true) (f : Nat) (h : waits l f j c = true) : listed[c]? = some true := by
  cases f with
  | zero => simp [waits] at h
  | succ f =>
    unfold waits at h
    simp only [ho, Option.map_some, Option.getD_some, Array.any_eq_true', Bool.and_eq_true, Bool.or_eq_true, beq_iff_eq] at h
    obtain ⟨e, he, hb, h1⟩ := h
    have h2 := hpre e he hb
    rcases h1 with h1 | h1
    · rw [← h1]; exact h2
    · exact waits_listed hc f e.on c h2 h1

theorem wp_region_factsU (F : Nat → (Nat → Value) → World → Prop) (K : Nat → World → World → Prop) (G : World → Prop) (q : Nat) (Gq : World → Prop)
    (hm : P.follows .mixedOrders = true) (hB : factsB t0.size l = true) (hG0 : G w.drew) (hq0 : Gq w.drew) (hqK : ∀ j, j ≠ q → waits l l.length j q = false → ∀ w w', K j w w' → Gq w → Gq w')
    (hK : ∀ j w, K j w w) (hGK : ∀ j w w', G w → K j w w' → G w') (hF : ∀ i j, goneB l i j = false → ∀ u u' w w', (∀ m, m ≠ j → u m = u' m) → K j w w' → F i u w → F i u' w')
    (hstep : ∀ (i : Nat) o, l[i]? = some o → ∀ (r : Nat → Value) w, G w → (∀ s, (∀ j, dstOf l j = some s → j = i ∨ waits l l.length j i = true) → r s = t0.getD s undef) → (i = q ∨ waits l l.length q i = true → Gq w) → (∀ e ∈ o.after, hands e = true → F e.on (valOf l r) w) →
      if Region.wanted o (ydOf l r) then gives P r o w (fun v w' => K i w w' ∧ F i (updV (valOf l r) i (if o.dst.isSome then v else undef)) w') else F i (updV (valOf l r) i undef) w)
    (hend : ∀ (u : Nat → Value) w', G w' → (∀ i, i < l.length → uses l i = [] → F i u w') → Q .normal ⟨fill t0 l 0 u, df⟩ w') :
    (Code.region id l.toArray true).wp P Q ⟨t0, df⟩ w := by
  simp only [factsB, Bool.and_eq_true, decide_eq_true_eq, List.all_eq_true] at hB
  obtain ⟨⟨hlt, hnd⟩, hbk⟩ := hB
  have unl' : ∀ (listed : Array Bool) (i : Nat), listed.size = l.length → i ∈ Region.ready .any l.toArray listed → listed[i]? = some false := by
    intro listed i hs hi
    have h1 := (mem_ready.1 hi).1
    rw [Array.getD_eq_getD_getElem?] at h1
    cases hx : listed[i]? with
    | none => simp [hx] at h1
    | some b => simp [hx] at h1; rw [h1]
  have unl : ∀ (listed : Array Bool) (i : Nat), listed.size = l.length → i ∈ Region.ready .any l.toArray listed → false ∈ listed.toList.filter (!·) := by
    intro listed i hs hi
    have := unl' listed i hs hi
    rw [List.mem_filter]
    exact ⟨by rw [← Array.getElem?_toList] at this; exact List.mem_of_getElem? this, rfl⟩
  have main : ∀ (fuel : Nat) (listed : Array Bool) (a : Act) (w : World), (listed.toList.filter (!·)).length ≤ fuel → OnWay l F G q Gq t0 df listed a w → wpAny P .any l.toArray Q fuel listed a w := by
    have fin : ∀ (listed : Array Bool) (a : Act) (w : World), Region.ready .any l.toArray listed = [] → OnWay l F G q Gq t0 df listed a w → Q .normal a w := by
      intro listed a w hr h
      have hall : ∀ i, i < l.length → listed[i]? = some true := by
        intro i
        induction i using Nat.strongRecOn with
        | _ i ih =>
          intro hi
          have hsz := h.size
          cases hb : listed[i]? with
          | none => rw [Array.getElem?_eq_none_iff] at hb; omega
          | some b =>
            cases b with
            | true => rfl
            | false =>
              exfalso
              have hmem : i ∈ Region.ready .any l.toArray listed := by
                refine mem_ready.2 ⟨by simp [Array.getD_eq_getD_getElem?, hb], l[i], by simp [hi], fun e he hbd => ?_⟩
                have h1 := hbk i (List.mem_range.2 hi)
                simp only [List.getElem?_eq_getElem hi, Option.map_some, Option.getD_some, Array.all_eq_true_iff_forall_mem, Bool.or_eq_true, Bool.not_eq_true', decide_eq_true_eq] at h1
                have h2 := (h1 e he).resolve_left (by rw [hbd]; exact Bool.noConfusion)
                simp [Array.getD_eq_getD_getElem?, ih e.on h2 (by omega)]
              rw [hr] at hmem
              cases hmem
      have := hend (fun i => valOf l (slots a) i) w h.g (fun i hi hu => h.fact i ⟨hall i hi, .inl hu⟩)
      have ha : a = ⟨fill t0 l 0 (fun i => valOf l (slots a) i), df⟩ := by
        have h1 := h.df
        obtain ⟨ts, ds⟩ := a
        simp only at h1
        subst h1
        congr 1
        apply Array.ext_getElem?
        intro s
        by_cases hs : s ∈ dsts l
        · obtain ⟨o, ho, hd⟩ := List.mem_filterMap.1 hs
          obtain ⟨i, hi, rfl⟩ := List.getElem_of_mem ho
          have hdi : dstOf l i = some s := by simp [dstOf, hi, hd]
          have hst : s < t0.size := by simpa using hlt s hs
          rw [fill_at l t0 0 _ i s hnd hdi hst]
          have htz := h.tsize
          simp only at htz
          simp [valOf, hdi, slots, Array.getD_eq_getD_getElem?, htz, hst]
        · rw [fill_other l _ _ _ _ hs]; exact h.keep s (fun j hj => absurd (mem_dsts hj) hs)
      rw [ha]
      exact this
    have step : ∀ (listed : Array Bool) (a : Act) (w : World) (i : Nat), OnWay l F G q Gq t0 df listed a w → i ∈ Region.ready .any l.toArray listed →
        wpOp P l.toArray Q i (fun a' w' => OnWay l F G q Gq t0 df (listed.setIfInBounds i true) a' w') a w := by
      intro listed a w i h hi
      have hif := unl' listed i h.size hi
      obtain ⟨hun, o, ho, hpre0⟩ := mem_ready.1 hi
      have hpre : ∀ e ∈ o.after, Region.binds .any e = true → listed[e.on]? = some true := by
        intro e he hb
        have := hpre0 e he hb
        rw [Array.getD_eq_getD_getElem?] at this
        cases hx : listed[e.on]? with
        | none => simp [hx] at this
        | some b => simp [hx] at this; rw [this]
      have ho' : l[i]? = some o := by simpa using ho
      have hil : i < l.length := (List.getElem?_eq_some_iff.1 ho').1
      have hs := hstep i o ho' (slots a) w h.g (fun s hs => by
        have := h.keep s (fun j hj hl => by
          rcases hs j hj with rfl | hw
          · rw [hif] at hl; cases hl
          · have := waits_listed h.closed _ _ _ hl hw
            rw [hif] at this; cases this)
        simp [slots, Array.getD_eq_getD_getElem?, this]) (fun hqi => h.gq (fun hl => by
          rcases hqi with rfl | hw
          · rw [hif] at hl; cases hl
          · have := waits_listed h.closed _ _ _ hl hw
            rw [hif] at this; cases this)) (fun e he hh => h.fact e.on (by
          have hb : Region.binds .any e = true := by unfold hands at hh; simp only [Bool.and_eq_true] at hh; exact hh.1
          refine ⟨hpre e he hb, ?_⟩
          unfold uses
          split
          · exact .inl rfl
          refine .inr ⟨i, ?_, hif⟩
          unfold usesAll
          rw [List.mem_filter]
          refine ⟨List.mem_range.2 hil, ?_⟩
          simp only [ho', Option.map_some, Option.getD_some, Array.any_eq_true', Bool.and_eq_true, beq_iff_eq]
          exact ⟨e, he, hh, rfl⟩))
      have put : ∀ v w', K i w w' ∧ F i (updV (valOf l (slots a)) i (if o.dst.isSome then v else undef)) w' → OnWay l F G q Gq t0 df (listed.setIfInBounds i true) (a.put o.dst v) w' := by
        intro v w' ⟨hk, hf⟩
        have hdo : dstOf l i = o.dst := by simp [dstOf, ho']
        have hset : ∀ j : Nat, (listed.setIfInBounds i true)[j]? = some true → j = i ∨ listed[j]? = some true := by
          intro j hj
          by_cases hji : j = i
          · exact .inl hji
          · right
            rw [Array.getElem?_setIfInBounds] at hj
            simpa [Ne.symm hji] using hj
        have hset2 : ∀ j : Nat, listed[j]? = some true → (listed.setIfInBounds i true)[j]? = some true := by
          intro j hj
          rw [Array.getElem?_setIfInBounds]
          by_cases hji : i = j
          · subst hji; simp; have := h.size; omega
          · simp [hji, hj]
        refine ⟨by simpa using h.size, ?_, hGK _ _ _ h.g hk, ?_, ?_, ?_, ?_, ?_⟩
        · intro j o2 hj ho2 e he hb
          rcases hset j hj with rfl | hj
          · rw [ho'] at ho2
            obtain rfl := Option.some.inj ho2
            exact hset2 _ (hpre e he hb)
          · exact hset2 _ (h.closed j o2 hj ho2 e he hb)
        · intro hq
          by_cases hiq : i = q
          · exfalso; apply hq; subst hiq
            rw [Array.getElem?_setIfInBounds]; have := h.size; simp; omega
          · exact hqK i hiq (by
              cases hwq : waits l l.length i q with
              | false => rfl
              | true => exact absurd (hset2 q (waits_ready h.closed ho' hpre _ hwq)) hq) _ _ hk (h.gq (fun hl => hq (hset2 q hl)))
        · cases o.dst <;> exact h.df
        · cases o.dst <;> simpa [Act.put] using h.tsize
        · intro s hs
          have hold := h.keep s (fun j hj hl => hs j hj (hset2 j hl))
          cases hd : o.dst with
          | none => simpa [Act.put] using hold
          | some d =>
            have hne : d ≠ s := fun e => hs i (by rw [hdo, hd, e]) (by
              rw [Array.getElem?_setIfInBounds]; have := h.size; simp; omega)
            simpa [Act.put, Array.getElem?_setIfInBounds_ne hne] using hold
        · have hoth : ∀ m, m ≠ i → valOf l (slots (a.put o.dst v)) m = valOf l (slots a) m := by
            intro m hmi
            unfold valOf
            cases hdj : dstOf l m with
            | none => rfl
            | some d' =>
              cases hd : o.dst with
              | none => rfl
              | some d =>
                have hne : d ≠ d' := fun e => hmi (dst_inj hnd hdj (by rw [hdo, hd, e]))
                simp [slots, Act.put, Array.getD_eq_getD_getElem?, Array.getElem?_setIfInBounds_ne hne]
          have hself : valOf l (slots (a.put o.dst v)) i = if o.dst.isSome then v else undef := by
            cases hd : o.dst with
            | none => simp [valOf, hdo, hd]
            | some d =>
              have hdt : d < t0.size := by simpa using hlt d (mem_dsts (hdo.trans hd))
              have htz := h.tsize
              simp [valOf, hdo, hd, slots, Act.put, Array.getD_eq_getD_getElem?, htz, hdt]
          have hfun : valOf l (slots (a.put o.dst v)) = updV (valOf l (slots a)) i (if o.dst.isSome then v else undef) := by
            funext m
            unfold updV
            by_cases hmi : m = i
            · rw [if_pos hmi, hmi]; exact hself
            · rw [if_neg hmi]; exact hoth m hmi
          intro j ⟨hj, hal⟩
          by_cases hji : j = i
          · subst hji
            rw [hfun]; exact hf
          · have hj' : listed[j]? = some true := (hset j hj).resolve_left hji
            have hunset : ∀ c : Nat, (listed.setIfInBounds i true)[c]? = some false → c ≠ i ∧ listed[c]? = some false := by
              intro c hc
              rw [Array.getElem?_setIfInBounds] at hc
              by_cases hic : i = c
              · subst hic
                simp at hc
              · simp [hic] at hc; exact ⟨Ne.symm hic, hc⟩
            refine hF j i ?_ _ _ _ _ (fun m hmi => (hoth m hmi).symm) hk (h.fact j ⟨hj', hal.imp (fun x => x) fun ⟨c, hc, hcf⟩ => ⟨c, hc, (hunset c hcf).2⟩⟩)
            unfold goneB
            simp only [Bool.or_eq_false_iff]
            refine ⟨⟨by simpa using hji, ?_⟩, ?_⟩
            · cases hw : waits l l.length j i with
              | false => rfl
              | true =>
                have := waits_listed h.closed _ _ _ hj' hw
                rw [hif] at this
                cases this
            · rcases hal with hal | ⟨c, hc, hcf⟩
              · simp [hal]
              · obtain ⟨hci, hcl⟩ := hunset c hcf
                rw [Bool.and_eq_false_iff]
                right
                rw [List.all_eq_false]
                refine ⟨c, hc, ?_⟩
                intro h1
                simp only [Bool.or_eq_true, beq_iff_eq] at h1
                rcases h1 with h1 | h1
                · exact hci h1
                · have := waits_ready h.closed ho' hpre _ h1
                  rw [hcl] at this
                  cases this
      unfold wpOp
      rw [ho]
      simp only []
      have hy : (yielded l.toArray a.tmps) = ydOf l (slots a) := funext fun j => yielded_yd l a j
      rw [hy]
      split
      · rename_i hw
        simp only [hw, if_true] at hs
        exact .inl (wp_of_gives hs put)
      · rename_i hw
        simp only [hw] at hs
        exact put undef w ⟨hK _ w, by cases o.dst.isSome <;> simpa using hs⟩
    intro fuel
    induction fuel with
    | zero =>
      intro listed a w hc h
      have hr : Region.ready .any l.toArray listed = [] := by
        apply List.eq_nil_iff_forall_not_mem.2
        intro i hi
        have h0 := unl listed i h.size hi
        have := List.length_pos_of_mem h0
        omega
      exact ⟨hr, fin _ _ _ hr h⟩
    | succ fuel ih =>
      intro listed a w hc h
      refine ⟨fun hr => fin _ _ _ hr h, fun i hi => wpOp_mono (fun a' w' h' => ih _ _ _ ?_ h') (step _ _ _ i h hi)⟩
      have h0 : listed[i]? = some false := unl' listed i h.size hi
      have := count_set listed i h0
      omega
  have hrep : ∀ j : Nat, (Array.replicate l.toArray.size false)[j]? ≠ some true := by
    intro j hj
    rw [Array.getElem?_replicate] at hj
    split at hj <;> cases hj
  exact wp_region_any hm (main _ _ _ _ (by simp) ⟨by simp, fun j _ hj => absurd hj (hrep j), hG0, fun _ => hq0, rfl, rfl, fun _ _ => rfl, fun i hi => absurd hi.1 (hrep i)⟩)

theorem wp_region_facts (F : Nat → Value → World → Prop) (K : Nat → World → World → Prop) (G : World → Prop) (q : Nat) (Gq : World → Prop)
    (hm : P.follows .mixedOrders = true) (hB : factsB t0.size l = true) (hG0 : G w.drew) (hq0 : Gq w.drew) (hqK : ∀ j, j ≠ q → waits l l.length j q = false → ∀ w w', K j w w' → Gq w → Gq w')
    (hK : ∀ j w, K j w w) (hGK : ∀ j w w', G w → K j w w' → G w') (hF : ∀ i j, goneB l i j = false → ∀ v w w', K j w w' → F i v w → F i v w')
    (hstep : ∀ (i : Nat) o, l[i]? = some o → ∀ (r : Nat → Value) w, G w → (∀ s, (∀ j, dstOf l j = some s → j = i ∨ waits l l.length j i = true) → r s = t0.getD s undef) → (i = q ∨ waits l l.length q i = true → Gq w) → (∀ e ∈ o.after, hands e = true → F e.on (valOf l r e.on) w) →
      if Region.wanted o (ydOf l r) then gives P r o w (fun v w' => K i w w' ∧ F i (if o.dst.isSome then v else undef) w') else F i undef w)
    (hend : ∀ (u : Nat → Value) w', G w' → (∀ i, i < l.length → uses l i = [] → F i (u i) w') → Q .normal ⟨fill t0 l 0 u, df⟩ w') :
    (Code.region id l.toArray true).wp P Q ⟨t0, df⟩ w :=
  wp_region_factsU (fun i u w => F i (u i) w) K G q Gq hm hB hG0 hq0 hqK hK hGK (fun i j hg u u' w w' hu hk hf => by
    have hij : i ≠ j := fun e => by subst e; simp [goneB] at hg
    rw [← hu i hij]; exact hF i j hg _ _ _ hk hf)
    (fun i o ho r w hg hr hq hf => by simpa only [updV, if_true] using hstep i o ho r w hg hr hq hf) hend

/-- The same, of the list of slots alone. -/
def valD (D : List (Option Nat)) (r : Nat → Value) (i : Nat) : Value := match (D[i]?).join with | some d => r d | none => undef
def ydD (D : List (Option Nat)) (r : Nat → Value) (j : Nat) : Option Bool := match valD D r j with | .bool b => some b | _ => none
theorem valD_eq {D : List (Option Nat)} (h : l.map (·.dst) = D) (r : Nat → Value) (i : Nat) : valOf l r i = valD D r i := by
  subst h
  unfold valOf valD dstOf
  cases hi : l[i]? with
  | none => simp [hi]
  | some o => simp [hi]

/-- The facts that edges hand on. -/
def factsOf (F : Nat → Value → World → Prop) (D : List (Option Nat)) (r : Nat → Value) (w : World) : List Edge → Prop
  | [] => True
  | e :: es => if hands e then F e.on (valD D r e.on) w ∧ factsOf F D r w es else factsOf F D r w es
theorem factsOf_of {F : Nat → Value → World → Prop} {D : List (Option Nat)} {r : Nat → Value} : ∀ (es : List Edge), (∀ e ∈ es, hands e = true → F e.on (valD D r e.on) w) → factsOf F D r w es
  | [], _ => trivial
  | e :: es, h => by
    have := factsOf_of es fun e' he' hh => h e' (by simp [he']) hh
    unfold factsOf
    split
    · rename_i hh; exact ⟨h e (by simp) hh, this⟩
    · exact this

/-- One obligation an operation. -/
def stepsFrom (P : Program) (F : Nat → Value → World → Prop) (K : Nat → World → World → Prop) (G : World → Prop) (t0 : Array Value) (D : List (Option Nat)) (X : List (Nat × Nat)) (Gq : World → Prop) (Y : List Nat) : List Oper → Nat → Prop
  | [], _ => True
  | o :: rest, i => (∀ (r : Nat → Value) w, G w → (∀ s, (!D.contains (some s) || X.contains (i, s)) = true → r s = t0.getD s undef) → (Y.contains i = true → Gq w) → factsOf F D r w o.after.toList →
      if Region.wanted o (ydD D r) then gives P r o w (fun v w' => K i w w' ∧ F i (if o.dst.isSome then v else undef) w') else F i undef w) ∧ stepsFrom P F K G t0 D X Gq Y rest (i + 1)

theorem stepsFrom_at {F : Nat → Value → World → Prop} {K : Nat → World → World → Prop} {G : World → Prop} {D : List (Option Nat)} {X : List (Nat × Nat)} {Gq : World → Prop} {Y : List Nat} : ∀ (m : List Oper) (k : Nat), stepsFrom P F K G t0 D X Gq Y m k → ∀ (i : Nat) o, m[i]? = some o → ∀ (r : Nat → Value) w, G w → (∀ s, (!D.contains (some s) || X.contains (k + i, s)) = true → r s = t0.getD s undef) → (Y.contains (k + i) = true → Gq w) → factsOf F D r w o.after.toList →
      if Region.wanted o (ydD D r) then gives P r o w (fun v w' => K (k + i) w w' ∧ F (k + i) (if o.dst.isSome then v else undef) w') else F (k + i) undef w
  | [], _, _, i, _, hi => by simp at hi
  | o :: m, k, h, 0, o', hi => by
    simp only [List.getElem?_cons_zero, Option.some.injEq] at hi
    subst hi
    exact h.1
  | o :: m, k, h, i + 1, o', hi => by
    have := stepsFrom_at m (k + 1) h.2 i o' (by simpa using hi)
    rwa [show k + 1 + i = k + (i + 1) by omega] at this

/-- The slots of X are read before they are written. -/
def beforeB (l : List Oper) (X : List (Nat × Nat)) : Bool := X.all fun p => (List.range l.length).all fun j => dstOf l j != some p.2 || j == p.1 || waits l l.length j p.1

/-- The operations of Y come up no later than q. -/
def untilB (l : List Oper) (q : Nat) (Y : List Nat) : Bool := Y.all fun i => i == q || waits l l.length q i

/-- One law an operation: what holds of its value stays. -/
def stabs (l : List Oper) (F : Nat → Value → World → Prop) (K : Nat → World → World → Prop) : Nat → Nat → Prop
  | 0, _ => True
  | n + 1, i => (∀ j, goneB l i j = false → ∀ v w w', K j w w' → F i v w → F i v w') ∧ stabs l F K n (i + 1)
theorem stabs_at {F : Nat → Value → World → Prop} {K : Nat → World → World → Prop} : ∀ (n k : Nat), stabs l F K n k → ∀ i, i < n → ∀ j, goneB l (k + i) j = false → ∀ v w w', K j w w' → F (k + i) v w → F (k + i) v w'
  | 0, _, _, i, hi => by omega
  | n + 1, k, h, 0, _ => h.1
  | n + 1, k, h, i + 1, hi => by
    have := stabs_at n (k + 1) h.2 i (by omega)
    rwa [show k + 1 + i = k + (i + 1) by omega] at this

theorem wp_region_untilW (D : List (Option Nat)) (X : List (Nat × Nat)) (q : Nat) (Gq : World → Prop) (Y : List Nat) (F : Nat → Value → World → Prop) (K : Nat → World → World → Prop) (G : World → Prop)
    (hm : P.follows .mixedOrders = true) (hB : factsB t0.size l = true) (hD : l.map (·.dst) = D) (hX : beforeB l X = true) (hY : untilB l q Y = true) (hG0 : G w.drew) (hq0 : Gq w.drew) (hqK : ∀ j, j ≠ q → waits l l.length j q = false → ∀ w w', K j w w' → Gq w → Gq w')
    (hK : ∀ j w, K j w w) (hGK : ∀ j w w', G w → K j w w' → G w') (hF : stabs l F K D.length 0)
    (hstep : stepsFrom P F K G t0 D X Gq Y l 0)
    (hend : ∀ (u : Nat → Value) w', G w' → (∀ i, i < l.length → uses l i = [] → F i (u i) w') → Q .normal ⟨fill t0 l 0 u, df⟩ w') :
    (Code.region id l.toArray true).wp P Q ⟨t0, df⟩ w :=
  wp_region_facts (fun i v w => i < l.length → F i v w) K G q Gq hm hB hG0 hq0 hqK hK hGK (fun i j hg v w w' hk hf hi => by
      have hl : l.length = D.length := by rw [← hD, List.length_map]
      have := stabs_at D.length 0 hF i (by omega)
      simp only [Nat.zero_add] at this
      exact this j hg v w w' hk (hf hi)) (fun i o hi r w hg hr hq hf => by
    have hil : i < l.length := (List.getElem?_eq_some_iff.1 hi).1
    have := stepsFrom_at l 0 hstep i o hi r w hg (fun s hs => hr s (by
      intro j hj
      rw [Nat.zero_add] at hs
      have hm2 := mem_dsts hj
      obtain ⟨o2, ho2, hd2⟩ := List.mem_filterMap.1 hm2
      have hc : D.contains (some s) = true := by
        rw [← hD, List.contains_iff_mem, List.mem_map]
        exact ⟨o2, ho2, hd2⟩
      rw [hc] at hs
      simp only [Bool.not_true, Bool.false_or, List.contains_iff_mem] at hs
      unfold beforeB at hX
      rw [List.all_eq_true] at hX
      have h1 := hX _ hs
      rw [List.all_eq_true] at h1
      have hjl : j < l.length := by
        unfold dstOf at hj
        rcases Nat.lt_or_ge j l.length with h | h
        · exact h
        · rw [List.getElem?_eq_none h] at hj; cases hj
      have h2 := h1 j (List.mem_range.2 hjl)
      rw [hj] at h2
      simp at h2
      rcases h2 with h2 | h2
      · exact .inl h2
      · exact .inr h2)) (fun hy => hq (by
        rw [Nat.zero_add] at hy
        unfold untilB at hY
        rw [List.all_eq_true] at hY
        have := hY i (by simpa using hy)
        simpa using this)) (factsOf_of _ fun e he hh => by
        rw [← valD_eq hD]
        refine hf e (by simpa using he) hh ?_
        simp only [factsB, Bool.and_eq_true, List.all_eq_true] at hB
        have h1 := hB.2 i (List.mem_range.2 hil)
        simp only [hi, Option.map_some, Option.getD_some, Array.all_eq_true_iff_forall_mem, Bool.or_eq_true, Bool.not_eq_true', decide_eq_true_eq] at h1
        have := (h1 e (by simpa using he)).resolve_left (by simp only [hands, Bool.and_eq_true] at hh; rw [hh.1]; exact Bool.noConfusion)
        omega)
    have hy : ydD D r = ydOf l r := funext fun j => by unfold ydD ydOf; rw [valD_eq hD]
    rw [hy] at this
    simp only [Nat.zero_add] at this
    split
    · rename_i hw
      rw [if_pos hw] at this
      unfold gives at this ⊢
      generalize (execOp (rd r) o).run P w = x at *
      cases x with
      | ok n w' =>
        cases n <;> simp only [givesUpon] at this ⊢
        case value v => exact ⟨this.1, fun _ => this.2⟩
        case skip => exact ⟨this.1, fun _ => this.2⟩
        case enter f args => exact this.mono fun e w'' ⟨v, he, h1, h2⟩ => ⟨v, he, h1, fun _ => h2⟩
      | halt x w' => simp only [givesUpon] at this
    · rename_i hw
      rw [if_neg hw] at this
      exact fun _ => this) (fun u w' hg hf => hend u w' hg fun i hi hu => hf i hi hu hi)

theorem wp_region_until (D : List (Option Nat)) (X : List (Nat × Nat)) (q : Nat) (Gq : World → Prop) (Y : List Nat) (F : Nat → Value → World → Prop) (K : Nat → World → World → Prop) (G : World → Prop)
    (hm : P.follows .mixedOrders = true) (hB : factsB t0.size l = true) (hD : l.map (·.dst) = D) (hX : beforeB l X = true) (hY : untilB l q Y = true) (hG0 : G w.drew) (hq0 : Gq w.drew) (hqK : ∀ j, j ≠ q → ∀ w w', K j w w' → Gq w → Gq w')
    (hK : ∀ j w, K j w w) (hGK : ∀ j w w', G w → K j w w' → G w') (hF : stabs l F K D.length 0)
    (hstep : stepsFrom P F K G t0 D X Gq Y l 0)
    (hend : ∀ (u : Nat → Value) w', G w' → (∀ i, i < l.length → uses l i = [] → F i (u i) w') → Q .normal ⟨fill t0 l 0 u, df⟩ w') :
    (Code.region id l.toArray true).wp P Q ⟨t0, df⟩ w :=
  wp_region_untilW D X q Gq Y F K G hm hB hD hX hY hG0 hq0 (fun j hj _ => hqK j hj) hK hGK hF hstep hend

theorem wp_region_steps (D : List (Option Nat)) (X : List (Nat × Nat)) (F : Nat → Value → World → Prop) (K : Nat → World → World → Prop) (G : World → Prop)
    (hm : P.follows .mixedOrders = true) (hB : factsB t0.size l = true) (hD : l.map (·.dst) = D) (hX : beforeB l X = true) (hG0 : G w.drew)
    (hK : ∀ j w, K j w w) (hGK : ∀ j w w', G w → K j w w' → G w') (hF : stabs l F K D.length 0)
    (hstep : stepsFrom P F K G t0 D X (fun _ => True) [] l 0)
    (hend : ∀ (u : Nat → Value) w', G w' → (∀ i, i < l.length → uses l i = [] → F i (u i) w') → Q .normal ⟨fill t0 l 0 u, df⟩ w') :
    (Code.region id l.toArray true).wp P Q ⟨t0, df⟩ w :=
  wp_region_until D X 0 (fun _ => True) [] F K G hm hB hD hX rfl hG0 trivial (fun _ _ _ _ _ _ => trivial) hK hGK hF hstep hend

@[go_sem] theorem rd_tmp (r : Nat → Value) (t : Nat) : rd r (.tmp t) = r t := rfl
@[go_sem] theorem rd_const (r : Nat → Value) (v : Value) : rd r (.const v) = v := rfl
@[go_sem] theorem rd_global (r : Nat → Value) (g : Nat) : rd r (.global g) = .pointer (some ⟨g, 0, none⟩) := rfl
@[go_sem] theorem rd_func (r : Nat → Value) (f : FuncId) : rd r (.func f) = .func (.func f) #[] #[] := rfl
@[go_sem] theorem gives_value (R : Value → World → Prop) (v : Value) (w : World) : givesUpon P R (.ok (.value v) w) = R v w := rfl
@[go_sem] theorem gives_skip (R : Value → World → Prop) (w : World) : givesUpon P R (.ok .skip w) = R undef w := rfl
@[go_sem] theorem gives_enter (R : Value → World → Prop) (f : FuncId) (args : Array Value) (w : World) : givesUpon P R (.ok (.enter f args) w) = Calls P f args w fun e w'' => ∃ v, e = .returned v ∧ R v w'' := rfl
end

open Go.RowKit
end Go.Proofs.Ytdociiogddihfaa
