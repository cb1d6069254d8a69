/- A region that draws its order, where an operation may panic (XReg's laws, with one more exit). -/
import Derived.Test.YtfibhmgjkooemaaDoorReg
namespace Go.Proofs.YtfibhmgjkooemaaDoor

/-- One operation: it yields a value of which R holds in the world behind it, or panics, and E holds. -/
def givesUponE (P : Program) (E : List PanicEntry → World → Prop) (R : Value → World → Prop) : Result Next → Prop
  | .ok (.value v) w' => R v w'
  | .ok .skip w' => R undef w'
  | .ok (.enter f args) w' => Calls P f args w' fun e w'' => (∃ v, e = .returned v ∧ R v w'') ∨ (∃ c, e = .panicked c ∧ E c w'')
  | _ => False
def givesE (P : Program) (E : List PanicEntry → World → Prop) (r : Nat → Value) (o : Oper) (w : World) (R : Value → World → Prop) : Prop := givesUponE P E R ((execOp (rd r) o).run P w)
theorem givesE_of {P : Program} {E : List PanicEntry → World → Prop} {r : Nat → Value} {o : Oper} {w : World} {R : Value → World → Prop} (h : gives P r o w R) : givesE P E r o w R := by
  unfold gives at h
  unfold givesE
  generalize (execOp (rd r) o).run P w = x at *
  cases x with
  | ok n w' =>
    cases n <;> simp only [givesUpon] at h <;> simp only [givesUponE]
    case value v => exact h
    case skip => exact h
    case enter f args => exact Calls.mono h fun e w'' hh => .inl hh
  | halt x w' => simp only [givesUpon] at h

theorem wp_of_givesE {P : Program} {E : List PanicEntry → World → Prop} {o : Oper} {a : Act} {w : World} {R : Value → World → Prop} {K : Act → World → Prop} {Q : Exit → Act → World → Prop}
    (hE : ∀ c w, E c w → Q (.panic c) a w) (h : givesE P E (slots a) o w R) (hk : ∀ v w', R v w' → K (a.put o.dst v) w') : o.wp P a w K Q := by
  unfold givesE at h
  unfold Oper.wp
  rw [eval_rd]
  generalize (execOp (rd (slots a)) o).run P w = x at *
  cases x with
  | ok n w' =>
    cases n <;> simp only [givesUponE] at h <;> simp only [Oper.upon]
    case value v => exact hk _ _ h
    case skip => exact hk _ _ h
    case enter f args =>
      refine Calls.mono h fun e w'' hh => ?_
      rcases hh with ⟨v, he, hr⟩ | ⟨c, he, hr⟩
      · subst he; exact hk _ _ hr
      · subst he; exact hE _ _ hr
  | halt x w' => simp only [givesUponE] at h

section
variable {P : Program} {E : List PanicEntry → World → Prop} {id : Nat} {Q : Exit → Act → World → Prop} {t0 : Array Value} {df : List Deferred} {w : World} {l : List Oper}

theorem wp_region_factsUE (F : Nat → (Nat → Value) → World → Prop) (K : Nat → World → World → Prop) (G : World → Prop) (q : Nat) (Gq : World → Prop)
    (hE : ∀ c (a : Act) w, a.defers = df → (∀ s : Nat, s ∉ dsts l → a.tmps[s]? = t0[s]?) → E c w → Q (.panic c) a w) (hm : P.follows .mixedOrders = true) (hB : factsB t0.size l = true) (hG0 : G w.drew) (hq0 : Gq w.drew) (hqK : ∀ j, j ≠ q → waits l l.length j q = false → ∀ w w', K j w w' → Gq w → Gq w')
    (hK : ∀ j w, K j w w) (hGK : ∀ j w w', G w → K j w w' → G w') (hF : ∀ i j, goneB l i j = false → ∀ u u' w w', (∀ m, m ≠ j → u m = u' m) → K j w w' → F i u w → F i u' w')
    (hstep : ∀ (i : Nat) o, l[i]? = some o → ∀ (r : Nat → Value) w, G w → (∀ s, (∀ j, dstOf l j = some s → j = i ∨ waits l l.length j i = true) → r s = t0.getD s undef) → (i = q ∨ waits l l.length q i = true → Gq w) → (∀ e ∈ o.after, hands e = true → F e.on (valOf l r) w) →
      if Region.wanted o (ydOf l r) then givesE P E r o w (fun v w' => K i w w' ∧ F i (updV (valOf l r) i (if o.dst.isSome then v else undef)) w') else F i (updV (valOf l r) i undef) w)
    (hend : ∀ (u : Nat → Value) w', G w' → (∀ i, i < l.length → uses l i = [] → F i u w') → Q .normal ⟨fill t0 l 0 u, df⟩ w') :
    (Code.region id l.toArray true).wp P Q ⟨t0, df⟩ w := by
  simp only [factsB, Bool.and_eq_true, decide_eq_true_eq, List.all_eq_true] at hB
  obtain ⟨⟨hlt, hnd⟩, hbk⟩ := hB
  have unl' : ∀ (listed : Array Bool) (i : Nat), listed.size = l.length → i ∈ Region.ready .any l.toArray listed → listed[i]? = some false := by
    intro listed i hs hi
    have h1 := (mem_ready.1 hi).1
    rw [Array.getD_eq_getD_getElem?] at h1
    cases hx : listed[i]? with
    | none => simp [hx] at h1
    | some b => simp [hx] at h1; rw [h1]
  have unl : ∀ (listed : Array Bool) (i : Nat), listed.size = l.length → i ∈ Region.ready .any l.toArray listed → false ∈ listed.toList.filter (!·) := by
    intro listed i hs hi
    have := unl' listed i hs hi
    rw [List.mem_filter]
    exact ⟨by rw [← Array.getElem?_toList] at this; exact List.mem_of_getElem? this, rfl⟩
  have main : ∀ (fuel : Nat) (listed : Array Bool) (a : Act) (w : World), (listed.toList.filter (!·)).length ≤ fuel → OnWay l F G q Gq t0 df listed a w → wpAny P .any l.toArray Q fuel listed a w := by
    have fin : ∀ (listed : Array Bool) (a : Act) (w : World), Region.ready .any l.toArray listed = [] → OnWay l F G q Gq t0 df listed a w → Q .normal a w := by
      intro listed a w hr h
      have hall : ∀ i, i < l.length → listed[i]? = some true := by
        intro i
        induction i using Nat.strongRecOn with
        | _ i ih =>
          intro hi
          have hsz := h.size
          cases hb : listed[i]? with
          | none => rw [Array.getElem?_eq_none_iff] at hb; omega
          | some b =>
            cases b with
            | true => rfl
            | false =>
              exfalso
              have hmem : i ∈ Region.ready .any l.toArray listed := by
                refine mem_ready.2 ⟨by simp [Array.getD_eq_getD_getElem?, hb], l[i], by simp [hi], fun e he hbd => ?_⟩
                have h1 := hbk i (List.mem_range.2 hi)
                simp only [List.getElem?_eq_getElem hi, Option.map_some, Option.getD_some, Array.all_eq_true_iff_forall_mem, Bool.or_eq_true, Bool.not_eq_true', decide_eq_true_eq] at h1
                have h2 := (h1 e he).resolve_left (by rw [hbd]; exact Bool.noConfusion)
                simp [Array.getD_eq_getD_getElem?, ih e.on h2 (by omega)]
              rw [hr] at hmem
              cases hmem
      have := hend (fun i => valOf l (slots a) i) w h.g (fun i hi hu => h.fact i ⟨hall i hi, .inl hu⟩)
      have ha : a = ⟨fill t0 l 0 (fun i => valOf l (slots a) i), df⟩ := by
        have h1 := h.df
        obtain ⟨ts, ds⟩ := a
        simp only at h1
        subst h1
        congr 1
        apply Array.ext_getElem?
        intro s
        by_cases hs : s ∈ dsts l
        · obtain ⟨o, ho, hd⟩ := List.mem_filterMap.1 hs
          obtain ⟨i, hi, rfl⟩ := List.getElem_of_mem ho
          have hdi : dstOf l i = some s := by simp [dstOf, hi, hd]
          have hst : s < t0.size := by simpa using hlt s hs
          rw [fill_at l t0 0 _ i s hnd hdi hst]
          have htz := h.tsize
          simp only at htz
          simp [valOf, hdi, slots, Array.getD_eq_getD_getElem?, htz, hst]
        · rw [fill_other l _ _ _ _ hs]; exact h.keep s (fun j hj => absurd (mem_dsts hj) hs)
      rw [ha]
      exact this
    have step : ∀ (listed : Array Bool) (a : Act) (w : World) (i : Nat), OnWay l F G q Gq t0 df listed a w → i ∈ Region.ready .any l.toArray listed →
        wpOp P l.toArray Q i (fun a' w' => OnWay l F G q Gq t0 df (listed.setIfInBounds i true) a' w') a w := by
      intro listed a w i h hi
      have hif := unl' listed i h.size hi
      obtain ⟨hun, o, ho, hpre0⟩ := mem_ready.1 hi
      have hpre : ∀ e ∈ o.after, Region.binds .any e = true → listed[e.on]? = some true := by
        intro e he hb
        have := hpre0 e he hb
        rw [Array.getD_eq_getD_getElem?] at this
        cases hx : listed[e.on]? with
        | none => simp [hx] at this
        | some b => simp [hx] at this; rw [this]
      have ho' : l[i]? = some o := by simpa using ho
      have hil : i < l.length := (List.getElem?_eq_some_iff.1 ho').1
      have hs := hstep i o ho' (slots a) w h.g (fun s hs => by
        have := h.keep s (fun j hj hl => by
          rcases hs j hj with rfl | hw
          · rw [hif] at hl; cases hl
          · have := waits_listed h.closed _ _ _ hl hw
            rw [hif] at this; cases this)
        simp [slots, Array.getD_eq_getD_getElem?, this]) (fun hqi => h.gq (fun hl => by
          rcases hqi with rfl | hw
          · rw [hif] at hl; cases hl
          · have := waits_listed h.closed _ _ _ hl hw
            rw [hif] at this; cases this)) (fun e he hh => h.fact e.on (by
          have hb : Region.binds .any e = true := by unfold hands at hh; simp only [Bool.and_eq_true] at hh; exact hh.1
          refine ⟨hpre e he hb, ?_⟩
          unfold uses
          split
          · exact .inl rfl
          refine .inr ⟨i, ?_, hif⟩
          unfold usesAll
          rw [List.mem_filter]
          refine ⟨List.mem_range.2 hil, ?_⟩
          simp only [ho', Option.map_some, Option.getD_some, Array.any_eq_true', Bool.and_eq_true, beq_iff_eq]
          exact ⟨e, he, hh, rfl⟩))
      have put : ∀ v w', K i w w' ∧ F i (updV (valOf l (slots a)) i (if o.dst.isSome then v else undef)) w' → OnWay l F G q Gq t0 df (listed.setIfInBounds i true) (a.put o.dst v) w' := by
        intro v w' ⟨hk, hf⟩
        have hdo : dstOf l i = o.dst := by simp [dstOf, ho']
        have hset : ∀ j : Nat, (listed.setIfInBounds i true)[j]? = some true → j = i ∨ listed[j]? = some true := by
          intro j hj
          by_cases hji : j = i
          · exact .inl hji
          · right
            rw [Array.getElem?_setIfInBounds] at hj
            simpa [Ne.symm hji] using hj
        have hset2 : ∀ j : Nat, listed[j]? = some true → (listed.setIfInBounds i true)[j]? = some true := by
          intro j hj
          rw [Array.getElem?_setIfInBounds]
          by_cases hji : i = j
          · subst hji; simp; have := h.size; omega
          · simp [hji, hj]
        refine ⟨by simpa using h.size, ?_, hGK _ _ _ h.g hk, ?_, ?_, ?_, ?_, ?_⟩
        · intro j o2 hj ho2 e he hb
          rcases hset j hj with rfl | hj
          · rw [ho'] at ho2
            obtain rfl := Option.some.inj ho2
            exact hset2 _ (hpre e he hb)
          · exact hset2 _ (h.closed j o2 hj ho2 e he hb)
        · intro hq
          by_cases hiq : i = q
          · exfalso; apply hq; subst hiq
            rw [Array.getElem?_setIfInBounds]; have := h.size; simp; omega
          · exact hqK i hiq (by
              cases hwq : waits l l.length i q with
              | false => rfl
              | true => exact absurd (hset2 q (waits_ready h.closed ho' hpre _ hwq)) hq) _ _ hk (h.gq (fun hl => hq (hset2 q hl)))
        · cases o.dst <;> exact h.df
        · cases o.dst <;> simpa [Act.put] using h.tsize
        · intro s hs
          have hold := h.keep s (fun j hj hl => hs j hj (hset2 j hl))
          cases hd : o.dst with
          | none => simpa [Act.put] using hold
          | some d =>
            have hne : d ≠ s := fun e => hs i (by rw [hdo, hd, e]) (by
              rw [Array.getElem?_setIfInBounds]; have := h.size; simp; omega)
            simpa [Act.put, Array.getElem?_setIfInBounds_ne hne] using hold
        · have hoth : ∀ m, m ≠ i → valOf l (slots (a.put o.dst v)) m = valOf l (slots a) m := by
            intro m hmi
            unfold valOf
            cases hdj : dstOf l m with
            | none => rfl
            | some d' =>
              cases hd : o.dst with
              | none => rfl
              | some d =>
                have hne : d ≠ d' := fun e => hmi (dst_inj hnd hdj (by rw [hdo, hd, e]))
                simp [slots, Act.put, Array.getD_eq_getD_getElem?, Array.getElem?_setIfInBounds_ne hne]
          have hself : valOf l (slots (a.put o.dst v)) i = if o.dst.isSome then v else undef := by
            cases hd : o.dst with
            | none => simp [valOf, hdo, hd]
            | some d =>
              have hdt : d < t0.size := by simpa using hlt d (mem_dsts (hdo.trans hd))
              have htz := h.tsize
              simp [valOf, hdo, hd, slots, Act.put, Array.getD_eq_getD_getElem?, htz, hdt]
          have hfun : valOf l (slots (a.put o.dst v)) = updV (valOf l (slots a)) i (if o.dst.isSome then v else undef) := by
            funext m
            unfold updV
            by_cases hmi : m = i
            · rw [if_pos hmi, hmi]; exact hself
            · rw [if_neg hmi]; exact hoth m hmi
          intro j ⟨hj, hal⟩
          by_cases hji : j = i
          · subst hji
            rw [hfun]; exact hf
          · have hj' : listed[j]? = some true := (hset j hj).resolve_left hji
            have hunset : ∀ c : Nat, (listed.setIfInBounds i true)[c]? = some false → c ≠ i ∧ listed[c]? = some false := by
              intro c hc
              rw [Array.getElem?_setIfInBounds] at hc
              by_cases hic : i = c
              · subst hic
                simp at hc
              · simp [hic] at hc; exact ⟨Ne.symm hic, hc⟩
            refine hF j i ?_ _ _ _ _ (fun m hmi => (hoth m hmi).symm) hk (h.fact j ⟨hj', hal.imp (fun x => x) fun ⟨c, hc, hcf⟩ => ⟨c, hc, (hunset c hcf).2⟩⟩)
            unfold goneB
            simp only [Bool.or_eq_false_iff]
            refine ⟨⟨by simpa using hji, ?_⟩, ?_⟩
            · cases hw : waits l l.length j i with
              | false => rfl
              | true =>
                have := waits_listed h.closed _ _ _ hj' hw
                rw [hif] at this
                cases this
            · rcases hal with hal | ⟨c, hc, hcf⟩
              · simp [hal]
              · obtain ⟨hci, hcl⟩ := hunset c hcf
                rw [Bool.and_eq_false_iff]
                right
                rw [List.all_eq_false]
                refine ⟨c, hc, ?_⟩
                intro h1
                simp only [Bool.or_eq_true, beq_iff_eq] at h1
                rcases h1 with h1 | h1
                · exact hci h1
                · have := waits_ready h.closed ho' hpre _ h1
                  rw [hcl] at this
                  cases this
      unfold wpOp
      rw [ho]
      simp only []
      have hy : (yielded l.toArray a.tmps) = ydOf l (slots a) := funext fun j => yielded_yd l a j
      rw [hy]
      split
      · rename_i hw
        simp only [hw, if_true] at hs
        exact .inl (wp_of_givesE (fun c w' hc => hE c a w' h.df (fun s hs2 => h.keep s (fun j hj => absurd (mem_dsts hj) hs2)) hc) hs put)
      · rename_i hw
        simp only [hw] at hs
        exact put undef w ⟨hK _ w, by cases o.dst.isSome <;> simpa using hs⟩
    intro fuel
    induction fuel with
    | zero =>
      intro listed a w hc h
      have hr : Region.ready .any l.toArray listed = [] := by
        apply List.eq_nil_iff_forall_not_mem.2
        intro i hi
        have h0 := unl listed i h.size hi
        have := List.length_pos_of_mem h0
        omega
      exact ⟨hr, fin _ _ _ hr h⟩
    | succ fuel ih =>
      intro listed a w hc h
      refine ⟨fun hr => fin _ _ _ hr h, fun i hi => wpOp_mono (fun a' w' h' => ih _ _ _ ?_ h') (step _ _ _ i h hi)⟩
      have h0 : listed[i]? = some false := unl' listed i h.size hi
      have := count_set listed i h0
      omega
  have hrep : ∀ j : Nat, (Array.replicate l.toArray.size false)[j]? ≠ some true := by
    intro j hj
    rw [Array.getElem?_replicate] at hj
    split at hj <;> cases hj
  exact wp_region_any hm (main _ _ _ _ (by simp) ⟨by simp, fun j _ hj => absurd hj (hrep j), hG0, fun _ => hq0, rfl, rfl, fun _ _ => rfl, fun i hi => absurd hi.1 (hrep i)⟩)

theorem wp_region_factsE (F : Nat → Value → World → Prop) (K : Nat → World → World → Prop) (G : World → Prop) (q : Nat) (Gq : World → Prop)
    (hE : ∀ c (a : Act) w, a.defers = df → (∀ s : Nat, s ∉ dsts l → a.tmps[s]? = t0[s]?) → E c w → Q (.panic c) a w) (hm : P.follows .mixedOrders = true) (hB : factsB t0.size l = true) (hG0 : G w.drew) (hq0 : Gq w.drew) (hqK : ∀ j, j ≠ q → waits l l.length j q = false → ∀ w w', K j w w' → Gq w → Gq w')
    (hK : ∀ j w, K j w w) (hGK : ∀ j w w', G w → K j w w' → G w') (hF : ∀ i j, goneB l i j = false → ∀ v w w', K j w w' → F i v w → F i v w')
    (hstep : ∀ (i : Nat) o, l[i]? = some o → ∀ (r : Nat → Value) w, G w → (∀ s, (∀ j, dstOf l j = some s → j = i ∨ waits l l.length j i = true) → r s = t0.getD s undef) → (i = q ∨ waits l l.length q i = true → Gq w) → (∀ e ∈ o.after, hands e = true → F e.on (valOf l r e.on) w) →
      if Region.wanted o (ydOf l r) then givesE P E r o w (fun v w' => K i w w' ∧ F i (if o.dst.isSome then v else undef) w') else F i undef w)
    (hend : ∀ (u : Nat → Value) w', G w' → (∀ i, i < l.length → uses l i = [] → F i (u i) w') → Q .normal ⟨fill t0 l 0 u, df⟩ w') :
    (Code.region id l.toArray true).wp P Q ⟨t0, df⟩ w :=
  wp_region_factsUE (fun i u w => F i (u i) w) K G q Gq hE hm hB hG0 hq0 hqK hK hGK (fun i j hg u u' w w' hu hk hf => by
    have hij : i ≠ j := fun e => by subst e; simp [goneB] at hg
    rw [← hu i hij]; exact hF i j hg _ _ _ hk hf)
    (fun i o ho r w hg hr hq hf => by simpa only [updV, if_true] using hstep i o ho r w hg hr hq hf) hend

/-- One obligation an operation. -/
def stepsFromE (P : Program) (E : List PanicEntry → World → Prop) (F : Nat → Value → World → Prop) (K : Nat → World → World → Prop) (G : World → Prop) (t0 : Array Value) (D : List (Option Nat)) (X : List (Nat × Nat)) (Gq : World → Prop) (Y : List Nat) : List Oper → Nat → Prop
  | [], _ => True
  | o :: rest, i => (∀ (r : Nat → Value) w, G w → (∀ s, (!D.contains (some s) || X.contains (i, s)) = true → r s = t0.getD s undef) → (Y.contains i = true → Gq w) → factsOf F D r w o.after.toList →
      if Region.wanted o (ydD D r) then givesE P E r o w (fun v w' => K i w w' ∧ F i (if o.dst.isSome then v else undef) w') else F i undef w) ∧ stepsFromE P E F K G t0 D X Gq Y rest (i + 1)

theorem stepsFromE_at {F : Nat → Value → World → Prop} {K : Nat → World → World → Prop} {G : World → Prop} {D : List (Option Nat)} {X : List (Nat × Nat)} {Gq : World → Prop} {Y : List Nat} : ∀ (m : List Oper) (k : Nat), stepsFromE P E F K G t0 D X Gq Y m k → ∀ (i : Nat) o, m[i]? = some o → ∀ (r : Nat → Value) w, G w → (∀ s, (!D.contains (some s) || X.contains (k + i, s)) = true → r s = t0.getD s undef) → (Y.contains (k + i) = true → Gq w) → factsOf F D r w o.after.toList →
      if Region.wanted o (ydD D r) then givesE P E r o w (fun v w' => K (k + i) w w' ∧ F (k + i) (if o.dst.isSome then v else undef) w') else F (k + i) undef w
  | [], _, _, i, _, hi => by simp at hi
  | o :: m, k, h, 0, o', hi => by
    simp only [List.getElem?_cons_zero, Option.some.injEq] at hi
    subst hi
    exact h.1
  | o :: m, k, h, i + 1, o', hi => by
    have := stepsFromE_at m (k + 1) h.2 i o' (by simpa using hi)
    rwa [show k + 1 + i = k + (i + 1) by omega] at this

theorem wp_region_untilE (D : List (Option Nat)) (X : List (Nat × Nat)) (q : Nat) (Gq : World → Prop) (Y : List Nat) (F : Nat → Value → World → Prop) (K : Nat → World → World → Prop) (G : World → Prop)
    (hE : ∀ c (a : Act) w, a.defers = df → (∀ s : Nat, s ∉ dsts l → a.tmps[s]? = t0[s]?) → E c w → Q (.panic c) a w) (hm : P.follows .mixedOrders = true) (hB : factsB t0.size l = true) (hD : l.map (·.dst) = D) (hX : beforeB l X = true) (hY : untilB l q Y = true) (hG0 : G w.drew) (hq0 : Gq w.drew) (hqK : ∀ j, j ≠ q → waits l l.length j q = false → ∀ w w', K j w w' → Gq w → Gq w')
    (hK : ∀ j w, K j w w) (hGK : ∀ j w w', G w → K j w w' → G w') (hF : stabs l F K D.length 0)
    (hstep : stepsFromE P E F K G t0 D X Gq Y l 0)
    (hend : ∀ (u : Nat → Value) w', G w' → (∀ i, i < l.length → uses l i = [] → F i (u i) w') → Q .normal ⟨fill t0 l 0 u, df⟩ w') :
    (Code.region id l.toArray true).wp P Q ⟨t0, df⟩ w :=
  wp_region_factsE (fun i v w => i < l.length → F i v w) K G q Gq hE hm hB hG0 hq0 hqK hK hGK (fun i j hg v w w' hk hf hi => by
      have hl : l.length = D.length := by rw [← hD, List.length_map]
      have := stabs_at D.length 0 hF i (by omega)
      simp only [Nat.zero_add] at this
      exact this j hg v w w' hk (hf hi)) (fun i o hi r w hg hr hq hf => by
    have hil : i < l.length := (List.getElem?_eq_some_iff.1 hi).1
    have := stepsFromE_at l 0 hstep i o hi r w hg (fun s hs => hr s (by
      intro j hj
      rw [Nat.zero_add] at hs
      have hm2 := mem_dsts hj
      obtain ⟨o2, ho2, hd2⟩ := List.mem_filterMap.1 hm2
      have hc : D.contains (some s) = true := by
        rw [← hD, List.contains_iff_mem, List.mem_map]
        exact ⟨o2, ho2, hd2⟩
      rw [hc] at hs
      simp only [Bool.not_true, Bool.false_or, List.contains_iff_mem] at hs
      unfold beforeB at hX
      rw [List.all_eq_true] at hX
      have h1 := hX _ hs
      rw [List.all_eq_true] at h1
      have hjl : j < l.length := by
        unfold dstOf at hj
        rcases Nat.lt_or_ge j l.length with h | h
        · exact h
        · rw [List.getElem?_eq_none h] at hj; cases hj
      have h2 := h1 j (List.mem_range.2 hjl)
      rw [hj] at h2
      simp at h2
      rcases h2 with h2 | h2
      · exact .inl h2
      · exact .inr h2)) (fun hy => hq (by
        rw [Nat.zero_add] at hy
        unfold untilB at hY
        rw [List.all_eq_true] at hY
        have := hY i (by simpa using hy)
        simpa using this)) (factsOf_of _ fun e he hh => by
        rw [← valD_eq hD]
        refine hf e (by simpa using he) hh ?_
        simp only [factsB, Bool.and_eq_true, List.all_eq_true] at hB
        have h1 := hB.2 i (List.mem_range.2 hil)
        simp only [hi, Option.map_some, Option.getD_some, Array.all_eq_true_iff_forall_mem, Bool.or_eq_true, Bool.not_eq_true', decide_eq_true_eq] at h1
        have := (h1 e (by simpa using he)).resolve_left (by simp only [hands, Bool.and_eq_true] at hh; rw [hh.1]; exact Bool.noConfusion)
        omega)
    have hy : ydD D r = ydOf l r := funext fun j => by unfold ydD ydOf; rw [valD_eq hD]
    rw [hy] at this
    simp only [Nat.zero_add] at this
    split
    · rename_i hw
      rw [if_pos hw] at this
      unfold givesE at this ⊢
      generalize (execOp (rd r) o).run P w = x at *
      cases x with
      | ok n w' =>
        cases n <;> simp only [givesUponE] at this ⊢
        case value v => exact ⟨this.1, fun _ => this.2⟩
        case skip => exact ⟨this.1, fun _ => this.2⟩
        case enter f args => exact this.mono fun e w'' hh => hh.imp (fun ⟨v, he, h1, h2⟩ => ⟨v, he, h1, fun _ => h2⟩) (fun h => h)
      | halt x w' => simp only [givesUponE] at this
    · rename_i hw
      rw [if_neg hw] at this
      exact fun _ => this) (fun u w' hg hf => hend u w' hg fun i hi hu => hf i hi hu hi)

theorem wp_region_stepsE (E : List PanicEntry → World → Prop) (D : List (Option Nat)) (X : List (Nat × Nat)) (F : Nat → Value → World → Prop) (K : Nat → World → World → Prop) (G : World → Prop)
    (hE : ∀ c (a : Act) w, a.defers = df → (∀ s : Nat, s ∉ dsts l → a.tmps[s]? = t0[s]?) → E c w → Q (.panic c) a w) (hm : P.follows .mixedOrders = true) (hB : factsB t0.size l = true) (hD : l.map (·.dst) = D) (hX : beforeB l X = true) (hG0 : G w.drew)
    (hK : ∀ j w, K j w w) (hGK : ∀ j w w', G w → K j w w' → G w') (hF : stabs l F K D.length 0)
    (hstep : stepsFromE P E F K G t0 D X (fun _ => True) [] l 0)
    (hend : ∀ (u : Nat → Value) w', G w' → (∀ i, i < l.length → uses l i = [] → F i (u i) w') → Q .normal ⟨fill t0 l 0 u, df⟩ w') :
    (Code.region id l.toArray true).wp P Q ⟨t0, df⟩ w :=
  wp_region_untilE D X 0 (fun _ => True) [] F K G hE hm hB hD hX rfl hG0 trivial (fun _ _ _ _ _ _ _ => trivial) hK hGK hF hstep hend
@[go_sem] theorem givesE_value (R : Value → World → Prop) (v : Value) (w : World) : givesUponE P E R (.ok (.value v) w) = R v w := rfl
@[go_sem] theorem givesE_skip (R : Value → World → Prop) (w : World) : givesUponE P E R (.ok .skip w) = R undef w := rfl
@[go_sem] theorem givesE_enter (R : Value → World → Prop) (f : FuncId) (args : Array Value) (w : World) : givesUponE P E R (.ok (.enter f args) w) = Calls P f args w fun e w'' => (∃ v, e = .returned v ∧ R v w'') ∨ (∃ c, e = .panicked c ∧ E c w'') := rfl
end
end Go.Proofs.YtfibhmgjkooemaaDoor
