/- A region that draws its order, by facts of all its values: rows that are made and stored in it. -/
import Derived.Test.YtfibhmgjkooemaaDoorReg
namespace Go.Proofs.YtfibhmgjkooemaaDoor
open Go.RowKit

/-- The values of the operations that have come up. -/
def valL (l : List Oper) (listed : Array Bool) (a : Act) (i : Nat) : Value := if listed[i]? = some true then valOf l (slots a) i else undef
structure OnWayV (l : List Oper) (F : Nat → (Nat → Value) → World → Prop) (G : (Nat → Value) → World → Prop) (n : Nat) (q : Nat → Nat) (Gq : Nat → World → Prop) (t0 : Array Value) (df : List Deferred) (listed : Array Bool) (a : Act) (w : World) : Prop where
  size : listed.size = l.length
  closed : ∀ (j : Nat) (o : Oper), listed[j]? = some true → l[j]? = some o → ∀ e ∈ o.after, Region.binds .any e = true → listed[e.on]? = some true
  g : G (valL l listed a) w
  gq : ∀ k, k < n → listed[q k]? ≠ some true → Gq k w
  df : a.defers = df
  tsize : a.tmps.size = t0.size
  keep : ∀ s : Nat, (∀ j, dstOf l j = some s → listed[j]? ≠ some true) → a.tmps[s]? = t0[s]?
  fact : ∀ i : Nat, alive l listed i → F i (valL l listed a) w
section
variable {P : Program} {id : Nat} {Q : Exit → Act → World → Prop} {t0 : Array Value} {df : List Deferred} {w : World} {l : List Oper}

theorem wp_region_factsV (F : Nat → (Nat → Value) → World → Prop) (K : Nat → (Nat → Value) → Value → World → World → Prop) (G : (Nat → Value) → World → Prop) (n : Nat) (q : Nat → Nat) (Gq : Nat → World → Prop)
    (hm : P.follows .mixedOrders = true) (hB : factsB t0.size l = true) (hG0 : G (fun _ => undef) w.drew) (hq0 : ∀ k, k < n → Gq k w.drew) (hqK : ∀ k, k < n → ∀ j, j ≠ q k → waits l l.length j (q k) = false → ∀ u v w w', G u w → K j u v w w' → Gq k w → Gq k w')
    (hK : ∀ j u w, K j u undef w w) (hGK : ∀ j u v w w', (dstOf l j = none → v = undef) → G u w → K j u v w w' → G (updV u j v) w') (hF : ∀ i j, goneB l i j = false → ∀ u v w w', G u w → K j u v w w' → F i u w → F i (updV u j v) w')
    (hstep : ∀ (i : Nat) o, l[i]? = some o → ∀ (r : Nat → Value) (u : Nat → Value) w, G u w → (∀ m, waits l l.length i m = true → u m = valOf l r m) → (∀ s, (∀ j, dstOf l j = some s → j = i ∨ waits l l.length j i = true) → r s = t0.getD s undef) → (∀ k, k < n → i = q k ∨ waits l l.length (q k) i = true → Gq k w) → (∀ e ∈ o.after, hands e = true → F e.on u w) →
      if Region.wanted o (ydOf l r) then gives P r o w (fun v w' => K i u (if o.dst.isSome then v else undef) w w' ∧ F i (updV u i (if o.dst.isSome then v else undef)) w') else F i (updV u i undef) w)
    (hend : ∀ (u : Nat → Value) w', G u w' → (∀ i, i < l.length → uses l i = [] → F i u w') → Q .normal ⟨fill t0 l 0 u, df⟩ w') :
    (Code.region id l.toArray true).wp P Q ⟨t0, df⟩ w := by
  simp only [factsB, Bool.and_eq_true, decide_eq_true_eq, List.all_eq_true] at hB
  obtain ⟨⟨hlt, hnd⟩, hbk⟩ := hB
  have unl' : ∀ (listed : Array Bool) (i : Nat), listed.size = l.length → i ∈ Region.ready .any l.toArray listed → listed[i]? = some false := by
    intro listed i hs hi
    have h1 := (mem_ready.1 hi).1
    rw [Array.getD_eq_getD_getElem?] at h1
    cases hx : listed[i]? with
    | none => simp [hx] at h1
    | some b => simp [hx] at h1; rw [h1]
  have unl : ∀ (listed : Array Bool) (i : Nat), listed.size = l.length → i ∈ Region.ready .any l.toArray listed → false ∈ listed.toList.filter (!·) := by
    intro listed i hs hi
    have := unl' listed i hs hi
    rw [List.mem_filter]
    exact ⟨by rw [← Array.getElem?_toList] at this; exact List.mem_of_getElem? this, rfl⟩
  have main : ∀ (fuel : Nat) (listed : Array Bool) (a : Act) (w : World), (listed.toList.filter (!·)).length ≤ fuel → OnWayV l F G n q Gq t0 df listed a w → wpAny P .any l.toArray Q fuel listed a w := by
    have fin : ∀ (listed : Array Bool) (a : Act) (w : World), Region.ready .any l.toArray listed = [] → OnWayV l F G n q Gq t0 df listed a w → Q .normal a w := by
      intro listed a w hr h
      have hall : ∀ i, i < l.length → listed[i]? = some true := by
        intro i
        induction i using Nat.strongRecOn with
        | _ i ih =>
          intro hi
          have hsz := h.size
          cases hb : listed[i]? with
          | none => rw [Array.getElem?_eq_none_iff] at hb; omega
          | some b =>
            cases b with
            | true => rfl
            | false =>
              exfalso
              have hmem : i ∈ Region.ready .any l.toArray listed := by
                refine mem_ready.2 ⟨by simp [Array.getD_eq_getD_getElem?, hb], l[i], by simp [hi], fun e he hbd => ?_⟩
                have h1 := hbk i (List.mem_range.2 hi)
                simp only [List.getElem?_eq_getElem hi, Option.map_some, Option.getD_some, Array.all_eq_true_iff_forall_mem, Bool.or_eq_true, Bool.not_eq_true', decide_eq_true_eq] at h1
                have h2 := (h1 e he).resolve_left (by rw [hbd]; exact Bool.noConfusion)
                simp [Array.getD_eq_getD_getElem?, ih e.on h2 (by omega)]
              rw [hr] at hmem
              cases hmem
      have hva : valL l listed a = fun i => valOf l (slots a) i := by
        funext m
        unfold valL
        by_cases hm : m < l.length
        · rw [if_pos (hall m hm)]
        · have h1 : dstOf l m = none := by unfold dstOf; rw [List.getElem?_eq_none (by omega)]; rfl
          split
          · rfl
          · unfold valOf; rw [h1]
      have := hend (fun i => valOf l (slots a) i) w (hva ▸ h.g) (fun i hi hu => hva ▸ h.fact i ⟨hall i hi, .inl hu⟩)
      have ha : a = ⟨fill t0 l 0 (fun i => valOf l (slots a) i), df⟩ := by
        have h1 := h.df
        obtain ⟨ts, ds⟩ := a
        simp only at h1
        subst h1
        congr 1
        apply Array.ext_getElem?
        intro s
        by_cases hs : s ∈ dsts l
        · obtain ⟨o, ho, hd⟩ := List.mem_filterMap.1 hs
          obtain ⟨i, hi, rfl⟩ := List.getElem_of_mem ho
          have hdi : dstOf l i = some s := by simp [dstOf, hi, hd]
          have hst : s < t0.size := by simpa using hlt s hs
          rw [fill_at l t0 0 _ i s hnd hdi hst]
          have htz := h.tsize
          simp only at htz
          simp [valOf, hdi, slots, Array.getD_eq_getD_getElem?, htz, hst]
        · rw [fill_other l _ _ _ _ hs]; exact h.keep s (fun j hj => absurd (mem_dsts hj) hs)
      rw [ha]
      exact this
    have step : ∀ (listed : Array Bool) (a : Act) (w : World) (i : Nat), OnWayV l F G n q Gq t0 df listed a w → i ∈ Region.ready .any l.toArray listed →
        wpOp P l.toArray Q i (fun a' w' => OnWayV l F G n q Gq t0 df (listed.setIfInBounds i true) a' w') a w := by
      intro listed a w i h hi
      have hif := unl' listed i h.size hi
      obtain ⟨hun, o, ho, hpre0⟩ := mem_ready.1 hi
      have hpre : ∀ e ∈ o.after, Region.binds .any e = true → listed[e.on]? = some true := by
        intro e he hb
        have := hpre0 e he hb
        rw [Array.getD_eq_getD_getElem?] at this
        cases hx : listed[e.on]? with
        | none => simp [hx] at this
        | some b => simp [hx] at this; rw [this]
      have ho' : l[i]? = some o := by simpa using ho
      have hil : i < l.length := (List.getElem?_eq_some_iff.1 ho').1
      have hs := hstep i o ho' (slots a) (valL l listed a) w h.g (fun m hm => by unfold valL; rw [if_pos (waits_ready h.closed ho' hpre _ hm)]) (fun s hs => by
        have := h.keep s (fun j hj hl => by
          rcases hs j hj with rfl | hw
          · rw [hif] at hl; cases hl
          · have := waits_listed h.closed _ _ _ hl hw
            rw [hif] at this; cases this)
        simp [slots, Array.getD_eq_getD_getElem?, this]) (fun k hk hqi => h.gq k hk (fun hl => by
          rcases hqi with hw | hw
          · rw [← hw, hif] at hl; cases hl
          · have := waits_listed h.closed _ _ _ hl hw
            rw [hif] at this; cases this)) (fun e he hh => h.fact e.on (by
          have hb : Region.binds .any e = true := by unfold hands at hh; simp only [Bool.and_eq_true] at hh; exact hh.1
          refine ⟨hpre e he hb, ?_⟩
          unfold uses
          split
          · exact .inl rfl
          refine .inr ⟨i, ?_, hif⟩
          unfold usesAll
          rw [List.mem_filter]
          refine ⟨List.mem_range.2 hil, ?_⟩
          simp only [ho', Option.map_some, Option.getD_some, Array.any_eq_true', Bool.and_eq_true, beq_iff_eq]
          exact ⟨e, he, hh, rfl⟩))
      have put : ∀ v w', K i (valL l listed a) (if o.dst.isSome then v else undef) w w' ∧ F i (updV (valL l listed a) i (if o.dst.isSome then v else undef)) w' → OnWayV l F G n q Gq t0 df (listed.setIfInBounds i true) (a.put o.dst v) w' := by
        intro v w' ⟨hk, hf⟩
        have hdo : dstOf l i = o.dst := by simp [dstOf, ho']
        have hset : ∀ j : Nat, (listed.setIfInBounds i true)[j]? = some true → j = i ∨ listed[j]? = some true := by
          intro j hj
          by_cases hji : j = i
          · exact .inl hji
          · right
            rw [Array.getElem?_setIfInBounds] at hj
            simpa [Ne.symm hji] using hj
        have hset2 : ∀ j : Nat, listed[j]? = some true → (listed.setIfInBounds i true)[j]? = some true := by
          intro j hj
          rw [Array.getElem?_setIfInBounds]
          by_cases hji : i = j
          · subst hji; simp; have := h.size; omega
          · simp [hji, hj]
        have hoth : ∀ m, m ≠ i → valOf l (slots (a.put o.dst v)) m = valOf l (slots a) m := by
          intro m hmi
          unfold valOf
          cases hdj : dstOf l m with
          | none => rfl
          | some d' =>
            cases hd : o.dst with
            | none => rfl
            | some d =>
              have hne : d ≠ d' := fun e => hmi (dst_inj hnd hdj (by rw [hdo, hd, e]))
              simp [slots, Act.put, Array.getD_eq_getD_getElem?, Array.getElem?_setIfInBounds_ne hne]
        have hself : valOf l (slots (a.put o.dst v)) i = if o.dst.isSome then v else undef := by
          cases hd : o.dst with
          | none => simp [valOf, hdo, hd]
          | some d =>
            have hdt : d < t0.size := by simpa using hlt d (mem_dsts (hdo.trans hd))
            have htz := h.tsize
            simp [valOf, hdo, hd, slots, Act.put, Array.getD_eq_getD_getElem?, htz, hdt]
        have hfun : valOf l (slots (a.put o.dst v)) = updV (valOf l (slots a)) i (if o.dst.isSome then v else undef) := by
          funext m
          unfold updV
          by_cases hmi : m = i
          · rw [if_pos hmi, hmi]; exact hself
          · rw [if_neg hmi]; exact hoth m hmi
        have hvs : valL l (listed.setIfInBounds i true) (a.put o.dst v) = updV (valL l listed a) i (if o.dst.isSome then v else undef) := by
          funext m
          unfold updV
          by_cases hmi : m = i
          · rw [if_pos hmi, hmi]
            unfold valL
            rw [if_pos (by rw [Array.getElem?_setIfInBounds]; have := h.size; simp; omega)]
            exact hself
          · rw [if_neg hmi]
            unfold valL
            by_cases hml : listed[m]? = some true
            · rw [if_pos (hset2 m hml), if_pos hml]; exact hoth m hmi
            · rw [if_neg (fun e => (hset m e).elim hmi hml), if_neg hml]
        refine ⟨by simpa using h.size, ?_, by rw [hvs]; exact hGK _ _ _ _ _ (fun e => by rw [← hdo, e]; rfl) h.g hk, ?_, ?_, ?_, ?_, ?_⟩
        · intro j o2 hj ho2 e he hb
          rcases hset j hj with rfl | hj
          · rw [ho'] at ho2
            obtain rfl := Option.some.inj ho2
            exact hset2 _ (hpre e he hb)
          · exact hset2 _ (h.closed j o2 hj ho2 e he hb)
        · intro k hkn hq
          by_cases hiq : i = q k
          · exfalso; apply hq; rw [← hiq]
            rw [Array.getElem?_setIfInBounds]; have := h.size; simp; omega
          · exact hqK k hkn i hiq (by
              cases hwq : waits l l.length i (q k) with
              | false => rfl
              | true => exact absurd (hset2 (q k) (waits_ready h.closed ho' hpre _ hwq)) hq) _ _ _ _ h.g hk (h.gq k hkn (fun hl => hq (hset2 (q k) hl)))
        · cases o.dst <;> exact h.df
        · cases o.dst <;> simpa [Act.put] using h.tsize
        · intro s hs
          have hold := h.keep s (fun j hj hl => hs j hj (hset2 j hl))
          cases hd : o.dst with
          | none => simpa [Act.put] using hold
          | some d =>
            have hne : d ≠ s := fun e => hs i (by rw [hdo, hd, e]) (by
              rw [Array.getElem?_setIfInBounds]; have := h.size; simp; omega)
            simpa [Act.put, Array.getElem?_setIfInBounds_ne hne] using hold
        · intro j ⟨hj, hal⟩
          by_cases hji : j = i
          · subst hji
            rw [hvs]; exact hf
          · have hj' : listed[j]? = some true := (hset j hj).resolve_left hji
            have hunset : ∀ c : Nat, (listed.setIfInBounds i true)[c]? = some false → c ≠ i ∧ listed[c]? = some false := by
              intro c hc
              rw [Array.getElem?_setIfInBounds] at hc
              by_cases hic : i = c
              · subst hic
                simp at hc
              · simp [hic] at hc; exact ⟨Ne.symm hic, hc⟩
            rw [hvs]
            refine hF j i ?_ _ _ _ _ h.g hk (h.fact j ⟨hj', hal.imp (fun x => x) fun ⟨c, hc, hcf⟩ => ⟨c, hc, (hunset c hcf).2⟩⟩)
            unfold goneB
            simp only [Bool.or_eq_false_iff]
            refine ⟨⟨by simpa using hji, ?_⟩, ?_⟩
            · cases hw : waits l l.length j i with
              | false => rfl
              | true =>
                have := waits_listed h.closed _ _ _ hj' hw
                rw [hif] at this
                cases this
            · rcases hal with hal | ⟨c, hc, hcf⟩
              · simp [hal]
              · obtain ⟨hci, hcl⟩ := hunset c hcf
                rw [Bool.and_eq_false_iff]
                right
                rw [List.all_eq_false]
                refine ⟨c, hc, ?_⟩
                intro h1
                simp only [Bool.or_eq_true, beq_iff_eq] at h1
                rcases h1 with h1 | h1
                · exact hci h1
                · have := waits_ready h.closed ho' hpre _ h1
                  rw [hcl] at this
                  cases this
      unfold wpOp
      rw [ho]
      simp only []
      have hy : (yielded l.toArray a.tmps) = ydOf l (slots a) := funext fun j => yielded_yd l a j
      rw [hy]
      split
      · rename_i hw
        simp only [hw, if_true] at hs
        exact .inl (wp_of_gives hs put)
      · rename_i hw
        simp only [hw] at hs
        exact put undef w ⟨by cases o.dst.isSome <;> exact hK _ _ w, by cases o.dst.isSome <;> simpa using hs⟩
    intro fuel
    induction fuel with
    | zero =>
      intro listed a w hc h
      have hr : Region.ready .any l.toArray listed = [] := by
        apply List.eq_nil_iff_forall_not_mem.2
        intro i hi
        have h0 := unl listed i h.size hi
        have := List.length_pos_of_mem h0
        omega
      exact ⟨hr, fin _ _ _ hr h⟩
    | succ fuel ih =>
      intro listed a w hc h
      refine ⟨fun hr => fin _ _ _ hr h, fun i hi => wpOp_mono (fun a' w' h' => ih _ _ _ ?_ h') (step _ _ _ i h hi)⟩
      have h0 : listed[i]? = some false := unl' listed i h.size hi
      have := count_set listed i h0
      omega
  have hrep : ∀ j : Nat, (Array.replicate l.toArray.size false)[j]? ≠ some true := by
    intro j hj
    rw [Array.getElem?_replicate] at hj
    split at hj <;> cases hj
  exact wp_region_any hm (main _ _ _ _ (by simp) ⟨by simp, fun j _ hj => absurd hj (hrep j), by rw [show valL l _ _ = fun _ => undef from funext fun m => if_neg (hrep m)]; exact hG0, fun k hk _ => hq0 k hk, rfl, rfl, fun _ _ => rfl, fun i hi => absurd hi.1 (hrep i)⟩)

end

/-- The blocks below stay, but for those of T. -/
structure KeptT (T : List Nat) (w w' : World) : Prop where
  os : w'.os = w.os
  tape : w'.tape = w.tape
  output : w'.output = w.output
  size : w.heap.size ≤ w'.heap.size
  block : ∀ k, k < w.heap.size → k ∉ T → w'.heap[k]? = w.heap[k]?
theorem KeptT.refl (T : List Nat) (w : World) : KeptT T w w := ⟨rfl, rfl, rfl, Nat.le_refl _, fun _ _ _ => rfl⟩
theorem KeptT.drew (T : List Nat) (w : World) : KeptT T w w.drew := ⟨rfl, rfl, rfl, Nat.le_refl _, fun _ _ _ => rfl⟩
theorem KeptT.below {T : List Nat} {w w' : World} (h : KeptT T w w') {B : Nat} (hB : B ≤ w.heap.size) (hT : ∀ t ∈ T, B ≤ t) : Below B w w' :=
  ⟨h.os, h.tape, h.output, h.size, fun k hk => h.block k (by omega) (fun e => by have := hT k e; omega)⟩
theorem KeptT.bel {w w' : World} (h : KeptT [] w w') : Below w.heap.size w w' := h.below (Nat.le_refl _) (by simp)
theorem KeptT.row {T : List Nat} {w w' : World} (h : KeptT T w w') {g : Nat} {o : Obj} (hg : g ∉ T) (hr : w.heap[g]? = some o) : w'.heap[g]? = some o :=
  (h.block g (Array.getElem?_eq_some_iff.1 hr).1 hg).trans hr
theorem KeptT.cell {T : List Nat} {w w' : World} (h : KeptT T w w') {p : Addr} (hg : p.block ∉ T) (hr : p.block < w.heap.size) : w'.cell? p = w.cell? p :=
  World.cell?_of_block (h.block p.block hr hg)
theorem KeptT.then_below {T : List Nat} {w w' w'' : World} (h : KeptT T w w') (k : Below w'.heap.size w' w'') : KeptT T w w'' :=
  ⟨k.os.trans h.os, k.tape.trans h.tape, k.output.trans h.output, Nat.le_trans h.size k.size, fun g hg hT => (k.block g (Nat.lt_of_lt_of_le hg h.size)).trans (h.block g hg hT)⟩
theorem KeptT.then_at {T : List Nat} {w w' w'' : World} (h : KeptT T w w') {g : Nat} (k : w'.grownBy w'' (some g)) (hg : g ∈ T ∨ w.heap.size ≤ g) : KeptT T w w'' :=
  ⟨k.os.trans h.os, k.tape.trans h.tape, k.output.trans h.output, Nat.le_trans h.size k.size, fun b hb hT => (k.block b (Nat.lt_of_lt_of_le hb h.size) (fun e => by
    have e : g = b := by simpa using e.symm
    subst e
    rcases hg with hg | hg
    · exact hT hg
    · omega)).trans (h.block b hb hT)⟩

/-- What is made in the region lies apart. -/
def AlV (B : Nat) (A : List Nat) (u : Nat → Value) (w : World) : Prop := ∀ a, a ∈ A → ∀ g, u a = .pointer (some ⟨g, 0, none⟩) → B ≤ g → g < w.heap.size ∧ ∀ b, b ∈ A → u b = .pointer (some ⟨g, 0, none⟩) → a = b

/-- What an operation does to the world, by its code: 1 makes a row, 2 stores a row of T, 3 stores a row that operation a has made, else it leaves all as it is. -/
def cK (T : List Nat) (B : Nat) (C : List (Nat × Nat)) (j : Nat) (u : Nat → Value) (v : Value) (w w' : World) : Prop :=
  match C.getD j (0, 0) with
  | (1, _) => (v = undef ∧ w' = w) ∨ ((∃ g, v = .pointer (some ⟨g, 0, none⟩) ∧ w.heap.size ≤ g ∧ g < w'.heap.size) ∧ Below w.heap.size w w')
  | (2, k) => w' = w ∨ w.grownBy w' (some (T.getD k 0))
  | (3, a) => w' = w ∨ ∃ g, u a = .pointer (some ⟨g, 0, none⟩) ∧ B ≤ g ∧ w.grownBy w' (some g)
  | _ => Below w.heap.size w w'
/-- What holds behind it. -/
def cF (T : List Nat) (B : Nat) (C : List (Nat × Nat)) (Pv : Nat → Value → Prop) (Pw : Nat → Value → World → Prop) (Ob : Nat → Obj) (i : Nat) (u : Nat → Value) (w : World) : Prop :=
  match C.getD i (0, 0) with
  | (0, _) => Pv i (u i)
  | (1, _) => ∃ g, u i = .pointer (some ⟨g, 0, none⟩) ∧ B ≤ g ∧ w.heap[g]? = some (Ob i)
  | (2, k) => w.heap[T.getD k 0]? = some (Ob i)
  | (3, a) => ∃ g, u a = .pointer (some ⟨g, 0, none⟩) ∧ B ≤ g ∧ w.heap[g]? = some (Ob i)
  | _ => Pw i (u i) w
/-- The form of the codes. -/
def codesB (l : List Oper) (C : List (Nat × Nat)) (A : List Nat) (S : List Nat) : Bool :=
  (C.length == l.length) && (List.range l.length).all fun i =>
    match C.getD i (0, 0) with
    | (1, _) => A.contains i && (dstOf l i).isSome && (List.range l.length).all fun j => (C.getD j (0, 0) != (3, i)) || goneB l i j
    | (2, k) => decide (k < S.length) && (i == S.getD k 0 || waits l l.length i (S.getD k 0)) && ((List.range l.length).all fun j => (C.getD j (0, 0) != (2, k)) || goneB l i j)
    | (3, a) => A.contains a && (C.getD a (0, 0)).1 == 1 && decide (a < l.length) && waits l l.length i a && (List.range l.length).all fun j => (C.getD j (0, 0) != (3, a)) || goneB l i j
    | (c, _) => decide (c ≤ 4)
def nearB (l : List Oper) (S : List Nat) (Y : List (Nat × Nat)) : Bool := Y.all fun p => decide (p.2 < S.length) && (p.1 == S.getD p.2 0 || waits l l.length (S.getD p.2 0) p.1)
/-- What the rows of T hold at first. -/
def olds (w : World) : List Nat → List Obj → Prop
  | [], [] => True
  | t :: T, o :: O => w.heap[t]? = some o ∧ olds w T O
  | _, _ => False
theorem olds_at {w : World} : ∀ {T : List Nat} {O : List Obj}, olds w T O → T.length = O.length ∧ ∀ k, k < T.length → w.heap[T.getD k 0]? = some (O.getD k default)
  | [], [], _ => ⟨rfl, fun k hk => absurd hk (by simp)⟩
  | t :: T, o :: O, h => by
    obtain ⟨h1, h2⟩ := olds_at h.2
    refine ⟨by simp [h1], fun k hk => ?_⟩
    cases k with
    | zero => exact h.1
    | succ k => simpa using h2 k (by simpa using hk)

/-- What an operation is asked to bring. -/
def obC (T : List Nat) (B : Nat) (D : List (Option Nat)) (Pv : Nat → Value → Prop) (Pw : Nat → Value → World → Prop) (Ob : Nat → Obj) (i : Nat) (r : Nat → Value) (s : Bool) (w : World) : Nat × Nat → Value → World → Prop
  | (0, _), v, w' => Below w.heap.size w w' ∧ Pv i (if s then v else undef)
  | (1, _), v, w' => ∃ g, v = .pointer (some ⟨g, 0, none⟩) ∧ w.heap.size ≤ g ∧ w'.heap[g]? = some (Ob i) ∧ Below w.heap.size w w'
  | (2, k), _, w' => w'.heap[T.getD k 0]? = some (Ob i) ∧ w.grownBy w' (some (T.getD k 0))
  | (3, a), _, w' => ∃ g, valD D r a = .pointer (some ⟨g, 0, none⟩) ∧ B ≤ g ∧ w.grownBy w' (some g) ∧ w'.heap[g]? = some (Ob i)
  | _, v, w' => Below w.heap.size w w' ∧ Pw i (if s then v else undef) w'
theorem obC_q {T : List Nat} {B : Nat} {D : List (Option Nat)} {Pv : Nat → Value → Prop} {Pw : Nat → Value → World → Prop} {Ob : Nat → Obj} {i : Nat} {r : Nat → Value} {s : Bool} {w w' : World} {a : Nat} {v : Value} (h : Below w.heap.size w w') (hp : Pv i (if s then v else undef)) : obC T B D Pv Pw Ob i r s w (0, a) v w' := ⟨h, hp⟩
theorem obC_st {T : List Nat} {B : Nat} {D : List (Option Nat)} {Pv : Nat → Value → Prop} {Pw : Nat → Value → World → Prop} {Ob : Nat → Obj} {i : Nat} {r : Nat → Value} {s : Bool} {w w' : World} {k : Nat} {v : Value} (h1 : w'.heap[T.getD k 0]? = some (Ob i)) (h2 : w.grownBy w' (some (T.getD k 0))) : obC T B D Pv Pw Ob i r s w (2, k) v w' := ⟨h1, h2⟩
def skC (Pv : Nat → Value → Prop) (Pw : Nat → Value → World → Prop) (i : Nat) (w : World) : Nat × Nat → Prop
  | (0, _) => Pv i undef
  | (4, _) => Pw i undef w
  | _ => False
def factsC (T : List Nat) (B : Nat) (C : List (Nat × Nat)) (Pv : Nat → Value → Prop) (Pw : Nat → Value → World → Prop) (Ob : Nat → Obj) (D : List (Option Nat)) (r : Nat → Value) (w : World) : List Edge → Prop
  | [] => True
  | e :: es => if hands e then cF T B C Pv Pw Ob e.on (valD D r) w ∧ factsC T B C Pv Pw Ob D r w es else factsC T B C Pv Pw Ob D r w es
def stepsC (P : Program) (T : List Nat) (O : List Obj) (w1 : World) (C : List (Nat × Nat)) (Pv : Nat → Value → Prop) (Pw : Nat → Value → World → Prop) (Ob : Nat → Obj) (t0 : Array Value) (D : List (Option Nat)) (X Y : List (Nat × Nat)) : List Oper → Nat → Prop
  | [], _ => True
  | o :: rest, i => (∀ (r : Nat → Value) w, KeptT T w1 w → (∀ s, (!D.contains (some s) || X.contains (i, s)) = true → r s = t0.getD s undef) → (∀ k, Y.contains (i, k) = true → w.heap[T.getD k 0]? = some (O.getD k default)) → factsC T w1.heap.size C Pv Pw Ob D r w o.after.toList →
      if Region.wanted o (ydD D r) = true then gives P r o w (obC T w1.heap.size D Pv Pw Ob i r o.dst.isSome w (C.getD i (0, 0))) else skC Pv Pw i w (C.getD i (0, 0))) ∧ stepsC P T O w1 C Pv Pw Ob t0 D X Y rest (i + 1)
theorem wanted_pos {c : Bool} {A B : Prop} (hc : c = true) (h : A) : if c = true then A else B := by rw [if_pos hc]; exact h
theorem wanted_neg {c : Bool} {A B : Prop} (hc : c = false) (h : B) : if c = true then A else B := by rw [if_neg (by rw [hc]; decide)]; exact h
theorem gives_mono {P : Program} {r : Nat → Value} {o : Oper} {w : World} {R R' : Value → World → Prop} (h : gives P r o w R) (hr : ∀ v w', R v w' → R' v w') : gives P r o w R' := by
  unfold gives at h ⊢
  generalize (execOp (rd r) o).run P w = x at *
  cases x with
  | ok n w' =>
    cases n <;> simp only [givesUpon] at h ⊢
    case value v => exact hr _ _ h
    case skip => exact hr _ _ h
    case enter f args => exact h.mono fun e w'' ⟨v, he, h1⟩ => ⟨v, he, hr _ _ h1⟩
  | halt x w' => simp only [givesUpon] at h
section
variable {P : Program} {id : Nat} {Q : Exit → Act → World → Prop} {t0 : Array Value} {df : List Deferred} {w : World} {l : List Oper}
theorem stepsC_at {T : List Nat} {O : List Obj} {w1 : World} {C : List (Nat × Nat)} {Pv : Nat → Value → Prop} {Pw : Nat → Value → World → Prop} {Ob : Nat → Obj} {D : List (Option Nat)} {X Y : List (Nat × Nat)} : ∀ (m : List Oper) (k : Nat), stepsC P T O w1 C Pv Pw Ob t0 D X Y m k → ∀ (i : Nat) o, m[i]? = some o → ∀ (r : Nat → Value) w, KeptT T w1 w → (∀ s, (!D.contains (some s) || X.contains (k + i, s)) = true → r s = t0.getD s undef) → (∀ q, Y.contains (k + i, q) = true → w.heap[T.getD q 0]? = some (O.getD q default)) → factsC T w1.heap.size C Pv Pw Ob D r w o.after.toList →
      if Region.wanted o (ydD D r) = true then gives P r o w (obC T w1.heap.size D Pv Pw Ob (k + i) r o.dst.isSome w (C.getD (k + i) (0, 0))) else skC Pv Pw (k + i) w (C.getD (k + i) (0, 0))
  | [], _, _, i, _, hi => by simp at hi
  | o :: m, k, h, 0, o', hi => by
    simp only [List.getElem?_cons_zero, Option.some.injEq] at hi
    subst hi
    exact h.1
  | o :: m, k, h, i + 1, o', hi => by
    have := stepsC_at m (k + 1) h.2 i o' (by simpa using hi)
    rwa [show k + 1 + i = k + (i + 1) by omega] at this
theorem factsC_of {T : List Nat} {B : Nat} {C : List (Nat × Nat)} {Pv : Nat → Value → Prop} {Pw : Nat → Value → World → Prop} {Ob : Nat → Obj} {D : List (Option Nat)} {r : Nat → Value} : ∀ (es : List Edge), (∀ e ∈ es, hands e = true → cF T B C Pv Pw Ob e.on (valD D r) w) → factsC T B C Pv Pw Ob D r w es
  | [], _ => trivial
  | e :: es, h => by
    have := factsC_of es fun e' he' hh => h e' (by simp [he']) hh
    unfold factsC
    split
    · rename_i hh; exact ⟨h e (by simp) hh, this⟩
    · exact this
theorem updV_self (u : Nat → Value) (i : Nat) (v : Value) : updV u i v i = v := if_pos rfl
theorem updV_ne (u : Nat → Value) {i m : Nat} (v : Value) (h : m ≠ i) : updV u i v m = u m := if_neg h

/-- Waiting goes on. -/
theorem waits_more {l : List Oper} : ∀ (f j c : Nat), waits l f j c = true → waits l (f + 1) j c = true
  | 0, _, _, h => by simp [waits] at h
  | f + 1, j, c, h => by
    unfold waits at h ⊢
    cases ho : l[j]? with
    | none => simp [ho] at h
    | some o =>
      simp only [ho, Option.map_some, Option.getD_some, Array.any_eq_true', Bool.and_eq_true, Bool.or_eq_true, beq_iff_eq] at h ⊢
      obtain ⟨e, he, hb, h1⟩ := h
      exact ⟨e, he, hb, h1.imp id (fun h => waits_more f _ _ h)⟩
theorem waits_cut {l : List Oper} (hb : ∀ j o, l[j]? = some o → ∀ e ∈ o.after, Region.binds .any e = true → e.on < j) : ∀ (f j c : Nat), waits l f j c = true → waits l j j c = true
  | 0, _, _, h => by simp [waits] at h
  | f + 1, j, c, h => by
    unfold waits at h
    cases ho : l[j]? with
    | none => simp [ho] at h
    | some o =>
      simp only [ho, Option.map_some, Option.getD_some, Array.any_eq_true', Bool.and_eq_true, Bool.or_eq_true, beq_iff_eq] at h
      obtain ⟨e, he, hbd, h1⟩ := h
      have hlt := hb j o ho e he hbd
      obtain ⟨j', rfl⟩ : ∃ j', j = j' + 1 := ⟨j - 1, by omega⟩
      unfold waits
      simp only [ho, Option.map_some, Option.getD_some, Array.any_eq_true', Bool.and_eq_true, Bool.or_eq_true, beq_iff_eq]
      refine ⟨e, he, hbd, h1.imp id (fun h => ?_)⟩
      have h2 := waits_cut hb f e.on c h
      have : ∀ d, waits l (e.on + d) e.on c = true := fun d => by
        induction d with
        | zero => exact h2
        | succ d ih => exact waits_more _ _ _ ih
      have h3 := this (j' - e.on)
      rwa [show e.on + (j' - e.on) = j' by omega] at h3
theorem binds_low {n : Nat} {l : List Oper} (hB : factsB n l = true) : ∀ j o, l[j]? = some o → ∀ e ∈ o.after, Region.binds .any e = true → e.on < j := fun j o hj e he hb => by
  simp only [factsB, Bool.and_eq_true, List.all_eq_true] at hB
  have h1 := hB.2 j (List.mem_range.2 (List.getElem?_eq_some_iff.1 hj).1)
  simp only [hj, Option.map_some, Option.getD_some, Array.all_eq_true_iff_forall_mem, Bool.or_eq_true, Bool.not_eq_true', decide_eq_true_eq] at h1
  exact (h1 e he).resolve_left (by rw [hb]; exact Bool.noConfusion)
theorem waits_step {n : Nat} {l : List Oper} (hB : factsB n l = true) {i : Nat} {o : Oper} (hi : l[i]? = some o) {e : Edge} (he : e ∈ o.after) (hb : Region.binds .any e = true) {a : Nat} (ha : waits l l.length e.on a = true) : waits l l.length i a = true := by
  have hlow := binds_low hB
  have h1 := waits_cut hlow _ _ _ ha
  have hil : i < l.length := (List.getElem?_eq_some_iff.1 hi).1
  have hel := hlow i o hi e he hb
  obtain ⟨f, hf0⟩ : ∃ f, l.length = f + 1 := ⟨l.length - 1, by omega⟩
  rw [hf0]
  unfold waits
  rw [hi]
  simp only [Option.map_some, Option.getD_some, Array.any_eq_true', Bool.and_eq_true, Bool.or_eq_true, beq_iff_eq]
  refine ⟨e, he, hb, .inr ?_⟩
  have : ∀ d, waits l (e.on + d) e.on a = true := fun d => by
    induction d with
    | zero => exact h1
    | succ d ih => exact waits_more _ _ _ ih
  have h3 := this (f - e.on)
  rwa [show e.on + (f - e.on) = f by omega] at h3
theorem before_of {l : List Oper} {D : List (Option Nat)} (hD : l.map (·.dst) = D) {X : List (Nat × Nat)} (hX : beforeB l X = true) {i s : Nat} (hs : (!D.contains (some s) || X.contains (i, s)) = true) : ∀ j, dstOf l j = some s → j = i ∨ waits l l.length j i = true := by
  intro j hj
  have hm2 := mem_dsts hj
  obtain ⟨o2, ho2, hd2⟩ := List.mem_filterMap.1 hm2
  have hc : D.contains (some s) = true := by
    rw [← hD, List.contains_iff_mem, List.mem_map]
    exact ⟨o2, ho2, hd2⟩
  rw [hc] at hs
  simp only [Bool.not_true, Bool.false_or, List.contains_iff_mem] at hs
  unfold beforeB at hX
  rw [List.all_eq_true] at hX
  have h1 := hX _ hs
  rw [List.all_eq_true] at h1
  have hjl : j < l.length := by
    unfold dstOf at hj
    rcases Nat.lt_or_ge j l.length with h | h
    · exact h
    · rw [List.getElem?_eq_none h] at hj; cases hj
  have h2 := h1 j (List.mem_range.2 hjl)
  rw [hj] at h2
  simp at h2
  rcases h2 with h2 | h2
  · exact .inl h2
  · exact .inr h2

/-- A row, and an operation of another kind: it stays. -/
theorem row_cK {T : List Nat} {B : Nat} {C : List (Nat × Nat)} {j g : Nat} {u : Nat → Value} {v : Value} {w w' : World} {o : Obj} (k : cK T B C j u v w w') (h : w.heap[g]? = some o)
    (h2 : ∀ q, C.getD j (0, 0) = (2, q) → T.getD q 0 ≠ g) (h3 : ∀ a, C.getD j (0, 0) = (3, a) → ∀ b, u a = .pointer (some ⟨b, 0, none⟩) → B ≤ b → b ≠ g) : w'.heap[g]? = some o := by
  have hsz := (Array.getElem?_eq_some_iff.1 h).1
  unfold cK at k
  split at k
  · rcases k with ⟨_, rfl⟩ | ⟨_, k⟩
    · exact h
    · exact (k.block g hsz).trans h
  · rename_i q hq
    rcases k with rfl | k
    · exact h
    · exact (k.block g hsz (fun e => h2 q hq (by simpa using e.symm))).trans h
  · rename_i a ha
    rcases k with rfl | ⟨b, hb, hBb, k⟩
    · exact h
    · exact (k.block g hsz (fun e => h3 a ha b hb hBb (by simpa using e.symm))).trans h
  · exact (k.block g hsz).trans h

theorem no4 {C : List (Nat × Nat)} (h : C.all (fun p => p.1 != 4) = true) (i : Nat) (hi : (C.getD i (0, 0)).1 = 4) : False := by
  rw [List.getD_eq_getElem?_getD] at hi
  rcases hc : C[i]? with _ | p
  · rw [hc] at hi; exact absurd hi (by decide)
  · rw [hc] at hi
    rw [List.all_eq_true] at h
    have := h p (List.mem_of_getElem? hc)
    simp only [Option.getD_some] at hi
    rw [hi] at this
    exact absurd this (by decide)
theorem wp_region_desc (D : List (Option Nat)) (X Y : List (Nat × Nat)) (C : List (Nat × Nat)) (A S : List Nat) (T : List Nat) (O : List Obj) (Pv : Nat → Value → Prop) (Pw : Nat → Value → World → Prop) (Ob : Nat → Obj)
    (hm : P.follows .mixedOrders = true) (hB : factsB t0.size l = true) (hD : l.map (·.dst) = D) (hX : beforeB l X = true) (hY : nearB l S Y = true) (hC : codesB l C A S = true) (hS : S.length = T.length)
    (hO : olds w T O) (hTd : T.Nodup) (hAc : A.all (fun a => (C.getD a (0, 0)).1 == 1) = true)
    (hW : ∀ i, (C.getD i (0, 0)).1 = 4 → ∀ j, goneB l i j = false → ∀ u v x w1 w2, KeptT T w w1 → cK T w.heap.size C j u v w1 w2 → Pw i x w1 → Pw i x w2)
    (hstep : stepsC P T O w C Pv Pw Ob t0 D X Y l 0)
    (hend : ∀ (u : Nat → Value) w', KeptT T w w' → (∀ i, i < l.length → uses l i = [] → cF T w.heap.size C Pv Pw Ob i u w') → Q .normal ⟨fill t0 l 0 u, df⟩ w') :
    (Code.region id l.toArray true).wp P Q ⟨t0, df⟩ w := by
  obtain ⟨hlO, hrow⟩ := olds_at hO
  have hTB : ∀ k, k < T.length → T.getD k 0 < w.heap.size := fun k hk => (Array.getElem?_eq_some_iff.1 (hrow k hk)).1
  have hTm : ∀ k, k < T.length → T.getD k 0 ∈ T := fun k hk => by rw [List.getD_eq_getElem?_getD, List.getElem?_eq_getElem hk]; exact List.getElem_mem _
  have hTi : ∀ k q, k < T.length → q < T.length → T.getD k 0 = T.getD q 0 → k = q := fun k q hk hq e => by
    rw [List.getD_eq_getElem?_getD, List.getD_eq_getElem?_getD, List.getElem?_eq_getElem hk, List.getElem?_eq_getElem hq] at e
    have hp := List.pairwise_iff_getElem.1 hTd
    have e : T[k] = T[q] := by simpa using e
    rcases Nat.lt_trichotomy k q with h | h | h
    · exact absurd e (hp k q hk hq h)
    · exact h
    · exact absurd e.symm (hp q k hq hk h)
  have hcl : C.length = l.length := by unfold codesB at hC; simp only [Bool.and_eq_true, beq_iff_eq] at hC; exact hC.1
  have hcode : ∀ i, i < l.length → _ := fun i hi => by
    unfold codesB at hC
    simp only [Bool.and_eq_true, List.all_eq_true] at hC
    exact hC.2 i (List.mem_range.2 hi)
  have hout : ∀ i, ¬ i < l.length → C.getD i (0, 0) = (0, 0) := fun i hi => by rw [List.getD_eq_getElem?_getD, List.getElem?_eq_none (by omega)]; rfl
  have hlt : ∀ i c a, C.getD i (0, 0) = (c, a) → c ≠ 0 → i < l.length := fun i c a h hc => by
    rcases Nat.lt_or_ge i l.length with h1 | h1
    · exact h1
    · rw [hout i (by omega)] at h; simp at h; omega
  have h1c : ∀ i a, C.getD i (0, 0) = (1, a) → i ∈ A ∧ (dstOf l i).isSome = true ∧ ∀ j, C.getD j (0, 0) = (3, i) → goneB l i j = true := fun i a h => by
    have := hcode i (hlt i 1 a h (by decide))
    simp only [h, Bool.and_eq_true, List.all_eq_true, Bool.or_eq_true, bne_iff_ne, ne_eq] at this
    obtain ⟨⟨h1, h2⟩, h3⟩ := this
    exact ⟨by simpa using h1, h2, fun j hj => (h3 j (List.mem_range.2 (hlt j 3 i hj (by decide)))).resolve_left (fun h => h hj)⟩
  have h2c : ∀ i k, C.getD i (0, 0) = (2, k) → k < T.length ∧ (i = S.getD k 0 ∨ waits l l.length i (S.getD k 0) = true) ∧ ∀ j, C.getD j (0, 0) = (2, k) → goneB l i j = true := fun i k h => by
    have := hcode i (hlt i 2 k h (by decide))
    simp only [h, Bool.and_eq_true, List.all_eq_true, Bool.or_eq_true, bne_iff_ne, ne_eq, decide_eq_true_eq, beq_iff_eq] at this
    obtain ⟨⟨h1, h2⟩, h3⟩ := this
    exact ⟨by omega, h2, fun j hj => (h3 j (List.mem_range.2 (hlt j 2 k hj (by decide)))).resolve_left (fun h => h hj)⟩
  have h3c : ∀ i a, C.getD i (0, 0) = (3, a) → a ∈ A ∧ (C.getD a (0, 0)).1 = 1 ∧ waits l l.length i a = true ∧ ∀ j, C.getD j (0, 0) = (3, a) → goneB l i j = true := fun i a h => by
    have := hcode i (hlt i 3 a h (by decide))
    simp only [h, Bool.and_eq_true, List.all_eq_true, Bool.or_eq_true, bne_iff_ne, ne_eq, decide_eq_true_eq, beq_iff_eq] at this
    obtain ⟨⟨⟨⟨h1, h2⟩, _⟩, h3⟩, h4⟩ := this
    exact ⟨by simpa using h1, h2, h3, fun j hj => (h4 j (List.mem_range.2 (hlt j 3 a hj (by decide)))).resolve_left (fun h => h hj)⟩
  have hAl : ∀ a, a ∈ A → ∃ x, C.getD a (0, 0) = (1, x) := fun a ha => by
    rw [List.all_eq_true] at hAc
    have := hAc a ha
    simp only [beq_iff_eq] at this
    rcases hce : C.getD a (0, 0) with ⟨c, x⟩
    rw [hce] at this
    exact ⟨x, by simp only at this; rw [this]⟩
  have hvD : ∀ (r : Nat → Value), valOf l r = valD D r := fun r => funext fun i => valD_eq hD r i
  refine wp_region_factsV (cF T w.heap.size C Pv Pw Ob) (cK T w.heap.size C) (fun u wx => KeptT T w wx ∧ AlV w.heap.size A u wx) T.length (fun k => S.getD k 0) (fun k wx => wx.heap[T.getD k 0]? = some (O.getD k default)) hm hB ⟨KeptT.drew _ _, fun a _ g hg _ => absurd hg (by simp [undef])⟩ (fun k hk => hrow k hk) ?_ ?_ ?_ ?_ ?_ ?_
  · intro k hk j hj hw u v w1 w2 hG hK h
    refine row_cK hK h (fun q hq e => ?_) (fun a _ b _ hb e => by have := hTB k hk; omega)
    obtain ⟨hq1, hq2, _⟩ := h2c j q hq
    have := hTi q k hq1 hk e
    subst this
    rcases hq2 with hq2 | hq2
    · exact hj hq2
    · rw [hw] at hq2; cases hq2
  · intro j u wx
    unfold cK
    split
    · exact .inl ⟨rfl, rfl⟩
    · exact .inl rfl
    · exact .inl rfl
    · exact Below.refl _ _
  · intro j u v w1 w2 hv ⟨hG, hA⟩ hK
    have hsz : w1.heap.size ≤ w2.heap.size := by
      unfold cK at hK
      split at hK
      · rcases hK with ⟨_, rfl⟩ | ⟨_, hK⟩
        · exact Nat.le_refl _
        · exact hK.size
      · rcases hK with rfl | hK
        · exact Nat.le_refl _
        · exact hK.size
      · rcases hK with rfl | ⟨_, _, _, hK⟩
        · exact Nat.le_refl _
        · exact hK.size
      · exact hK.size
    refine ⟨?_, ?_⟩
    · unfold cK at hK
      split at hK
      · rcases hK with ⟨_, rfl⟩ | ⟨_, hK⟩
        · exact hG
        · exact hG.then_below hK
      · rename_i q hq
        rcases hK with rfl | hK
        · exact hG
        · exact hG.then_at hK (.inl (hTm q (h2c j q hq).1))
      · rcases hK with rfl | ⟨g, _, hg, hK⟩
        · exact hG
        · exact hG.then_at hK (.inr hg)
      · exact hG.then_below hK
    · intro a ha g hg hBg
      by_cases haj : a = j
      · subst haj
        rw [updV_self] at hg
        by_cases hc1 : ∃ x, C.getD a (0, 0) = (1, x)
        · obtain ⟨x, hx⟩ := hc1
          unfold cK at hK
          rw [hx] at hK
          rcases hK with ⟨hu, _⟩ | ⟨⟨g', hg', hs1, hs2⟩, hb⟩
          · rw [hu] at hg; exact absurd hg (by simp [undef])
          · rw [hg'] at hg
            obtain rfl : g' = g := by simpa using hg
            refine ⟨hs2, fun b hb hgb => ?_⟩
            by_cases hba : b = a
            · exact hba.symm
            · rw [updV_ne _ _ hba] at hgb
              have := (hA b hb g' hgb hBg).1
              omega
        · exact absurd ha (fun haA => hc1 (hAl a haA))
      · rw [updV_ne _ _ haj] at hg
        obtain ⟨h1, h2⟩ := hA a ha g hg hBg
        refine ⟨by omega, fun b hb hgb => ?_⟩
        by_cases hbj : b = j
        · subst hbj
          rw [updV_self] at hgb
          obtain ⟨x, hx⟩ := hAl b hb
          unfold cK at hK
          rw [hx] at hK
          rcases hK with ⟨hu, _⟩ | ⟨⟨g', hg', hs1, hs2⟩, _⟩
          · rw [hu] at hgb; exact absurd hgb (by simp [undef])
          · rw [hg'] at hgb
            obtain rfl : g' = g := by cases hgb; rfl
            omega
        · rw [updV_ne _ _ hbj] at hgb
          exact h2 b hb hgb
  · intro i j hg u v w1 w2 ⟨hG, hA⟩ hK h
    have hij : i ≠ j := fun e => by subst e; simp [goneB] at hg
    have hwij : waits l l.length i j = false := by
      unfold goneB at hg
      simp only [Bool.or_eq_false_iff] at hg
      exact hg.1.2
    unfold cF at h ⊢
    split at h
    · rw [updV_ne _ _ hij]; exact h
    · rename_i x hx
      obtain ⟨g, h1, h2, h3⟩ := h
      obtain ⟨hiA, _, hno⟩ := h1c i x hx
      refine ⟨g, by rw [updV_ne _ _ hij]; exact h1, h2, row_cK hK h3 (fun q hq e => ?_) (fun a ha b hb hBb e => ?_)⟩
      · have := hTB q (h2c j q hq).1; omega
      · subst e
        have := (hA i hiA b h1 h2).2 a (h3c j a ha).1 hb
        subst this
        rw [hno j ha] at hg; cases hg
    · rename_i k hk
      obtain ⟨hkT, _, hno⟩ := h2c i k hk
      refine row_cK hK h (fun q hq e => ?_) (fun a _ b _ hb e => by have := hTB k hkT; omega)
      have := hTi q k (h2c j q hq).1 hkT e
      subst this
      rw [hno j hq] at hg; cases hg
    · rename_i a ha
      obtain ⟨g, h1, h2, h3⟩ := h
      obtain ⟨haA, _, hwa, hno⟩ := h3c i a ha
      have haj : a ≠ j := fun e => by subst e; rw [hwij] at hwa; cases hwa
      refine ⟨g, by rw [updV_ne _ _ haj]; exact h1, h2, row_cK hK h3 (fun q hq e => ?_) (fun a' ha' b hb hBb e => ?_)⟩
      · have := hTB q (h2c j q hq).1; omega
      · subst e
        have := (hA a haA b h1 h2).2 a' (h3c j a' ha').1 hb
        subst this
        rw [hno j ha'] at hg; cases hg
    · rename_i h0 h1 h2 h3
      rw [updV_ne _ _ hij]
      have hi4 : (C.getD i (0, 0)).1 = 4 := by
        rcases hce : C.getD i (0, 0) with ⟨c, a⟩
        have hil : i < l.length := hlt i c a hce (fun e => h0 a (by rw [hce, e]))
        have := hcode i hil
        rw [hce] at this
        match c, hce, this with
        | 0, hce, _ => exact absurd hce (h0 a)
        | 1, hce, _ => exact absurd hce (h1 a)
        | 2, hce, _ => exact absurd hce (h2 a)
        | 3, hce, _ => exact absurd hce (h3 a)
        | 4, _, _ => rfl
        | c + 5, _, this => simp at this
      exact hW i hi4 j hg u v (u i) w1 w2 hG hK h
  · intro i o hi r u wx ⟨hG, hA⟩ hu hr hq hf
    have hil : i < l.length := (List.getElem?_eq_some_iff.1 hi).1
    have hlow : ∀ e ∈ o.after, hands e = true → e.on < i ∧ waits l l.length i e.on = true := fun e he hh => by
      have hb : Region.binds .any e = true := by simp only [hands, Bool.and_eq_true] at hh; exact hh.1
      refine ⟨?_, ?_⟩
      · simp only [factsB, Bool.and_eq_true, List.all_eq_true] at hB
        have h1 := hB.2 i (List.mem_range.2 hil)
        simp only [hi, Option.map_some, Option.getD_some, Array.all_eq_true_iff_forall_mem, Bool.or_eq_true, Bool.not_eq_true', decide_eq_true_eq] at h1
        exact (h1 e he).resolve_left (by rw [hb]; exact Bool.noConfusion)
      · obtain ⟨f, hf0⟩ : ∃ f, l.length = f + 1 := ⟨l.length - 1, by omega⟩
        rw [hf0]
        unfold waits
        rw [hi]
        simp only [Option.map_some, Option.getD_some, Array.any_eq_true', Bool.and_eq_true, Bool.or_eq_true, beq_iff_eq]
        exact ⟨e, he, hb, .inl rfl⟩
    have huD : ∀ m, waits l l.length i m = true → u m = valD D r m := fun m hm => (hu m hm).trans (congrFun (hvD r) m)
    have hwtr : ∀ e ∈ o.after, hands e = true → ∀ a, waits l l.length e.on a = true → waits l l.length i a = true := fun e he hh a ha => by
      have := waits_step hB hi he (by simp only [hands, Bool.and_eq_true] at hh; exact hh.1) ha
      exact this
    have hstp := stepsC_at l 0 hstep i o hi r wx hG (fun s hs => hr s (before_of hD hX (by rwa [Nat.zero_add] at hs))) (fun k hk => by
        rw [Nat.zero_add] at hk
        unfold nearB at hY
        rw [List.all_eq_true] at hY
        have := hY (i, k) (by simpa using hk)
        simp only [Bool.and_eq_true, decide_eq_true_eq, Bool.or_eq_true, beq_iff_eq] at this
        exact hq k (by omega) this.2) (factsC_of _ fun e he hh => by
        have he' : e ∈ o.after := by simpa using he
        have h := hf e he' hh
        obtain ⟨hel, hew⟩ := hlow e he' hh
        unfold cF at h ⊢
        split at h
        · rw [huD _ hew] at h; exact h
        · rw [huD _ hew] at h; exact h
        · exact h
        · rename_i a ha
          rw [huD a (hwtr e he' hh a (h3c _ a ha).2.2.1)] at h; exact h
        · rw [huD _ hew] at h; exact h)
    rw [Nat.zero_add] at hstp
    have hy : ydD D r = ydOf l r := funext fun j => by unfold ydD ydOf; rw [valD_eq hD]
    rw [hy] at hstp
    have hdi : dstOf l i = o.dst := by simp [dstOf, hi]
    split
    · rename_i hw
      rw [if_pos hw] at hstp
      refine gives_mono hstp fun v w' hob => ?_
      rcases hce : C.getD i (0, 0) with ⟨c, a⟩
      rw [hce] at hob
      unfold cK cF
      rw [hce]
      match c, hce, hob with
      | 0, _, hob => exact ⟨hob.1, by rw [updV_self]; exact hob.2⟩
      | 1, hce, hob =>
        obtain ⟨g, h1, h2, h3, h4⟩ := hob
        have hd : o.dst.isSome = true := by rw [← hdi]; exact (h1c i a hce).2.1
        rw [hd]
        exact ⟨.inr ⟨⟨g, h1, h2, (Array.getElem?_eq_some_iff.1 h3).1⟩, h4⟩, g, by rw [updV_self]; exact h1, Nat.le_trans hG.size h2, h3⟩
      | 2, _, hob => exact ⟨.inr hob.2, hob.1⟩
      | 3, hce, hob =>
        obtain ⟨g, h1, h2, h3, h4⟩ := hob
        have hwa := (h3c i a hce).2.2.1
        rw [← huD a hwa] at h1
        have hai : a ≠ i := fun e => by
          subst e
          have := (h3c a a hce).2.1
          rw [hce] at this
          cases this
        exact ⟨.inr ⟨g, h1, h2, h3⟩, g, by rw [updV_ne _ _ hai]; exact h1, h2, h4⟩
      | c + 4, _, hob => exact ⟨hob.1, by rw [updV_self]; exact hob.2⟩
    · rename_i hw
      rw [if_neg hw] at hstp
      rcases hce : C.getD i (0, 0) with ⟨c, a⟩
      rw [hce] at hstp
      unfold cF
      rw [hce]
      match c, hstp with
      | 0, hstp => rw [updV_self]; exact hstp
      | 1, hstp => exact absurd hstp (fun h => h)
      | 2, hstp => exact absurd hstp (fun h => h)
      | 3, hstp => exact absurd hstp (fun h => h)
      | 4, hstp => rw [updV_self]; exact hstp
      | c + 5, hstp => exact absurd hstp (fun h => h)
  · intro u w' hG hf
    exact hend u w' hG.1 hf
end
end Go.Proofs.YtfibhmgjkooemaaDoor
