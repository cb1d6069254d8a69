/- The law RowsFollow: entries of which the term alone is looked at; structs beside slices. -/
import Derived.Test.YteflpphpbecciaaFollowP
import Derived.Test.YteflpphpbecciaaReg
namespace Go.Proofs.Yteflpphpbecciaa
open Go.RowKit

/-- The same entries, of which the terms alone are kept. -/
def tl0 (l : List EE) : List EE := (l.map EE.t).map e0
theorem tl0_one (l : List EE) : ∀ u ∈ ecells (tl0 l), u.oneCell' = true := e0_one _
theorem ecells_e0_take (l : List EE) (k : Nat) (e : EE) (h : l[k]? = some e) : ecells (tl0 (l.take (k + 1))) = ecells (tl0 (l.take k)) ++ (e0 e.t).cells := by
  unfold tl0
  rw [List.take_add_one, h, List.map_append, List.map_append, ecells_append]; rfl

set_option maxHeartbeats 2000000 in
theorem terms_any (v : Value) (es : List EE) (w : World) (hr : Rd w 6 v es.length (ecells es)) (hsum : es.length * 80 ≤ 140737488355328) :
    Calls Try.prog 15 #[v] w fun e w' => ∃ v', e = .returned v' ∧ Rd w' 6 v' es.length (ecells (tl0 es)) ∧ Below w.heap.size w w' := by
  obtain ⟨a, c, rfl⟩ := hr.form
  go_enter Try.func15, Try.ntmps15
  go_wp2_with fail
  go_loopw [3, 4] (fun s3 s4 wr => ∃ k : Nat, k ≤ es.length ∧ s4 = .int .i64 k ∧ wr.ownsRow w.heap.size 31 6 s3 k (ecells (tl0 (es.take k))) ∧ Below w.heap.size w wr) (fun _ i _ => es.length - (intOf i).toNat)
  case atStart => exact ⟨0, by omega, rfl, World.ownsRow_nil _ _ _ _, Below.refl _ _⟩
  case round =>
    obtain ⟨k, hk, rfl, hown, hbr⟩ := hrel
    have hz := hbr.size
    obtain ⟨ak, ck, rfl⟩ := own_form hown
    by_cases hlt : k < es.length
    · have hkz : (k : Int) < (es.length : Int) := by omega
      have hk0 : (0 : Int) ≤ (k : Int) := by omega
      obtain ⟨ee, he⟩ : ∃ ee, es[k]? = some ee := ⟨es[k], List.getElem?_eq_getElem hlt⟩
      obtain ⟨q, o, c', hv, _, hq, x0, _⟩ := ent_at (hr.keep hbr) k ee he
      simp only [Value.slice.injEq, true_and] at hv
      obtain ⟨rfl, rfl⟩ := hv
      have hst := ecells_e0_take es k ee he
      have hal : Below wr.heap.size wr (wr.alloc (.cells (e0 ee.t).cells.toArray 31)) := (Below.refl _ _).alloc (Nat.le_refl _) _
      have hrd := Rd.new wr 31 6 1 (e0 ee.t).cells rfl (by omega) (fun u hu => e0_one [ee.t] u (by simpa [ecells] using hu))
      have hown' := own_keep hown hal
      have hz' : w.heap.size ≤ (wr.alloc (.cells (e0 ee.t).cells.toArray 31)).heap.size := Nat.le_trans hz hal.size
      have HST := Lib.hid hst
      clear hst he hown
      go_wp2_with (at_builtin; refine wpList_app Try.underlying23 infoEnt rfl (by decide) rfl _ _ rfl rfl rfl hown' hrd (by omega) (by omega) hz' ?_)
      intro v2 w2 hown2 hg2 _
      have hgb := hg2.below hz' (own_block hown')
      rw [← HST.out] at hown2
      have hB2 := (hbr.trans (hal.mono hz)).trans hgb
      clear hown' hrd hal hz' hg2 hgb x0
      go_wp2_with fail
      go_roundw
      case rel => exact ⟨k + 1, by omega, by go_num, hown2, hB2⟩
      case measure => simp [intOf]; omega
    · have hkz : ¬ (k : Int) < (es.length : Int) := by omega
      obtain rfl : k = es.length := by omega
      rw [List.take_of_length_le (by omega)] at hown
      have hrd := own_rd hown (tl0_one _)
      clear hown
      go_wp2_with fail
      go_ret
      exact ⟨_, rfl, hrd, hbr⟩

/-- A block of no more than three cells. -/
def L3 (w : World) (G : Nat) : Prop := ∀ o u, w.cell? ⟨G, o, none⟩ = some u → o < 3
theorem L3.new (w : World) (x y z : Value) (e : TypeId) : L3 (w.alloc (.cells #[x, y, z] e)) w.heap.size := by
  intro o u h
  rw [World.cell?_alloc_at _ _ _ _ rfl] at h
  have := (Array.getElem?_eq_some_iff.1 h).1
  simpa using this
theorem L3.keep {w w' : World} {G : Nat} (h : L3 w G) (hG : G < w.heap.size) (hb : Below w.heap.size w w') : L3 w' G := by
  intro o u hu
  refine h o u ?_
  rw [← hu]; exact (hb.cell (p := ⟨G, o, none⟩) hG).symm
theorem L3.set {w : World} {G g : Nat} (h : L3 w G) (X Y Z : Value) : L3 (mset g X Y Z w) G := by
  intro o u hu
  have hs : ∀ (w : World) (a : Addr) (x : Value) (u : Value), (w.setCell a x).cell? ⟨G, o, none⟩ = some u → ∃ u', w.cell? ⟨G, o, none⟩ = some u' := by
    intro w a x u hu
    by_cases e : a = ⟨G, o, none⟩
    · subst e
      cases hc : w.cell? ⟨G, o, none⟩ with
      | some u' => exact ⟨u', rfl⟩
      | none =>
        exfalso
        simp only [World.setCell, World.cell?, Array.getElem?_modify, ↓reduceIte] at hu
        simp only [World.cell?] at hc
        cases hh : w.heap[G]? with
        | none => simp [hh] at hu
        | some x =>
          cases x with
          | cells c e f =>
            simp only [hh, Option.isSome_none, Bool.false_eq_true, ↓reduceIte] at hc
            have hge := Array.getElem?_eq_none_iff.1 hc
            simp only [hh, Option.map_some, Option.isSome_none, Bool.false_eq_true, ↓reduceIte] at hu
            rw [Array.getElem?_eq_none (by simpa using hge)] at hu
            cases hu
          | _ => simp [hh] at hu
    · rw [World.cell?_setCell_other _ _ _ _ e] at hu; exact ⟨u, hu⟩
  obtain ⟨u1, h1⟩ := hs _ _ _ _ hu
  obtain ⟨u2, h2⟩ := hs _ _ _ _ h1
  obtain ⟨u3, h3⟩ := hs _ _ _ _ h2
  exact h o u3 h3
/-- Entries do not lie in a log's struct: what is stored there leaves them alone. -/
theorem rd_set3 {w : World} {G : Nat} {v : Value} {es : List EE} (h : Rd w 6 v es.length (ecells es)) (hsz : L3 w G) (X Y Z : Value) :
    Rd (mset G X Y Z w) 6 v es.length (ecells es) := by
  obtain ⟨hl, h1, h2 | ⟨ad, cc, hv, hc, hcell⟩⟩ := h
  · exact ⟨hl, h1, .inl h2⟩
  · refine ⟨hl, h1, .inr ⟨ad, cc, hv, hc, fun j u hu => ?_⟩⟩
    have hcj := hcell j u hu
    have hjl : j < (ecells es).length := (List.getElem?_eq_some_iff.1 hu).1
    rw [ecells_length] at hjl
    have hsp : ad.spot = none := by
      have h3 := hcell 0 ((ecells es)[0]'(by rw [ecells_length]; omega)) (by rw [List.getElem?_eq_getElem])
      have := World.cell?_spot h3
      simpa [Addr.add] using this
    obtain ⟨b, off, sp⟩ := ad
    simp only at hsp
    subst hsp
    have hne : b ≠ G := by
      intro hG
      have hg := fun k hk => ecells_get es (j / 6) (es[j / 6]'(by omega)) (List.getElem?_eq_getElem (by omega)) k hk
      have q5 := hcell _ _ (hg 5 (by omega))
      rw [Addr.add_lit, hG] at q5
      have := hsz _ _ q5
      omega
    rw [Addr.add_lit] at hcj ⊢
    unfold mset
    rw [World.cell?_setCell_other _ _ _ _ (by intro e; injection e with e; exact hne e.symm), World.cell?_setCell_other _ _ _ _ (by intro e; injection e with e; exact hne e.symm), World.cell?_setCell_other _ _ _ _ (by intro e; injection e with e; exact hne e.symm)]
    exact hcj
end Go.Proofs.Yteflpphpbecciaa
