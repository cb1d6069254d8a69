/- What is told on a climb, as a list of texts that grows beside a hash that changes. -/
import Derived.Test.YtfibhmgjkooemaaDoorClS
import Derived.Test.YtfibhmgjkooemaaDoorClM
namespace Go.Proofs.YtfibhmgjkooemaaDoor
open Go.RowKit Sha Root Ones Path Clash

/-- What a block holds stays. -/
theorem Rd.blk {w w' : World} {v : Value} {n : Nat} {xs : List Value} (h : Rd w 1 v n xs) (hb : ∀ q, v.ownBlock = some q → q < w.heap.size → w'.heap[q]? = w.heap[q]?) : Rd w' 1 v n xs := by
  obtain ⟨h1, h2, h3 | ⟨ad, c, hv, hc, hcell⟩⟩ := h
  · exact ⟨h1, h2, .inl h3⟩
  · refine ⟨h1, h2, .inr ⟨ad, c, hv, hc, fun j u hu => ?_⟩⟩
    have h4 := hcell j u hu
    have he : (ad.add j).block = ad.block := by unfold Addr.add; split <;> rfl
    rw [← h4]
    refine World.cell?_of_block (hb _ (by rw [hv, he]; rfl) (World.block_lt_of_cell? w _ h4))
theorem RdB.from {w w' : World} {B : Nat} {v : Value} {n : Nat} {xs : List Value} (h : RdB w B v n xs) (hb : ∀ k, B ≤ k → k < w.heap.size → w'.heap[k]? = w.heap[k]?) : RdB w' B v n xs := ⟨h.1.blk (fun q hq hl => hb q (h.2 q hq) hl), h.2⟩
/-- A text of a byte at least lies in a block that there is. -/
theorem Rd.lt {w : World} {v : Value} {n : Nat} {xs : List Value} (h : Rd w 1 v n xs) (h0 : 0 < n) : ∀ q, v.ownBlock = some q → q < w.heap.size := fun q hq => by
  obtain ⟨b, off, c, hv, _, hcell⟩ := h.at h0
  rw [hv] at hq
  obtain rfl : b = q := by simpa [Value.ownBlock] using hq
  obtain ⟨u, hu⟩ : ∃ u, xs[0]? = some u := ⟨_, List.getElem?_eq_getElem (by have := h.1; omega)⟩
  exact World.block_lt_of_cell? w _ (hcell 0 u hu)
/-- What a climb has told so far. -/
structure L2 (W : Int) (WY : List Bool) (ps : List (List UInt8)) (x h : List UInt8) (w20 wr : World) (gT g13 : Nat) (ta : Option Addr) (tcap jn : Nat) (vs : List Value) : Prop where
  own : wr.ownsRow gT 25 1 (.slice ta (jn + 1) tcap) (jn + 1) vs
  txt : ∀ (k : Nat) (t : List UInt8), ((0 :: x) :: tolds (hw W) (WY.take jn) (ps.take jn) h)[k]? = some t → ∃ u, vs[k]? = some u ∧ Rd wr 1 u t.length (bv t) ∧ ∀ q, u.ownBlock = some q → g13 < q ∧ q < wr.heap.size ∧ (Value.slice ta (jn + 1) tcap).ownBlock ≠ some q
  row : wr.heap[g13]? = some (.cells (bv (clW (hw W) (WY.take jn) (ps.take jn) h)).toArray 35 (0, 0))
  blk : ∀ q, (Value.slice ta (jn + 1) tcap).ownBlock = some q → q = gT ∨ w20.heap.size ≤ q
  size : w20.heap.size ≤ wr.heap.size
  keep : ∀ k, k < w20.heap.size → k ≠ gT → k ≠ g13 → wr.heap[k]? = w20.heap[k]?
  os : wr.os = w20.os
  tape : wr.tape = w20.tape
  output : wr.output = w20.output
theorem stp_len (r : Bool) (h p : List UInt8) : 0 < (stp r h p).length := by
  unfold stp; split <;> simp
theorem L2.next {W : Int} {WY : List Bool} {ps : List (List UInt8)} {x h : List UInt8} {w20 wr wa w5 wd : World} {gT g13 : Nat} {ta ta' : Option Addr} {tcap tcap' jn : Nat} {vs : List Value} {r : Bool} {p : List UInt8} {ua : Option Addr} {uc un : Nat} {o : Obj}
    (H : L2 W WY ps x h w20 wr gT g13 ta tcap jn vs) (hg1 : g13 < gT) (hgT : gT < w20.heap.size) (hr : WY[jn]? = some r) (hp : ps[jn]? = some p) (ka : Below wr.heap.size wr wa)
    (hun : un = (stp r (clW (hw W) (WY.take jn) (ps.take jn) h) p).length) (hu : RdB wa wr.heap.size (.slice ua un uc) un (bv (stp r (clW (hw W) (WY.take jn) (ps.take jn) h) p)))
    (how : w5.ownsRow gT 25 1 (.slice ta' (jn + 1 + 1) tcap') (jn + 1 + 1) (vs ++ [.slice ua un uc])) (hgr : Grew (wa.alloc o) w5 (.slice ta (jn + 1) tcap) (.slice ta' (jn + 1 + 1) tcap'))
    (hd : w5.grownBy wd (some g13)) (hrow : wd.heap[g13]? = some (.cells (bv (hw W (stp r (clW (hw W) (WY.take jn) (ps.take jn) h) p))).toArray 35 (0, 0))) :
    L2 W WY ps x h w20 wd gT g13 ta' tcap' (jn + 1) (vs ++ [.slice ua un uc]) := by
  have hT0 : ∀ q, (Value.slice ta (jn + 1) tcap).ownBlock = some q → q < wr.heap.size := fun q hq => (H.own.lt q hq).2
  have hsz1 : (wa.alloc o).heap.size = wa.heap.size + 1 := by simp
  have hwa := ka.size
  have hsz5 := hgr.grown.size
  have hszd := hd.size
  -- a block that is neither the list's nor the hash's stays
  have hkeep : ∀ q, q < wa.heap.size → (Value.slice ta (jn + 1) tcap).ownBlock ≠ some q → q ≠ g13 → wd.heap[q]? = wa.heap[q]? := fun q hq h1 h2 => by
    rw [hd.block q (by omega) (by simpa using h2), hgr.grown.block q (by omega) (fun e => h1 e.symm), heap_alloc_old _ _ hq]
  have hkeep2 : ∀ q, q < wr.heap.size → (Value.slice ta (jn + 1) tcap).ownBlock ≠ some q → q ≠ g13 → wd.heap[q]? = wr.heap[q]? := fun q hq h1 h2 => (hkeep q (by omega) h1 h2).trans (ka.block q hq)
  have hT' : ∀ q, (Value.slice ta' (jn + 1 + 1) tcap').ownBlock = some q → (Value.slice ta (jn + 1) tcap).ownBlock = some q ∨ wa.heap.size + 1 ≤ q := fun q hq => by
    have := hgr.blk q hq; rwa [hsz1] at this
  refine ⟨how.kept hd ?_, ?_, ?_, ?_, ?_, ?_, ?_, ?_, ?_⟩
  · by_cases hb : (Value.slice ta' (jn + 1 + 1) tcap').ownBlock = none
    · exact .inl hb
    · refine .inr fun e => ?_
      have := (how.lt g13 e).1
      omega
  · intro k t ht
    rw [tolds_next (hw W) WY ps h jn r p hr hp] at ht
    have hlv : vs.length = jn + 1 := by have := H.own.1; omega
    have hll : ((0 :: x) :: tolds (hw W) (WY.take jn) (ps.take jn) h).length = jn + 1 := by
      have h1 := (List.getElem?_eq_some_iff.1 hr).1
      have h2 := (List.getElem?_eq_some_iff.1 hp).1
      rw [List.length_cons, tolds_length (hw W) _ _ _ (by rw [List.length_take, List.length_take]; omega), List.length_take]; omega
    rw [← List.cons_append] at ht
    rcases Nat.lt_or_ge k (jn + 1) with hk | hk
    · rw [List.getElem?_append_left (by omega)] at ht
      obtain ⟨u, hu1, hu2, hu3⟩ := H.txt k t ht
      refine ⟨u, by rw [List.getElem?_append_left (by omega)]; exact hu1, ?_, fun q hq => ?_⟩
      · exact hu2.blk fun q hq hl => hkeep2 q hl (hu3 q hq).2.2 (by have := (hu3 q hq).1; omega)
      · obtain ⟨k1, k2, k3⟩ := hu3 q hq
        refine ⟨k1, by omega, fun e => ?_⟩
        rcases hT' q e with h1 | h1
        · exact k3 h1
        · omega
    · rw [List.getElem?_append_right (by omega), hll] at ht
      obtain rfl : k = jn + 1 := by
        have := (List.getElem?_eq_some_iff.1 ht).1
        simp at this; omega
      rw [Nat.sub_self] at ht
      obtain rfl := Option.some.inj ht
      have hul := hu.1.lt (by rw [hun]; exact stp_len _ _ _)
      refine ⟨.slice ua un uc, by rw [List.getElem?_append_right (by omega), hlv]; simp, ?_, fun q hq => ?_⟩
      · rw [← hun]
        refine hu.1.blk fun q hq hl => hkeep q hl (fun e => ?_) (fun e => ?_)
        · have := hT0 q e; have := hu.2 q hq; omega
        · have := hu.2 q hq; have := H.size; omega
      · have k1 := hu.2 q hq
        have k2 := hul q hq
        refine ⟨by have := H.size; omega, by omega, fun e => ?_⟩
        rcases hT' q e with h1 | h1
        · have := hT0 q h1; omega
        · omega
  · rw [clW_next (hw W) WY ps h jn r p hr hp]; exact hrow
  · intro q hq
    rcases hT' q hq with h1 | h1
    · exact H.blk q h1
    · exact .inr (by have := H.size; omega)
  · have := H.size; omega
  · intro k hk h1 h2
    refine (hkeep2 k (by have := H.size; omega) (fun e => ?_) h2).trans (H.keep k hk h1 h2)
    rcases H.blk k e with h3 | h3
    · exact h1 h3
    · omega
  · rw [hd.os, hgr.grown.os]; exact ka.os.trans H.os
  · rw [hd.tape, hgr.grown.tape]; exact ka.tape.trans H.tape
  · rw [hd.output, hgr.grown.output]; exact ka.output.trans H.output
theorem L2.one {W : Int} {WY : List Bool} {ps : List (List UInt8)} {x h : List UInt8} {w20 wr : World} {gT g13 : Nat} {ta : Option Addr} {tcap jn : Nat} {vs : List Value} (H : L2 W WY ps x h w20 wr gT g13 ta tcap jn vs) (h1 : jn ≤ WY.length) (h2 : jn ≤ ps.length) : ∀ u ∈ vs, u.oneCell' = true := fun u hu => by
  obtain ⟨k, hk, rfl⟩ := List.mem_iff_getElem.1 hu
  have hlv : vs.length = jn + 1 := by have := H.own.1; omega
  have hll : ((0 :: x) :: tolds (hw W) (WY.take jn) (ps.take jn) h).length = jn + 1 := by
    rw [List.length_cons, tolds_length (hw W) _ _ _ (by rw [List.length_take, List.length_take]; omega), List.length_take]; omega
  obtain ⟨t, ht⟩ : ∃ t, ((0 :: x) :: tolds (hw W) (WY.take jn) (ps.take jn) h)[k]? = some t := ⟨_, List.getElem?_eq_getElem (by omega)⟩
  obtain ⟨v, hv, hr, _⟩ := H.txt k t ht
  rw [List.getElem?_eq_getElem hk] at hv
  obtain rfl := Option.some.inj hv
  obtain ⟨a, c, e⟩ := hr.form
  rw [e]; rfl
end Go.Proofs.YtfibhmgjkooemaaDoor
