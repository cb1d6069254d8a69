/- bin's Reader: Num. -/
import Derived.Test.YtdociiogddihfaaRdr
import Derived.Laws.NewBlocks
import Derived.Tactics2
namespace Go.Proofs.Ytdociiogddihfaa
open Go.RowKit

theorem Rdr.keep {w w' : World} {p : Nat} {a : Option Addr} {c : Nat} {no : Int} {l : List UInt8} (h : Rdr w p a c no l) {r : Option Nat} (hg : w.grownBy w' r) (hp : r ≠ some p) (ha : ∀ x, a = some x → r ≠ some x.block) : Rdr w' p a c no l := by
  have hpl := (Array.getElem?_eq_some_iff.1 h.row).1
  refine ⟨(hg.block p hpl (fun e => hp e.symm)).trans h.row, ?_, h.off⟩
  obtain ⟨h1, h2, h3 | ⟨ad, c', hv, hc, hcell⟩⟩ := h.rd
  · exact ⟨h1, h2, .inl h3⟩
  · refine ⟨h1, h2, .inr ⟨ad, c', hv, hc, fun j u hu => ?_⟩⟩
    simp only [Value.slice.injEq] at hv
    have hx := hcell j u hu
    have he : (ad.add j).block = ad.block := by unfold Addr.add; split <;> rfl
    rw [← hx]
    refine World.cell?_of_block (hg.block _ (World.block_lt_of_cell? w _ hx) ?_)
    rw [he]; exact fun e => ha ad hv.1 e.symm
theorem Rdr.below {w w' : World} {p : Nat} {a : Option Addr} {c : Nat} {no : Int} {l : List UInt8} (h : Rdr w p a c no l) (hb : Below w.heap.size w w') : Rdr w' p a c no l :=
  h.keep (r := none) ⟨hb.os, hb.tape, hb.output, hb.size, fun k hk _ => hb.block k hk⟩ (by simp) (fun _ _ => by simp)
/-- The reader set to other bytes. -/
theorem Rdr.of {w w' : World} {p : Nat} {a : Option Addr} {c : Nat} {no no' : Int} {l : List UInt8} (h : Rdr w p a c no l) (hg : w.grownBy w' (some p)) (hr : w'.heap[p]? = some (.cells #[.slice a l.length c, .int .i64 no'] 88 (0, 0))) : Rdr w' p a c no' l := by
  refine ⟨hr, ?_, h.off⟩
  obtain ⟨h1, h2, h3 | ⟨ad, c', hv, hc, hcell⟩⟩ := h.rd
  · exact ⟨h1, h2, .inl h3⟩
  · refine ⟨h1, h2, .inr ⟨ad, c', hv, hc, fun j u hu => ?_⟩⟩
    simp only [Value.slice.injEq] at hv
    have hx := hcell j u hu
    have he : (ad.add j).block = ad.block := by unfold Addr.add; split <;> rfl
    rw [← hx]
    refine World.cell?_of_block (hg.block _ (World.block_lt_of_cell? w _ hx) ?_)
    rw [he]; intro e; exact Nat.ne_of_lt (h.off ad hv.1) (by simpa using e)
theorem below_grownR {w w' : World} (h : Below w.heap.size w w') {r : Option Nat} : w.grownBy w' r := ⟨h.os, h.tape, h.output, h.size, fun k hk _ => h.block k hk⟩
theorem cell_of_row {w : World} {g : Nat} {xs : Array Value} {t : TypeId} {v : Value} {i : Nat} (h : w.heap[g]? = some (.cells xs t (0, 0))) (hv : xs[i]? = some v) : w.cell? ⟨g, i, none⟩ = some v := by
  simp [World.cell?, h, hv]
/-- A variable of another kind is no part of a reader. -/
theorem Rdr.other {w w' : World} {p q : Nat} {a : Option Addr} {c : Nat} {no e : Int} {l : List UInt8} {T : TypeId} (h : Rdr w p a c no l) (hg : w.grownBy w' (some q)) (hq : w.heap[q]? = some (.cells #[.int .i64 e] T (0, 0))) (hpq : p ≠ q) : Rdr w' p a c no l := by
  cases l with
  | nil =>
    have hpl := (Array.getElem?_eq_some_iff.1 h.row).1
    refine ⟨(hg.block p hpl (fun e => hpq (by simpa using e))).trans h.row, ?_, h.off⟩
    obtain ⟨h1, h2, h3 | ⟨ad, c', hv, hc, hcell⟩⟩ := h.rd
    · exact ⟨h1, h2, .inl h3⟩
    · exact ⟨h1, h2, .inr ⟨ad, c', hv, hc, fun j u hu => by simp [bv] at hu⟩⟩
  | cons x r =>
    refine h.keep hg (fun e => hpq (by simpa [eq_comm] using e)) (fun y hy e => ?_)
    obtain ⟨b, off, c', hv, _, hcell⟩ := h.rd.at (by simp)
    simp only [Value.slice.injEq] at hv
    rw [hy] at hv
    have hb : y.block = b := by have := Option.some.inj hv.1; rw [this]
    have hqb : q = b := by rw [← hb]; simpa using e
    have hx := hcell 0 (.int .u8 x.toNat) (by simp [bv])
    rw [← hqb] at hx
    simp only [World.cell?, hq] at hx
    rcases Nat.eq_zero_or_pos off with h0 | h0
    · subst h0; simp at hx
    · rw [show (off + 0 : Nat) = off by omega] at hx
      rw [Array.getElem?_eq_none (by simp; omega)] at hx
      simp at hx
/-- What the closure leaves: the reader set back, the error in its variable. -/
theorem set3 {w0 w : World} {p q : Nat} {o1 o2 o3 v x y : Value} {T T' : TypeId} (hg : w0.grownBy w (some p)) (hp : w.heap[p]? = some (.cells #[o1, o2] T (0, 0))) (hq : w.heap[q]? = some (.cells #[o3] T' (0, 0))) (hpq : p ≠ q) (hq0 : w0.heap.size ≤ q) :
    (((w.drew.setCell ⟨p, 0, none⟩ v).setCell ⟨p, 1, none⟩ x).setCell ⟨q, 0, none⟩ y).heap[p]? = some (.cells #[v, x] T (0, 0)) ∧ (((w.drew.setCell ⟨p, 0, none⟩ v).setCell ⟨p, 1, none⟩ x).setCell ⟨q, 0, none⟩ y).heap[q]? = some (.cells #[y] T' (0, 0)) ∧ w0.grownBy (((w.drew.setCell ⟨p, 0, none⟩ v).setCell ⟨p, 1, none⟩ x).setCell ⟨q, 0, none⟩ y) (some p) := by
  have h1 := heap_setCell_same w.drew p 0 _ _ v hp
  have h2 := heap_setCell_same _ p 1 _ _ x h1
  have h3 : ((w.drew.setCell ⟨p, 0, none⟩ v).setCell ⟨p, 1, none⟩ x).heap[q]? = some (.cells #[o3] T' (0, 0)) := by
    rw [heap_setCell_other _ _ _ _ (fun e => hpq e.symm), heap_setCell_other _ _ _ _ (fun e => hpq e.symm)]; exact hq
  refine ⟨?_, ?_, ?_⟩
  · rw [heap_setCell_other _ _ _ _ hpq, h2]; rfl
  · rw [heap_setCell_same _ q 0 _ _ y h3]; rfl
  · refine ⟨hg.os, hg.tape, hg.output, by have := hg.size; simpa [World.setCell] using this, fun k hk hne => ?_⟩
    have hkp : k ≠ p := fun e => hne (by rw [e])
    rw [heap_setCell_other _ _ _ _ (show k ≠ q by omega), heap_setCell_other _ _ _ _ hkp, heap_setCell_other _ _ _ _ hkp]
    exact hg.block k hk hne
/-- What Num hands back, and what it leaves. -/
def NumD (w w' : World) (p : Nat) (a : Option Addr) (c : Nat) (no : Int) (l : List UInt8) (e : Ending) : Prop :=
  w.grownBy w' (some p) ∧ if no = 0 then
    (if (rdN l).1 = 0 then e = .returned (.tuple #[.int .u64 (rdN l).2.1, .int .i64 0]) ∧ ∃ a' c', Rdr w' p a' c' 0 (rdN l).2.2 else e = .returned (.tuple #[.int .u64 0, .int .i64 (rdN l).1]) ∧ Rdr w' p a c (rdN l).1 l)
    else e = .returned (.tuple #[.int .u64 0, .int .i64 no]) ∧ Rdr w' p a c no l
set_option maxHeartbeats 4000000 in
theorem RNum_any (w : World) (p : Nat) (a : Option Addr) (c : Nat) (no : Int) (l : List UInt8) (h : Rdr w p a c no l) :
    Calls Try.prog 38 #[.pointer (some ⟨p, 0, none⟩)] w fun e w' => NumD w w' p a c no l e := by
  have hmf : ∀ (fn : Fn) (first cap : Array Value) (w : World), (Instr.makeFunc fn first cap).run Try.prog w = .ok (.func fn first cap) w := fun _ _ _ _ => rfl
  have hpl := (Array.getElem?_eq_some_iff.1 h.row).1
  have h0 : w.cell? ⟨p, 0, none⟩ = some (.slice a l.length c) := by simp [World.cell?, h.row]
  obtain ⟨n, hn⟩ : ∃ n, n = l.length := ⟨_, rfl⟩
  rw [← hn] at h0
  have HR := Lib.hid (And.intro h hn)
  clear h hn
  go_enter_defers Try.func38, Try.ntmps38
  go_wp2_with fail
  obtain ⟨w1, hw1⟩ : ∃ x : World, x = (((w.alloc (Obj.cells #[Value.pointer (some { block := p, off := 0 })] 66)).alloc (Obj.cells #[Value.int IntKind.i64 0] 46)).alloc (Obj.cells #[Value.slice a n c] 44)) := ⟨_, rfl⟩
  have hB : Below w.heap.size w w1 := by rw [hw1]; exact (((Below.refl _ _).alloc (Nat.le_refl _) _).alloc (by simp) _).alloc (by simp; omega) _
  have r1 : w1.heap[w.heap.size]? = some (.cells #[Value.pointer (some { block := p, off := 0 })] 66 (0, 0)) := by
    rw [hw1, heap_alloc_old _ _ (by simp; omega), heap_alloc_old _ _ (by simp)]; exact heap_alloc_new _ _
  have r3 : w1.heap[w.heap.size + 1]? = some (.cells #[Value.int IntKind.i64 0] 46 (0, 0)) := by
    rw [hw1, heap_alloc_old _ _ (by simp)]
    have := heap_alloc_new (w.alloc (Obj.cells #[Value.pointer (some { block := p, off := 0 })] 66)) (Obj.cells #[Value.int IntKind.i64 0] 46)
    simpa using this
  have r4 : w1.heap[w.heap.size + 1 + 1]? = some (.cells #[Value.slice a n c] 44 (0, 0)) := by
    rw [hw1]
    have := heap_alloc_new ((w.alloc (Obj.cells #[Value.pointer (some { block := p, off := 0 })] 66)).alloc (Obj.cells #[Value.int IntKind.i64 0] 46)) (Obj.cells #[Value.slice a n c] 44)
    simpa using this
  rw [← hw1]
  have hrd : Rdr w1 p a c no l := HR.out.1.below hB
  have hst := start_any w1 p a c no l hrd
  have H1 := Lib.hid (And.intro hB (And.intro r1 (And.intro r3 (And.intro r4 hrd))))
  clear hw1 hB r1 r3 r4 hrd h0
  have hl1 : p < w.heap.size := hpl
  by_cases hno : no = 0
  · subst hno
    refine hst.mono ?_
    rintro e wz ⟨rfl, rfl⟩
    rw [if_pos rfl]
    have hnu := number_any wz p a c 0 l H1.out.2.2.2.2
    have h1c : wz.cell? ⟨w.heap.size, 0, none⟩ = some (.pointer (some ⟨p, 0, none⟩)) := cell_of_row H1.out.2.1 rfl
    obtain ⟨R, hR⟩ : ∃ R, R = rdN l := ⟨_, rfl⟩
    rw [← hR] at hnu
    have HRR := Lib.hid hR
    clear hR
    go_wp2_with fail
    refine hnu.mono ?_
    rintro e w2 ⟨hg2, hres⟩
    have hszw := H1.out.1.size
    have hsz2 := hg2.size
    have q1 : w2.heap[w.heap.size]? = some (.cells #[Value.pointer (some { block := p, off := 0 })] 66 (0, 0)) := (hg2.block _ (Array.getElem?_eq_some_iff.1 H1.out.2.1).1 (by simp; omega)).trans H1.out.2.1
    have q3 : w2.heap[w.heap.size + 1]? = some (.cells #[Value.int IntKind.i64 0] 46 (0, 0)) := (hg2.block _ (Array.getElem?_eq_some_iff.1 H1.out.2.2.1).1 (by simp; omega)).trans H1.out.2.2.1
    have q4 : w2.heap[w.heap.size + 1 + 1]? = some (.cells #[Value.slice a n c] 44 (0, 0)) := (hg2.block _ (Array.getElem?_eq_some_iff.1 H1.out.2.2.2.1).1 (by simp; omega)).trans H1.out.2.2.2.1
    have hgw : w.grownBy w2 (some p) := grown_trans (below_grownR H1.out.1) hg2 (fun j hj => .inl hj)
    by_cases hR0 : R.1 = 0
    · rw [if_pos hR0] at hres
      obtain ⟨rfl, a', c', hr2⟩ := hres
      have hz3 : w2.frozen? ⟨w.heap.size + 1, 0, none⟩ = false := by simp [World.frozen?, q3]
      have hc3 : w2.cell? ⟨w.heap.size + 1, 0, none⟩ = some (.int .i64 0) := cell_of_row q3 rfl
      have H2 := Lib.hid (And.intro q1 (And.intro q4 (And.intro hgw hr2)))
      have Q3 := Lib.hid q3
      clear hnu hg2 hr2 q1 q4 hgw q3
      go_wp2_with fail
      refine leaves_cons (f := 57) (args := #[.pointer (some ⟨w.heap.size, 0, none⟩), .pointer (some ⟨w.heap.size + 1 + 1, 0, none⟩), .pointer (some ⟨w.heap.size + 1, 0, none⟩)]) (by simp) (by simp [go_sem]) ?_
      refine (close_none _ _ _ _ p a n c (cell_of_row ((heap_setCell_other _ _ _ _ (by simp)).trans H2.out.1) rfl) (cell_of_row ((heap_setCell_other _ _ _ _ (by simp)).trans H2.out.2.1) rfl)).mono ?_
      rintro e u' w9 ⟨rfl, rfl, rfl⟩
      have hgf := H2.out.2.2.1
      have hp3 : p ≠ w.heap.size + 1 := by omega
      have hs3 : w2.grownBy (w2.setCell ⟨w.heap.size + 1, 0, none⟩ (.int .i64 0)) (some (w.heap.size + 1)) := grown_set1 (World.grownBy.refl _ _) 0 _
      have hrf : Rdr (w2.setCell ⟨w.heap.size + 1, 0, none⟩ (.int .i64 0)).drew p a' c' 0 R.2.2 := H2.out.2.2.2.other (w' := (w2.setCell ⟨w.heap.size + 1, 0, none⟩ (.int .i64 0)).drew) ⟨hs3.os, hs3.tape, hs3.output, hs3.size, hs3.block⟩ Q3.out hp3
      have hro : (w2.setCell ⟨w.heap.size + 1, 0, none⟩ (.int .i64 0)).drew.heap[w.heap.size + 1]? = some (.cells #[.int .i64 0] 46 (0, 0)) := by
        show (w2.setCell ⟨w.heap.size + 1, 0, none⟩ (.int .i64 0)).heap[w.heap.size + 1]? = _
        rw [heap_setCell_same w2 _ 0 _ _ _ Q3.out]; rfl
      have hcf := cell_of_row (v := .int .i64 0) (i := 0) hro rfl
      have hgg : w.grownBy (w2.setCell ⟨w.heap.size + 1, 0, none⟩ (.int .i64 0)).drew (some p) := ⟨hgf.os, hgf.tape, hgf.output, by have := hgf.size; simpa [World.setCell] using this, fun k hk hne => (heap_setCell_other _ _ _ _ (show k ≠ w.heap.size + 1 by omega)).trans (hgf.block k hk hne)⟩
      obtain ⟨w9, hw9⟩ : ∃ x, x = (w2.setCell ⟨w.heap.size + 1, 0, none⟩ (.int .i64 0)).drew := ⟨_, rfl⟩
      rw [← hw9] at hrf hcf hgg ⊢
      have fin : NumD w w9 p a c 0 l (.returned (.tuple #[.int .u64 R.2.1, .int .i64 0])) := ⟨hgg, by rw [if_pos rfl, ← HRR.out, if_pos hR0]; exact ⟨rfl, a', c', hrf⟩⟩
      simp [Leaves, settle, results, Try.results38, go_sem, hcf]
      exact fin
    · rw [if_neg hR0] at hres
      obtain ⟨rfl, v, hv2⟩ := hres
      refine leaves_cons (f := 57) (args := #[.pointer (some ⟨w.heap.size, 0, none⟩), .pointer (some ⟨w.heap.size + 1 + 1, 0, none⟩), .pointer (some ⟨w.heap.size + 1, 0, none⟩)]) (by simp) (by simp [go_sem]) ?_
      refine (close_some _ _ _ _ p _ a n c 0 0 R.1 [] (cell_of_row q1 rfl) (cell_of_row q4 rfl) hv2 q3 (by omega)).mono ?_
      rintro e u' w9 ⟨rfl, rfl, rfl⟩
      obtain ⟨f1, f2, f3⟩ := set3 (v := .slice a n c) (x := .int .i64 R.1) (y := .int .i64 R.1) hgw hv2 q3 (by omega) (by omega)
      obtain ⟨w9, hw9⟩ : ∃ x, x = (((w2.drew.setCell ⟨p, 0, none⟩ (.slice a n c)).setCell ⟨p, 1, none⟩ (.int .i64 R.1)).setCell ⟨w.heap.size + 1, 0, none⟩ (.int .i64 R.1)) := ⟨_, rfl⟩
      rw [← hw9] at f1 f2 f3 ⊢
      have f4 := cell_of_row (v := .int .i64 R.1) (i := 0) f2 rfl
      have fin : NumD w w9 p a c 0 l (.returned (.tuple #[.int .u64 0, .int .i64 R.1])) := ⟨f3, by rw [if_pos rfl, ← HRR.out, if_neg hR0]; exact ⟨rfl, HR.out.1.of f3 (by rw [← HR.out.2]; exact f1)⟩⟩
      simp [Leaves, settle, results, Try.results38, go_sem, f4]
      exact fin
  · rw [if_neg hno] at hst
    refine hst.mono ?_
    rintro e wz ⟨rfl, rfl⟩
    refine leaves_cons (f := 57) (args := #[.pointer (some ⟨w.heap.size, 0, none⟩), .pointer (some ⟨w.heap.size + 1 + 1, 0, none⟩), .pointer (some ⟨w.heap.size + 1, 0, none⟩)]) (by simp) (by simp [go_sem]) ?_
    refine (close_some _ _ _ _ p _ a n c no 0 no [] (cell_of_row H1.out.2.1 rfl) (cell_of_row H1.out.2.2.2.1 rfl) H1.out.2.2.2.2.row H1.out.2.2.1 (by omega)).mono ?_
    rintro e u' w9 ⟨rfl, rfl, rfl⟩
    have hszw := H1.out.1.size
    obtain ⟨f1, f2, f3⟩ := set3 (v := .slice a n c) (x := .int .i64 no) (y := .int .i64 no) (below_grownR H1.out.1 (r := some p)) H1.out.2.2.2.2.row H1.out.2.2.1 (by omega) (by omega)
    obtain ⟨w9, hw9⟩ : ∃ x, x = (((wz.drew.setCell ⟨p, 0, none⟩ (.slice a n c)).setCell ⟨p, 1, none⟩ (.int .i64 no)).setCell ⟨w.heap.size + 1, 0, none⟩ (.int .i64 no)) := ⟨_, rfl⟩
    rw [← hw9] at f1 f2 f3 ⊢
    have f4 := cell_of_row (v := .int .i64 no) (i := 0) f2 rfl
    have fin : NumD w w9 p a c no l (.returned (.tuple #[.int .u64 0, .int .i64 no])) := ⟨f3, by rw [if_neg hno]; exact ⟨rfl, HR.out.1.of f3 (by rw [← HR.out.2]; exact f1)⟩⟩
    simp [Leaves, settle, results, Try.results38, go_sem, f4]
    exact fin
end Go.Proofs.Ytdociiogddihfaa
