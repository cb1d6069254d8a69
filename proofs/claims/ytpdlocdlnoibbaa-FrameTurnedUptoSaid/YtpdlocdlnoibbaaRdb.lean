/- bin's Reader: Byte (gen/rdb.py). -/
import Derived.Test.YtpdlocdlnoibbaaRdc
import Derived.Test.YtpdlocdlnoibbaaRdA
namespace Go.Proofs.Ytpdlocdlnoibbaa
open Go.RowKit

/-- A byte read: the error, the byte, what is left. -/
def rdB : List UInt8 → Int × Nat × List UInt8
  | [] => (2, 0, [])
  | x :: t => (0, x.toNat, t)
/-- What one byte's reading comes to. -/
def OneR (w w' : World) (p : Nat) (no : Int) (R : Int × Nat × List UInt8) (e : Ending) : Prop :=
  w.grownBy w' (some p) ∧ if R.1 = 0 then e = .returned (.int .u8 R.2.1) ∧ ∃ a' c', Rdr w' p a' c' no R.2.2 else e = .panicked (errP R.1) ∧ ∃ v, w'.heap[p]? = some (.cells #[v, .int .i64 no] 61 (0, 0))
theorem byte_any (w : World) (p : Nat) (a : Option Addr) (c : Nat) (no : Int) (l : List UInt8) (h : Rdr w p a c no l) :
    Calls Try.prog 42 #[.pointer (some ⟨p, 0, none⟩)] w fun e w' => OneR w w' p no (rdB l) e := by
  cases l with
  | nil =>
    refine (one_none w p a c no h).mono ?_
    rintro e w' ⟨rfl, rfl⟩
    exact ⟨World.grownBy.refl _ _, by rw [if_neg (by simp [rdB])]; exact ⟨rfl, _, h.row⟩⟩
  | cons x t =>
    refine (one_any w p a c no x t h).mono ?_
    rintro e w' ⟨a', c', rfl, hr, hg⟩
    exact ⟨hg, by rw [if_pos (show (rdB (x :: t)).1 = 0 from rfl)]; exact ⟨rfl, a', c', hr⟩⟩
/-- What Byte hands back, and what it leaves. -/
def ByteD (w w' : World) (p : Nat) (a : Option Addr) (c : Nat) (no : Int) (l : List UInt8) (e : Ending) : Prop :=
  w.grownBy w' (some p) ∧ if no = 0 then
    (if (rdB l).1 = 0 then e = .returned (.tuple #[.int .u8 (rdB l).2.1, .int .i64 0]) ∧ ∃ a' c', Rdr w' p a' c' 0 (rdB l).2.2 else e = .returned (.tuple #[.int .u8 0, .int .i64 (rdB l).1]) ∧ Rdr w' p a c (rdB l).1 l)
    else e = .returned (.tuple #[.int .u8 0, .int .i64 no]) ∧ Rdr w' p a c no l
set_option maxHeartbeats 4000000 in
theorem RByte_any (w : World) (p : Nat) (a : Option Addr) (c : Nat) (no : Int) (l : List UInt8) (h : Rdr w p a c no l) :
    Calls Try.prog 19 #[.pointer (some ⟨p, 0, none⟩)] w fun e w' => ByteD w w' p a c no l e := by
  have hmf : ∀ (fn : Fn) (first cap : Array Value) (w : World), (Instr.makeFunc fn first cap).run Try.prog w = .ok (.func fn first cap) w := fun _ _ _ _ => rfl
  have hpl := (Array.getElem?_eq_some_iff.1 h.row).1
  have h0 : w.cell? ⟨p, 0, none⟩ = some (.slice a l.length c) := by simp [World.cell?, h.row]
  obtain ⟨n, hn⟩ : ∃ n, n = l.length := ⟨_, rfl⟩
  rw [← hn] at h0
  have HR := Lib.hid (And.intro h hn)
  clear h hn
  go_enter_defers Try.func19, Try.ntmps19
  go_wp2_with fail
  obtain ⟨w1, hw1⟩ : ∃ x : World, x = (((w.alloc (Obj.cells #[Value.pointer (some { block := p, off := 0 })] 24)).alloc (Obj.cells #[Value.int IntKind.i64 0] 27)).alloc (Obj.cells #[Value.slice a n c] 22)) := ⟨_, rfl⟩
  have hB : Below w.heap.size w w1 := by rw [hw1]; exact (((Below.refl _ _).alloc (Nat.le_refl _) _).alloc (by simp) _).alloc (by simp; omega) _
  have r1 : w1.heap[w.heap.size]? = some (.cells #[Value.pointer (some { block := p, off := 0 })] 24 (0, 0)) := by
    rw [hw1, heap_alloc_old _ _ (by simp; omega), heap_alloc_old _ _ (by simp)]; exact heap_alloc_new _ _
  have r3 : w1.heap[w.heap.size + 1]? = some (.cells #[Value.int IntKind.i64 0] 27 (0, 0)) := by
    rw [hw1, heap_alloc_old _ _ (by simp)]
    have := heap_alloc_new (w.alloc (Obj.cells #[Value.pointer (some { block := p, off := 0 })] 24)) (Obj.cells #[Value.int IntKind.i64 0] 27)
    simpa using this
  have r4 : w1.heap[w.heap.size + 1 + 1]? = some (.cells #[Value.slice a n c] 22 (0, 0)) := by
    rw [hw1]
    have := heap_alloc_new ((w.alloc (Obj.cells #[Value.pointer (some { block := p, off := 0 })] 24)).alloc (Obj.cells #[Value.int IntKind.i64 0] 27)) (Obj.cells #[Value.slice a n c] 22)
    simpa using this
  rw [← hw1]
  have hrd : Rdr w1 p a c no l := HR.out.1.below hB
  have hst := start_any w1 p a c no l hrd
  have H1 := Lib.hid (And.intro hB (And.intro r1 (And.intro r3 (And.intro r4 hrd))))
  clear hw1 hB r1 r3 r4 hrd h0
  have hl1 : p < w.heap.size := hpl
  by_cases hno : no = 0
  · subst hno
    refine hst.mono ?_
    rintro e wz ⟨rfl, rfl⟩
    rw [if_pos rfl]
    have hnu := byte_any wz p a c 0 l H1.out.2.2.2.2
    have h1c : wz.cell? ⟨w.heap.size, 0, none⟩ = some (.pointer (some ⟨p, 0, none⟩)) := cell_of_row H1.out.2.1 rfl
    obtain ⟨R, hR⟩ : ∃ R, R = rdB l := ⟨_, rfl⟩
    rw [← hR] at hnu
    have HRR := Lib.hid hR
    clear hR
    go_wp2_with fail
    refine hnu.mono ?_
    rintro e w2 ⟨hg2, hres⟩
    have hszw := H1.out.1.size
    have hsz2 := hg2.size
    have q1 : w2.heap[w.heap.size]? = some (.cells #[Value.pointer (some { block := p, off := 0 })] 24 (0, 0)) := (hg2.block _ (Array.getElem?_eq_some_iff.1 H1.out.2.1).1 (by simp; omega)).trans H1.out.2.1
    have q3 : w2.heap[w.heap.size + 1]? = some (.cells #[Value.int IntKind.i64 0] 27 (0, 0)) := (hg2.block _ (Array.getElem?_eq_some_iff.1 H1.out.2.2.1).1 (by simp; omega)).trans H1.out.2.2.1
    have q4 : w2.heap[w.heap.size + 1 + 1]? = some (.cells #[Value.slice a n c] 22 (0, 0)) := (hg2.block _ (Array.getElem?_eq_some_iff.1 H1.out.2.2.2.1).1 (by simp; omega)).trans H1.out.2.2.2.1
    have hgw : w.grownBy w2 (some p) := grown_trans (below_grownR H1.out.1) hg2 (fun j hj => .inl hj)
    by_cases hR0 : R.1 = 0
    · rw [if_pos hR0] at hres
      obtain ⟨rfl, a', c', hr2⟩ := hres
      have hz3 : w2.frozen? ⟨w.heap.size + 1, 0, none⟩ = false := by simp [World.frozen?, q3]
      have hc3 : w2.cell? ⟨w.heap.size + 1, 0, none⟩ = some (.int .i64 0) := cell_of_row q3 rfl
      have H2 := Lib.hid (And.intro q1 (And.intro q4 (And.intro hgw hr2)))
      have Q3 := Lib.hid q3
      clear hnu hg2 hr2 q1 q4 hgw q3
      go_wp2_with fail
      refine leaves_cons (f := 41) (args := #[.pointer (some ⟨w.heap.size, 0, none⟩), .pointer (some ⟨w.heap.size + 1 + 1, 0, none⟩), .pointer (some ⟨w.heap.size + 1, 0, none⟩)]) (by simp) (by simp [go_sem]) ?_
      refine (close_noneB _ _ _ _ p a n c (cell_of_row ((heap_setCell_other _ _ _ _ (by simp)).trans H2.out.1) rfl) (cell_of_row ((heap_setCell_other _ _ _ _ (by simp)).trans H2.out.2.1) rfl)).mono ?_
      rintro e u' w9 ⟨rfl, rfl, rfl⟩
      have hgf := H2.out.2.2.1
      have hp3 : p ≠ w.heap.size + 1 := by omega
      have hs3 : w2.grownBy (w2.setCell ⟨w.heap.size + 1, 0, none⟩ (.int .i64 0)) (some (w.heap.size + 1)) := grown_set1 (World.grownBy.refl _ _) 0 _
      have hrf : Rdr (w2.setCell ⟨w.heap.size + 1, 0, none⟩ (.int .i64 0)).drew p a' c' 0 R.2.2 := H2.out.2.2.2.other (w' := (w2.setCell ⟨w.heap.size + 1, 0, none⟩ (.int .i64 0)).drew) ⟨hs3.os, hs3.tape, hs3.output, hs3.size, hs3.block⟩ Q3.out hp3
      have hro : (w2.setCell ⟨w.heap.size + 1, 0, none⟩ (.int .i64 0)).drew.heap[w.heap.size + 1]? = some (.cells #[.int .i64 0] 27 (0, 0)) := by
        show (w2.setCell ⟨w.heap.size + 1, 0, none⟩ (.int .i64 0)).heap[w.heap.size + 1]? = _
        rw [heap_setCell_same w2 _ 0 _ _ _ Q3.out]; rfl
      have hcf := cell_of_row (v := .int .i64 0) (i := 0) hro rfl
      have hgg : w.grownBy (w2.setCell ⟨w.heap.size + 1, 0, none⟩ (.int .i64 0)).drew (some p) := ⟨hgf.os, hgf.tape, hgf.output, by have := hgf.size; simpa [World.setCell] using this, fun k hk hne => (heap_setCell_other _ _ _ _ (show k ≠ w.heap.size + 1 by omega)).trans (hgf.block k hk hne)⟩
      obtain ⟨w9, hw9⟩ : ∃ x, x = (w2.setCell ⟨w.heap.size + 1, 0, none⟩ (.int .i64 0)).drew := ⟨_, rfl⟩
      rw [← hw9] at hrf hcf hgg ⊢
      have fin : ByteD w w9 p a c 0 l (.returned (.tuple #[.int .u8 R.2.1, .int .i64 0])) := ⟨hgg, by rw [if_pos rfl, ← HRR.out, if_pos hR0]; exact ⟨rfl, a', c', hrf⟩⟩
      simp [Leaves, settle, results, Try.results19, go_sem, hcf]
      exact fin
    · rw [if_neg hR0] at hres
      obtain ⟨rfl, v, hv2⟩ := hres
      refine leaves_cons (f := 41) (args := #[.pointer (some ⟨w.heap.size, 0, none⟩), .pointer (some ⟨w.heap.size + 1 + 1, 0, none⟩), .pointer (some ⟨w.heap.size + 1, 0, none⟩)]) (by simp) (by simp [go_sem]) ?_
      refine (close_someB _ _ _ _ p _ a n c 0 0 R.1 [] (cell_of_row q1 rfl) (cell_of_row q4 rfl) hv2 q3 (by omega)).mono ?_
      rintro e u' w9 ⟨rfl, rfl, rfl⟩
      obtain ⟨f1, f2, f3⟩ := set3 (v := .slice a n c) (x := .int .i64 R.1) (y := .int .i64 R.1) hgw hv2 q3 (by omega) (by omega)
      obtain ⟨w9, hw9⟩ : ∃ x, x = (((w2.drew.setCell ⟨p, 0, none⟩ (.slice a n c)).setCell ⟨p, 1, none⟩ (.int .i64 R.1)).setCell ⟨w.heap.size + 1, 0, none⟩ (.int .i64 R.1)) := ⟨_, rfl⟩
      rw [← hw9] at f1 f2 f3 ⊢
      have f4 := cell_of_row (v := .int .i64 R.1) (i := 0) f2 rfl
      have fin : ByteD w w9 p a c 0 l (.returned (.tuple #[.int .u8 0, .int .i64 R.1])) := ⟨f3, by rw [if_pos rfl, ← HRR.out, if_neg hR0]; exact ⟨rfl, HR.out.1.of f3 (by rw [← HR.out.2]; exact f1)⟩⟩
      simp [Leaves, settle, results, Try.results19, go_sem, f4]
      exact fin
  · rw [if_neg hno] at hst
    refine hst.mono ?_
    rintro e wz ⟨rfl, rfl⟩
    refine leaves_cons (f := 41) (args := #[.pointer (some ⟨w.heap.size, 0, none⟩), .pointer (some ⟨w.heap.size + 1 + 1, 0, none⟩), .pointer (some ⟨w.heap.size + 1, 0, none⟩)]) (by simp) (by simp [go_sem]) ?_
    refine (close_someB _ _ _ _ p _ a n c no 0 no [] (cell_of_row H1.out.2.1 rfl) (cell_of_row H1.out.2.2.2.1 rfl) H1.out.2.2.2.2.row H1.out.2.2.1 (by omega)).mono ?_
    rintro e u' w9 ⟨rfl, rfl, rfl⟩
    have hszw := H1.out.1.size
    obtain ⟨f1, f2, f3⟩ := set3 (v := .slice a n c) (x := .int .i64 no) (y := .int .i64 no) (below_grownR H1.out.1 (r := some p)) H1.out.2.2.2.2.row H1.out.2.2.1 (by omega) (by omega)
    obtain ⟨w9, hw9⟩ : ∃ x, x = (((wz.drew.setCell ⟨p, 0, none⟩ (.slice a n c)).setCell ⟨p, 1, none⟩ (.int .i64 no)).setCell ⟨w.heap.size + 1, 0, none⟩ (.int .i64 no)) := ⟨_, rfl⟩
    rw [← hw9] at f1 f2 f3 ⊢
    have f4 := cell_of_row (v := .int .i64 no) (i := 0) f2 rfl
    have fin : ByteD w w9 p a c no l (.returned (.tuple #[.int .u8 0, .int .i64 no])) := ⟨f3, by rw [if_neg hno]; exact ⟨rfl, HR.out.1.of f3 (by rw [← HR.out.2]; exact f1)⟩⟩
    simp [Leaves, settle, results, Try.results19, go_sem, f4]
    exact fin
end Go.Proofs.Ytpdlocdlnoibbaa
