/- Cut out of XRdA. -/
import Derived.Test.YtgimblpdmlnfeaaDoorRdn
import Derived.Test.YtgimblpdmlnfeaaDoorSlB
namespace Go.Proofs.YtgimblpdmlnfeaaDoor
open Go.RowKit


/-- Whoever grew a new block changed nothing old. -/
theorem below_of_grown {w w1 w2 : World} {p : Nat} (hb : Below w.heap.size w w1) (hp : w.heap.size ≤ p) (hg : w1.grownBy w2 (some p)) : Below w.heap.size w w2 :=
  ⟨hg.os.trans hb.os, hg.tape.trans hb.tape, hg.output.trans hb.output, Nat.le_trans hb.size hg.size, fun k hk => (hg.block k (Nat.lt_of_lt_of_le hk hb.size) (fun e => by simp only [Option.some.injEq] at e; omega)).trans (hb.block k hk)⟩
/-- A reader of its own bytes. -/
theorem New_far (v : Value) (l : List UInt8) (w : World) (hr : Rd w 1 v l.length (bv l)) (hl : l.length ≤ 140737488355328) :
    Calls Tryd.prog 59 #[v] w fun e w' => ∃ p a c, e = .returned (.pointer (some ⟨p, 0, none⟩)) ∧ w.heap.size ≤ p ∧ Rdr w' p a c 0 l ∧ Below w.heap.size w w' ∧ ∀ x, a = some x → w.heap.size ≤ x.block := by
  have h1 := CloneB8_any v l.length (bv l) w hr (by omega)
  go_enter Tryd.func59, Tryd.ntmps59
  go_wp2_with fail
  refine h1.mono ?_
  rintro e w1 ⟨v1, rfl, ho1, hb1⟩
  have hr1 := own_rd ho1 (bv_one _)
  obtain ⟨a, c, rfl⟩ := hr1.form
  have hs1 := hb1.size
  have hlt := ho1.lt
  obtain ⟨n, hn⟩ : ∃ n, n = l.length := ⟨_, rfl⟩
  rw [← hn] at hr1 hlt ⊢
  have HR := Lib.hid (And.intro hr1 (And.intro hn (And.intro hlt (And.intro hb1 hs1))))
  clear hr1 hb1 h1 ho1 hlt hr hl hn
  go_wp2_with fail
  go_ret
  have hb : Below w1.heap.size w1 (w1.alloc (.cells #[.slice a n c, .int .i64 0] 130)) := (Below.refl _ _).alloc (Nat.le_refl _) _
  refine ⟨w1.heap.size, a, c, rfl, HR.out.2.2.2.2, ⟨?_, ?_, ?_⟩, HR.out.2.2.2.1.trans (hb.mono HR.out.2.2.2.2), fun x hx => by subst hx; exact (HR.out.2.2.1 x.block (by simp [Value.ownBlock])).1⟩
  · rw [← HR.out.2.1]; exact heap_alloc_new _ _
  · rw [← HR.out.2.1]; exact HR.out.1.keep hb
  · intro x hx
    subst hx
    exact (HR.out.2.2.1 x.block (by simp [Value.ownBlock])).2
theorem New_any (v : Value) (l : List UInt8) (w : World) (hr : Rd w 1 v l.length (bv l)) (hl : l.length ≤ 140737488355328) :
    Calls Tryd.prog 59 #[v] w fun e w' => ∃ p a c, e = .returned (.pointer (some ⟨p, 0, none⟩)) ∧ w.heap.size ≤ p ∧ Rdr w' p a c 0 l ∧ Below w.heap.size w w' :=
  (New_far v l w hr hl).mono (by rintro e w' ⟨p, a, c, h1, h2, h3, h4, _⟩; exact ⟨p, a, c, h1, h2, h3, h4⟩)
/-- How many bytes are left. -/
theorem Left_any (w : World) (p : Nat) (a : Option Addr) (c : Nat) (no : Int) (l : List UInt8) (h : Rdr w p a c no l) :
    Calls Tryd.prog 61 #[.pointer (some ⟨p, 0, none⟩)] w fun e w' => e = .returned (.int .i64 l.length) ∧ w' = w := by
  have h0 : w.cell? ⟨p, 0, none⟩ = some (.slice a l.length c) := cell_of_row h.row rfl
  clear h
  go_enter Tryd.func61, Tryd.ntmps61
  go_wp2_with fail
  go_ret
  exact ⟨rfl, rfl⟩
end Go.Proofs.YtgimblpdmlnfeaaDoor
