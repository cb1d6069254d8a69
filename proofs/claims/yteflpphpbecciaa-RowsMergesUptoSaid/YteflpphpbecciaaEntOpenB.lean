/- Logs and entries that come in, small in bulk. -/
import Derived.Test.YteflpphpbecciaaTb
import Derived.Test.YteflpphpbecciaaEntOpen
namespace Go.Proofs.Yteflpphpbecciaa
open Go.ChangeShapes Go.WideShapes Go.ChangeAt Go.RowKit

section
variable {H : Type} {enc : TypeId × Value → H} {W : World}
theorem open_entryB {ds : List Value} (hl : ds.length = 6) (h : TB enc Try.prog W 31 ds) : ∃ e : EE, ds = e.cells ∧ EIn W e := by
  obtain ⟨a0, a1, a2, a3, a4, a5, rfl⟩ := len6' hl
  have h0 : TB enc Try.prog W 22 [a0] := by have := h.field Try.underlying31 0 rfl tU64; exact this
  have h1 : TB enc Try.prog W 3 [a1] := by have := h.field Try.underlying31 1 rfl tInt; exact this
  have h2 : TB enc Try.prog W 22 [a2] := by have := h.field Try.underlying31 2 rfl tU64; exact this
  have h3 : TB enc Try.prog W 22 [a3] := by have := h.field Try.underlying31 3 rfl tU64; exact this
  have h4 : TB enc Try.prog W 28 [a4] := by have := h.field Try.underlying31 4 rfl tBytes; exact this
  have h5 : TB enc Try.prog W 29 [a5] := by have := h.field Try.underlying31 5 rfl tNums; exact this
  obtain ⟨t, e0, b0⟩ := h0.u64 Try.underlying22
  obtain ⟨k, e1, b1, b2⟩ := h1.i64 Try.underlying3
  obtain ⟨c, e2, b3⟩ := h2.u64 Try.underlying22
  obtain ⟨s, e3, b4⟩ := h3.u64 Try.underlying22
  obtain ⟨dl, r1, g1⟩ := h4.bytes Try.underlying28 Try.underlying5 tU8
  obtain ⟨ml, r2, g2, _⟩ := h5.words Try.underlying29 Try.underlying22 tU64
  simp only [List.cons.injEq, and_true] at e0 e1 e2 e3
  subst e0 e1 e2 e3
  exact ⟨⟨t, k, c, s, a4, a5⟩, rfl, ⟨dl, ml, r1, r2, by omega, by omega⟩, b0, b1, b2, b3, b4⟩
theorem open_entriesB {v : Value} (h : TB enc Try.prog W 23 [v]) : ∃ es : List EE, Rd W 6 v es.length (ecells es) ∧ es.length ≤ 1048576 ∧ ∀ e ∈ es, EIn W e := by
  obtain ⟨l, hr, hl, hq⟩ := h.elems Try.underlying23 cEntryT EE.cells (EIn W) (fun ds hl htw => open_entryB hl htw) (fun e he u hu => by
    have := ecells_one (w := W) (es := [e]) (fun x hx => by simp at hx; subst hx; exact he.1) u (by simpa [ecells] using hu)
    exact this)
  exact ⟨l, hr, hl, fun e he => (hq e he).1⟩
/-- A log that comes in. -/
theorem open_logB {cs : List Value} (hcs : cs.length = 3) (h : TB enc Try.prog W 25 cs) : ∃ (b bt : Nat) (v : Value) (es : List EE), cs = [.int .u64 b, .int .u64 bt, v] ∧ b < 18446744073709551616 ∧ bt < 18446744073709551616 ∧ Rd W 6 v es.length (ecells es) ∧ es.length ≤ 1048576 ∧ ∀ e ∈ es, EIn W e := by
  match cs, hcs with
  | [a0, a1, a2], _ =>
    have h0 : TB enc Try.prog W 22 [a0] := by have := h.field Try.underlying25 0 rfl tU64; exact this
    have h1 : TB enc Try.prog W 22 [a1] := by have := h.field Try.underlying25 1 rfl tU64; exact this
    have h2 : TB enc Try.prog W 23 [a2] := by have := h.field Try.underlying25 2 rfl tEnts; exact this
    obtain ⟨b, e0, b0⟩ := h0.u64 Try.underlying22
    obtain ⟨bt, e1, b1⟩ := h1.u64 Try.underlying22
    obtain ⟨es, hr, hl, hq⟩ := open_entriesB h2
    simp only [List.cons.injEq, and_true] at e0 e1
    subst e0 e1
    exact ⟨b, bt, a2, es, rfl, b0, b1, hr, hl, hq⟩
end
end Go.Proofs.Yteflpphpbecciaa
