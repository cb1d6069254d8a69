/- Logs and entries that come in. -/
import Derived.Test.YthghhjilbaiahaaTw
import Derived.Test.YthghhjilbaiahaaEnt
import Derived.Test.YthghhjilbaiahaaProg
namespace Go.Proofs.Ythghhjilbaiahaa
open Go.ChangeShapes Go.WideShapes Go.ChangeAt Go.RowKit

section
variable {H : Type} {enc : TypeId × Value → H} {W : World}
theorem cEntryT : Try.prog.cellsOf 58 = 6 := by kernel_rfl
theorem bEntryT : Try.prog.bytesOf 58 = 80 := by kernel_rfl
theorem tInt : Try.prog.cellsOf 3 = 1 := by kernel_rfl
theorem tU64 : Try.prog.cellsOf 22 = 1 := by kernel_rfl
theorem tU8 : Try.prog.cellsOf 5 = 1 := by kernel_rfl
theorem tNums : Try.prog.cellsOf 31 = 1 := by kernel_rfl
theorem tBytes : Try.prog.cellsOf 32 = 1 := by kernel_rfl
theorem tEnts : Try.prog.cellsOf 23 = 1 := by kernel_rfl
theorem len6' {l : List Value} (h : l.length = 6) : ∃ a b c d e f, l = [a, b, c, d, e, f] := by
  match l, h with
  | [a, b, c, d, e, f], _ => exact ⟨a, b, c, d, e, f, rfl⟩

/-- What is asked of an entry that comes in. -/
def EIn (W : World) (e : EE) : Prop := EOk W e ∧ e.t < 18446744073709551616 ∧ -9223372036854775808 ≤ e.k ∧ e.k ≤ 9223372036854775807 ∧ e.c < 18446744073709551616 ∧ e.s < 18446744073709551616
theorem open_entry {ds : List Value} (hl : ds.length = 6) (h : TW enc Try.prog W 58 ds) : ∃ e : EE, ds = e.cells ∧ EIn W e := by
  obtain ⟨a0, a1, a2, a3, a4, a5, rfl⟩ := len6' hl
  have h0 : TW enc Try.prog W 22 [a0] := by have := h.field Try.underlying58 0 rfl tU64; exact this
  have h1 : TW enc Try.prog W 3 [a1] := by have := h.field Try.underlying58 1 rfl tInt; exact this
  have h2 : TW enc Try.prog W 22 [a2] := by have := h.field Try.underlying58 2 rfl tU64; exact this
  have h3 : TW enc Try.prog W 22 [a3] := by have := h.field Try.underlying58 3 rfl tU64; exact this
  have h4 : TW enc Try.prog W 32 [a4] := by have := h.field Try.underlying58 4 rfl tBytes; exact this
  have h5 : TW enc Try.prog W 31 [a5] := by have := h.field Try.underlying58 5 rfl tNums; exact this
  obtain ⟨t, e0, b0⟩ := h0.u64 Try.underlying22
  obtain ⟨k, e1, b1, b2⟩ := h1.i64 Try.underlying3
  obtain ⟨c, e2, b3⟩ := h2.u64 Try.underlying22
  obtain ⟨s, e3, b4⟩ := h3.u64 Try.underlying22
  obtain ⟨dl, r1, g1⟩ := h4.bytes Try.underlying32 Try.underlying5 tU8 (by kernel_rfl)
  obtain ⟨ml, r2, g2, _⟩ := h5.words Try.underlying31 Try.underlying22 tU64 (by kernel_rfl)
  simp only [List.cons.injEq, and_true] at e0 e1 e2 e3
  subst e0 e1 e2 e3
  exact ⟨⟨t, k, c, s, a4, a5⟩, rfl, ⟨dl, ml, r1, r2, by omega, by omega⟩, b0, b1, b2, b3, b4⟩
theorem open_entries {v : Value} (h : TW enc Try.prog W 23 [v]) : ∃ es : List EE, Rd W 6 v es.length (ecells es) ∧ es.length * 80 ≤ 140737488351232 ∧ ∀ e ∈ es, EIn W e := by
  obtain ⟨l, hr, hl, hq⟩ := h.elems Try.underlying23 cEntryT EE.cells (EIn W) (fun ds hl htw => open_entry hl htw) (fun e he u hu => by
    have := ecells_one (w := W) (es := [e]) (fun x hx => by simp at hx; subst hx; exact he.1) u (by simpa [ecells] using hu)
    exact this)
  rw [bEntryT] at hl
  exact ⟨l, hr, hl, fun e he => (hq e he).1⟩
/-- A log that comes in. -/
theorem open_log {cs : List Value} (hcs : cs.length = 3) (h : TW enc Try.prog W 25 cs) : ∃ (b bt : Nat) (v : Value) (es : List EE), cs = [.int .u64 b, .int .u64 bt, v] ∧ b < 18446744073709551616 ∧ bt < 18446744073709551616 ∧ Rd W 6 v es.length (ecells es) ∧ es.length * 80 ≤ 140737488351232 ∧ ∀ e ∈ es, EIn W e := by
  match cs, hcs with
  | [a0, a1, a2], _ =>
    have h0 : TW enc Try.prog W 22 [a0] := by have := h.field Try.underlying25 0 rfl tU64; exact this
    have h1 : TW enc Try.prog W 22 [a1] := by have := h.field Try.underlying25 1 rfl tU64; exact this
    have h2 : TW enc Try.prog W 23 [a2] := by have := h.field Try.underlying25 2 rfl tEnts; exact this
    obtain ⟨b, e0, b0⟩ := h0.u64 Try.underlying22
    obtain ⟨bt, e1, b1⟩ := h1.u64 Try.underlying22
    obtain ⟨es, hr, hl, hq⟩ := open_entries h2
    simp only [List.cons.injEq, and_true] at e0 e1
    subst e0 e1
    exact ⟨b, bt, a2, es, rfl, b0, b1, hr, hl, hq⟩
end
end Go.Proofs.Ythghhjilbaiahaa
