/- The law ConfLatest: its arguments opened. -/
import Derived.Test.YtckpnihpobfggaaDoorConfV
import Derived.Test.YtckpnihpobfggaaDoorTw
namespace Go.Proofs.YtckpnihpobfggaaDoor
open Go.ChangeShapes Go.WideShapes Go.ChangeAt Go.RowKit

section
variable {H : Type} {enc : TypeId × Value → H} {W : World}
theorem cEntryT : Tryd.prog.cellsOf 35 = 6 := by kernel_rfl
theorem bEntryT : Tryd.prog.bytesOf 35 = 80 := by kernel_rfl
theorem tInt : Tryd.prog.cellsOf 3 = 1 := by kernel_rfl
theorem tU64 : Tryd.prog.cellsOf 25 = 1 := by kernel_rfl
theorem tU8 : Tryd.prog.cellsOf 5 = 1 := by kernel_rfl
theorem tNums : Tryd.prog.cellsOf 22 = 1 := by kernel_rfl
theorem tBytes : Tryd.prog.cellsOf 33 = 1 := by kernel_rfl
theorem tEnts : Tryd.prog.cellsOf 31 = 1 := by kernel_rfl
theorem len6' {l : List Value} (h : l.length = 6) : ∃ a b c d e f, l = [a, b, c, d, e, f] := by
  match l, h with
  | [a, b, c, d, e, f], _ => exact ⟨a, b, c, d, e, f, rfl⟩

theorem open_entryM {ds : List Value} (hl : ds.length = 6) (h : TW enc Tryd.prog W 35 ds) : ∃ e : EE, ds = e.cells ∧ MOk W e := by
  obtain ⟨a0, a1, a2, a3, a4, a5, rfl⟩ := len6' hl
  have h0 : TW enc Tryd.prog W 25 [a0] := by have := h.field Tryd.underlying35 0 rfl tU64; exact this
  have h1 : TW enc Tryd.prog W 3 [a1] := by have := h.field Tryd.underlying35 1 rfl tInt; exact this
  have h2 : TW enc Tryd.prog W 25 [a2] := by have := h.field Tryd.underlying35 2 rfl tU64; exact this
  have h3 : TW enc Tryd.prog W 25 [a3] := by have := h.field Tryd.underlying35 3 rfl tU64; exact this
  have h4 : TW enc Tryd.prog W 33 [a4] := by have := h.field Tryd.underlying35 4 rfl tBytes; exact this
  have h5 : TW enc Tryd.prog W 22 [a5] := by have := h.field Tryd.underlying35 5 rfl tNums; exact this
  obtain ⟨t, e0, b0⟩ := h0.u64 Tryd.underlying25
  obtain ⟨k, e1, b1, b2⟩ := h1.i64 Tryd.underlying3
  obtain ⟨c, e2, b3⟩ := h2.u64 Tryd.underlying25
  obtain ⟨s, e3, b4⟩ := h3.u64 Tryd.underlying25
  obtain ⟨dl, r1, g1⟩ := h4.bytes Tryd.underlying33 Tryd.underlying5 tU8 (by kernel_rfl)
  obtain ⟨ml, r2, g2, _⟩ := h5.words Tryd.underlying22 Tryd.underlying25 tU64 (by kernel_rfl)
  simp only [List.cons.injEq, and_true] at e0 e1 e2 e3
  subst e0 e1 e2 e3
  refine ⟨⟨t, k, c, s, a4, a5⟩, rfl, ml, r2, g2, ?_⟩
  obtain ⟨x, y, rfl⟩ := r1.form
  rfl
theorem open_entriesM {v : Value} (h : TW enc Tryd.prog W 31 [v]) : ∃ es : List EE, Rd W 6 v es.length (ecells es) ∧ es.length * 80 ≤ 140737488351232 ∧ ∀ e ∈ es, MOk W e := by
  obtain ⟨l, hr, hl, hq⟩ := h.elems Tryd.underlying31 cEntryT EE.cells (MOk W) (fun ds hl htw => open_entryM hl htw) (fun e he => ent_one e he)
  rw [bEntryT] at hl
  exact ⟨l, hr, hl, fun e he => (hq e he).1⟩
end

theorem confLatest.law (H : Type) (enc : TypeId × Value → H) (W : World) (base : Nat)
    (v0 : Value) (d0 : DataW H) (p0 : List MemPlace) (g0 : Value.okWide Tryd.prog W .any base 22 v0) (h0 : DataW.Trod enc Tryd.prog W 0 (fun _ => true) true 22 v0 d0 p0)
    (v1 : Value) (d1 : DataW H) (p1 : List MemPlace) (g1 : Value.okWide Tryd.prog W .any base 31 v1) (h1 : DataW.Trod enc Tryd.prog W 0 (fun _ => true) true 31 v1 d1 p1)
    {ts : List TypeId} {es : List (DataW H)} (hsz : (DataW.weightsEach Tryd.prog ([22, 31] ++ ts) ([d0, d1] ++ es)).all (· ≤ reachBytes) = true) (hG : TabD W) :
    Calls Tryd.prog 6 #[v0, v1] W fun e W' => e = .returned (.bool true) ∧ Below W.heap.size W W' := by
  obtain ⟨a0, n0, c0, rfl⟩ := okWide_slice Tryd.underlying22 g0
  obtain ⟨l0, r0, b0, q0⟩ := TW.words Tryd.underlying22 Tryd.underlying25 (by kernel_rfl) (by kernel_rfl) (TW.of hsz (j := 0) h0 rfl rfl)
  obtain ⟨a1, n1, c1, rfl⟩ := okWide_slice Tryd.underlying31 g1
  obtain ⟨es1, r1, b1, q1⟩ := open_entriesM (TW.of hsz (j := 1) h1 rfl rfl)
  exact ConfLatest_any _ _ l0 es1 W r0 b0 r1 b1 q1 hG
end Go.Proofs.YtckpnihpobfggaaDoor
