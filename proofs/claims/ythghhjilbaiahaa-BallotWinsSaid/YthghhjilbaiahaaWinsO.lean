/- The law BallotWins: its arguments opened. -/
import Derived.Test.YthghhjilbaiahaaWinsM
import Derived.Test.YthghhjilbaiahaaEntOpen
import Derived.Lib.SmallJoins
namespace Go.Proofs.Ythghhjilbaiahaa
open Go.ChangeShapes Go.WideShapes Go.ChangeAt Go.RowKit

section
variable {H : Type} {enc : TypeId × Value → H} {W : World}
theorem tBool : Try.prog.cellsOf 4 = 1 := by kernel_rfl
theorem tMsg : Try.prog.cellsOf 34 = 12 := by kernel_rfl
theorem tTurn : Try.prog.cellsOf 50 = 13 := by kernel_rfl
theorem tLog : Try.prog.cellsOf 25 = 3 := by kernel_rfl
theorem bLog : Try.prog.bytesOf 25 = 40 := by kernel_rfl
theorem bTurn : Try.prog.bytesOf 50 = 152 := by kernel_rfl
theorem TW.bool {t : TypeId} {x : Value} (ht : Try.prog.underlying t = some .bool) (h : TW enc Try.prog W t [x]) : ∃ b : Bool, x = .bool b := by
  obtain ⟨b, hb⟩ := h.trd.bool ht
  exact ⟨b, by simpa using hb⟩
theorem TW.slice1 {t e : TypeId} {x : Value} (ht : Try.prog.underlying t = some (.slice e)) (h : TW enc Try.prog W t [x]) : x.oneCell' = true := by
  obtain ⟨a, n, c, hx, _⟩ := h.slice ht
  obtain rfl : x = .slice a n c := by simpa using hx
  rfl
theorem open_msgV {ds : List Value} (hl : ds.length = 12) (h : TW enc Try.prog W 34 ds) : ∃ m : MsgV, ds = m.cells ∧ m.ok := by
  match ds, hl with
  | [a0, a1, a2, a3, a4, a5, a6, a7, a8, a9, a10, a11], _ =>
    have h0 : TW enc Try.prog W 3 [a0] := by have := h.field Try.underlying34 0 rfl tInt; exact this
    have h1 : TW enc Try.prog W 22 [a1] := by have := h.field Try.underlying34 1 rfl tU64; exact this
    have h2 : TW enc Try.prog W 22 [a2] := by have := h.field Try.underlying34 2 rfl tU64; exact this
    have h3 : TW enc Try.prog W 22 [a3] := by have := h.field Try.underlying34 3 rfl tU64; exact this
    have h4 : TW enc Try.prog W 22 [a4] := by have := h.field Try.underlying34 4 rfl tU64; exact this
    have h5 : TW enc Try.prog W 22 [a5] := by have := h.field Try.underlying34 5 rfl tU64; exact this
    have h6 : TW enc Try.prog W 22 [a6] := by have := h.field Try.underlying34 6 rfl tU64; exact this
    have h7 : TW enc Try.prog W 22 [a7] := by have := h.field Try.underlying34 7 rfl tU64; exact this
    have h8 : TW enc Try.prog W 4 [a8] := by have := h.field Try.underlying34 8 rfl tBool; exact this
    have h9 : TW enc Try.prog W 23 [a9] := by have := h.field Try.underlying34 9 rfl tEnts; exact this
    have h10 : TW enc Try.prog W 31 [a10] := by have := h.field Try.underlying34 10 rfl tNums; exact this
    have h11 : TW enc Try.prog W 32 [a11] := by have := h.field Try.underlying34 11 rfl tBytes; exact this
    obtain ⟨x0, e0, _⟩ := h0.i64 Try.underlying3
    obtain ⟨x1, e1, _⟩ := h1.u64 Try.underlying22
    obtain ⟨x2, e2, _⟩ := h2.u64 Try.underlying22
    obtain ⟨x3, e3, _⟩ := h3.u64 Try.underlying22
    obtain ⟨x4, e4, _⟩ := h4.u64 Try.underlying22
    obtain ⟨x5, e5, _⟩ := h5.u64 Try.underlying22
    obtain ⟨x6, e6, _⟩ := h6.u64 Try.underlying22
    obtain ⟨x7, e7, _⟩ := h7.u64 Try.underlying22
    obtain ⟨x8, e8⟩ := h8.bool Try.underlying4
    simp only [List.cons.injEq, and_true] at e0 e1 e2 e3 e4 e5 e6 e7
    subst e0 e1 e2 e3 e4 e5 e6 e7 e8
    exact ⟨⟨x0, x1, x2, x3, x4, x5, x6, x7, x8, a9, a10, a11⟩, rfl, h9.slice1 Try.underlying23, h10.slice1 Try.underlying31, h11.slice1 Try.underlying32⟩
theorem open_turn {ds : List Value} (hl : ds.length = 13) (h : TW enc Try.prog W 50 ds) : ∃ t : TurnE, ds = t.cells ∧ t.m.ok := by
  match ds, hl with
  | x :: ds, hl =>
    have h0 : TW enc Try.prog W 3 [x] := by have := h.field Try.underlying50 0 rfl tInt; exact this
    have hl2 : ds.length = 12 := by simpa using hl
    have h1 : TW enc Try.prog W 34 ds := by
      have := h.field Try.underlying50 1 rfl tMsg
      have e : ds.take 12 = ds := List.take_of_length_le (by omega)
      have e2 : ((x :: ds).drop 1).take 12 = ds := e
      rw [← e2]; exact this
    obtain ⟨vt, e0, _⟩ := h0.i64 Try.underlying3
    obtain ⟨m, rfl, hm⟩ := open_msgV hl2 h1
    simp only [List.cons.injEq, and_true] at e0
    subst e0
    exact ⟨⟨vt, m⟩, rfl, hm⟩
theorem open_logE {ds : List Value} (hl : ds.length = 3) (h : TW enc Try.prog W 25 ds) : ∃ l : LogE, ds = l.cells ∧ l.ok W := by
  obtain ⟨b, bt, v, es, rfl, _, _, hr, hle, _⟩ := open_log hl h
  exact ⟨⟨b, bt, v, es⟩, rfl, hr, by show es.length ≤ _; omega⟩
end
theorem LogE.one {w : World} {l : LogE} (h : l.ok w) : ∀ u ∈ l.cells, u.oneCell' = true := by
  obtain ⟨a, c, hv⟩ := h.rd.form
  intro u hu
  simp only [LogE.cells, List.mem_cons, List.not_mem_nil, or_false] at hu
  rcases hu with rfl | rfl | rfl
  · rfl
  · rfl
  · rw [hv]; rfl
theorem TurnE.one {t : TurnE} (h : t.m.ok) : ∀ u ∈ t.cells, u.oneCell' = true := by
  intro u hu
  rcases List.mem_cons.1 hu with rfl | hu
  · rfl
  · exact MsgV.one h u hu
theorem ballotWins.law (H : Type) (enc : TypeId × Value → H) (W : World) (base : Nat)
    (v0 : Value) (d0 : DataW H) (p0 : List MemPlace) (g0 : Value.okWide Try.prog W .any base 42 v0) (h0 : DataW.Trod enc Try.prog W 0 (fun _ => true) true 42 v0 d0 p0)
    (v1 : Value) (d1 : DataW H) (p1 : List MemPlace) (g1 : Value.okWide Try.prog W .any base 31 v1) (h1 : DataW.Trod enc Try.prog W 0 (fun _ => true) true 31 v1 d1 p1)
    (v2 : Value) (d2 : DataW H) (p2 : List MemPlace) (g2 : Value.okWide Try.prog W .any base 43 v2) (h2 : DataW.Trod enc Try.prog W 0 (fun _ => true) true 43 v2 d2 p2)
    {ts : List TypeId} {es : List (DataW H)} (hsz : (DataW.weightsEach Try.prog ([42, 31, 43] ++ ts) ([d0, d1, d2] ++ es)).all (· ≤ reachBytes) = true) :
    Calls Try.prog 4 #[v0, v1, v2] W fun e W' => e = .returned (.bool true) ∧ Below W.heap.size W W' := by
  obtain ⟨a, n, c, rfl⟩ := okWide_slice Try.underlying42 g0
  obtain ⟨ls, r0, l0, q0⟩ := (TW.of hsz (j := 0) h0 rfl rfl).elems Try.underlying42 tLog LogE.cells (fun l => l.ok W) (fun ds hl htw => open_logE hl htw) (fun l hl => LogE.one hl)
  obtain ⟨a1, n1, c1, rfl⟩ := okWide_slice Try.underlying31 g1
  obtain ⟨mb, r1, l1, _⟩ := TW.words Try.underlying31 Try.underlying22 tU64 (by kernel_rfl) (TW.of hsz (j := 1) h1 rfl rfl)
  obtain ⟨a2, n2, c2, rfl⟩ := okWide_slice Try.underlying43 g2
  obtain ⟨ts, r2, l2, q2⟩ := (TW.of hsz (j := 2) h2 rfl rfl).elems Try.underlying43 tTurn TurnE.cells (fun t => t.m.ok) (fun ds hl htw => open_turn hl htw) (fun t ht => TurnE.one ht)
  rw [bLog] at l0
  rw [bTurn] at l2
  exact ballotWins_walk _ _ _ ls mb ts W r0 (fun l hl => (q0 l hl).1) (by omega) r1 (by omega) r2 (by omega) (fun t ht => (q2 t ht).1)
end Go.Proofs.Ythghhjilbaiahaa
