/- The law BallotOnce: its arguments opened. -/
import Derived.Test.YtcikclgnpkhelaaBallotLaw2
import Derived.Test.YtcikclgnpkhelaaOpen
import Derived.Lib.SmallJoins
namespace Go.Proofs.Ytcikclgnpkhelaa
open Go.ChangeShapes Go.WideShapes Go.ChangeAt Go.RowKit

section
variable {H : Type} {enc : TypeId × Value → H} {W : World}
theorem len1 {l : List Value} (h : l.length = 1) : ∃ x, l = [x] := by
  match l, h with
  | [x], _ => exact ⟨x, rfl⟩
theorem len6 {l : List Value} (h : l.length = 6) : ∃ a b c d e f, l = [a, b, c, d, e, f] := by
  match l, h with
  | [a, b, c, d, e, f], _ => exact ⟨a, b, c, d, e, f, rfl⟩
theorem len15 {l : List Value} (h : l.length = 15) : ∃ a b c d e f g i j k m n o p q, l = [a, b, c, d, e, f, g, i, j, k, m, n, o, p, q] := by
  match l, h with
  | [a, b, c, d, e, f, g, i, j, k, m, n, o, p, q], _ => exact ⟨a, b, c, d, e, f, g, i, j, k, m, n, o, p, q, rfl⟩

theorem cEntry : Try.prog.cellsOf 81 = 6 := by kernel_rfl
theorem cStep : Try.prog.cellsOf 36 = 15 := by kernel_rfl
theorem cMsg : Try.prog.cellsOf 34 = 12 := by kernel_rfl
theorem cInt : Try.prog.cellsOf 3 = 1 := by kernel_rfl
theorem cU64 : Try.prog.cellsOf 22 = 1 := by kernel_rfl
theorem cBool : Try.prog.cellsOf 4 = 1 := by kernel_rfl
theorem cEnts : Try.prog.cellsOf 23 = 1 := by kernel_rfl
theorem cNums : Try.prog.cellsOf 31 = 1 := by kernel_rfl
theorem cBytes : Try.prog.cellsOf 32 = 1 := by kernel_rfl

theorem open_u64 {x : Value} (h : Trd enc Try.prog W 22 [x]) : ∃ n : Nat, x = .int .u64 n ∧ n < 18446744073709551616 := by
  obtain ⟨n, hn, wf⟩ := h.int Try.underlying22
  obtain ⟨m, rfl, hm⟩ := u64_nat wf
  exact ⟨m, by simpa using hn, hm⟩
theorem open_i64 {x : Value} (h : Trd enc Try.prog W 3 [x]) : ∃ n : Int, x = .int .i64 n ∧ -9223372036854775808 ≤ n ∧ n ≤ 9223372036854775807 := by
  obtain ⟨n, hn, wf⟩ := h.int Try.underlying3
  have := bounds_i64 wf
  exact ⟨n, by simpa using hn, this⟩
theorem open_slice0 {t e : TypeId} {x : Value} (ht : Try.prog.underlying t = some (.slice e)) (h : Trd enc Try.prog W t [x]) : ∃ a n c, x = .slice a n c := by
  obtain ⟨a, n, c, hx, _⟩ := h.slice ht
  exact ⟨a, n, c, by simpa using hx⟩

theorem open_ents {x : Value} (h : Trd enc Try.prog W 23 [x]) : ∃ n, Ents W x n := by
  obtain ⟨a, n, c, hx, h1⟩ := h.slice Try.underlying23
  obtain rfl : x = .slice a n c := by simpa using hx
  rcases h1 with ⟨rfl, rfl, rfl⟩ | ⟨ad, rfl, hc, hm, hel⟩
  · exact ⟨0, .inl ⟨rfl, rfl⟩⟩
  · refine ⟨n, .inr ⟨ad, c, rfl, hc, by omega, fun i hi => ?_⟩⟩
    obtain ⟨ds, hl, hcell, htr⟩ := hel i hi
    rw [cEntry] at hl hcell
    obtain ⟨a0, a1, a2, a3, a4, a5, rfl⟩ := len6 hl
    have h1 : Trd enc Try.prog W 22 [a0] := by have := htr.field Try.underlying81 0 rfl cU64; exact this
    obtain ⟨t, rfl, ht⟩ := open_u64 h1
    exact ⟨t, ht, by simpa using hcell 0 (by omega)⟩

theorem open_msg {a1 a2 a3 a4 a5 a6 a7 a8 a9 a10 a11 a12 : Value} (h : Trd enc Try.prog W 34 [a1, a2, a3, a4, a5, a6, a7, a8, a9, a10, a11, a12]) :
    ∃ (k : Int) (fr to_ x idx lt cm st : Nat) (yes : Bool) (ea ma ia : Option Addr) (el ec ml mc il ic : Nat), [a1, a2, a3, a4, a5, a6, a7, a8, a9, a10, a11, a12] =
      [.int .i64 k, .int .u64 fr, .int .u64 to_, .int .u64 x, .int .u64 idx, .int .u64 lt, .int .u64 cm, .int .u64 st, .bool yes, .slice ea el ec, .slice ma ml mc, .slice ia il ic] := by
  have h0 : Trd enc Try.prog W 3 [a1] := by have := h.field Try.underlying34 0 rfl cInt; exact this
  have h1 : Trd enc Try.prog W 22 [a2] := by have := h.field Try.underlying34 1 rfl cU64; exact this
  have h2 : Trd enc Try.prog W 22 [a3] := by have := h.field Try.underlying34 2 rfl cU64; exact this
  have h3 : Trd enc Try.prog W 22 [a4] := by have := h.field Try.underlying34 3 rfl cU64; exact this
  have h4 : Trd enc Try.prog W 22 [a5] := by have := h.field Try.underlying34 4 rfl cU64; exact this
  have h5 : Trd enc Try.prog W 22 [a6] := by have := h.field Try.underlying34 5 rfl cU64; exact this
  have h6 : Trd enc Try.prog W 22 [a7] := by have := h.field Try.underlying34 6 rfl cU64; exact this
  have h7 : Trd enc Try.prog W 22 [a8] := by have := h.field Try.underlying34 7 rfl cU64; exact this
  have h8 : Trd enc Try.prog W 4 [a9] := by have := h.field Try.underlying34 8 rfl cBool; exact this
  have h9 : Trd enc Try.prog W 23 [a10] := by have := h.field Try.underlying34 9 rfl cEnts; exact this
  have h10 : Trd enc Try.prog W 31 [a11] := by have := h.field Try.underlying34 10 rfl cNums; exact this
  have h11 : Trd enc Try.prog W 32 [a12] := by have := h.field Try.underlying34 11 rfl cBytes; exact this
  obtain ⟨k, rfl, _, _⟩ := open_i64 h0
  obtain ⟨fr, rfl, _⟩ := open_u64 h1
  obtain ⟨to_, rfl, _⟩ := open_u64 h2
  obtain ⟨x, rfl, _⟩ := open_u64 h3
  obtain ⟨idx, rfl, _⟩ := open_u64 h4
  obtain ⟨lt, rfl, _⟩ := open_u64 h5
  obtain ⟨cm, rfl, _⟩ := open_u64 h6
  obtain ⟨st, rfl, _⟩ := open_u64 h7
  obtain ⟨yes, hy⟩ := h8.bool Try.underlying4
  obtain rfl : a9 = .bool yes := by simpa using hy
  obtain ⟨ea, el, ec, rfl⟩ := open_slice0 Try.underlying23 h9
  obtain ⟨ma, ml, mc, rfl⟩ := open_slice0 Try.underlying31 h10
  obtain ⟨ia, il, ic, rfl⟩ := open_slice0 Try.underlying32 h11
  exact ⟨k, fr, to_, x, idx, lt, cm, st, yes, ea, ma, ia, el, ec, ml, mc, il, ic, rfl⟩

theorem open_script {v : Value} (h : Trd enc Try.prog W 26 [v]) : ∃ n, Script W v n := by
  obtain ⟨a, n, c, hx, h1⟩ := h.slice Try.underlying26
  obtain rfl : v = .slice a n c := by simpa using hx
  rcases h1 with ⟨rfl, rfl, rfl⟩ | ⟨ad, rfl, hc, hm, hel⟩
  · exact ⟨0, .inl ⟨⟨_, _, rfl⟩, rfl⟩⟩
  · by_cases h0 : n = 0
    · exact ⟨n, .inl ⟨⟨_, _, rfl⟩, h0⟩⟩
    · refine ⟨n, ?_⟩
      obtain ⟨b, off, spot⟩ := ad
      obtain ⟨hspot, hb⟩ : spot = none ∧ b < W.heap.size := by
        obtain ⟨ds, hl, hcell, _⟩ := hel 0 (by omega)
        rw [cStep] at hl hcell
        obtain ⟨a0, a1, a2, a3, a4, a5, a6, a7, a8, a9, a10, a11, a12, a13, a14, rfl⟩ := len15 hl
        have h3 := hcell 0 (by omega)
        exact ⟨by simpa [Addr.add] using World.cell?_spot h3, by simpa [Addr.add] using World.block_lt_of_cell? _ _ h3⟩
      subst hspot
      refine .inr ⟨b, off, c, rfl, hc, hb, fun i hi => ?_⟩
      obtain ⟨ds, hl, hcell, htr⟩ := hel i hi
      rw [cStep] at hl hcell
      obtain ⟨a0, a1, a2, a3, a4, a5, a6, a7, a8, a9, a10, a11, a12, a13, a14, rfl⟩ := len15 hl
      have f0 : Trd enc Try.prog W 3 [a0] := by have := htr.field Try.underlying36 0 rfl cInt; exact this
      have f1 : Trd enc Try.prog W 34 [a1, a2, a3, a4, a5, a6, a7, a8, a9, a10, a11, a12] := by have := htr.field Try.underlying36 1 rfl cMsg; exact this
      have f2 : Trd enc Try.prog W 22 [a13] := by have := htr.field Try.underlying36 2 rfl cU64; exact this
      have f3 : Trd enc Try.prog W 22 [a14] := by have := htr.field Try.underlying36 3 rfl cU64; exact this
      obtain ⟨kd, rfl, k1, k2⟩ := open_i64 f0
      obtain ⟨tm, rfl, _⟩ := open_u64 f2
      obtain ⟨id, rfl, _⟩ := open_u64 f3
      obtain ⟨k, fr, to_, x, idx, lt, cm, st, yes, ea, ma, ia, el, ec, ml, mc, il, ic, heq⟩ := open_msg f1
      simp only [List.cons.injEq, and_true] at heq
      obtain ⟨rfl, rfl, rfl, rfl, rfl, rfl, rfl, rfl, rfl, rfl, rfl, rfl⟩ := heq
      have hc' : ∀ j, j < 15 → W.cell? ⟨b, off + i * 15 + j, none⟩ = [Value.int .i64 kd, .int .i64 k, .int .u64 fr, .int .u64 to_, .int .u64 x, .int .u64 idx, .int .u64 lt, .int .u64 cm, .int .u64 st, .bool yes, .slice ea el ec, .slice ma ml mc, .slice ia il ic, .int .u64 tm, .int .u64 id][j]? := fun j hj => by
        have := hcell j hj
        rw [Addr.add_lit, ← Nat.add_assoc] at this
        exact this
      exact ⟨kd, k, fr, to_, x, idx, lt, cm, st, yes, ea, ma, ia, el, ec, ml, mc, il, ic, tm, id, ⟨k1, k2⟩, hc' 0 (by omega), hc' 1 (by omega), hc' 2 (by omega), hc' 3 (by omega), hc' 4 (by omega), hc' 5 (by omega), hc' 6 (by omega), hc' 7 (by omega), hc' 8 (by omega), hc' 9 (by omega), hc' 10 (by omega), hc' 11 (by omega), hc' 12 (by omega), hc' 13 (by omega), hc' 14 (by omega)⟩
end

theorem ballotOnce.law (H : Type) (enc : TypeId × Value → H) (W : World) (base : Nat)
    (v0 : Value) (d0 : DataW H) (p0 : List MemPlace) (g0 : Value.okWide Try.prog W .any base 25 v0) (h0 : DataW.Trod enc Try.prog W 0 (fun _ => true) true 25 v0 d0 p0)
    (v1 : Value) (d1 : DataW H) (p1 : List MemPlace) (g1 : Value.okWide Try.prog W .any base 26 v1) (h1 : DataW.Trod enc Try.prog W 0 (fun _ => true) true 26 v1 d1 p1)
    {ts : List TypeId} {es : List (DataW H)} (hsz : (DataW.weightsEach Try.prog ([25, 26] ++ ts) ([d0, d1] ++ es)).all (· ≤ reachBytes) = true) :
    Calls Try.prog 3 #[v0, v1] W fun e W' => e = .returned (.bool true) ∧ Below W.heap.size W W' := by
  have t0 := Trd.of h0
  obtain ⟨c0, c1, c2, y0, y1, y2, m, rfl, _, _, k0, k1, k2⟩ := Go.Joins.open_agg3 Try.underlying25 (by kernel_rfl) (by kernel_rfl) g0 h0
  clear t0
  obtain ⟨base, rfl, hb⟩ := open_u64 (enc := enc) (W := W) ⟨_, _, k0⟩
  obtain ⟨bt, rfl, _⟩ := open_u64 (enc := enc) (W := W) ⟨_, _, k1⟩
  obtain ⟨n, hn⟩ := open_ents (enc := enc) (W := W) ⟨_, _, k2⟩
  obtain ⟨a, l, c, rfl⟩ := okWide_slice Try.underlying26 g1
  obtain ⟨m2, hs⟩ := open_script (enc := enc) (W := W) (by simpa [Value.cells] using Trd.of h1)
  exact ballotOnce_walk base bt c2 _ n m2 W hb hn hs
end Go.Proofs.Ytcikclgnpkhelaa
