/- The law BinReads: its arguments opened. -/
import Derived.Test.YtpdlocdlnoibbaaBrR
namespace Go.Proofs.Ytpdlocdlnoibbaa
open Go.ChangeShapes Go.WideShapes Go.ChangeAt Go.RowKit

section
variable {H : Type} {enc : TypeId × Value → H} {W : World}
theorem opn_i64 {x : Value} (h : Trd enc Try.prog W 3 [x]) : ∃ n : Int, [x] = [.int .i64 n] ∧ -9223372036854775808 ≤ n ∧ n ≤ 9223372036854775807 := by
  obtain ⟨n, hn, wf⟩ := h.int Try.underlying3
  have := bounds_i64 wf
  exact ⟨n, hn, this⟩
theorem open_scr {v : Value} (h : Trd enc Try.prog W 40 [v]) : ∃ n, Scr W v n := by
  obtain ⟨a, n, c, hx, h1⟩ := h.slice Try.underlying40
  obtain rfl : v = .slice a n c := by simpa using hx
  rcases h1 with ⟨rfl, rfl, rfl⟩ | ⟨ad, rfl, hc, hm, hel⟩
  · exact ⟨0, .inl ⟨⟨_, _, rfl⟩, rfl⟩⟩
  · by_cases h0 : n = 0
    · exact ⟨n, .inl ⟨⟨_, _, rfl⟩, h0⟩⟩
    · refine ⟨n, ?_⟩
      have c2 : Try.prog.cellsOf 45 = 2 := by kernel_rfl
      have c1 : Try.prog.cellsOf 3 = 1 := by kernel_rfl
      have len2 : ∀ ds : List Value, ds.length = 2 → ∃ a b, ds = [a, b] := fun ds hl => by
        match ds, hl with
        | [a, b], _ => exact ⟨a, b, rfl⟩
      obtain ⟨b, off, spot⟩ := ad
      obtain ⟨hspot, hb⟩ : spot = none ∧ b < W.heap.size := by
        obtain ⟨ds, hl, hcell, _⟩ := hel 0 (by omega)
        rw [c2] at hl hcell
        obtain ⟨a0, a1, rfl⟩ := len2 ds hl
        have h3 := hcell 0 (by omega)
        exact ⟨by simpa [Addr.add] using World.cell?_spot h3, by simpa [Addr.add] using World.block_lt_of_cell? _ _ h3⟩
      subst hspot
      refine .inr ⟨b, off, c, rfl, hc, hb, fun i hi => ?_⟩
      obtain ⟨ds, hl, hcell, htr⟩ := hel i hi
      rw [c2] at hl hcell
      obtain ⟨a0, a1, rfl⟩ := len2 ds hl
      have f0 : Trd enc Try.prog W 3 [a0] := by have := htr.field Try.underlying45 0 rfl c1; exact this
      have f1 : Trd enc Try.prog W 3 [a1] := by have := htr.field Try.underlying45 1 rfl c1; exact this
      obtain ⟨kd, hk, k1, k2⟩ := opn_i64 f0
      obtain ⟨most, hm', m1, m2⟩ := opn_i64 f1
      simp only [List.cons.injEq, and_true] at hk hm'
      subst hk; subst hm'
      have hc' : ∀ j, j < 2 → W.cell? ⟨b, off + i * 2 + j, none⟩ = [Value.int .i64 kd, .int .i64 most][j]? := fun j hj => by
        have := hcell j hj
        rw [Addr.add_lit, ← Nat.add_assoc] at this
        exact this
      exact ⟨kd, most, ⟨k1, k2⟩, ⟨m1, m2⟩, hc' 0 (by omega), hc' 1 (by omega)⟩
end

theorem binReads.law (H : Type) (enc : TypeId × Value → H) (W : World) (base : Nat)
    (v0 : Value) (d0 : DataW H) (p0 : List MemPlace) (g0 : Value.okWide Try.prog W .any base 22 v0) (h0 : DataW.Trod enc Try.prog W 0 (fun _ => true) true 22 v0 d0 p0)
    (v1 : Value) (d1 : DataW H) (p1 : List MemPlace) (g1 : Value.okWide Try.prog W .any base 40 v1) (h1 : DataW.Trod enc Try.prog W 0 (fun _ => true) true 40 v1 d1 p1)
    {ts : List TypeId} {es : List (DataW H)} (hsz : (DataW.weightsEach Try.prog ([22, 40] ++ ts) ([d0, d1] ++ es)).all (· ≤ reachBytes) = true) :
    Calls Try.prog 5 #[v0, v1] W fun e W' => e = .returned (.bool true) ∧ Below W.heap.size W W' := by
  obtain ⟨l, hr, hd⟩ := open_bytes Try.underlying22 Try.underlying5 (by kernel_rfl) (okWide_slice Try.underlying22 g0) h0
  have hl := bytes_reach hsz (j := 0) (t := 22) rfl Try.underlying22 (by kernel_rfl) (l := l) (hd.imp (fun h => ⟨congrArg some h.1, h.2⟩) (fun ⟨s, h⟩ => ⟨s, congrArg some h⟩))
  obtain ⟨a, n, c, rfl⟩ := okWide_slice Try.underlying40 g1
  obtain ⟨m, hs⟩ := open_scr (Trd.of h1)
  exact binReads_walk v0 _ l m W hr hl hs
end Go.Proofs.Ytpdlocdlnoibbaa
