import Derived.Test.YtdociiogddihfaaGaL
import Derived.Test.YtdociiogddihfaaTw
import Derived.Test.YtdociiogddihfaaSoL
/- Raw gauges that come in; the law GaugeBytes. -/
namespace Go.Proofs.Ytdociiogddihfaa
open Go.ChangeShapes Go.WideShapes Go.ChangeAt Go.RowKit

theorem words_of_cells : ∀ cs : List Value, (∀ i, i < cs.length → ∃ n : Nat, cs[i]? = some (.int .u64 n) ∧ n < 18446744073709551616) → ∃ l : List Nat, cs = uv l ∧ l.length = cs.length ∧ ∀ x ∈ l, x < 18446744073709551616
  | [], _ => ⟨[], rfl, rfl, by simp⟩
  | c :: cs, h => by
    obtain ⟨n, hn, hn2⟩ := h 0 (by simp)
    obtain ⟨l, hl, hll, hq⟩ := words_of_cells cs (fun i hi => by
      obtain ⟨n, hn, hn2⟩ := h (i + 1) (by simpa using hi)
      exact ⟨n, by simpa using hn, hn2⟩)
    have hc : c = .int .u64 n := by simpa using hn
    exact ⟨n :: l, by rw [hc, hl]; simp [uv], by simp [hll], fun x hx => by rcases List.mem_cons.1 hx with rfl | hx; exact hn2; exact hq x hx⟩
theorem TW.four {H : Type} {enc : TypeId × Value → H} {W : World} {ds : List Value} (hl : ds.length = 4) (h : TW enc Try.prog W 41 ds) : ∃ b0 b1 b2 b3 : Nat, ds = [.int .u64 b0, .int .u64 b1, .int .u64 b2, .int .u64 b3] ∧ b0 < 18446744073709551616 ∧ b1 < 18446744073709551616 ∧ b2 < 18446744073709551616 ∧ b3 < 18446744073709551616 := by
  obtain ⟨f, d, p, hf, _⟩ := h
  obtain ⟨xs, m, rfl, hx, hlen, hn, hel⟩ := DataW.trod_array Try.underlying41 hf
  have c1 : Try.prog.cellsOf 24 = 1 := by kernel_rfl
  obtain ⟨l, hb, hll, hq⟩ := words_of_cells ds (fun i hi => by
    have h0 := hel i (by omega)
    rw [c1, Nat.mul_one] at h0
    obtain ⟨x, hx⟩ : ∃ x, xs[i]? = some x := ⟨_, List.getElem?_eq_getElem (by omega)⟩
    rw [hx] at h0
    obtain ⟨k, e1, _, wf⟩ := DataW.trod_int Try.underlying24 h0
    obtain ⟨n, rfl, hn2⟩ := u64_nat wf
    refine ⟨n, ?_, hn2⟩
    have h2 := congrArg (fun l => l[0]?) e1
    simpa using h2)
  rw [hl] at hll
  match l, hll with
  | [b0, b1, b2, b3], _ => exact ⟨b0, b1, b2, b3, hb, hq b0 (by simp), hq b1 (by simp), hq b2 (by simp), hq b3 (by simp)⟩
theorem cRaw : Try.prog.cellsOf 43 = 5 := by kernel_rfl
/-- A raw gauge's cells. -/
theorem TW.raw {H : Type} {enc : TypeId × Value → H} {W : World} {ds : List Value} (h : TW enc Try.prog W 43 ds) :
    ∃ N b0 b1 b2 b3 : Nat, ds = [.int .u64 N, .int .u64 b0, .int .u64 b1, .int .u64 b2, .int .u64 b3] ∧ N < 18446744073709551616 ∧ b0 < 18446744073709551616 ∧ b1 < 18446744073709551616 ∧ b2 < 18446744073709551616 ∧ b3 < 18446744073709551616 := by
  have hl : ds.length = 5 := by rw [h.cells Try.underlying43, cRaw]
  obtain ⟨n, hn, hn2⟩ := TW.u64 (P := Try.prog) Try.underlying24 (TW.field h Try.underlying43 0 rfl (n := 1) (by kernel_rfl))
  have h2 := TW.field h Try.underlying43 1 rfl (n := 4) (by kernel_rfl)
  obtain ⟨b0, b1, b2, b3, hb, q⟩ := TW.four (by simp; omega) h2
  have hn' : (ds.drop 0).take 1 = [.int .u64 n] := hn
  have hb' : (ds.drop 1).take 4 = [.int .u64 b0, .int .u64 b1, .int .u64 b2, .int .u64 b3] := hb
  have e1 : ds = ds.take 1 ++ (ds.drop 1).take 4 := by
    rw [List.take_of_length_le (l := ds.drop 1) (by simp; omega), List.take_append_drop]
  have hn'' : ds.take 1 = [.int .u64 n] := hn'
  exact ⟨n, b0, b1, b2, b3, by rw [e1, hn'', hb']; rfl, hn2, q⟩
set_option maxRecDepth 100000 in
theorem open_raw {H : Type} {enc : TypeId × Value → H} {W : World} {base : Nat} {v : Value} (g : Value.okWide Try.prog W .any base 43 v)
    (h : TW enc Try.prog W 43 v.cells.toList) : ∃ N b0 b1 b2 b3 : Nat, v = .agg #[.int .u64 N, .int .u64 b0, .int .u64 b1, .int .u64 b2, .int .u64 b3] ∧ N < 18446744073709551616 ∧ b0 < 18446744073709551616 ∧ b1 < 18446744073709551616 ∧ b2 < 18446744073709551616 ∧ b3 < 18446744073709551616 := by
  simp only [Value.okWide, Try.underlying43] at g
  obtain ⟨cs, rfl, _⟩ := g
  obtain ⟨n, b0, b1, b2, b3, he, h1⟩ := h.raw
  refine ⟨n, b0, b1, b2, b3, ?_, h1⟩
  have hc : (Value.agg cs).cells.toList = cs.toList := rfl
  rw [hc] at he
  have e2 : cs = cs.toList.toArray := by simp
  rw [e2, he]
theorem gaugeBytes.law (H : Type) (enc : TypeId × Value → H) (W : World) (base : Nat)
    (v0 : Value) (d0 : DataW H) (p0 : List MemPlace) (g0 : Value.okWide Try.prog W .any base 43 v0) (h0 : DataW.Trod enc Try.prog W 0 (fun _ => true) true 43 v0 d0 p0)
    (v1 : Value) (d1 : DataW H) (p1 : List MemPlace) (g1 : Value.okWide Try.prog W .any base 44 v1) (h1 : DataW.Trod enc Try.prog W 0 (fun _ => true) true 44 v1 d1 p1)
    {ts : List TypeId} {es : List (DataW H)} (hsz : (DataW.weightsEach Try.prog ([43, 44] ++ ts) ([d0, d1] ++ es)).all (· ≤ reachBytes) = true) :
    Calls Try.prog 5 #[v0, v1] W fun e W' => e = .returned (.bool true) ∧ Below W.heap.size W W' := by
  obtain ⟨N, b0, b1, b2, b3, rfl, hN, k0, k1, k2, k3⟩ := open_raw g0 (TW.of hsz (j := 0) h0 rfl rfl)
  obtain ⟨a, m, c, rfl⟩ := okWide_slice Try.underlying44 g1
  obtain ⟨l, hr, hl⟩ := TW.bytes (P := Try.prog) Try.underlying44 Try.underlying5 (by kernel_rfl) (by kernel_rfl) (TW.of hsz (j := 1) h1 rfl rfl)
  exact gaugeBytes_walk N b0 b1 b2 b3 _ l W hN k0 k1 k2 k3 hl hr
end Go.Proofs.Ytdociiogddihfaa

/- GaugeRows: the arguments opened. -/
namespace Go.Proofs.Ytdociiogddihfaa
open Go.ChangeShapes Go.WideShapes Go.ChangeAt Go.RowKit

theorem gaugeRows.law (H : Type) (enc : TypeId × Value → H) (W : World) (base : Nat)
    (v0 : Value) (d0 : DataW H) (p0 : List MemPlace) (g0 : Value.okWide Try.prog W .any base 50 v0) (h0 : DataW.Trod enc Try.prog W 0 (fun _ => true) true 50 v0 d0 p0)
    {ts : List TypeId} {es : List (DataW H)} (hsz : (DataW.weightsEach Try.prog ([50] ++ ts) ([d0] ++ es)).all (· ≤ reachBytes) = true) :
    Calls Try.prog 6 #[v0] W fun e W' => e = .returned (.bool true) ∧ Below W.heap.size W W' := by
  obtain ⟨a, m, c, rfl⟩ := okWide_slice Try.underlying50 g0
  obtain ⟨L, hr, hl, hq⟩ := TW.elems (P := Try.prog) (size := 5) Try.underlying50 cRaw rcl (fun g => g.n < 18446744073709551616 ∧ g.m < 18446744073709551616)
    (fun ds _ h => by
      obtain ⟨N, b0, b1, b2, b3, rfl, q0, q1, _⟩ := h.raw
      exact ⟨⟨N, b0, b1, b2, b3⟩, rfl, q0, q1⟩)
    (fun g _ u hu => by
      simp only [rcl, List.mem_cons, List.mem_nil_iff, or_false] at hu
      rcases hu with rfl | rfl | rfl | rfl | rfl <;> rfl) (TW.of hsz (j := 0) h0 rfl rfl)
  have hb : Try.prog.bytesOf 43 = 40 := by kernel_rfl
  rw [hb] at hl
  exact gaugeRows_walk _ L W (fun g hg => (hq g hg).1) hl hr
end Go.Proofs.Ytdociiogddihfaa
