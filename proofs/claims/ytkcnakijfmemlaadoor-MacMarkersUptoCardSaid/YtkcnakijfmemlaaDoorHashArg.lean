/- Hash arguments opened; the laws' heads of ShaRooted, ShaNarrows. -/
import Derived.Test.YtkcnakijfmemlaaDoorShaNarrows
import Derived.Test.YtkcnakijfmemlaaDoorRows
namespace Go.Proofs.YtkcnakijfmemlaaDoor
open Go.ChangeShapes Go.WideShapes Go.ChangeAt Go.RowKit Sha

theorem bytes_of_cells : ∀ cs : List Value, (∀ i, i < cs.length → ∃ b : UInt8, cs[i]? = some (.int .u8 b.toNat)) → ∃ l : List UInt8, cs = bv l ∧ l.length = cs.length
  | [], _ => ⟨[], rfl, rfl⟩
  | c :: cs, h => by
    obtain ⟨b, hb⟩ := h 0 (by simp)
    obtain ⟨l, hl, hn⟩ := bytes_of_cells cs (fun i hi => by
      obtain ⟨b, hb⟩ := h (i + 1) (by simpa using hi)
      exact ⟨b, by simpa using hb⟩)
    have hc : c = .int .u8 b.toNat := by simpa using hb
    exact ⟨b :: l, by rw [hc, hl]; simp [bv], by simp [hn]⟩
theorem open_hash {H : Type} {enc : TypeId × Value → H} {W : World} {base : Nat} {v : Value} {d : DataW H} {p : List MemPlace} (g : Value.okWide Tryd.prog W .any base 25 v)
    (h : DataW.Trod enc Tryd.prog W 0 (fun _ => true) true 25 v d p) : ∃ l : List UInt8, v = .agg (bv l).toArray ∧ l.length = 32 := by
  simp only [Value.okWide, Tryd.underlying25] at g
  obtain ⟨cs, rfl, hsz, _⟩ := g
  obtain ⟨fuel, hf⟩ := h
  obtain ⟨xs, m, rfl, hx, hlen, hn, hel⟩ := DataW.trod_array Tryd.underlying25 hf
  have c32 : Tryd.prog.cellsOf 25 = 32 := by kernel_rfl
  have c1 : Tryd.prog.cellsOf 5 = 1 := by kernel_rfl
  rw [c32] at hsz
  have hcl : (Value.agg cs).cells.toList = cs.toList := rfl
  rw [hcl] at hel
  obtain ⟨l, hl, hll⟩ := bytes_of_cells cs.toList (fun i hi => by
    have hi32 : i < 32 := by simpa [hsz] using hi
    have h0 := hel i hi32
    rw [c1, Nat.mul_one] at h0
    obtain ⟨x, hx⟩ : ∃ x, xs[i]? = some x := ⟨_, List.getElem?_eq_getElem (by omega)⟩
    rw [hx] at h0
    obtain ⟨k, e1, _, wf⟩ := DataW.trod_int Tryd.underlying5 h0
    refine ⟨UInt8.ofNat k.toNat, ?_⟩
    rw [u8_of_wf wf]
    have h2 := congrArg (fun l => l[0]?) e1
    simpa using h2)
  refine ⟨l, ?_, by rw [hll]; simpa using hsz⟩
  rw [← hl]

theorem shaRooted.law (H : Type) (enc : TypeId × Value → H) (W : World) (base : Nat)
    (v0 : Value) (d0 : DataW H) (p0 : List MemPlace) (g0 : Value.okWide Tryd.prog W .any base 3 v0) (h0 : DataW.Trod enc Tryd.prog W 0 (fun _ => true) true 3 v0 d0 p0)
    (v1 : Value) (d1 : DataW H) (p1 : List MemPlace) (g1 : Value.okWide Tryd.prog W .any base 3 v1) (h1 : DataW.Trod enc Tryd.prog W 0 (fun _ => true) true 3 v1 d1 p1)
    (v2 : Value) (d2 : DataW H) (p2 : List MemPlace) (g2 : Value.okWide Tryd.prog W .any base 5 v2) (h2 : DataW.Trod enc Tryd.prog W 0 (fun _ => true) true 5 v2 d2 p2)
    {ts : List TypeId} {es : List (DataW H)} (_hsz : (DataW.weightsEach Tryd.prog ([3, 3, 5] ++ ts) ([d0, d1, d2] ++ es)).all (· ≤ reachBytes) = true) (hG : TabsR W) :
    Calls Tryd.prog 5 #[v0, v1, v2] W fun e W' => e = .returned (.bool true) ∧ Below W.heap.size W W' := by
  obtain ⟨n, rfl, _, _, wn⟩ := open_int Tryd.underlying3 g0 h0
  have hn := bounds_i64 wn
  obtain ⟨a, rfl, _, _, wa⟩ := open_int Tryd.underlying3 g1 h1
  have ha := bounds_i64 wa
  obtain ⟨c, rfl, _, _, wc⟩ := open_int Tryd.underlying5 g2 h2
  rw [← u8_of_wf wc]
  exact shaRooted_walk n a _ W (by omega) (by omega) hG

theorem shaNarrows.law (H : Type) (enc : TypeId × Value → H) (W : World) (base : Nat)
    (v0 : Value) (d0 : DataW H) (p0 : List MemPlace) (g0 : Value.okWide Tryd.prog W .any base 25 v0) (h0 : DataW.Trod enc Tryd.prog W 0 (fun _ => true) true 25 v0 d0 p0)
    (v1 : Value) (d1 : DataW H) (p1 : List MemPlace) (g1 : Value.okWide Tryd.prog W .any base 3 v1) (h1 : DataW.Trod enc Tryd.prog W 0 (fun _ => true) true 3 v1 d1 p1)
    (v2 : Value) (d2 : DataW H) (p2 : List MemPlace) (g2 : Value.okWide Tryd.prog W .any base 3 v2) (h2 : DataW.Trod enc Tryd.prog W 0 (fun _ => true) true 3 v2 d2 p2)
    {ts : List TypeId} {es : List (DataW H)} (_hsz : (DataW.weightsEach Tryd.prog ([25, 3, 3] ++ ts) ([d0, d1, d2] ++ es)).all (· ≤ reachBytes) = true) (hG : Tabs W) :
    Calls Tryd.prog 4 #[v0, v1, v2] W fun e W' => e = .returned (.bool true) ∧ Below W.heap.size W W' := by
  obtain ⟨l, rfl, hl⟩ := open_hash g0 h0
  obtain ⟨n, rfl, _, _, wn⟩ := open_int Tryd.underlying3 g1 h1
  have hn := bounds_i64 wn
  obtain ⟨a, rfl, _, _, wa⟩ := open_int Tryd.underlying3 g2 h2
  have ha := bounds_i64 wa
  exact shaNarrows_walk l n a W hl (by omega) (by omega) hG
end Go.Proofs.YtkcnakijfmemlaaDoor
