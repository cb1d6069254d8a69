/- Heads that come in; texts that come in. -/
import Derived.Test.YtgimblpdmlnfeaaDoorLeafArgs
import Derived.Test.YtgimblpdmlnfeaaDoorHdD
namespace Go.Proofs.YtgimblpdmlnfeaaDoor
open Go.ChangeShapes Go.WideShapes Go.ChangeAt Go.RowKit Sha

theorem cHead : Tryd.prog.cellsOf 37 = 66 := by kernel_rfl
set_option maxRecDepth 100000 in
theorem TW.head {H : Type} {enc : TypeId × Value → H} {W : World} {ds : List Value} (h : TW enc Tryd.prog W 37 ds) :
    ∃ (n z : Nat) (r m : List UInt8), ds = hdL n z r m ∧ r.length = 32 ∧ m.length = 32 ∧ n < 18446744073709551616 ∧ z < 18446744073709551616 := by
  have hl : ds.length = 66 := by rw [h.cells Tryd.underlying37, cHead]
  obtain ⟨n, hn, hn2⟩ := TW.u64 (P := Tryd.prog) Tryd.underlying33 (TW.field h Tryd.underlying37 0 rfl (n := 1) (by kernel_rfl))
  obtain ⟨z, hz, hz2⟩ := TW.u64 (P := Tryd.prog) Tryd.underlying33 (TW.field h Tryd.underlying37 1 rfl (n := 1) (by kernel_rfl))
  have h2 := TW.field h Tryd.underlying37 2 rfl (n := 32) (by kernel_rfl)
  have h3 := TW.field h Tryd.underlying37 3 rfl (n := 32) (by kernel_rfl)
  obtain ⟨r, hr, hr2⟩ := TW.hash (by simp; omega) h2
  obtain ⟨m, hm, hm2⟩ := TW.hash (by simp; omega) h3
  have hn' : (ds.drop 0).take 1 = [.int .u64 n] := hn
  have hz' : (ds.drop 1).take 1 = [.int .u64 z] := hz
  have hr' : (ds.drop 2).take 32 = bv r := hr
  have hm' : (ds.drop 34).take 32 = bv m := hm
  refine ⟨n, z, r, m, ?_, hr2, hm2, hn2, hz2⟩
  have e1 : ds = ds.take 1 ++ ((ds.drop 1).take 1 ++ ((ds.drop 2).take 32 ++ (ds.drop 34).take 32)) := by
    have a1 : (ds.drop 34).take 32 = ds.drop 34 := List.take_of_length_le (by simp; omega)
    have a2 : ds.drop 34 = (ds.drop 2).drop 32 := by rw [List.drop_drop]
    have a3 : ds.drop 2 = (ds.drop 1).drop 1 := by rw [List.drop_drop]
    rw [a1, a2, List.take_append_drop, a3, List.take_append_drop, List.take_append_drop]
  rw [e1, hz', hr', hm']
  have hn'' : ds.take 1 = [.int .u64 n] := hn'
  rw [hn'']
  rfl
set_option maxRecDepth 100000 in
theorem open_head {H : Type} {enc : TypeId × Value → H} {W : World} {base : Nat} {v : Value} (g : Value.okWide Tryd.prog W .any base 37 v)
    (h : TW enc Tryd.prog W 37 v.cells.toList) : ∃ (n z : Nat) (r m : List UInt8), v = .agg (hdL n z r m).toArray ∧ r.length = 32 ∧ m.length = 32 ∧ n < 18446744073709551616 ∧ z < 18446744073709551616 := by
  simp only [Value.okWide, Tryd.underlying37] at g
  obtain ⟨cs, rfl, _⟩ := g
  obtain ⟨n, z, r, m, he, h1⟩ := h.head
  refine ⟨n, z, r, m, ?_, h1⟩
  have hc : (Value.agg cs).cells.toList = cs.toList := rfl
  rw [hc] at he
  rw [← he]
theorem open_bytesW {H : Type} {enc : TypeId × Value → H} {W : World} {v : Value} (h : TW enc Tryd.prog W 25 [v]) : ∃ l : List UInt8, Rd W 1 v l.length (bv l) ∧ l.length ≤ 140737488351232 :=
  TW.bytes (P := Tryd.prog) Tryd.underlying25 Tryd.underlying5 (by kernel_rfl) (by kernel_rfl) h
/-- A value that reads as a list of texts. -/
def Txw (w : World) (v : Value) (ls : List (List UInt8)) : Prop := ∃ vs : List Value, vs.length = ls.length ∧ Rd w 1 v ls.length vs ∧ ∀ (i : Nat) (t : List UInt8) (u : Value), ls[i]? = some t → vs[i]? = some u → Rd w 1 u t.length (bv t)
theorem Txw.keep {w w' : World} {v : Value} {ls : List (List UInt8)} (h : Txw w v ls) (k : Below w.heap.size w w') : Txw w' v ls := by
  obtain ⟨vs, h1, h2, h3⟩ := h
  exact ⟨vs, h1, h2.keep k, fun i t u a b => (h3 i t u a b).keep k⟩
theorem Txw.keepB {w w' : World} {B : Nat} {v : Value} {ls : List (List UInt8)} (h : Txw w v ls) (k : Below B w w') (hB : w.heap.size ≤ B) : Txw w' v ls := h.keep (k.mono hB)
theorem flat_one9 {α : Type} (f : α → Value) : ∀ l : List α, l.flatMap (fun a => [f a]) = l.map f
  | [] => rfl
  | a :: l => by simp [flat_one9 f l]
/-- A list of texts that is an argument. -/
theorem open_txw {H : Type} {enc : TypeId × Value → H} {W : World} {v : Value} (t1 : TW enc Tryd.prog W 22 [v]) : ∃ ls, Txw W v ls ∧ ls.length * 24 ≤ 140737488351232 ∧ (∀ r ∈ ls, r.length ≤ 140737488351232) := by
  obtain ⟨l, hr1, hn1, hq⟩ := TW.elems (P := Tryd.prog) (size := 1) (α := Value × List UInt8) Tryd.underlying22 (by kernel_rfl) (fun a => [a.1]) (fun a => a.1.oneCell' = true ∧ Rd W 1 a.1 a.2.length (bv a.2) ∧ a.2.length ≤ 140737488351232)
    (fun ds hl htb => by
      obtain ⟨u, rfl⟩ := List.length_eq_one_iff.1 hl
      obtain ⟨a, n, c, hv, _, _⟩ := htb.slice Tryd.underlying25
      obtain rfl : u = .slice a n c := by simpa using hv
      obtain ⟨l, hr, hl⟩ := open_bytesW htb
      exact ⟨(_, l), rfl, rfl, hr, hl⟩)
    (fun a ha u hu => by simp only [List.mem_singleton] at hu; subst hu; exact ha.1) t1
  rw [flat_one9 (·.1) l] at hr1
  rw [show Tryd.prog.bytesOf 25 = 24 by kernel_rfl] at hn1
  have hm : ∀ r ∈ l.map (·.2), r.length ≤ 140737488351232 := fun t ht => by obtain ⟨x, hx, rfl⟩ := List.mem_map.1 ht; exact (hq x hx).1.2.2
  refine ⟨l.map (·.2), ⟨l.map (·.1), by simp, by rw [List.length_map]; exact hr1, fun i t u h1 h2 => ?_⟩, by rw [List.length_map]; exact hn1, hm⟩
  rw [List.getElem?_map] at h1 h2
  obtain ⟨x, hx, rfl⟩ := Option.map_eq_some_iff.1 h1
  rw [hx] at h2
  obtain rfl := Option.some.inj h2
  exact (hq x (List.mem_of_getElem? hx)).1.2.1
end Go.Proofs.YtgimblpdmlnfeaaDoor
