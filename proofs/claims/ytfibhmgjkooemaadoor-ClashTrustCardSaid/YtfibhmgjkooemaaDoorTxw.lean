/- Lists of hashes that come in. -/
import Derived.Test.YtfibhmgjkooemaaDoorLaid
import Derived.Test.YtfibhmgjkooemaaDoorTw
import Derived.Test.YtfibhmgjkooemaaDoorLaidL
import Derived.Test.YtfibhmgjkooemaaDoorLeafRA
namespace Go.Proofs.YtfibhmgjkooemaaDoor
open Go.ChangeShapes Go.WideShapes Go.ChangeAt Go.RowKit Sha

theorem cHash : Tryd.prog.cellsOf 35 = 32 := by kernel_rfl
theorem bHash : Tryd.prog.bytesOf 35 = 32 := by kernel_rfl
theorem cU8 : Tryd.prog.cellsOf 5 = 1 := by kernel_rfl
/-- A hash that comes in. -/
theorem TW.hash {H : Type} {enc : TypeId × Value → H} {W : World} {ds : List Value} (hl : ds.length = 32) (h : TW enc Tryd.prog W 35 ds) : ∃ l : List UInt8, ds = bv l ∧ l.length = 32 := by
  obtain ⟨f, d, p, hf, _⟩ := h
  obtain ⟨xs, m, rfl, hx, hlen, hn, hel⟩ := DataW.trod_array Tryd.underlying35 hf
  obtain ⟨l, hb, hll⟩ := bytes_of_cells ds (fun i hi => by
    have h0 := hel i (by omega)
    rw [cU8, Nat.mul_one] at h0
    obtain ⟨x, hx⟩ : ∃ x, xs[i]? = some x := ⟨_, List.getElem?_eq_getElem (by omega)⟩
    rw [hx] at h0
    obtain ⟨k, e1, _, wf⟩ := DataW.trod_int Tryd.underlying5 h0
    refine ⟨UInt8.ofNat k.toNat, ?_⟩
    rw [u8_of_wf wf]
    have h2 := congrArg (fun l => l[0]?) e1
    simpa using h2)
  exact ⟨l, hb, by omega⟩
theorem TW.hashes {H : Type} {enc : TypeId × Value → H} {W : World} {v : Value} (h : TW enc Tryd.prog W 36 [v]) : ∃ ls : List (List UInt8), Rd W 32 v ls.length (ls.flatMap bv) ∧ ls.length * 32 ≤ 140737488351232 ∧ ∀ p ∈ ls, p.length = 32 := by
  obtain ⟨l, hr, hl, hq⟩ := h.elems Tryd.underlying36 cHash bv (fun l => l.length = 32) (fun ds hl htw => TW.hash hl htw) (fun l _ => bv_one l)
  rw [bHash] at hl
  exact ⟨l, hr, hl, fun p hp => (hq p hp).1⟩
end Go.Proofs.YtfibhmgjkooemaaDoor

/- Texts that come in. -/
namespace Go.Proofs.YtfibhmgjkooemaaDoor
open Go.ChangeShapes Go.WideShapes Go.ChangeAt Go.RowKit Sha

theorem open_bytesW {H : Type} {enc : TypeId × Value → H} {W : World} {v : Value} (h : TW enc Tryd.prog W 25 [v]) : ∃ l : List UInt8, Rd W 1 v l.length (bv l) ∧ l.length ≤ 140737488351232 :=
  TW.bytes (P := Tryd.prog) Tryd.underlying25 Tryd.underlying5 (by kernel_rfl) (by kernel_rfl) h
/-- A value that reads as a list of texts. -/
def Txw (w : World) (v : Value) (ls : List (List UInt8)) : Prop := ∃ vs : List Value, vs.length = ls.length ∧ Rd w 1 v ls.length vs ∧ ∀ (i : Nat) (t : List UInt8) (u : Value), ls[i]? = some t → vs[i]? = some u → Rd w 1 u t.length (bv t)
theorem Txw.keep {w w' : World} {v : Value} {ls : List (List UInt8)} (h : Txw w v ls) (k : Below w.heap.size w w') : Txw w' v ls := by
  obtain ⟨vs, h1, h2, h3⟩ := h
  exact ⟨vs, h1, h2.keep k, fun i t u a b => (h3 i t u a b).keep k⟩
theorem Txw.keepB {w w' : World} {B : Nat} {v : Value} {ls : List (List UInt8)} (h : Txw w v ls) (k : Below B w w') (hB : w.heap.size ≤ B) : Txw w' v ls := h.keep (k.mono hB)
theorem flat_one9 {α : Type} (f : α → Value) : ∀ l : List α, l.flatMap (fun a => [f a]) = l.map f
  | [] => rfl
  | a :: l => by simp [flat_one9 f l]
/-- A list of texts that is an argument. -/
theorem open_txw {H : Type} {enc : TypeId × Value → H} {W : World} {v : Value} (t1 : TW enc Tryd.prog W 22 [v]) : ∃ ls, Txw W v ls ∧ ls.length * 24 ≤ 140737488351232 ∧ (∀ r ∈ ls, r.length ≤ 140737488351232) := by
  obtain ⟨l, hr1, hn1, hq⟩ := TW.elems (P := Tryd.prog) (size := 1) (α := Value × List UInt8) Tryd.underlying22 (by kernel_rfl) (fun a => [a.1]) (fun a => a.1.oneCell' = true ∧ Rd W 1 a.1 a.2.length (bv a.2) ∧ a.2.length ≤ 140737488351232)
    (fun ds hl htb => by
      obtain ⟨u, rfl⟩ := List.length_eq_one_iff.1 hl
      obtain ⟨a, n, c, hv, _, _⟩ := htb.slice Tryd.underlying25
      obtain rfl : u = .slice a n c := by simpa using hv
      obtain ⟨l, hr, hl⟩ := open_bytesW htb
      exact ⟨(_, l), rfl, rfl, hr, hl⟩)
    (fun a ha u hu => by simp only [List.mem_singleton] at hu; subst hu; exact ha.1) t1
  rw [flat_one9 (·.1) l] at hr1
  rw [show Tryd.prog.bytesOf 25 = 24 by kernel_rfl] at hn1
  have hm : ∀ r ∈ l.map (·.2), r.length ≤ 140737488351232 := fun t ht => by obtain ⟨x, hx, rfl⟩ := List.mem_map.1 ht; exact (hq x hx).1.2.2
  refine ⟨l.map (·.2), ⟨l.map (·.1), by simp, by rw [List.length_map]; exact hr1, fun i t u h1 h2 => ?_⟩, by rw [List.length_map]; exact hn1, hm⟩
  rw [List.getElem?_map] at h1 h2
  obtain ⟨x, hx, rfl⟩ := Option.map_eq_some_iff.1 h1
  rw [hx] at h2
  obtain rfl := Option.some.inj h2
  exact (hq x (List.mem_of_getElem? hx)).1.2.1
theorem Txw.take {w : World} {a : Option Addr} {n c : Nat} {ls : List (List UInt8)} (h : Txw w (.slice a n c) ls) (hn : ls.length = n) (k : Nat) (hk : k ≤ n) : Txw w (.slice a k c) (ls.take k) := by
  obtain ⟨vs, h1, h2, h3⟩ := h
  have hkl : (ls.take k).length = k := by rw [List.length_take]; omega
  refine ⟨vs.take k, by rw [List.length_take, List.length_take]; omega, ?_, fun i t u ht hu => ?_⟩
  · rw [hkl]
    rw [hn] at h2
    have := rd_take h2 k hk
    rwa [Nat.mul_one] at this
  · have hi : i < k := by have := (List.getElem?_eq_some_iff.1 ht).1; omega
    rw [List.getElem?_take_of_lt hi] at ht hu
    exact h3 i t u ht hu
end Go.Proofs.YtfibhmgjkooemaaDoor
