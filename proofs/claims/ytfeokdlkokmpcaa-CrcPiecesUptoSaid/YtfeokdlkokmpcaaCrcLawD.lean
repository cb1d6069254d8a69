/- The law CrcPieces: its argument opened; the pieces' letters together are no more than the bulk. -/
import Derived.Test.YtfeokdlkokmpcaaCrcPieces
import Derived.Test.YtfeokdlkokmpcaaRows
namespace Go.Proofs.Ytfeokdlkokmpcaa
open Go.ChangeShapes Go.WideShapes Go.ChangeAt Go.RowKit

theorem bulk_lits {H : Type} (l : List UInt8) : Rows.uptoBulkAll (H := H) (l.map fun b => .lit (.int .u8 b.toNat)) = l.length := by
  induction l with
  | nil => simp [Rows.uptoBulkAll]
  | cons b l ih => simp only [List.map_cons, Rows.uptoBulkAll, Rows.uptoBulk, ih, List.length_cons]; omega

theorem bulk_all {H : Type} (f : Nat → List UInt8) (D : Nat → DataW H) : ∀ js : List Nat, (∀ i ∈ js, (f i).length + 1 ≤ Rows.uptoBulk (D i)) →
    (js.map f).flatten.length ≤ Rows.uptoBulkAll (js.map D) ∧ js.length ≤ Rows.uptoBulkAll (js.map D)
  | [], _ => by simp [Rows.uptoBulkAll]
  | i :: js, h => by
    have hi := h i (by simp)
    have hr := bulk_all f D js (fun j hj => h j (by simp [hj]))
    simp only [List.map_cons, List.flatten_cons, List.length_append, Rows.uptoBulkAll, List.length_cons]
    omega

theorem crcPieces.law (H : Type) (enc : TypeId × Value → H) (W : World) (base : Nat)
    (v0 : Value) (d0 : DataW H) (p0 : List MemPlace) (g0 : Value.okWide Try.prog W .any base 31 v0) (h0 : DataW.Trod enc Try.prog W 0 (fun _ => true) true 31 v0 d0 p0)
    (hsz : Rows.uptoSmall H [d0] = true) :
    Calls Try.prog 5 #[v0] W fun e W' => e = .returned (.bool true) ∧ Below W.heap.size W W' := by
  obtain ⟨a, n, c, rfl⟩ := okWide_slice Try.underlying31 g0
  obtain ⟨fuel, hf⟩ := h0
  have hsz' : Rows.uptoBulk d0 ≤ 1048576 := by
    have := of_decide_eq_true hsz
    simp only [Rows.uptoBulkAll] at this
    omega
  rcases Go.Deep.open_slice1 Try.underlying31 (by kernel_rfl) hf with ⟨hcs, hx⟩ | ⟨ad, len, cap, m, n', V, D, Pl, hcs, _, hl, hm, hmm, hx, hel⟩
  · simp [Value.cells] at hcs
    obtain ⟨rfl, rfl, rfl⟩ := hcs
    exact crcPieces_walk _ [] [] W (Rd.nil W 1) rfl (by simp) (by simp) (by simp)
  · simp [Value.cells] at hcs
    obtain ⟨rfl, rfl, rfl⟩ := hcs
    simp only [if_true] at hmm
    have each : ∀ i, i < n → ∃ l : List UInt8, Rd W 1 (V i) l.length (bv l) ∧ l.length + 1 ≤ Rows.uptoBulk (D i) ∧ (V i).oneCell' = true ∧ W.cell? (ad.add i) = some (V i) := by
      intro i hi
      obtain ⟨hc, ht⟩ := hel i (by omega)
      have hform : ∃ a n c, V i = .slice a n c := by
        rcases Go.Deep.open_slice Try.underlying22 ht with ⟨h, _⟩ | ⟨_, _, _, _, _, _, _, h, _⟩
        · exact ⟨_, _, _, by simpa using h⟩
        · exact ⟨_, _, _, by simpa using h⟩
      obtain ⟨va, vn, vc, hv⟩ := hform
      obtain ⟨l, hr, hd⟩ := open_bytes (enc := enc) (v := V i) (d := D i) (p := Pl i) Try.underlying22 Try.underlying5 (by kernel_rfl) ⟨_, _, _, hv⟩ ⟨n', by rw [hv] at ht ⊢; simpa [Value.cells] using ht⟩
      refine ⟨l, hr, ?_, by rw [hv]; rfl, hc⟩
      rcases hd with ⟨hd, rfl⟩ | ⟨spare, hd⟩
      · rw [hd]; simp [Rows.uptoBulk]
      · rw [hd]; simp only [Rows.uptoBulk, bulk_lits]; omega
    obtain ⟨f, hf⟩ : ∃ f : Nat → List UInt8, ∀ i, i < n → Rd W 1 (V i) (f i).length (bv (f i)) ∧ (f i).length + 1 ≤ Rows.uptoBulk (D i) ∧ (V i).oneCell' = true ∧ W.cell? (ad.add i) = some (V i) :=
      ⟨fun i => if h : i < n then Classical.choose (each i h) else [], fun i hi => by simp only [dif_pos hi]; exact Classical.choose_spec (each i hi)⟩
    have hbulk := bulk_all f D (List.range n) (fun i hi => (hf i (by simpa using hi)).2.1)
    have hd : d0 = .slice ((List.range n).map D) ((List.range (m - n)).map fun j => D (n + j)) := by simpa using congrArg Prod.fst hx
    rw [hd] at hsz'
    simp only [Rows.uptoBulk] at hsz'
    rw [List.length_range] at hbulk
    have hR : Rd W 1 (.slice (some ad) n c) ((List.range n).map V).length ((List.range n).map V) := by
      rw [List.length_map, List.length_range]
      refine ⟨by simp, ?_, .inr ⟨ad, c, rfl, hl, ?_⟩⟩
      · intro u hu
        obtain ⟨i, hi, rfl⟩ := List.mem_map.1 hu
        exact (hf i (by simpa using hi)).2.2.1
      · intro j u hu
        simp only [List.getElem?_map] at hu
        by_cases hj : j < n
        · rw [List.getElem?_range hj] at hu
          simp at hu
          rw [← hu]
          exact (hf j hj).2.2.2
        · rw [List.getElem?_eq_none (by simpa using hj)] at hu
          simp at hu
    refine crcPieces_walk _ ((List.range n).map V) ((List.range n).map f) W hR (by simp) ?_ (by omega) (by simp only [List.length_map, List.length_range]; omega)
    intro i l u h1 h2
    simp only [List.getElem?_map] at h1 h2
    by_cases hj : i < n
    · rw [List.getElem?_range hj] at h1 h2
      simp at h1 h2
      subst h1
      subst h2
      exact (hf i hj).1
    · rw [List.getElem?_eq_none (by simpa using hj)] at h1
      simp at h1
end Go.Proofs.Ytfeokdlkokmpcaa
