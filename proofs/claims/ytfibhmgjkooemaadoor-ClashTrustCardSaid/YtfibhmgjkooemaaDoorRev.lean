/- slices.Reverse at hashes and at booleans, by the shelf's contracts. -/
import Derived.Test.YtfibhmgjkooemaaDoorRevShelf
import Derived.Shelf.SlicesQ.Reverse
import Derived.Test.YtfibhmgjkooemaaDoorLeafRA
import Derived.Test.YtfibhmgjkooemaaDoorTw
namespace Go.Proofs.YtfibhmgjkooemaaDoor
open Go.RowKit Sha Go.Sort

theorem own_putRow {w : World} {B g n cap size : Nat} {e : TypeId} {xs : List Value} (F : Array Value) (m : Nat) (h : w.ownsRow B e size (.slice (some ⟨g, 0, none⟩) n cap) n xs) (hF : F.size = n * size) :
    (putRow id (Go.Sort.ahead w m) g 0 F).ownsRow B e size (.slice (some ⟨g, 0, none⟩) n cap) n F.toList ∧ w.grownBy (putRow id (Go.Sort.ahead w m) g 0 F) (some g) := by
  obtain ⟨hl, ⟨hv, _⟩ | ⟨g', cap', cur, hv, hb, hg, hc, hcm, hs, ht⟩⟩ := h
  · simp at hv
  simp only [Value.slice.injEq, Option.some.injEq, Addr.mk.injEq, and_true, true_and] at hv
  obtain ⟨rfl, rfl⟩ := hv
  have hle : n * size ≤ cap * size := Nat.mul_le_mul_right _ hc
  have hrow : (putRow id (Go.Sort.ahead w m) g 0 F).heap[g]? = some (.cells (putCells id 0 F cur) e (0, 0)) := by
    unfold putRow mapBlock
    simp only [Array.getElem?_modify, if_true]
    show Option.map _ (w.heap[g]?) = _
    rw [hg]
    rfl
  refine ⟨⟨by simpa using hF, .inr ⟨g, cap, _, rfl, hb, hrow, hc, hcm, by simp [putCells, hs], ?_⟩⟩, ⟨rfl, rfl, rfl, by simp [putRow, mapBlock, Go.Sort.ahead], fun k hk hne => ?_⟩⟩
  · apply List.ext_getElem?
    intro t
    by_cases h1 : t < n * size
    · rw [List.getElem?_take_of_lt h1, Array.getElem?_toList, Array.getElem?_toList]
      have h2 : t < cur.size := by omega
      have h3 : t < F.size := by omega
      simp [putCells, h2, h3]
    · rw [List.getElem?_eq_none (by simp [putCells]; omega), List.getElem?_eq_none (by simp; omega)]
  · unfold putRow mapBlock
    simp only [Array.getElem?_modify]
    rw [if_neg (by simpa using fun e => hne (by rw [e]))]
    rfl
/-- Booleans as cells. -/
def bw (l : List Bool) : List Value := l.map fun b => .bool b
set_option maxRecDepth 100000 in
theorem RevBool_any (ps : List Bool) (v : Value) (w : World) (B : Nat) (hl : ps.length ≤ 140737488355328) (hown : w.ownsRow B 4 1 v ps.length (bw ps)) :
    Calls Tryd.prog 43 #[v] w fun e w' => e = .returned (.tuple #[]) ∧ w'.ownsRow B 4 1 v ps.length (bw ps.reverse) ∧ w.grownBy w' v.ownBlock := by
  by_cases h0 : ps.length = 0
  · obtain ⟨a, c, rfl⟩ := own_form hown
    have hp : ps = [] := List.eq_nil_of_length_eq_zero h0
    subst hp
    refine (AnyE.slices_Reverse_empty Tryd.reverseBool a c w).mono ?_
    rintro e w' ⟨rfl, rfl⟩
    exact ⟨rfl, hown, World.grownBy.refl _ _⟩
  · obtain ⟨g, cap, rfl, _, _, _, _⟩ := own_at hown (by omega)
    have hH : Holds (fun b : Bool => Value.bool b) w g 0 ps.toArray := fun j hj => by
      have hj' : j < ps.length := by simpa using hj
      have h1 := hown.cellAt j (by omega)
      refine ⟨?_, by rw [Nat.zero_add]; exact hown.frozenAt _⟩
      rw [Nat.zero_add, h1, bw, List.getElem?_map, List.getElem?_eq_getElem hj', getElem!_pos _ j hj]
      rfl
    have := AnyE.slices_Reverse Tryd.reverseBool (fun b : Bool => Value.bool b) (by intro b; rfl) g 0 cap ps w hH (by omega)
    refine this.mono ?_
    rintro e w' ⟨rfl, m, rfl⟩
    have hpr : putRow (fun b : Bool => Value.bool b) (Go.Sort.ahead w m) g 0 ps.reverse.toArray = putRow id (Go.Sort.ahead w m) g 0 (bw ps.reverse).toArray := by
      unfold putRow
      congr 1
      funext c
      unfold putCells
      apply Array.ext
      · simp
      · intro i h1 h2
        simp only [Array.getElem_mapIdx, List.size_toArray, bw, List.length_map, Nat.zero_add, Nat.sub_zero]
        split
        · rename_i hc
          rw [getElem!_pos _ i (by simpa using hc.2), getElem!_pos _ i (by simpa using hc.2)]
          simp
        · rfl
    have hp := own_putRow (bw ps.reverse).toArray m hown (by simp [bw])
    rw [← hpr] at hp
    exact ⟨rfl, by simpa using hp.1, hp.2⟩
end Go.Proofs.YtfibhmgjkooemaaDoor
