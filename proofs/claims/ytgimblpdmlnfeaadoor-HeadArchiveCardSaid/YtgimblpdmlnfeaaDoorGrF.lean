/- growth.Climb: two rows that are stored one behind the other; the regions' facts. (printed by gen/grf.py; the walk itself is not written yet) -/
import Derived.Test.YtgimblpdmlnfeaaDoorGrB
import Derived.Test.YtgimblpdmlnfeaaDoorLeafRA
namespace Go.Proofs.YtgimblpdmlnfeaaDoor
open Go.RowKit Sha Root Path Growth

/-- What a climb hands back: the error; the two hashes. -/
def gE (m n L : Nat) : Int := if m = 0 ∨ n < m then 9 else if L < szG m n true then 2 else if szG m n true < L then 4 else 0
def gS (W : Int) (m n : Nat) (old : List UInt8) (ps : List (List UInt8)) : List UInt8 × List UInt8 := if gE m n ps.length = 0 then showG (nodeH W) m n old true ps else (zs 32, zs 32)
theorem runW_32 (W : Int) : ∀ (wy : List Bool) (ps : List (List UInt8)) (s : List UInt8 × List UInt8), s.1.length = 32 → s.2.length = 32 → (runW (nodeH W) wy ps s).1.length = 32 ∧ (runW (nodeH W) wy ps s).2.length = 32
  | [], _, s, h1, h2 => by rw [runW]; exact ⟨h1, h2⟩
  | _ :: _, [], s, h1, h2 => by rw [runW]; exact ⟨h1, h2⟩
  | true :: wy, p :: r, (a, b), _, _ => by rw [runW]; exact runW_32 W wy r _ (nodeH_length _ _ _) (nodeH_length _ _ _)
  | false :: wy, p :: r, (a, b), h1, _ => by rw [runW]; exact runW_32 W wy r _ h1 (nodeH_length _ _ _)
theorem gS_32 (W : Int) (m n : Nat) (old : List UInt8) (ps : List (List UInt8)) (ho : old.length = 32) (h32 : ∀ p ∈ ps, p.length = 32) : (gS W m n old ps).1.length = 32 ∧ (gS W m n old ps).2.length = 32 := by
  have hh : (ps.headD old).length = 32 := by
    cases ps with
    | nil => exact ho
    | cons x r => exact h32 x (by simp)
  unfold gS
  split
  · unfold showG
    split
    · exact runW_32 W _ _ _ ho ho
    · exact runW_32 W _ _ _ hh hh
  · exact ⟨by simp [zs], by simp [zs]⟩
/-- One operation stores a row at g1, another one at g2. -/
def kC (A g1 E g2 : Nat) (j : Nat) (w w' : World) : Prop := if j = A then w.grownBy w' (some g1) else if j = E then w.grownBy w' (some g2) ∧ ((∃ l : List UInt8, l.length = 32 ∧ w.heap[g2]? = some (.cells (bv l).toArray 35 (0, 0))) → ∃ l : List UInt8, l.length = 32 ∧ w'.heap[g2]? = some (.cells (bv l).toArray 35 (0, 0))) else Below w.heap.size w w'
theorem kC_refl {A g1 E g2 j : Nat} (w : World) : kC A g1 E g2 j w w := by
  unfold kC; split
  · exact World.grownBy.refl _ _
  · split
    · exact ⟨World.grownBy.refl _ _, id⟩
    · exact Below.refl _ _
theorem kC_of {A g1 E g2 j : Nat} {w w' : World} (hA : (j == A) = false) (hE : (j == E) = false) (h : Below w.heap.size w w') : kC A g1 E g2 j w w' := by
  unfold kC; rw [if_neg (by simpa using hA), if_neg (by simpa using hE)]; exact h
theorem kC_at1 {A g1 E g2 : Nat} {w w' : World} (h : w.grownBy w' (some g1)) : kC A g1 E g2 A w w' := by
  unfold kC; rwa [if_pos rfl]
theorem kC_at2 {A g1 E g2 : Nat} {w w' : World} (hne : E ≠ A) (h : w.grownBy w' (some g2)) (h2 : ∃ l : List UInt8, l.length = 32 ∧ w'.heap[g2]? = some (.cells (bv l).toArray 35 (0, 0))) : kC A g1 E g2 E w w' := by
  unfold kC; rw [if_neg hne, if_pos rfl]; exact ⟨h, fun _ => h2⟩
theorem kC_below {A g1 E g2 j : Nat} {w w' : World} (hA : j ≠ A) (hE : j ≠ E) (k : kC A g1 E g2 j w w') : Below w.heap.size w w' := by
  unfold kC at k; rwa [if_neg hA, if_neg hE] at k
theorem kC_row1 {A g1 E g2 j : Nat} {w w' : World} {o : Obj} (hA : j ≠ A) (hne : g1 ≠ g2) (k : kC A g1 E g2 j w w') (h : w.heap[g1]? = some o) : w'.heap[g1]? = some o := by
  unfold kC at k
  rw [if_neg hA] at k
  split at k
  · exact (k.1.block g1 (Array.getElem?_eq_some_iff.1 h).1 (by simpa using hne)).trans h
  · exact (k.block g1 (Array.getElem?_eq_some_iff.1 h).1).trans h
theorem kC_row2 {A g1 E g2 j : Nat} {w w' : World} {o : Obj} (hE : j ≠ E) (hne : g1 ≠ g2) (k : kC A g1 E g2 j w w') (h : w.heap[g2]? = some o) : w'.heap[g2]? = some o := by
  unfold kC at k
  split at k
  · exact (k.block g2 (Array.getElem?_eq_some_iff.1 h).1 (by simpa using fun e => hne e.symm)).trans h
  · exact ((show Below w.heap.size w w' by first | exact k | (rw [if_neg hE] at k; exact k)).block g2 (Array.getElem?_eq_some_iff.1 h).1).trans h
/-- What each operation hands on. -/
def gc19F (W : Int) (b o L c k b16 b17 : Nat) (x ra rb na nb : List UInt8) : Nat → Value → World → Prop
  | 0, v, _ => v = .int .i64 W
  | 1, v, _ => v = .slice (some ⟨b, o, none⟩) L c
  | 2, v, _ => v = .int .i64 (k : Nat)
  | 3, v, _ => v = .pointer (some ⟨b, o + k * 32, none⟩)
  | 4, v, _ => v = .agg (bv x).toArray
  | 5, v, _ => v = .agg (bv ra).toArray
  | 6, v, _ => v = .agg (bv na).toArray
  | 7, v, _ => v = .int .i64 W
  | 8, v, _ => v = .slice (some ⟨b, o, none⟩) L c
  | 9, v, _ => v = .int .i64 (k : Nat)
  | 10, v, _ => v = .pointer (some ⟨b, o + k * 32, none⟩)
  | 11, v, _ => v = .agg (bv x).toArray
  | 12, v, _ => v = .agg (bv rb).toArray
  | 13, v, _ => v = .agg (bv nb).toArray
  | 14, _, w => w.heap[b16]? = some (.cells (bv na).toArray 35 (0, 0))
  | 15, _, w => w.heap[b17]? = some (.cells (bv nb).toArray 35 (0, 0))
  | _, _, _ => True

/-- What each operation hands on. -/
def gc20F (W : Int) (b o L c k _b16 b17 : Nat) (x _ra rb _na nb : List UInt8) : Nat → Value → World → Prop
  | 0, v, _ => v = .int .i64 W
  | 1, v, _ => v = .agg (bv rb).toArray
  | 2, v, _ => v = .slice (some ⟨b, o, none⟩) L c
  | 3, v, _ => v = .int .i64 (k : Nat)
  | 4, v, _ => v = .pointer (some ⟨b, o + k * 32, none⟩)
  | 5, v, _ => v = .agg (bv x).toArray
  | 6, v, _ => v = .agg (bv nb).toArray
  | 7, _, w => w.heap[b17]? = some (.cells (bv nb).toArray 35 (0, 0))
  | _, _, _ => True

end Go.Proofs.YtgimblpdmlnfeaaDoor
