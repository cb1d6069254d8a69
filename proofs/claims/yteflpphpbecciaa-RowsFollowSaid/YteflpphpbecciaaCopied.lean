/- The law's own copy of a log. -/
import Derived.Test.YteflpphpbecciaaMergeR
import Derived.Test.YteflpphpbecciaaSame
namespace Go.Proofs.Yteflpphpbecciaa
open Go.RowKit

/-- A struct of three cells in a block. -/
def C3 (w : World) (g : Nat) (x y z : Value) : Prop := g < w.heap.size ∧ w.cell? ⟨g, 0, none⟩ = some x ∧ w.cell? ⟨g, 1, none⟩ = some y ∧ w.cell? ⟨g, 2, none⟩ = some z
theorem C3.keep {w w' : World} {g : Nat} {x y z : Value} (h : C3 w g x y z) (hb : Below w.heap.size w w') : C3 w' g x y z := by
  obtain ⟨h0, h1, h2, h3⟩ := h
  exact ⟨Nat.lt_of_lt_of_le h0 hb.size, (hb.cell (p := ⟨g, 0, none⟩) h0).trans h1, (hb.cell (p := ⟨g, 1, none⟩) h0).trans h2, (hb.cell (p := ⟨g, 2, none⟩) h0).trans h3⟩
theorem C3.new (w : World) (x y z : Value) (e : TypeId) : C3 (w.alloc (.cells #[x, y, z] e)) w.heap.size x y z := by
  refine ⟨by simp, by simp [go_sem], by simp [go_sem], by simp [go_sem]⟩

set_option maxHeartbeats 2000000 in
theorem copied_any (b bt : Nat) (v : Value) (es : List EE) (w : World) (hr : Rd w 6 v es.length (ecells es)) (hsum : es.length * 80 ≤ 140737488355328) :
    Calls Try.prog 8 #[.agg #[.int .u64 b, .int .u64 bt, v]] w fun e w' =>
      ∃ v', e = .returned (.agg #[.int .u64 b, .int .u64 bt, v']) ∧ Rd w' 6 v' es.length (ecells es) ∧ Below w.heap.size w w' := by
  obtain ⟨a, c, rfl⟩ := hr.form
  go_enter Try.func8, Try.ntmps8
  have hMW0 := mw_start w b bt (.slice a es.length c) (.int .u64 0) (.int .u64 0) (.slice none 0 0) 25
  go_upto_region 1 with fail
  obtain ⟨w2, hw2⟩ : ∃ x : World, x = (w.alloc (.cells #[.int .u64 b, .int .u64 bt, .slice a es.length c] 25)).alloc (.cells #[.int .u64 0, .int .u64 0, .slice none 0 0] 25) := ⟨_, rfl⟩
  rw [← hw2] at hMW0 ⊢
  have HMW := Lib.hid hMW0
  obtain ⟨B2, hB2⟩ : ∃ B2, B2 = w2.heap.size := ⟨_, rfl⟩
  have hAB : w.heap.size < B2 := by rw [hB2]; exact hMW0.2.1
  have hPB : w.heap.size + 1 < B2 := by rw [hB2]; exact hMW0.2.2.1
  have hbal : Below w2.heap.size w2 (w2.alloc (.cells #[] 31)) := (Below.refl _ _).alloc (Nat.le_refl _) _
  have hemp := own_new w2 31 6 0 B2 [] (by simp) (by omega) (by rw [hB2]; exact Nat.le_refl _)
  have hrd : Rd (w2.alloc (.cells #[] 31)) 6 (.slice a es.length c) es.length (ecells es) := (hr.keep hMW0.1).alloc _
  have hBz : B2 ≤ (w2.alloc (.cells #[] 31)).heap.size := by rw [hB2]; exact hbal.size
  have hone := hr.2.1
  obtain ⟨m1, m2, m3, e0, e1, e2, ⟨x0, x1, x2, c0, c1, c2⟩, f0, f1, f2, f3⟩ := hMW0
  clear hw2 hB2
  go_wp2_with (at_builtin; refine wpList_app Try.underlying23 infoEnt rfl (by decide) rfl _ _ rfl rfl rfl hemp hrd (by omega) (by omega) hBz ?_)
  intro v5 w5 hown5 hg5 _
  obtain ⟨ak, ck, rfl⟩ := own_form hown5
  have hMW5 := (HMW.out.keep hbal).keepB (hg5.below hBz (own_block hemp)) hAB hPB (by omega)
  have own4 := ownsRow_setCell_below (a := ⟨w.heap.size + 1, 2, none⟩) (ownsRow_setCell_below (a := ⟨w.heap.size + 1, 1, none⟩) (ownsRow_setCell_below (a := ⟨w.heap.size + 1, 0, none⟩) (ownsRow_setCell_below (a := ⟨w.heap.size, 2, none⟩) hown5 hAB (.slice ak es.length ck)) hPB (.int .u64 b)) hPB (.int .u64 bt)) hPB (.slice ak es.length ck)
  have HRD := Lib.hid (own_rd own4 hone)
  clear e0 e1 e2 c0 c1 c2 f0 f1 f2 f3 m1 m2 m3 HMW hemp hrd hBz hbal hg5 hown5 own4
  obtain ⟨m1, m2, m3, e0, e1, e2, ⟨x0, x1, x2, c0, c1, c2⟩, f0, f1, f2, f3⟩ := hMW5
  have c0' := (World.cell?_setCell_other w5 ⟨w.heap.size, 2, none⟩ ⟨w.heap.size + 1, 0, none⟩ (.slice ak es.length ck) (by simp)).trans c0
  have c1' := (World.cell?_setCell_other w5 ⟨w.heap.size, 2, none⟩ ⟨w.heap.size + 1, 1, none⟩ (.slice ak es.length ck) (by simp)).trans c1
  have c2' := (World.cell?_setCell_other w5 ⟨w.heap.size, 2, none⟩ ⟨w.heap.size + 1, 2, none⟩ (.slice ak es.length ck) (by simp)).trans c2
  obtain ⟨g0, g1, g2⟩ := mset_cells (x := .int .u64 b) (y := .int .u64 bt) (z := .slice ak es.length ck) c0' c1' c2'
  unfold mset at g0 g1 g2
  have hbl : Below w.heap.size w (mset (w.heap.size + 1) (.int .u64 b) (.int .u64 bt) (.slice ak es.length ck) (w5.setCell ⟨w.heap.size, 2, none⟩ (.slice ak es.length ck))) :=
    (((m1.setCell (p := ⟨w.heap.size, 2, none⟩) (by show w.heap.size ≤ w.heap.size; omega) _).setCell (p := ⟨w.heap.size + 1, 0, none⟩) (by show w.heap.size ≤ w.heap.size + 1; omega) _).setCell (p := ⟨w.heap.size + 1, 1, none⟩) (by show w.heap.size ≤ w.heap.size + 1; omega) _).setCell (p := ⟨w.heap.size + 1, 2, none⟩) (by show w.heap.size ≤ w.heap.size + 1; omega) _
  go_wp2_with fail
  exact bodyPost_ret (v := .agg #[.int .u64 b, .int .u64 bt, .slice ak es.length ck]) (by simp [results, Try.results8, go_sem, g0, g1, g2]) rfl ⟨.slice ak es.length ck, rfl, HRD.out, hbl⟩
end Go.Proofs.Yteflpphpbecciaa
