/- Contracts of bin.Raw, the reference's Raw, and the law's fixed answer. -/
import Derived.Test.YtpdlocdlnoibbaaBinRef
namespace Go.Proofs.Ytpdlocdlnoibbaa
open Go.RowKit

set_option maxHeartbeats 400000 in
theorem Raw_any (v : Value) (l : List UInt8) (w : World) (hl : l.length ≤ 140737488355000) (hr : Rd w 1 v l.length (bv l)) :
    Calls Try.prog 17 #[v] w fun e w' => ∃ v', e = .returned v' ∧ Rd w' 1 v' (numB l.length ++ l).length (bv (numB l.length ++ l)) ∧ Below w.heap.size w w' := by
  obtain ⟨a, c, rfl⟩ := hr.form
  obtain ⟨i0, hi, hz0, hz1, hz2⟩ := info_parts info8
  have hnk := numB_length l.length
  have hk8 := nk_le l.length (by omega)
  have hnl : (numB l.length).length ≤ 9 := by omega
  clear hnk hk8
  go_enter Try.func17, Try.ntmps17
  go_wp2_with (at_make; refine wpList_make_own _ rfl _ _ 22 rfl w.heap.size 5 i0 (.int .u8 0) 1 Try.underlying22 hi hz0 hz1 _ _ _ (l.length + 9) rfl rfl (by omega) (by rw [hz2]; omega) (by unfold maxLen; omega) (Nat.le_refl _) ?_)
  intro w1 hown1 hg1
  have hb1 : Below w.heap.size w w1 := ⟨hg1.os, hg1.tape, hg1.output, hg1.size, fun k hk => hg1.block k hk (by simp)⟩
  have hs1 := hb1.size
  go_wp2_with fail
  refine (add_any w.heap.size _ [] l.length w1 (by omega) hs1 (by simp) (by simpa [bv] using hown1)).mono ?_
  rintro e w2 ⟨v2, rfl, hown2, hg2⟩
  rw [List.nil_append] at hown2
  have hb2 := hb1.trans (hg2.below hs1 (own_block hown1))
  have hs2 := hb2.size
  go_wp2_with (at_builtin; refine wpList_app Try.underlying22 info8 rfl (by decide) rfl _ _ rfl rfl rfl hown2 (hr.keep hb2) (by omega) (by omega) (by omega) ?_)
  intro v3 w3 hown3 hg3 _
  have hb3 := hb2.trans (hg3.below hs2 (own_block hown2))
  go_wp2
  go_ret
  refine ⟨v3, rfl, ?_, hb3⟩
  have := own_rd hown3 (by rw [← bv_append]; exact bv_one _)
  rw [List.length_append, bv_append]; exact this

set_option maxHeartbeats 400000 in
theorem refRaw_any (v : Value) (l : List UInt8) (w : World) (hl : l.length ≤ 140737488355000) (hr : Rd w 1 v l.length (bv l)) :
    Calls Try.prog 46 #[v] w fun e w' => ∃ v', e = .returned v' ∧ Rd w' 1 v' (numB l.length ++ l).length (bv (numB l.length ++ l)) ∧ Below w.heap.size w w' := by
  obtain ⟨a, c, rfl⟩ := hr.form
  have hnk := numB_length l.length
  have hk8 := nk_le l.length (by omega)
  have hnl : (numB l.length).length ≤ 9 := by omega
  clear hnk hk8
  go_enter Try.func46, Try.ntmps46
  go_wp2_with fail
  refine (refNum_any l.length w (by omega)).mono ?_
  rintro e w2 ⟨v2, rfl, hown2, hb2⟩
  have hs2 := hb2.size
  go_wp2_with (at_builtin; refine wpList_app Try.underlying22 info8 rfl (by decide) rfl _ _ rfl rfl rfl hown2 (hr.keep hb2) (by omega) (by omega) (by omega) ?_)
  intro v3 w3 hown3 hg3 _
  have hb3 := hb2.trans (hg3.below hs2 (own_block hown2))
  go_wp2
  go_ret
  refine ⟨v3, rfl, ?_, hb3⟩
  have := own_rd hown3 (by rw [← bv_append]; exact bv_one _)
  rw [List.length_append, bv_append]; exact this

theorem numB_256 : numB 256 = [2, 1, 0] := by decide
end Go.Proofs.Ytpdlocdlnoibbaa
