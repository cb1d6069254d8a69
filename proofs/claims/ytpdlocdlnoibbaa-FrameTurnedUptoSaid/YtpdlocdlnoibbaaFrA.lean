/- frame: the reference's Frame; the frame's parts. -/
import Derived.Test.YtpdlocdlnoibbaaFrP
import Derived.Test.YtpdlocdlnoibbaaBrS
import Derived.Test.YtpdlocdlnoibbaaCrc4
namespace Go.Proofs.Ytpdlocdlnoibbaa
open Go.RowKit

theorem refRaw_own (v : Value) (l : List UInt8) (w : World) (hl : l.length ≤ 140737488355000) (hr : Rd w 1 v l.length (bv l)) :
    Calls Try.prog 46 #[v] w fun e w' => ∃ v', e = .returned v' ∧ w'.ownsRow w.heap.size 5 1 v' (numB l.length ++ l).length (bv (numB l.length ++ l)) ∧ Below w.heap.size w w' := by
  obtain ⟨a, c, rfl⟩ := hr.form
  have hnk := numB_length l.length
  have hk8 := nk_le l.length (by omega)
  have hnl : (numB l.length).length ≤ 9 := by omega
  clear hnk hk8
  go_enter Try.func46, Try.ntmps46
  go_wp2_with fail
  refine (refNum_any l.length w (by omega)).mono ?_
  rintro e w2 ⟨v2, rfl, hown2, hb2⟩
  have hs2 := hb2.size
  go_wp2_with (at_builtin; refine wpList_app Try.underlying22 info8 rfl (by decide) rfl _ _ rfl rfl rfl hown2 (hr.keep hb2) (by omega) (by omega) (by omega) ?_)
  intro v3 w3 hown3 hg3 _
  have hb3 := hb2.trans (hg3.below hs2 (own_block hown2))
  go_wp2
  go_ret
  refine ⟨v3, rfl, ?_, hb3⟩
  rw [List.length_append, bv_append]; exact hown3
theorem be4_bv (s : Nat) : bv (be 4 s) = [.int .u8 ((s : Int) / 16777216 % 256), .int .u8 ((s : Int) / 65536 % 256), .int .u8 ((s : Int) / 256 % 256), .int .u8 ((s : Int) % 256)] := by
  simp only [be, bv, List.map_append, List.map_cons, List.map_nil, List.nil_append, List.cons_append]
  have u8n : ∀ n : Nat, ((UInt8.ofNat (n % 256)).toNat : Int) = (n : Int) % 256 := fun n => by rw [u8_nat _ (by omega)]; omega
  rw [u8n, u8n, u8n, u8n]
  simp only [List.cons.injEq, Value.int.injEq, true_and, and_true]
  omega
theorem rd_be4 (w : World) (s : Nat) : Rd (w.alloc (.cells #[.int .u8 ((s : Int) / 16777216 % 256), .int .u8 ((s : Int) / 65536 % 256), .int .u8 ((s : Int) / 256 % 256), .int .u8 ((s : Int) % 256)] 5)) 1 (.slice (some ⟨w.heap.size, 0, none⟩) 4 4) 4 (bv (be 4 s)) := by
  have h := own_rd (own_new w 5 1 4 w.heap.size (bv (be 4 s)) (by rw [bv_length, be_length]) (by omega) (Nat.le_refl _)) (bv_one _)
  rw [be4_bv] at h ⊢
  exact h
set_option maxHeartbeats 2000000 in
theorem Frame_any (v : Value) (l : List UInt8) (w : World) (hl : l.length ≤ 140737488350000) (hr : Rd w 1 v l.length (bv l)) :
    Calls Try.prog 33 #[v] w fun e w' => ∃ v', e = .returned v' ∧ Rd w' 1 v' (frm l).length (bv (frm l)) ∧ Below w.heap.size w w' := by
  obtain ⟨a, c, rfl⟩ := hr.form
  obtain ⟨m, hm⟩ : ∃ m, m = numB l.length ++ l := ⟨_, rfl⟩
  have hnk := numB_length l.length
  have hk8 := nk_le l.length (by omega)
  have hml : m.length ≤ 140737488355000 := by rw [hm, List.length_append]; omega
  have hraw := refRaw_own _ l w (by omega) hr
  rw [← hm] at hraw
  have HM := Lib.hid hm
  clear hnk hk8 hm
  go_enter Try.func33, Try.ntmps33
  go_wp2_with fail
  refine hraw.mono ?_
  rintro e w1 ⟨v1, rfl, ho1, hb1⟩
  have hsum := refSum_any v1 m w1 (by omega) (own_rd ho1 (bv_one _))
  go_wp2_with fail
  refine hsum.mono ?_
  rintro e w2 ⟨rfl, rfl⟩
  have hsl := Crc.sum_lt m
  obtain ⟨s, hs⟩ : ∃ s, s = Crc.sum m := ⟨_, rfl⟩
  rw [← hs] at hsl ⊢
  have HSM := Lib.hid hs
  have hs1 := hb1.size
  clear hs hraw hsum hr hsl
  go_wp2_with (at_builtin; refine wpList_app Try.underlying22 info8 rfl (by decide) rfl _ _ rfl rfl rfl (ho1.alloc _) (rd_be4 w1 s) (by omega) (by omega) (by simp; omega) ?_)
  intro v3 w3 hown3 hg3 _
  have hb3 := hb1.trans (hg3.alloc.below hs1 (own_block ho1))
  go_wp2_with fail
  go_ret
  refine ⟨v3, rfl, ?_, hb3⟩
  have := own_rd hown3 (by rw [← bv_append]; exact bv_one _)
  rw [← bv_append] at this
  rw [frm, ← HM.out, ← HSM.out, List.length_append, be_length]
  exact this
end Go.Proofs.Ytpdlocdlnoibbaa
