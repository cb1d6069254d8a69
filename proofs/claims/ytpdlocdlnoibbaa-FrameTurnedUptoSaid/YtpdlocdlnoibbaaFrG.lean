/- The law FrameScans: any bytes have the records that they are. -/
import Derived.Test.YtpdlocdlnoibbaaFrF
import Derived.Test.YtpdlocdlnoibbaaTb
import Derived.Lib.SlBytesConst
namespace Go.Proofs.Ytpdlocdlnoibbaa
open Go.ChangeShapes Go.WideShapes Go.ChangeAt Go.RowKit

theorem numB_1 : numB 1 = [1, 1] := by decide
set_option maxHeartbeats 2000000 in
theorem awake07_any (w : World) : Calls Try.prog 25 #[] w fun e w' => e = .returned (.bool true) ∧ Below w.heap.size w w' := by
  obtain ⟨S, hS⟩ : ∃ S, S = Crc.sum (numB [(97 : UInt8)].length ++ [97]) := ⟨_, rfl⟩
  have hlo : layO [[97]] = [1, 1, 97] ++ be 4 S := by
    rw [hS]
    show (frm [97] ++ []) = _
    rw [frm, List.append_nil]
    rw [show [(97 : UInt8)].length = 1 from rfl, numB_1]; rfl
  have hle : layE [[97]] = 0 := by decide
  obtain ⟨w1, hw1⟩ : ∃ x : World, x = (w.alloc (Obj.cells #[Value.int .u8 97] 5 (1, 2))).alloc (Obj.cells #[Value.slice (some ⟨w.heap.size, 0, none⟩) 1 1] 22) := ⟨_, rfl⟩
  have hb1 : Below w.heap.size w w1 := by rw [hw1]; exact ((Below.refl _ _).alloc (Nat.le_refl _) _).alloc (by simp) _
  have ht : Txs w1 (.slice (some ⟨w.heap.size + 1, 0, none⟩) 1 1) [[97]] := by
    refine ⟨[.slice (some ⟨w.heap.size, 0, none⟩) 1 1], rfl, ?_, fun i l u hl hu => ?_⟩
    · have := Rd.one (w.alloc (Obj.cells #[Value.int .u8 97] 5 (1, 2))) (.slice (some ⟨w.heap.size, 0, none⟩) 1 1) 22 rfl
      rw [show (w.alloc (Obj.cells #[Value.int .u8 97] 5 (1, 2))).heap.size = w.heap.size + 1 by simp, ← hw1] at this
      exact this
    · have h1 : Rd (w.alloc (Obj.cells #[Value.int .u8 97] 5 (1, 2))) 1 (.slice (some ⟨w.heap.size, 0, none⟩) 1 1) 1 [.int .u8 97] := by
        refine ⟨rfl, by simp [Value.oneCell'], .inr ⟨_, _, rfl, Nat.le_refl _, fun j u hu => ?_⟩⟩
        rw [Addr.add_lit, Nat.zero_add, World.cell?_alloc_mark]
        simpa using hu
      have hb : Below (w.alloc (Obj.cells #[Value.int .u8 97] 5 (1, 2))).heap.size (w.alloc (Obj.cells #[Value.int .u8 97] 5 (1, 2))) w1 := by rw [hw1]; exact (Below.refl _ _).alloc (Nat.le_refl _) _
      have h2 := h1.keep hb
      rcases i with _ | i
      · simp at hl hu
        subst hl; subst hu
        exact h2
      · simp at hl
  have hlay := Lay_any _ [[97]] w1 ht (by simp) (by
    have : layF [[97]] = layO [[97]] := by rw [layO, if_pos (by decide)]
    rw [this, hlo, List.length_append, be_length]; simp)
  have kc := Lib.run_convert_bytes_const (P := Try.prog) w 22 5 #[Value.int .u8 97] 1 1 Try.underlying22 Try.underlying5
  have HB := Lib.hid hb1
  have HLO := Lib.hid hlo
  have HW1 := Lib.hid hw1
  clear hS hb1 ht hlo hw1
  go_enter Try.func25, Try.ntmps25
  go_wp2_with fail
  try simp only [show #[Value.int IntKind.u8 97].size = 1 from rfl]
  rw [← HW1.out]
  refine hlay.mono ?_
  rintro e w2 ⟨hb2, v2, rfl, ho2⟩
  rw [hle]
  rw [HLO.out] at ho2
  have hl7 : ([1, 1, 97] ++ be 4 S : List UInt8).length = 7 := by rw [List.length_append, be_length]; rfl
  rw [hl7] at ho2
  obtain ⟨b, o, k, rfl, _, cell⟩ := (own_rd ho2 (bv_one _)).at (by omega)
  have hc := cell 2 (.int .u8 97) (by simp [bv])
  have HB2 := Lib.hid (HB.out.trans (hb2.mono HB.out.size))
  clear ho2 cell hb2 hlay hl7
  go_wp2_with fail
  go_ret
  exact ⟨rfl, HB2.out⟩
set_option maxHeartbeats 4000000 in
theorem frameScans_walk (v : Value) (b : List UInt8) (w : World) (hr : Rd w 1 v b.length (bv b)) (hl : b.length ≤ 1000000000000) :
    Calls Try.prog 7 #[v] w fun e w' => e = .returned (.bool true) ∧ Below w.heap.size w w' := by
  obtain ⟨a, c, rfl⟩ := hr.form
  have haw := awake07_any w
  have hsl := scan_le b
  have hcnt : (scan b).1.length ≤ 1000000000000 := Nat.le_trans (scan_count b) hl
  go_enter Try.func7, Try.ntmps7
  go_wp2_with fail
  refine haw.mono ?_
  rintro e w1 ⟨rfl, hb1⟩
  have h1 := One_any _ b w1 (by omega) (hr.keep hb1)
  obtain ⟨R, hR⟩ : ∃ R, R = oneF b := ⟨_, rfl⟩
  obtain ⟨Q, hQ⟩ : ∃ Q, Q = scan b := ⟨_, rfl⟩
  rw [← hR] at h1
  have HRX := Lib.hid hR
  clear hR
  rw [← hQ] at hcnt hsl
  have HQX := Lib.hid hQ
  clear hQ
  have hz1 := hb1.size
  go_wp2_with fail
  refine h1.mono ?_
  rintro e w2 ⟨hb2, v2, rfl, hr2, -⟩
  have hb02 := hb1.trans (hb2.mono hz1)
  have h2 := refOne_any _ b w2 (by omega) (hr.keep hb02)
  rw [← HRX.out] at h2
  have hz2 := hb2.size
  obtain ⟨a2, c2, rfl⟩ := hr2.form
  clear hb1 hb2 h1 haw
  go_wp2_with fail
  refine h2.mono ?_
  rintro e w3 ⟨hb3, v3, rfl, hr3, -⟩
  have hb03 := hb02.trans (hb3.mono (by omega))
  have h3 := Scan_any _ b w3 hl (hr.keep hb03)
  have hr23 := hr2.keep hb3
  have hz3 := hb3.size
  obtain ⟨a3, c3, rfl⟩ := hr3.form
  clear hb02 hb3 h2 hr2
  go_wp2_with fail
  refine h3.mono ?_
  rintro e w4 ⟨hb4, v4, rfl, ht4⟩
  rw [← HQX.out] at ht4 ⊢
  have hb04 := hb03.trans (hb4.mono (by omega))
  have h4 := refScan_any _ b w4 hl (hr.keep hb04)
  have hr24 := hr23.keep hb4
  have hr34 := hr3.keep hb4
  have hz4 := hb4.size
  obtain ⟨a4, c4, rfl⟩ := ht4.form
  clear hb03 hb4 h3 hr23 hr3
  go_wp2_with fail
  refine h4.mono ?_
  rintro e w5 ⟨hb5, v5, rfl, ht5⟩
  rw [← HQX.out] at ht5 ⊢
  obtain ⟨a5, c5, rfl⟩ := ht5.form
  have hb05 := hb04.trans (hb5.mono (by omega))
  have hsx := string_of_bytes (P := Try.prog) Try.underlying22 Try.underlying5 Try.underlying9 (hr24.keep hb5)
  have hsy := string_of_bytes (P := Try.prog) Try.underlying22 Try.underlying5 Try.underlying9 (hr34.keep hb5)
  have hsame := Same_any _ _ Q.1 w5 (ht4.below hb5) ht5 hcnt
  have hz5 := hb5.size
  have HB5 := Lib.hid hb05
  clear hb04 hb5 h4 hr24 hr34 ht4 ht5 hb05
  go_wp2_with fail
  refine hsame.mono ?_
  rintro e w6 ⟨rfl, hb6⟩
  have HB6 := Lib.hid (HB5.out.trans (hb6.mono (by omega)))
  clear hb6 hsame
  go_wp2_with fail
  go_ret
  exact ⟨rfl, HB6.out⟩
theorem frameScans.law (H : Type) (enc : TypeId × Value → H) (W : World) (base : Nat)
    (v0 : Value) (d0 : DataW H) (p0 : List MemPlace) (g0 : Value.okWide Try.prog W .any base 22 v0) (h0 : DataW.Trod enc Try.prog W 0 (fun _ => true) true 22 v0 d0 p0)
    (hsz : Rows.uptoSmall H [d0] = true) :
    Calls Try.prog 7 #[v0] W fun e W' => e = .returned (.bool true) ∧ Below W.heap.size W W' := by
  obtain ⟨a, n, c, rfl⟩ := okWide_slice Try.underlying22 g0
  have t0 := TB.of (P := Try.prog) hsz h0 (by simp)
  obtain ⟨b, hr, hl⟩ := TB.bytes (P := Try.prog) Try.underlying22 Try.underlying5 (by kernel_rfl) t0
  exact frameScans_walk _ b W hr (by omega)
end Go.Proofs.Ytpdlocdlnoibbaa
