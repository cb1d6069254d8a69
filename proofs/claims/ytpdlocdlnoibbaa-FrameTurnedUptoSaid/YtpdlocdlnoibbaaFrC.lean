/- The reference's One (gen/frone.py). -/
import Derived.Test.YtpdlocdlnoibbaaFrB
namespace Go.Proofs.Ytpdlocdlnoibbaa
open Go.RowKit

/-- What each operation hands on. -/
def oneRF (n c k : Nat) (rc tk : List UInt8) (a ar : Option Addr) (cr : Nat) : Nat → Value → World → Prop
  | 0, v, _ => v = .slice ar rc.length cr
  | 1, v, w => Rd w 1 v (frm rc).length (bv (frm rc))
  | 2, v, _ => v = .string ⟨(frm rc).toArray⟩
  | 3, v, _ => v = .slice a n c
  | 4, v, _ => v = .int .i64 k
  | 5, v, _ => v = .slice a k c
  | 6, v, _ => v = .string ⟨tk.toArray⟩
  | 7, v, _ => v = .bool false
  | _, _, _ => True

/-- What each operation hands on. -/
def oneRG (n c k : Nat) (rc tk : List UInt8) (a ar : Option Addr) (cr : Nat) : Nat → Value → World → Prop
  | 0, v, _ => v = .slice ar rc.length cr
  | 1, v, w => Rd w 1 v (frm rc).length (bv (frm rc))
  | 2, v, _ => v = .string ⟨(frm rc).toArray⟩
  | 3, v, _ => v = .slice a n c
  | 4, v, _ => v = .int .i64 k
  | 5, v, _ => v = .slice a k c
  | 6, v, _ => v = .string ⟨tk.toArray⟩
  | 7, v, _ => v = .bool true
  | _, _, _ => True

set_option maxHeartbeats 4000000 in
set_option maxRecDepth 100000 in
theorem refOne_any (v : Value) (b : List UInt8) (w : World) (hl : b.length ≤ 140737488350000) (hr : Rd w 1 v b.length (bv b)) :
    Calls Try.prog 30 #[v] w fun e w' => OneD w w' (oneF b) e := by
  obtain ⟨a, c, rfl⟩ := hr.form
  obtain ⟨n, hn⟩ : ∃ n, n = b.length := ⟨_, rfl⟩
  have hnc : n ≤ c := by
    obtain ⟨_, _, ⟨hv, _⟩ | ⟨_, _, hv, hc, _⟩⟩ := hr
    · simp only [Value.slice.injEq] at hv; omega
    · simp only [Value.slice.injEq] at hv; omega
  have hby : Below w.heap.size w (w.alloc (Obj.cells #[Value.slice a n c, .int .i64 0, .int .i64 0] 43)) := (Below.refl _ _).alloc (Nat.le_refl _) _
  have hry := heap_alloc_new w (Obj.cells #[Value.slice a n c, .int .i64 0, .int .i64 0] 43)
  have hA0 : b ≠ [] → ∀ x, a = some x → x.block < w.heap.size := fun hn x hx => by
    obtain ⟨b', o, k, hv, _, cell⟩ := hr.at (List.length_pos_iff.2 hn)
    simp only [Value.slice.injEq] at hv
    rw [hx] at hv
    obtain rfl := Option.some.inj hv.1
    obtain ⟨u, hu⟩ : ∃ u, (bv b)[0]? = some u := ⟨(bv b)[0]'(by rw [bv_length]; exact List.length_pos_iff.2 hn), List.getElem?_eq_getElem _⟩
    exact World.block_lt_of_cell? _ _ (cell 0 u hu)
  obtain ⟨R, hR⟩ : ∃ R, R = oneF b := ⟨_, rfl⟩
  rw [← hR]
  unfold oneF at hR
  have HRR0 := Lib.hid hR
  have HR0 := Lib.hid hr
  have HN := Lib.hid hn
  rw [← hn]
  rw [← hn] at hl
  clear hR hr hn
  go_enter Try.func30, Try.ntmps30
  go_wp2_with fail
  obtain ⟨w1, hw1⟩ : ∃ x : World, x = w.alloc (Obj.cells #[Value.slice a n c, .int .i64 0, .int .i64 0] 43) := ⟨_, rfl⟩
  rw [← hw1] at hby hry
  have hrf : Rfr w1 w.heap.size a c b 0 0 := ⟨by rw [← HN.out]; exact hry, HR0.out.keep hby, fun hn x hx e => by have := hA0 hn x hx; omega, Nat.zero_le _⟩
  have hraw := rRaw_any w1 w.heap.size a c b 0 0 32768 hrf (by have := HN.out; omega) (by omega) (by omega)
  rw [← hw1]
  have HB1 := Lib.hid hby
  clear hw1 hby hry hrf hA0
  refine hraw.mono ?_
  rintro e w2 ⟨hg2, hres⟩
  rw [if_pos rfl, List.drop_zero] at hres
  have hb2 := below_of_grown HB1.out (Nat.le_refl _) hg2
  have hR := HRR0.out
  obtain ⟨Q, hQ⟩ : ∃ Q, Q = rdR 32768 b := ⟨_, rfl⟩
  rw [← hQ] at hres hR
  have hQl : Q.1 = 0 → Q.2.1.length ≤ b.length := fun h => by have := rdR_len 0 32768 b; rw [← hQ] at this; simpa [outO, h] using this
  clear HRR0 hQ hraw
  by_cases hQ0 : Q.1 = 0
  · rw [if_pos hQ0] at hres
    obtain ⟨⟨ar, cr, rfl, hrd2, hob⟩, pos, hr2, hdr⟩ := hres
    have HOB := Lib.hid hob
    rw [if_neg (fun h => h hQ0), ← hdr, List.length_drop, ← HN.out] at hR
    have hle := hr2.le
    rw [← HN.out] at hle
    have hleft := rLeft_any w2 w.heap.size a c b pos 0 hr2 (by have := HN.out; omega)
    rw [← HN.out] at hleft
    obtain ⟨rc, hrc⟩ : ∃ rc, rc = Q.2.1 := ⟨_, rfl⟩
    have HL0 := Lib.hid (hQl hQ0)
    rw [← hrc] at hR hrd2 HL0 HOB ⊢
    clear hob
    clear hQl
    obtain ⟨d, hd⟩ : ∃ d, d = n - pos := ⟨_, rfl⟩
    rw [← hd] at hleft hR
    have H2 := Lib.hid (And.intro hrd2 (And.intro hr2 hb2))
    clear hrd2 hr2 hb2 hg2 hdr hrc hQ0
    by_cases h4 : d < 4
    · rw [if_pos h4] at hR
      have HR := Lib.hid hR
      have z4 : (d : Int) < 4 := by omega
      clear hR hd
      go_wp2_with fail
      refine hleft.mono ?_
      rintro e w3 ⟨rfl, hb3⟩
      have HB3 := Lib.hid (H2.out.2.2.trans (hb3.mono H2.out.2.2.size))
      clear hb3
      go_wp2_with fail
      go_ret3
      rw [HR.out]
      exact OneD.nil _ _ _ HB3.out
    · rw [if_neg h4] at hR
      have z4 : ¬ ((d : Int) < 4) := by omega
      obtain ⟨k, hk⟩ : ∃ k, k = pos + 4 := ⟨_, rfl⟩
      rw [show n - d + 4 = k by omega] at hR
      have z5 : IntKind.i64.wrap ((pos : Int) + 4) = (k : Int) := (IntWalk.i64_in _ (by omega)).trans (by omega)
      have hkn : k ≤ n := by omega
      have HD := Lib.hid hd
      have HR := Lib.hid hR
      clear hR hd hk
      go_wp2_with fail
      refine hleft.mono ?_
      rintro e w3 ⟨rfl, hb3⟩
      have hr3 := H2.out.2.1.below hb3
      have HZ3 : Hid (w2.heap.size ≤ w3.heap.size) := Lib.hid hb3.size
      have hcp : w3.cell? ⟨w.heap.size, 1, none⟩ = some (.int .i64 pos) := hr3.cells.2.2.1
      have HB3 := Lib.hid (H2.out.2.2.trans (hb3.mono H2.out.2.2.size))
      obtain ⟨tk, htk⟩ : ∃ tk, tk = b.take k := ⟨_, rfl⟩
      have htl : tk.length = k := by rw [htk, List.length_take, ← HN.out]; omega
      have hrt := hr3.rd.take' k (by rw [← HN.out]; omega)
      have hbt : (bv b).take k = bv tk := by rw [htk]; simp [bv, List.map_take]
      rw [hbt] at hrt
      have hR := HR.out
      rw [← htk] at hR
      have HRD := Lib.hid (And.intro (H2.out.1.keep hb3) hrt)
      have HK : Hid (k ≤ c ∧ tk.length = k) := Lib.hid ⟨by omega, htl⟩
      have hrl : rc.length ≤ 140737488350000 := by have := HL0.out; have := HN.out; omega
      clear hb3 hr3 htk htl hrt hbt hleft HR
      by_cases heq : frm rc = tk
      · rw [if_neg (fun h => h heq)] at hR
        have HRR := Lib.hid hR
        have HE := Lib.hid heq
        have HR : Hid (Rd w3 1 (.slice ar rc.length cr) rc.length (bv rc) ∧ Rd w3 1 (.slice a k c) tk.length (bv tk)) := Lib.hid ⟨HRD.out.1, by rw [HK.out.2]; exact HRD.out.2⟩
        clear hR heq
        go_wp2_with fail
        refine wp_region_steps [some 28, some 29, some 30, some 31, some 32, some 33, some 34, some 35] [] (oneRF n c k rc tk a ar cr) (fun _ wx wy => Below wx.heap.size wx wy) (fun wx => Below w3.heap.size w3 wx) (by kernel_rfl) (by kernel_rfl) rfl (by kernel_rfl) (Below.refl _ _).drew (fun _ wx => Below.refl _ _) (fun _ wx wy h k => h.trans (k.mono h.size)) ?hF ?hstep ?hend
        case hF =>
          exact ⟨fun _ _ _ _ _ _ h => h, ⟨fun _ _ _ _ _ k h => h.keep k, ⟨fun _ _ _ _ _ _ h => h, ⟨fun _ _ _ _ _ _ h => h, ⟨fun _ _ _ _ _ _ h => h, ⟨fun _ _ _ _ _ _ h => h, ⟨fun _ _ _ _ _ _ h => h, ⟨fun _ _ _ _ _ _ h => h, trivial⟩⟩⟩⟩⟩⟩⟩⟩
        case hstep =>
          -- operation 0: Op.move (tmp 6)
          refine ⟨fun r wx hG hs hq hf => ?_, ?_⟩
          · have e6 : r 6 = .slice ar rc.length cr := hs 6 rfl
            refine (if_pos rfl).symm ▸ ?_
            clear hs hq hf
            unfold gives
            go_simp
            exact ⟨Below.refl _ _, rfl⟩
          -- operation 1: Op.call ( callee := Callee.value (func 33), args := #[tmp 28], argTypes := #[22] )
          refine ⟨fun r wx hG hs hq hf => ?_, ?_⟩
          · have h0 : r 28 = .slice ar rc.length cr := hf.1
            refine (if_pos rfl).symm ▸ ?_
            clear hs hq hf
            unfold gives
            have hf := Frame_any (.slice ar rc.length cr) rc wx (by omega) (HR.out.1.keep hG)
            go_simp
            refine hf.mono ?_
            rintro e wy ⟨v, rfl, hr1, hb1⟩
            exact ⟨v, rfl, hb1, hr1⟩
          -- operation 2: Op.convert 22 9 (tmp 29)
          refine ⟨fun r wx hG hs hq hf => ?_, ?_⟩
          · have h1 : Rd wx 1 (r 29) (frm rc).length (bv (frm rc)) := hf.1
            refine (if_pos rfl).symm ▸ ?_
            clear hs hq hf
            unfold gives
            have hcv := string_of_bytes (P := Try.prog) Try.underlying22 Try.underlying5 Try.underlying9 (l := frm rc) h1
            clear h1
            go_simp
            exact ⟨Below.refl _ _, rfl⟩
          -- operation 3: Op.move (tmp 0)
          refine ⟨fun r wx hG hs hq hf => ?_, ?_⟩
          · have e0 : r 0 = .slice a n c := hs 0 rfl
            refine (if_pos rfl).symm ▸ ?_
            clear hs hq hf
            unfold gives
            go_simp
            exact ⟨Below.refl _ _, rfl⟩
          -- operation 4: Op.move (tmp 8)
          refine ⟨fun r wx hG hs hq hf => ?_, ?_⟩
          · have e8 : r 8 = .int .i64 k := hs 8 rfl
            refine (if_pos rfl).symm ▸ ?_
            clear hs hq hf
            unfold gives
            go_simp
            exact ⟨Below.refl _ _, rfl⟩
          -- operation 5: Op.slice 22 (tmp 31) none (some (tmp 32)) none
          refine ⟨fun r wx hG hs hq hf => ?_, ?_⟩
          · have h3 : r 31 = .slice a n c := hf.1
            have h4 : r 32 = .int .i64 k := hf.2.1
            refine (if_pos rfl).symm ▸ ?_
            clear hs hq hf
            unfold gives
            have hkc : k ≤ c := HK.out.1
            go_simp
            exact ⟨Below.refl _ _, rfl⟩
          -- operation 6: Op.convert 22 9 (tmp 33)
          refine ⟨fun r wx hG hs hq hf => ?_, ?_⟩
          · have h5 : r 33 = .slice a k c := hf.1
            refine (if_pos rfl).symm ▸ ?_
            clear hs hq hf
            unfold gives
            have hcv := string_of_bytes (P := Try.prog) Try.underlying22 Try.underlying5 Try.underlying9 (l := tk) (HR.out.2.keep hG)
            go_simp
            exact ⟨Below.refl _ _, rfl⟩
          -- operation 7: Op.binOp BinOp.neq 9 (tmp 30) (tmp 34) 9
          refine ⟨fun r wx hG hs hq hf => ?_, ?_⟩
          · have h2 : r 30 = .string ⟨(frm rc).toArray⟩ := hf.1
            have h6 : r 34 = .string ⟨tk.toArray⟩ := hf.2.1
            refine (if_pos rfl).symm ▸ ?_
            clear hs hq hf
            unfold gives
            rw [HE.out] at h2
            go_simp
            exact ⟨Below.refl _ _, rfl⟩
          exact trivial
        case hend =>
          intro u wz hG hfin
          have z7 : u 7 = .bool false := hfin 7 (by decide) (by kernel_rfl)
          clear hfin
          simp only [fill]
          go_simp
          go_wp2_with fail
          go_ret3
          rw [HRR.out]
          exact ⟨HB3.out.trans (hG.mono HB3.out.size), _, rfl, HR.out.1.keep hG, fun j hj => by have h1 := HOB.out j hj; have h2 := HB1.out.size; have h3 := HZ3.out; have h4 := hG.size; omega⟩
      · rw [if_pos heq] at hR
        have HRR := Lib.hid hR
        have HE : Hid ((frm rc == tk) = false) := Lib.hid (beq_eq_false_iff_ne.2 heq)
        have HR : Hid (Rd w3 1 (.slice ar rc.length cr) rc.length (bv rc) ∧ Rd w3 1 (.slice a k c) tk.length (bv tk)) := Lib.hid ⟨HRD.out.1, by rw [HK.out.2]; exact HRD.out.2⟩
        clear hR heq
        go_wp2_with fail
        refine wp_region_steps [some 28, some 29, some 30, some 31, some 32, some 33, some 34, some 35] [] (oneRG n c k rc tk a ar cr) (fun _ wx wy => Below wx.heap.size wx wy) (fun wx => Below w3.heap.size w3 wx) (by kernel_rfl) (by kernel_rfl) rfl (by kernel_rfl) (Below.refl _ _).drew (fun _ wx => Below.refl _ _) (fun _ wx wy h k => h.trans (k.mono h.size)) ?hF ?hstep ?hend
        case hF =>
          exact ⟨fun _ _ _ _ _ _ h => h, ⟨fun _ _ _ _ _ k h => h.keep k, ⟨fun _ _ _ _ _ _ h => h, ⟨fun _ _ _ _ _ _ h => h, ⟨fun _ _ _ _ _ _ h => h, ⟨fun _ _ _ _ _ _ h => h, ⟨fun _ _ _ _ _ _ h => h, ⟨fun _ _ _ _ _ _ h => h, trivial⟩⟩⟩⟩⟩⟩⟩⟩
        case hstep =>
          -- operation 0: Op.move (tmp 6)
          refine ⟨fun r wx hG hs hq hf => ?_, ?_⟩
          · have e6 : r 6 = .slice ar rc.length cr := hs 6 rfl
            refine (if_pos rfl).symm ▸ ?_
            clear hs hq hf
            unfold gives
            go_simp
            exact ⟨Below.refl _ _, rfl⟩
          -- operation 1: Op.call ( callee := Callee.value (func 33), args := #[tmp 28], argTypes := #[22] )
          refine ⟨fun r wx hG hs hq hf => ?_, ?_⟩
          · have h0 : r 28 = .slice ar rc.length cr := hf.1
            refine (if_pos rfl).symm ▸ ?_
            clear hs hq hf
            unfold gives
            have hf := Frame_any (.slice ar rc.length cr) rc wx (by omega) (HR.out.1.keep hG)
            go_simp
            refine hf.mono ?_
            rintro e wy ⟨v, rfl, hr1, hb1⟩
            exact ⟨v, rfl, hb1, hr1⟩
          -- operation 2: Op.convert 22 9 (tmp 29)
          refine ⟨fun r wx hG hs hq hf => ?_, ?_⟩
          · have h1 : Rd wx 1 (r 29) (frm rc).length (bv (frm rc)) := hf.1
            refine (if_pos rfl).symm ▸ ?_
            clear hs hq hf
            unfold gives
            have hcv := string_of_bytes (P := Try.prog) Try.underlying22 Try.underlying5 Try.underlying9 (l := frm rc) h1
            clear h1
            go_simp
            exact ⟨Below.refl _ _, rfl⟩
          -- operation 3: Op.move (tmp 0)
          refine ⟨fun r wx hG hs hq hf => ?_, ?_⟩
          · have e0 : r 0 = .slice a n c := hs 0 rfl
            refine (if_pos rfl).symm ▸ ?_
            clear hs hq hf
            unfold gives
            go_simp
            exact ⟨Below.refl _ _, rfl⟩
          -- operation 4: Op.move (tmp 8)
          refine ⟨fun r wx hG hs hq hf => ?_, ?_⟩
          · have e8 : r 8 = .int .i64 k := hs 8 rfl
            refine (if_pos rfl).symm ▸ ?_
            clear hs hq hf
            unfold gives
            go_simp
            exact ⟨Below.refl _ _, rfl⟩
          -- operation 5: Op.slice 22 (tmp 31) none (some (tmp 32)) none
          refine ⟨fun r wx hG hs hq hf => ?_, ?_⟩
          · have h3 : r 31 = .slice a n c := hf.1
            have h4 : r 32 = .int .i64 k := hf.2.1
            refine (if_pos rfl).symm ▸ ?_
            clear hs hq hf
            unfold gives
            have hkc : k ≤ c := HK.out.1
            go_simp
            exact ⟨Below.refl _ _, rfl⟩
          -- operation 6: Op.convert 22 9 (tmp 33)
          refine ⟨fun r wx hG hs hq hf => ?_, ?_⟩
          · have h5 : r 33 = .slice a k c := hf.1
            refine (if_pos rfl).symm ▸ ?_
            clear hs hq hf
            unfold gives
            have hcv := string_of_bytes (P := Try.prog) Try.underlying22 Try.underlying5 Try.underlying9 (l := tk) (HR.out.2.keep hG)
            go_simp
            exact ⟨Below.refl _ _, rfl⟩
          -- operation 7: Op.binOp BinOp.neq 9 (tmp 30) (tmp 34) 9
          refine ⟨fun r wx hG hs hq hf => ?_, ?_⟩
          · have h2 : r 30 = .string ⟨(frm rc).toArray⟩ := hf.1
            have h6 : r 34 = .string ⟨tk.toArray⟩ := hf.2.1
            refine (if_pos rfl).symm ▸ ?_
            clear hs hq hf
            unfold gives
            have hne := HE.out
            go_simp
            exact ⟨Below.refl _ _, rfl⟩
          exact trivial
        case hend =>
          intro u wz hG hfin
          have z7 : u 7 = .bool true := hfin 7 (by decide) (by kernel_rfl)
          clear hfin
          simp only [fill]
          go_simp
          go_wp2_with fail
          go_ret3
          rw [HRR.out]
          exact OneD.nil _ _ _ (HB3.out.trans (hG.mono HB3.out.size))
  · rw [if_neg hQ0] at hres
    obtain ⟨rfl, hr2⟩ := hres
    rw [if_pos hQ0] at hR
    obtain ⟨z, hz⟩ : ∃ z, z = Q.1 := ⟨_, rfl⟩
    rw [← hz] at hR hQ0 ⊢
    have z1 : (z == 0) = false := by simp [hQ0]
    have HR := Lib.hid (And.intro hR hb2)
    clear hR hb2 hr2 hg2 hz
    go_wp2_with fail
    go_ret3
    rw [HR.out.1]
    exact OneD.nil _ _ _ HR.out.2
end Go.Proofs.Ytpdlocdlnoibbaa
