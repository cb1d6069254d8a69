/- The law RowsFollow: its walk. -/
import Derived.Test.YteflpphpbecciaaFollowW
import Derived.Test.YteflpphpbecciaaEntOpen
import Derived.Deep.CutRange
namespace Go.Proofs.Yteflpphpbecciaa
open Go.RowKit

/-- Integers as cells. -/
def iv (l : List Int) : List Value := l.map fun n => .int .i64 n

theorem wrap_nat (n : Int) : ∃ U : Nat, IntKind.u64.wrap n = (U : Int) ∧ U < 18446744073709551616 := by
  refine ⟨(IntKind.u64.wrap n).toNat, ?_, ?_⟩ <;> rw [IntKind.wrap_u64] <;> omega
theorem mod_nat (U : Nat) (d : Nat) (e : Int) (he : e = (d : Int) + 1) : ∃ m : Nat, (U : Int) % e = (m : Int) ∧ m ≤ d := by
  subst he
  refine ⟨U % (d + 1), by rw [show (d : Int) + 1 = ((d + 1 : Nat) : Int) by omega]; exact (Int.natCast_emod U (d + 1)).symm, ?_⟩
  have := Nat.mod_lt U (show 0 < d + 1 by omega)
  omega

/-- What each operation hands on. -/
def f15 (at_ tt n fr e2 B0 : Nat) (E LL es : List EE) (ae : Option Addr) (ce : Nat) (la : Option Addr) (lc : Nat) : Nat → Value → World → Prop
  | 0, v, _ => v = .agg #[.int .u64 0, .int .u64 0, .slice ae E.length ce]
  | 1, v, _ => v = .int .i64 at_
  | 2, v, _ => v = .int .u64 at_
  | 3, v, _ => v = .int .u64 tt
  | 4, v, _ => v = .slice la LL.length lc
  | 5, v, _ => v = .int .i64 at_
  | 6, v, _ => v = .int .i64 at_
  | 7, v, _ => v = .int .i64 n
  | 8, v, _ => v = .int .i64 ((at_ : Int) + (n : Int))
  | 9, v, w => ∃ a9 c9, v = .slice a9 n c9 ∧ Rd w 6 (.slice a9 n c9) n (ecells ((LL.drop at_).take n))
  | 10, v, w => ∃ a9 c9, v = .tuple #[.agg #[.int .u64 0, .int .u64 0, .slice a9 es.length c9], .int .u64 fr, .int .u64 e2, .bool true] ∧ Rd w 6 (.slice a9 es.length c9) es.length (ecells es)
  | 11, v, w => ∃ a9 c9, v = .tuple #[.agg #[.int .u64 0, .int .u64 0, .slice a9 es.length c9], .int .u64 fr, .int .u64 e2, .bool true] ∧ Rd w 6 (.slice a9 es.length c9) es.length (ecells es)
  | 12, v, w => ∃ a9 c9, v = .agg #[.int .u64 0, .int .u64 0, .slice a9 es.length c9] ∧ Rd w 6 (.slice a9 es.length c9) es.length (ecells es)
  | 13, v, _ => v = .int .u64 fr
  | 14, v, _ => v = .int .u64 e2
  | 15, v, _ => v = .bool true
  | 16, v, w => ∃ g, v = .pointer (some ⟨g, 0, none⟩) ∧ B0 ≤ g ∧ C3 w g (.int .u64 0) (.int .u64 0) (.slice none 0 0) ∧ L3 w g ∧ w.frozen? ⟨g, 0, none⟩ = false ∧ w.frozen? ⟨g, 1, none⟩ = false ∧ w.frozen? ⟨g, 2, none⟩ = false
  | 17, v, w => ∃ g, v = .pointer (some ⟨g, 0, none⟩) ∧ B0 ≤ g ∧ L3 w g ∧ w.frozen? ⟨g, 0, none⟩ = false ∧ w.frozen? ⟨g, 1, none⟩ = false ∧ w.frozen? ⟨g, 2, none⟩ = false ∧ ∃ a9 c9, C3 w g (.int .u64 0) (.int .u64 0) (.slice a9 es.length c9) ∧ Rd w 6 (.slice a9 es.length c9) es.length (ecells es)
  | 18, v, _ => v = .int .u64 fr
  | 19, v, _ => v = .int .u64 e2
  | 20, v, _ => v = .bool true
  | _, _, _ => True
/-- What each operation hands on. -/
def f20 (e2 : Nat) (LL es : List EE) (a9 : Option Addr) (c9 : Nat) (la : Option Addr) (lc G12 : Nat) : Nat → Value → World → Prop
  | 0, v, _ => v = .agg #[.int .u64 0, .int .u64 0, .slice a9 es.length c9]
  | 1, v, _ => v = .int .u64 ((0 + es.length : Nat) : Int)
  | 2, v, _ => v = .int .i64 (es.length : Int)
  | 3, v, _ => v = .int .i64 e2
  | 4, v, _ => v = .bool false
  | 5, v, _ => v = .bool false
  | 6, v, _ => v = .pointer (some ⟨G12, 2, none⟩)
  | 7, v, _ => v = .slice a9 es.length c9
  | 8, v, _ => v = .int .i64 e2
  | 9, v, _ => v = .slice a9 e2 c9
  | 10, v, w => Rd w 6 v (tl0 (es.take e2)).length (ecells (tl0 (es.take e2)))
  | 11, v, _ => v = .slice la LL.length lc
  | 12, v, _ => v = .int .i64 e2
  | 13, v, _ => v = .slice la e2 lc
  | 14, v, w => Rd w 6 v (tl0 (LL.take e2)).length (ecells (tl0 (LL.take e2)))
  | 15, v, _ => v = .bool true
  | 16, v, _ => v = .bool false
  | 17, v, _ => v = .bool false
  | _, _, _ => True
/-- What each operation hands on. -/
def f24 (k tk kn e2 g : Nat) (LL es : List EE) (a9 : Option Addr) (c9 : Nat) (la : Option Addr) (lc : Nat) : Nat → Value → World → Prop
  | 0, v, _ => v = .agg #[.int .u64 0, .int .u64 0, .slice a9 es.length c9]
  | 1, v, _ => v = .int .i64 k
  | 2, v, _ => v = .int .u64 k
  | 3, v, _ => v = .int .u64 tk
  | 4, v, _ => v = .slice la LL.length lc
  | 5, v, _ => v = .int .i64 k
  | 6, v, _ => v = .int .i64 e2
  | 7, v, w => ∃ a9 c9, v = .slice a9 kn c9 ∧ Rd w 6 (.slice a9 kn c9) kn (ecells ((LL.drop k).take kn))
  | 8, v, w => ∃ a9 c9, v = .tuple #[.agg #[.int .u64 0, .int .u64 0, .slice a9 es.length c9], .int .u64 ((es.length + 1 : Nat) : Int), .int .u64 e2, .bool true] ∧ Rd w 6 (.slice a9 es.length c9) es.length (ecells es)
  | 9, v, w => ∃ a9 c9, v = .tuple #[.agg #[.int .u64 0, .int .u64 0, .slice a9 es.length c9], .int .u64 ((es.length + 1 : Nat) : Int), .int .u64 e2, .bool true] ∧ Rd w 6 (.slice a9 es.length c9) es.length (ecells es)
  | 10, v, w => ∃ a9 c9, v = .agg #[.int .u64 0, .int .u64 0, .slice a9 es.length c9] ∧ Rd w 6 (.slice a9 es.length c9) es.length (ecells es)
  | 11, v, _ => v = .int .u64 ((es.length + 1 : Nat) : Int)
  | 12, v, _ => v = .int .u64 e2
  | 13, v, _ => v = .bool true
  | 14, v, w => ∃ a9 c9, C3 w g (.int .u64 0) (.int .u64 0) (.slice a9 es.length c9) ∧ Rd w 6 (.slice a9 es.length c9) es.length (ecells es)
  | 15, v, _ => v = .int .u64 ((es.length + 1 : Nat) : Int)
  | 16, v, _ => v = .int .u64 e2
  | 17, v, _ => v = .bool true
  | _, _, _ => True

set_option maxHeartbeats 16000000 in
set_option maxRecDepth 100000 in
theorem rowsFollow_walk (lv mv : Value) (LL MM : List EE) (ag : Int) (sv : Value) (ns : List Int) (again : Int) (w : World) (hlr : Rd w 6 lv LL.length (ecells LL)) (hmr : Rd w 6 mv MM.length (ecells MM)) (hokl : ESok w LL) (hokm : ESok w MM)
    (hsr : Rd w 1 sv ns.length (iv ns)) (hsl : ns.length ≤ 140737488355328) (hLl : LL.length ≤ 140737488355328) (hMl : MM.length ≤ 140737488355328) :
    Calls Try.prog 4 #[lv, mv, .int .i64 ag, sv, .int .i64 again] w fun e w' => e = .returned (.bool true) ∧ Below w.heap.size w w' := by
  obtain ⟨la, lc, rfl⟩ := hlr.form
  obtain ⟨ma, mc, rfl⟩ := hmr.form
  obtain ⟨sa, sc, rfl⟩ := hsr.form
  by_cases h1 : LL.length ≤ 60 ∧ MM.length ≤ 60
  · obtain ⟨hL60, hM60⟩ := h1
    have x1 : decide ((60 : Int) < (LL.length : Int)) = false := by simp; omega
    have x2 : decide ((60 : Int) < (MM.length : Int)) = false := by simp; omega
    obtain ⟨U, hU, hU2⟩ := wrap_nat ag
    obtain ⟨m, hmod, hm⟩ := mod_nat U LL.length _ rfl
    have hcapL := hlr.cap
    have hcapM := hmr.cap
    have hone0 : ∀ u ∈ ecells (LL.take m), u.oneCell' = true := by rw [ecells_take]; exact fun u hu => hlr.2.1 u (List.mem_of_mem_take hu)
    go_enter Try.func4, Try.ntmps4
    go_wp2_with fail
    refine (awake21_any _).mono ?_
    rintro e w1 ⟨rfl, hb1⟩
    have HB1 := Lib.hid hb1
    clear hb1
    go_upto_region 4 with fail
    have hm0 : (0 : Int) ≤ (m : Int) := by omega
    have hm1 : (m : Int) ≤ (LL.length : Int) := by omega
    have hm2 : (m : Int) ≤ (lc : Int) := by omega
    clear x1 x2
    have hal1 : Below w1.heap.size w1 (w1.alloc (.cells #[] 31)) := (Below.refl _ _).alloc (Nat.le_refl _) _
    obtain ⟨B1, hB1⟩ : ∃ B1, B1 = w1.heap.size := ⟨_, rfl⟩
    have hemp := own_new w1 31 6 0 B1 [] (by simp) (by omega) (by omega)
    have htk : Rd (w1.alloc (.cells #[] 31)) 6 (.slice la m lc) m (ecells (LL.take m)) := by
      have := ((hlr.keep HB1.out).takeN m hm).alloc (.cells #[] 31)
      rw [← ecells_take] at this; exact this
    have hBz : B1 ≤ (w1.alloc (.cells #[] 31)).heap.size := by rw [hB1]; exact hal1.size
    have HB1e := Lib.hid hB1
    clear hB1
    go_wp2_with (at_builtin; refine wpList_app (o := ⟨some 51, _, _, _, _, _⟩) Try.underlying23 infoEnt rfl (by decide) rfl _ _ rfl rfl rfl hemp htk (by omega) (by omega) hBz ?_)
    intro v2 w2 hown2 hg2 _
    obtain ⟨a2, c2, rfl⟩ := own_form hown2
    have hb2 : Below w1.heap.size w1 w2 := hal1.trans (hg2.below hal1.size (fun k hk => by simp [Value.ownBlock] at hk; omega))
    have hz2 : B1 ≤ w2.heap.size := Nat.le_trans hBz hg2.grown.size
    have HB2 := Lib.hid (HB1.out.trans (hb2.mono HB1.out.size))
    clear hemp htk hBz hal1 hg2 hb2
    go_upto_if 55 with fail
    go_cut [11] (fun s11 wz => ∃ (ae : Option Addr) (ce : Nat) (E : List EE), s11 = .slice ae E.length ce ∧ Rd wz 6 (.slice ae E.length ce) E.length (ecells E) ∧ Agree E LL m ∧ E.length ≤ 120 ∧ (∀ e ∈ E, e ∈ LL ∨ e ∈ MM) ∧ Below w.heap.size w wz)
    case first =>
      by_cases h2 : m < MM.length
      · have hz3 : (m : Int) < (MM.length : Int) := by omega
        obtain ⟨qm, om, rfl, hmc, hsub⟩ := rd_sub hmr m (by omega) (by omega)
        rw [← ecells_drop] at hsub
        have hm3 : (m : Int) ≤ (MM.length : Int) := by omega
        have hm4 : ¬ m = mc := by omega
        have hsub2 := hsub.keep HB2.out
        have hag := agree_start LL MM m hm true
        simp only [if_true] at hag
        have HAG := Lib.hid hag
        clear hag hsub
        go_wp2_with (at_builtin; refine wpList_app (o := ⟨some 60, _, _, _, _, _⟩) Try.underlying23 infoEnt rfl (by decide) rfl _ _ rfl rfl rfl hown2 hsub2 (by omega) (by omega) hz2 ?_)
        intro v3 w3 hown3 hg3 _
        obtain ⟨a3, c3, rfl⟩ := own_form hown3
        have hb3 := hg3.below hz2 (own_block hown2)
        have hB3 : Below w.heap.size w w3 := HB2.out.trans (hb3.mono (by rw [HB1e.out]; exact HB1.out.size))
        have hlen : m + (MM.length - m) = (LL.take m ++ MM.drop m).length := by simp; omega
        have hrd3 := own_rd hown3 (by
          intro u hu
          rcases List.mem_append.1 hu with hu | hu
          · exact hone0 u hu
          · rw [ecells_drop] at hu; exact hmr.2.1 u (List.mem_of_mem_drop hu))
        rw [← ecells_append, hlen] at hrd3
        have HLEN := Lib.hid hlen
        have HRD := Lib.hid hrd3
        have HB3 := Lib.hid hB3
        clear hown2 hown3 hg3 hb3 hB3 hlen hrd3 hsub2
        go_wp2_with fail
        go_meet
        refine ⟨a3, c3, LL.take m ++ MM.drop m, by rw [← HLEN.out], HRD.out, HAG.out, by simp; omega, ?_, HB3.out⟩
        intro e he
        rcases List.mem_append.1 he with he | he
        · exact .inl (List.mem_of_mem_take he)
        · exact .inr (List.mem_of_mem_drop he)
      · have hz3 : ¬ (m : Int) < (MM.length : Int) := by omega
        have hag := agree_start LL MM m hm false
        simp only [Bool.false_eq_true, if_false, List.append_nil] at hag
        have HAG := Lib.hid hag
        have hlen : m = (LL.take m).length := by simp; omega
        have HLEN := Lib.hid hlen
        have hrd2 := own_rd hown2 hone0
        have HRD := Lib.hid hrd2
        clear hag hlen hown2 hrd2
        go_wp2_with fail
        go_meet
        refine ⟨a2, c2, LL.take m, by rw [← HLEN.out], by rw [← HLEN.out]; exact HRD.out, HAG.out, by simp; omega, fun e he => .inl (List.mem_of_mem_take he), HB2.out⟩
    case rest =>
      obtain ⟨ae, ce, E, rfl, hrE, hag, hEl, hEm, hbz⟩ := hcut
      clear hown2 hz2 HB2 HB1 HB1e hone0
      go_upto_region 9 with fail
      obtain ⟨w3, hw3⟩ : ∃ x : World, x = (wc.alloc (.cells #[.int .u64 0, .int .u64 0, .slice ae E.length ce] 25)).alloc (.cells #[.int .u64 0, .int .u64 0, .slice la LL.length lc] 25) := ⟨_, rfl⟩
      have hFW : FW w wc.heap.size (wc.heap.size + 1) (.slice la LL.length lc) E (.slice ae E.length ce) w3 := by
        rw [hw3]
        have k1 : Below wc.heap.size wc (wc.alloc (.cells #[.int .u64 0, .int .u64 0, .slice ae E.length ce] 25)) := (Below.refl _ _).alloc (Nat.le_refl _) _
        have k2 : Below (wc.alloc (.cells #[.int .u64 0, .int .u64 0, .slice ae E.length ce] 25)).heap.size (wc.alloc (.cells #[.int .u64 0, .int .u64 0, .slice ae E.length ce] 25)) ((wc.alloc (.cells #[.int .u64 0, .int .u64 0, .slice ae E.length ce] 25)).alloc (.cells #[.int .u64 0, .int .u64 0, .slice la LL.length lc] 25)) := (Below.refl _ _).alloc (Nat.le_refl _) _
        have h1 := C3.new wc (.int .u64 0) (.int .u64 0) (.slice ae E.length ce) 25
        have h2 := C3.new (wc.alloc (.cells #[.int .u64 0, .int .u64 0, .slice ae E.length ce] 25)) (.int .u64 0) (.int .u64 0) (.slice la LL.length lc) 25
        rw [World.size_alloc] at h2
        exact ⟨h1.keep k2, (L3.new wc _ _ _ _).keep h1.1 k2, frz_keep ⟨by simp [go_sem], by simp [go_sem], by simp [go_sem]⟩ h1.1 k2, h2, (hrE.keep k1).keep k2, (hbz.trans (k1.mono hbz.size)).trans (k2.mono (by have := hbz.size; simp; omega))⟩
      rw [← hw3]
      obtain ⟨G12, hG12⟩ : ∃ G12, G12 = wc.heap.size := ⟨_, rfl⟩
      have hwG : w.heap.size ≤ G12 := by rw [hG12]; exact hbz.size
      obtain ⟨G13, hG13⟩ : ∃ G13, G13 = wc.heap.size + 1 := ⟨_, rfl⟩
      rw [← hG13, ← hG12] at hFW ⊢
      have hGne : G13 ≠ G12 := by omega
      clear hw3 hrE hbz hG12 hG13
      go_wp2_with fail
      go_loopw [14, 15] (fun s14 s15 wr => ∃ (i at_ : Nat) (E : List EE) (ae : Option Addr) (ce : Nat), i ≤ 40 ∧ i ≤ ns.length ∧ s15 = .int .i64 i ∧ s14 = .int .i64 at_ ∧ Agree E LL at_ ∧ E.length ≤ 120 ∧ (∀ e ∈ E, e ∈ LL ∨ e ∈ MM) ∧ FW w G12 G13 (.slice la LL.length lc) E (.slice ae E.length ce) wr) (fun _ s15 _ => 40 - (intOf s15).toNat)
      case atStart => exact ⟨0, m, E, ae, ce, by omega, by omega, rfl, rfl, hag, hEl, hEm, hFW⟩
      case round =>
        clear hag hEl hEm hFW
        obtain ⟨i, at_, E, ae, ce, hi40, hin, rfl, rfl, hag, hEl, hEm, hFW⟩ := hrel
        have HFW := Lib.hid hFW
        clear hFW
        by_cases hlt : i < ns.length ∧ i < 40
        · obtain ⟨hl1, hl2⟩ := hlt
          have y1 : (i : Int) < (ns.length : Int) := by omega
          have y2 : (i : Int) < 40 := by omega
          have y0 : (0 : Int) ≤ (i : Int) := by omega
          obtain ⟨sq, so, sc', hv, _, hcell⟩ := (hsr.keep HFW.out.2.2.2.2.2).at (by omega)
          simp only [Value.slice.injEq, true_and] at hv
          obtain ⟨rfl, rfl⟩ := hv
          obtain ⟨y, hy⟩ : ∃ y, ns[i]? = some y := ⟨ns[i], List.getElem?_eq_getElem hl1⟩
          have hc := hcell i (.int .i64 y) (by simp [iv, hy])
          obtain ⟨V, hV, hV2⟩ := wrap_nat y
          have hat := hag.2.1
          have hd1 : IntKind.i64.wrap ((LL.length : Int) - (at_ : Int)) = (LL.length : Int) - (at_ : Int) := IntWalk.i64_in _ (by omega)
          obtain ⟨n, hn, hnl⟩ := mod_nat V (LL.length - at_) ((LL.length : Int) - (at_ : Int) + 1) (by omega)
          obtain ⟨es, fr, hMg, hag2, hel2, hem2⟩ := agree_merge hag hnl
          obtain ⟨e2, he2⟩ : ∃ e2, e2 = at_ + n := ⟨_, rfl⟩
          rw [← he2] at hMg
          have HE2 := Lib.hid he2
          clear he2
          have hterm := agree_term hag
          have hT := fun wx (h : Below w.heap.size w wx) => Term_any 0 0 (.slice la LL.length lc) LL at_ wx (by omega) (by omega) hLl (hlr.keep h)
          have htok : (termP 0 0 LL at_).2 = true := by
            unfold termP
            split
            · rfl
            · rw [if_pos ⟨by omega, by omega⟩]
          obtain ⟨tt, htt⟩ : ∃ tt, termP 0 0 LL at_ = (tt, true) := ⟨_, Prod.ext rfl htok⟩
          rw [htt] at hT hMg
          have HT := Lib.hid hT
          have HM := Lib.hid hMg
          have HAG2 := Lib.hid hag2
          have HEM2 := Lib.hid hem2
          have HEM := Lib.hid hEm
          have HAG := Lib.hid hag
          have hpl := piece_len LL at_ n hnl
          have HPL := Lib.hid hpl
          have hpc := slice_piece hlr at_ n (by omega) hLl
          rw [← ecells_drop, ← ecells_take] at hpc
          have HPC := Lib.hid hpc
          clear hcell hy hT hMg hag2 hem2 hEm hag htok htt hterm hpl hpc
          go_upto_region 14 with fail
          obtain ⟨_, _, _, ⟨k0, k1, k2, k3⟩, _, _⟩ := HFW.out
          go_wp2_with fail
          refine (HT.out _ HFW.out.2.2.2.2.2).mono ?_
          rintro e w5 ⟨rfl, hb5⟩
          have hFW5 := HFW.out.keep hb5
          have HFW5 := Lib.hid hFW5
          obtain ⟨B0, hB0⟩ : ∃ B0, B0 = w5.heap.size := ⟨_, rfl⟩
          have hGB : G12 < B0 := by rw [hB0]; exact hFW5.1.1
          have hGB2 : G13 < B0 := by rw [hB0]; exact hFW5.2.2.2.1.1
          have hB5 : B0 ≤ w5.heap.size := by omega
          have hWB : w.heap.size ≤ B0 := by omega
          clear k0 k1 k2 k3 hb5 HFW HT hB0
          go_wp2_with fail
          refine wp_region_link [some 97, some 98, some 99, some 100, some 101, some 102, some 103, some 104, some 105, some 106, some 107, some 96, some 108, some 109, some 110, some 111, some 19, none, some 20, some 21, some 22] [] 0 (fun _ => True) [] [(17, 16)] (f15 at_ tt n fr e2 B0 E LL es ae ce la lc) (fmK 17 B0) (fun wx => FW w G12 G13 (.slice la LL.length lc) E (.slice ae E.length ce) wx ∧ B0 ≤ wx.heap.size) (by kernel_rfl) (by kernel_rfl) rfl (by kernel_rfl) (by kernel_rfl) (by kernel_rfl) ⟨hFW5.keep (Below.refl _ _).drew, hB5⟩ (trivial) (fun _ _ _ _ _ _ => trivial) (fmk_refl _ _) (fun j wx wy h k => fm_step hGB hGB2 hWB h k) ?hF ?hstep ?hend
          case hF =>
            exact ⟨fun _ _ _ _ _ _ h => h, ⟨fun _ _ _ _ _ _ h => h, ⟨fun _ _ _ _ _ _ h => h, ⟨fun _ _ _ _ _ _ h => h, ⟨fun _ _ _ _ _ _ h => h, ⟨fun _ _ _ _ _ _ h => h, ⟨fun _ _ _ _ _ _ h => h, ⟨fun _ _ _ _ _ _ h => h, ⟨fun _ _ _ _ _ _ h => h, ⟨fun j hg _ _ _ k h => by
        have kb := fmk_below (fun e => by subst e; exact absurd hg (by rw [show goneB _ 9 17 = true by kernel_rfl]; simp)) k
        exact ex_keep h kb, ⟨fun j hg _ _ _ k h => by
        have kb := fmk_below (fun e => by subst e; exact absurd hg (by rw [show goneB _ 10 17 = true by kernel_rfl]; simp)) k
        exact ex_keep (T := fun a9 c9 => .tuple #[.agg #[.int .u64 0, .int .u64 0, .slice a9 es.length c9], .int .u64 fr, .int .u64 e2, .bool true]) h kb, ⟨fun j hg _ _ _ k h => by
        obtain ⟨a9, c9, h1, h2⟩ := h
        exact ⟨a9, c9, h1, fm_rd h2 k⟩, ⟨fun j hg _ _ _ k h => by
        have kb := fmk_below (fun e => by subst e; exact absurd hg (by rw [show goneB _ 12 17 = true by kernel_rfl]; simp)) k
        exact ex_keep (T := fun a9 c9 => .agg #[.int .u64 0, .int .u64 0, .slice a9 es.length c9]) h kb, ⟨fun _ _ _ _ _ _ h => h, ⟨fun _ _ _ _ _ _ h => h, ⟨fun _ _ _ _ _ _ h => h, ⟨fun j hg _ _ _ k h => by
        have kb := fmk_below (fun e => by subst e; exact absurd hg (by rw [show goneB _ 16 17 = true by kernel_rfl]; simp)) k
        exact al_keep h kb, ⟨fun j hg _ _ _ k h => by
        have kb := fmk_below (fun e => by subst e; exact absurd hg (by rw [show goneB _ 17 17 = true by kernel_rfl]; simp)) k
        exact st_keep h kb, ⟨fun _ _ _ _ _ _ h => h, ⟨fun _ _ _ _ _ _ h => h, ⟨fun _ _ _ _ _ _ h => h, trivial⟩⟩⟩⟩⟩⟩⟩⟩⟩⟩⟩⟩⟩⟩⟩⟩⟩⟩⟩⟩⟩
          case hstep =>
            -- operation 0: Op.load 25 (tmp 12)
            refine ⟨fun r wx hG hs hq hf => ?_, ?_⟩
            · have e12 : r 12 = .pointer (some ⟨G12, 0, none⟩) := hs 12 rfl
              refine (if_pos rfl).symm ▸ ?_
              clear hs hq hf
              unfold gives
              obtain ⟨⟨k0, k1, k2, k3⟩, _⟩ := hG.1
              go_simp
              exact ⟨fmk_refl _ _ _ _, rfl⟩
            -- operation 1: Op.move (tmp 14)
            refine ⟨fun r wx hG hs hq hf => ?_, ?_⟩
            · have e14 : r 14 = .int .i64 at_ := hs 14 rfl
              refine (if_pos rfl).symm ▸ ?_
              clear hs hq hf
              unfold gives
              go_simp
              exact ⟨fmk_refl _ _ _ _, rfl⟩
            -- operation 2: Op.convert 3 22 (tmp 98)
            refine ⟨fun r wx hG hs hq hf => ?_, ?_⟩
            · have h1 : r 98 = .int .i64 at_ := hf.1
              refine (if_pos rfl).symm ▸ ?_
              clear hs hq hf
              unfold gives
              have zw : IntKind.u64.wrap (at_ : Int) = (at_ : Int) := IntWalk.u64_in _ (by omega)
              go_simp
              exact ⟨fmk_refl _ _ _ _, rfl⟩
            -- operation 3: Op.move (tmp 17)
            refine ⟨fun r wx hG hs hq hf => ?_, ?_⟩
            · have e17 : r 17 = .int .u64 tt := hs 17 rfl
              refine (if_pos rfl).symm ▸ ?_
              clear hs hq hf
              unfold gives
              go_simp
              exact ⟨fmk_refl _ _ _ _, rfl⟩
            -- operation 4: Op.move (tmp 0)
            refine ⟨fun r wx hG hs hq hf => ?_, ?_⟩
            · have e0 : r 0 = .slice la LL.length lc := hs 0 rfl
              refine (if_pos rfl).symm ▸ ?_
              clear hs hq hf
              unfold gives
              go_simp
              exact ⟨fmk_refl _ _ _ _, rfl⟩
            -- operation 5: Op.move (tmp 14)
            refine ⟨fun r wx hG hs hq hf => ?_, ?_⟩
            · have e14 : r 14 = .int .i64 at_ := hs 14 rfl
              refine (if_pos rfl).symm ▸ ?_
              clear hs hq hf
              unfold gives
              go_simp
              exact ⟨fmk_refl _ _ _ _, rfl⟩
            -- operation 6: Op.move (tmp 14)
            refine ⟨fun r wx hG hs hq hf => ?_, ?_⟩
            · have e14 : r 14 = .int .i64 at_ := hs 14 rfl
              refine (if_pos rfl).symm ▸ ?_
              clear hs hq hf
              unfold gives
              go_simp
              exact ⟨fmk_refl _ _ _ _, rfl⟩
            -- operation 7: Op.move (tmp 16)
            refine ⟨fun r wx hG hs hq hf => ?_, ?_⟩
            · have e16 : r 16 = .int .i64 n := hs 16 rfl
              refine (if_pos rfl).symm ▸ ?_
              clear hs hq hf
              unfold gives
              go_simp
              exact ⟨fmk_refl _ _ _ _, rfl⟩
            -- operation 8: Op.binOp BinOp.add 3 (tmp 103) (tmp 104) 3
            refine ⟨fun r wx hG hs hq hf => ?_, ?_⟩
            · have h6 : r 103 = .int .i64 at_ := hf.1
              have h7 : r 104 = .int .i64 n := hf.2.1
              refine (if_pos rfl).symm ▸ ?_
              clear hs hq hf
              unfold gives
              have z0 : IntKind.i64.wrap ((at_ : Int) + (n : Int)) = (at_ : Int) + (n : Int) := IntWalk.i64_in _ (by omega)
              go_simp
              exact ⟨fmk_refl _ _ _ _, rfl⟩
            -- operation 9: Op.slice 23 (tmp 101) (some (tmp 102)) (some (tmp 105)) none
            refine ⟨fun r wx hG hs hq hf => ?_, ?_⟩
            · have h4 : r 101 = .slice la LL.length lc := hf.1
              have h5 : r 102 = .int .i64 at_ := hf.2.1
              have h8 : r 105 = .int .i64 ((at_ : Int) + (n : Int)) := hf.2.2.1
              refine (if_pos rfl).symm ▸ ?_
              clear hs hq hf
              unfold gives
              obtain ⟨a9, c9, hsl, hpr⟩ := HPC.out
              have hpk := hpr.keep hG.1.2.2.2.2.2
              have hslw := hsl wx
              go_simp
              exact ⟨fmk_refl _ _ _ _, a9, c9, rfl, hpk⟩
            -- operation 10: Op.call ( callee := Callee.value (func 9), args := #[tmp 97, tmp 99, tmp 100, tmp 106], argTypes := #[25, 22, 22, 23] )
            refine ⟨fun r wx hG hs hq hf => ?_, ?_⟩
            · have h0 : r 97 = .agg #[.int .u64 0, .int .u64 0, .slice ae E.length ce] := hf.1
              have h2 : r 99 = .int .u64 at_ := hf.2.1
              have h3 : r 100 = .int .u64 tt := hf.2.2.1
              have h9 : ∃ a9 c9, (r 106) = .slice a9 n c9 ∧ Rd wx 6 (.slice a9 n c9) n (ecells ((LL.drop at_).take n)) := hf.2.2.2.1
              refine (if_pos rfl).symm ▸ ?_
              clear hs hq hf
              unfold gives
              obtain ⟨a9, c9, h9, hpr⟩ := h9
              have hown := hG.1.2.2.2.2.1
              have hM := Merge_any 0 0 (.slice ae E.length ce) E at_ tt (.slice a9 n c9) ((LL.drop at_).take n) wx (by omega) (by omega) hown (by rw [HPL.out]; exact hpr) (by rw [HPL.out]; omega)
              rw [HM.out] at hM
              go_simp
              refine hM.mono ?_
              rintro e wy ⟨v9, rfl, hr9, hb9⟩
              obtain ⟨a8, c8, rfl⟩ := hr9.form
              exact ⟨_, rfl, fmk_of (by decide) hb9, a8, c8, rfl, hr9⟩
            -- operation 11: Op.move (tmp 107)
            refine ⟨fun r wx hG hs hq hf => ?_, ?_⟩
            · have h10 : ∃ a9 c9, (r 107) = .tuple #[.agg #[.int .u64 0, .int .u64 0, .slice a9 es.length c9], .int .u64 fr, .int .u64 e2, .bool true] ∧ Rd wx 6 (.slice a9 es.length c9) es.length (ecells es) := hf.1
              refine (if_pos rfl).symm ▸ ?_
              clear hs hq hf
              unfold gives
              obtain ⟨a9, c9, h10, hpr⟩ := h10
              go_simp
              exact ⟨fmk_refl _ _ _ _, a9, c9, rfl, hpr⟩
            -- operation 12: Op.extract (tmp 96) 0
            refine ⟨fun r wx hG hs hq hf => ?_, ?_⟩
            · have h11 : ∃ a9 c9, (r 96) = .tuple #[.agg #[.int .u64 0, .int .u64 0, .slice a9 es.length c9], .int .u64 fr, .int .u64 e2, .bool true] ∧ Rd wx 6 (.slice a9 es.length c9) es.length (ecells es) := hf.1
              refine (if_pos rfl).symm ▸ ?_
              clear hs hq hf
              unfold gives
              obtain ⟨a9, c9, h11, hpr⟩ := h11
              go_simp
              exact ⟨fmk_refl _ _ _ _, a9, c9, rfl, hpr⟩
            -- operation 13: Op.extract (tmp 96) 1
            refine ⟨fun r wx hG hs hq hf => ?_, ?_⟩
            · have h11 : ∃ a9 c9, (r 96) = .tuple #[.agg #[.int .u64 0, .int .u64 0, .slice a9 es.length c9], .int .u64 fr, .int .u64 e2, .bool true] ∧ Rd wx 6 (.slice a9 es.length c9) es.length (ecells es) := hf.1
              refine (if_pos rfl).symm ▸ ?_
              clear hs hq hf
              unfold gives
              obtain ⟨a9, c9, h11, hpr⟩ := h11
              go_simp
              exact ⟨fmk_refl _ _ _ _, rfl⟩
            -- operation 14: Op.extract (tmp 96) 2
            refine ⟨fun r wx hG hs hq hf => ?_, ?_⟩
            · have h11 : ∃ a9 c9, (r 96) = .tuple #[.agg #[.int .u64 0, .int .u64 0, .slice a9 es.length c9], .int .u64 fr, .int .u64 e2, .bool true] ∧ Rd wx 6 (.slice a9 es.length c9) es.length (ecells es) := hf.1
              refine (if_pos rfl).symm ▸ ?_
              clear hs hq hf
              unfold gives
              obtain ⟨a9, c9, h11, hpr⟩ := h11
              go_simp
              exact ⟨fmk_refl _ _ _ _, rfl⟩
            -- operation 15: Op.extract (tmp 96) 3
            refine ⟨fun r wx hG hs hq hf => ?_, ?_⟩
            · have h11 : ∃ a9 c9, (r 96) = .tuple #[.agg #[.int .u64 0, .int .u64 0, .slice a9 es.length c9], .int .u64 fr, .int .u64 e2, .bool true] ∧ Rd wx 6 (.slice a9 es.length c9) es.length (ecells es) := hf.1
              refine (if_pos rfl).symm ▸ ?_
              clear hs hq hf
              unfold gives
              obtain ⟨a9, c9, h11, hpr⟩ := h11
              go_simp
              exact ⟨fmk_refl _ _ _ _, rfl⟩
            -- operation 16: Op.alloc 25
            refine ⟨fun r wx hG hs hq hf => ?_, ?_⟩
            · refine (if_pos rfl).symm ▸ ?_
              clear hs hq hf
              unfold gives
              go_simp
              exact ⟨fmk_of (by decide) ((Below.refl _ _).alloc (Nat.le_refl _) _), wx.heap.size, rfl, hG.2, C3.new _ _ _ _ _, L3.new _ _ _ _ _, by simp [go_sem], by simp [go_sem], by simp [go_sem]⟩
            -- operation 17: Op.store 25 (tmp 19) (tmp 108)
            refine ⟨fun r wx hG hs hq hf => ?_, ?_⟩
            · have h16 : ∃ g, (r 19) = .pointer (some ⟨g, 0, none⟩) ∧ B0 ≤ g ∧ C3 wx g (.int .u64 0) (.int .u64 0) (.slice none 0 0) ∧ L3 wx g ∧ wx.frozen? ⟨g, 0, none⟩ = false ∧ wx.frozen? ⟨g, 1, none⟩ = false ∧ wx.frozen? ⟨g, 2, none⟩ = false := hf.1
              have h12 : ∃ a9 c9, (r 108) = .agg #[.int .u64 0, .int .u64 0, .slice a9 es.length c9] ∧ Rd wx 6 (.slice a9 es.length c9) es.length (ecells es) := hf.2.1
              have h10 : ∃ a9 c9, (r 107) = .tuple #[.agg #[.int .u64 0, .int .u64 0, .slice a9 es.length c9], .int .u64 fr, .int .u64 e2, .bool true] ∧ Rd wx 6 (.slice a9 es.length c9) es.length (ecells es) := hf.2.2.1
              refine (if_pos rfl).symm ▸ ?_
              clear hs hq hf
              unfold gives
              obtain ⟨a9, c9, h12, hpr⟩ := h12
              obtain ⟨g, h16, hgB, ⟨y0, y1, y2, y3⟩, hl3, f0, f1, f2⟩ := h16
              go_simp
              obtain ⟨q0, q1, q2⟩ := mset_cells (x := .int .u64 0) (y := .int .u64 0) (z := .slice a9 es.length c9) y1 y2 y3
              exact ⟨fmk_set (w := wx) hgB hl3 _ _ _, g, h16, hgB, L3.set hl3 _ _ _, (mset_frozen _ _ _ _ _ _).trans f0, (mset_frozen _ _ _ _ _ _).trans f1, (mset_frozen _ _ _ _ _ _).trans f2, a9, c9, ⟨by simpa [mset] using y0, q0, q1, q2⟩, rd_set3 hpr hl3 _ _ _⟩
            -- operation 18: Op.assign (tmp 109)
            refine ⟨fun r wx hG hs hq hf => ?_, ?_⟩
            · have h13 : r 109 = .int .u64 fr := hf.1
              have h17 : ∃ g, (r 19) = .pointer (some ⟨g, 0, none⟩) ∧ B0 ≤ g ∧ L3 wx g ∧ wx.frozen? ⟨g, 0, none⟩ = false ∧ wx.frozen? ⟨g, 1, none⟩ = false ∧ wx.frozen? ⟨g, 2, none⟩ = false ∧ ∃ a9 c9, C3 wx g (.int .u64 0) (.int .u64 0) (.slice a9 es.length c9) ∧ Rd wx 6 (.slice a9 es.length c9) es.length (ecells es) := hf.2.1
              refine (if_pos rfl).symm ▸ ?_
              clear hs hq hf
              unfold gives
              go_simp
              exact ⟨fmk_refl _ _ _ _, rfl⟩
            -- operation 19: Op.assign (tmp 110)
            refine ⟨fun r wx hG hs hq hf => ?_, ?_⟩
            · have h14 : r 110 = .int .u64 e2 := hf.1
              refine (if_pos rfl).symm ▸ ?_
              clear hs hq hf
              unfold gives
              go_simp
              exact ⟨fmk_refl _ _ _ _, rfl⟩
            -- operation 20: Op.assign (tmp 111)
            refine ⟨fun r wx hG hs hq hf => ?_, ?_⟩
            · have h15 : r 111 = .bool true := hf.1
              refine (if_pos rfl).symm ▸ ?_
              clear hs hq hf
              unfold gives
              go_simp
              exact ⟨fmk_refl _ _ _ _, rfl⟩
            exact trivial
          case hend =>
            intro u wz hG hfin
            have z17 : ∃ g, (u 16) = .pointer (some ⟨g, 0, none⟩) ∧ B0 ≤ g ∧ L3 wz g ∧ wz.frozen? ⟨g, 0, none⟩ = false ∧ wz.frozen? ⟨g, 1, none⟩ = false ∧ wz.frozen? ⟨g, 2, none⟩ = false ∧ ∃ a9 c9, C3 wz g (.int .u64 0) (.int .u64 0) (.slice a9 es.length c9) ∧ Rd wz 6 (.slice a9 es.length c9) es.length (ecells es) := hfin 17 (by decide) (by kernel_rfl)
            have z18 : u 18 = .int .u64 fr := hfin 18 (by decide) (by kernel_rfl)
            have z19 : u 19 = .int .u64 e2 := hfin 19 (by decide) (by kernel_rfl)
            have z20 : u 20 = .bool true := hfin 20 (by decide) (by kernel_rfl)
            clear hfin
            simp only [fill]
            obtain ⟨g, hg, hgB, hgl, f0, f1, f2, a9, c9, hC9, hr9⟩ := z17
            obtain ⟨hFW6, hB6⟩ := hG
            obtain ⟨w6, hw6⟩ : ∃ x : World, x = wz := ⟨_, rfl⟩
            subst hw6
            have HC9 := Lib.hid hC9
            have HR9 := Lib.hid hr9
            have HGS : Hid (GS g w6) := ⟨hgl, ⟨f0, f1, f2⟩, _, _, _, hC9⟩
            have HFW6 := Lib.hid hFW6
            have hes2 : e2 ≤ es.length := by have := HAG2.out.1; have := HE2.out; omega
            have hLe2 : e2 ≤ LL.length := by have := HAG2.out.2.1; have := HE2.out; omega
            have hesl : es.length ≤ 120 := by have := HE2.out; omega
            have hwe : IntKind.i64.wrap ((at_ : Int) + (n : Int)) = (e2 : Int) := by have := HE2.out; rw [IntWalk.i64_in _ (by omega)]; omega
            have hg12 : G12 ≠ g := by omega
            have hg13 : G13 ≠ g := by omega
            have hgw : w.heap.size ≤ g := by omega
            clear hFW5 hB5 hgl hGB hGB2 hgB hWB hB6
            obtain ⟨x0, x1, x2, x3⟩ := hC9
            obtain ⟨⟨k0, k1, k2, k3⟩, _, ⟨g0, g1, g2⟩, _⟩ := hFW6
            clear hr9
            go_simp
            go_upto_region 20 with fail
            have hFW7 := HFW6.out.store hGne hwG HR9.out
            have hGS7 := HGS.out.other (Ne.symm hg12) (.int .u64 0) (.int .u64 0) (.slice a9 es.length c9)
            obtain ⟨w7, hw7⟩ : ∃ x : World, x = mset G12 (.int .u64 0) (.int .u64 0) (.slice a9 es.length c9) w6 := ⟨_, rfl⟩
            rw [← hw7] at hFW7 hGS7
            unfold mset at hw7
            rw [← hw7]
            clear x0 x1 x2 x3 k0 k1 k2 k3 g0 g1 g2 f0 f1 f2 hw7 HFW6 HGS HR9 HC9
            have HTE : Hid ((es.take e2).length = e2) := by unfold Hid; simp; omega
            have HTL : Hid ((LL.take e2).length = e2) := by unfold Hid; simp; omega
            have HTA : Hid (tl0 (LL.take e2) = tl0 (es.take e2)) := by unfold Hid; rw [HE2.out]; exact tl0_agree HAG2.out
            have hcap9 : es.length ≤ c9 := hFW7.2.2.2.2.1.cap
            obtain ⟨Z, hZ, hZ2⟩ := wrap_nat again
            obtain ⟨k, hk, hke⟩ := mod_nat Z e2 ((e2 : Int) + 1) rfl
            refine wp_region_steps [some 126, some 127, some 128, some 129, some 130, some 131, some 132, some 133, some 134, some 135, some 136, some 137, some 138, some 139, some 140, some 141, some 142, some 143] [] (f20 e2 LL es a9 c9 la lc G12) (fun _ wx wy => Below wx.heap.size wx wy) (fun wx => FW w G12 G13 (.slice la LL.length lc) es (.slice a9 es.length c9) wx ∧ GS g wx) (by kernel_rfl) (by kernel_rfl) rfl (by kernel_rfl) ⟨hFW7.keep (Below.refl _ _).drew, hGS7.keep (Below.refl _ _).drew⟩ (fun _ wx => Below.refl _ _) (fun j wx wy h k => ⟨h.1.keep k, h.2.keep k⟩) ?hF ?hstep ?hend
            case hF =>
              exact ⟨fun _ _ _ _ _ _ h => h, ⟨fun _ _ _ _ _ _ h => h, ⟨fun _ _ _ _ _ _ h => h, ⟨fun _ _ _ _ _ _ h => h, ⟨fun _ _ _ _ _ _ h => h, ⟨fun _ _ _ _ _ _ h => h, ⟨fun _ _ _ _ _ _ h => h, ⟨fun _ _ _ _ _ _ h => h, ⟨fun _ _ _ _ _ _ h => h, ⟨fun _ _ _ _ _ _ h => h, ⟨fun _ _ _ _ _ k h => Rd.keep h k, ⟨fun _ _ _ _ _ _ h => h, ⟨fun _ _ _ _ _ _ h => h, ⟨fun _ _ _ _ _ _ h => h, ⟨fun _ _ _ _ _ k h => Rd.keep h k, ⟨fun _ _ _ _ _ _ h => h, ⟨fun _ _ _ _ _ _ h => h, ⟨fun _ _ _ _ _ _ h => h, trivial⟩⟩⟩⟩⟩⟩⟩⟩⟩⟩⟩⟩⟩⟩⟩⟩⟩⟩
            case hstep =>
              -- operation 0: Op.load 25 (tmp 12)
              refine ⟨fun r wx hG hs hq hf => ?_, ?_⟩
              · have e12 : r 12 = .pointer (some ⟨G12, 0, none⟩) := hs 12 rfl
                refine (if_pos rfl).symm ▸ ?_
                clear hs hq hf
                unfold gives
                obtain ⟨⟨k0, k1, k2, k3⟩, _⟩ := hG.1
                go_simp
                exact ⟨Below.refl _ _, rfl⟩
              -- operation 1: Op.call ( callee := Callee.value (func 14), args := #[tmp 126], argTypes := #[25] )
              refine ⟨fun r wx hG hs hq hf => ?_, ?_⟩
              · have h0 : r 126 = .agg #[.int .u64 0, .int .u64 0, .slice a9 es.length c9] := hf.1
                refine (if_pos rfl).symm ▸ ?_
                clear hs hq hf
                unfold gives
                go_simp
                refine (Last_any 0 0 es.length c9 a9 wx (by omega) (by omega)).mono ?_
                rintro e wy ⟨rfl, hb1⟩
                exact ⟨_, rfl, hb1, rfl⟩
              -- operation 2: Op.convert 22 3 (tmp 127)
              refine ⟨fun r wx hG hs hq hf => ?_, ?_⟩
              · have h1 : r 127 = .int .u64 ((0 + es.length : Nat) : Int) := hf.1
                refine (if_pos rfl).symm ▸ ?_
                clear hs hq hf
                unfold gives
                have z0 : IntKind.i64.wrap (es.length : Int) = (es.length : Int) := IntWalk.i64_in _ (by omega)
                go_simp
                exact ⟨Below.refl _ _, by simp [f20]⟩
              -- operation 3: Op.move (tmp 14)
              refine ⟨fun r wx hG hs hq hf => ?_, ?_⟩
              · have e14 : r 14 = .int .i64 e2 := hs 14 rfl
                refine (if_pos rfl).symm ▸ ?_
                clear hs hq hf
                unfold gives
                go_simp
                exact ⟨Below.refl _ _, rfl⟩
              -- operation 4: Op.binOp BinOp.lss 3 (tmp 128) (tmp 129) 3
              refine ⟨fun r wx hG hs hq hf => ?_, ?_⟩
              · have h2 : r 128 = .int .i64 (es.length : Int) := hf.1
                have h3 : r 129 = .int .i64 e2 := hf.2.1
                refine (if_pos rfl).symm ▸ ?_
                clear hs hq hf
                unfold gives
                have z1 : ¬ (es.length : Int) < (e2 : Int) := by omega
                go_simp
                exact ⟨Below.refl _ _, rfl⟩
              -- operation 5: Op.move (tmp 130)
              refine ⟨fun r wx hG hs hq hf => ?_, ?_⟩
              · have h4 : r 130 = .bool false := hf.1
                refine (if_pos rfl).symm ▸ ?_
                clear hs hq hf
                unfold gives
                go_simp
                exact ⟨Below.refl _ _, rfl⟩
              -- operation 6: Op.fieldAddr 25 (tmp 12) 2
              refine ⟨fun r wx hG hs hq hf => ?_, ?_⟩
              · have e12 : r 12 = .pointer (some ⟨G12, 0, none⟩) := hs 12 rfl
                have h5 : r 131 = .bool false := hf.1
                have hy : ydD [some 126, some 127, some 128, some 129, some 130, some 131, some 132, some 133, some 134, some 135, some 136, some 137, some 138, some 139, some 140, some 141, some 142, some 143] r 5 = some false := by show (match r 131 with | .bool b => some b | _ => none) = some false; rw [h5]
                simp only [Region.wanted, hy, beq_self_eq_true, if_true]
                clear hs hq hf hy
                unfold gives
                go_simp
                exact ⟨Below.refl _ _, rfl⟩
              -- operation 7: Op.load 23 (tmp 132)
              refine ⟨fun r wx hG hs hq hf => ?_, ?_⟩
              · have h6 : r 132 = .pointer (some ⟨G12, 2, none⟩) := hf.1
                have h5 : r 131 = .bool false := hf.2.1
                have hy : ydD [some 126, some 127, some 128, some 129, some 130, some 131, some 132, some 133, some 134, some 135, some 136, some 137, some 138, some 139, some 140, some 141, some 142, some 143] r 5 = some false := by show (match r 131 with | .bool b => some b | _ => none) = some false; rw [h5]
                simp only [Region.wanted, hy, beq_self_eq_true, if_true]
                clear hs hq hf hy
                unfold gives
                obtain ⟨⟨k0, k1, k2, k3⟩, _⟩ := hG.1
                go_simp
                exact ⟨Below.refl _ _, rfl⟩
              -- operation 8: Op.move (tmp 14)
              refine ⟨fun r wx hG hs hq hf => ?_, ?_⟩
              · have e14 : r 14 = .int .i64 e2 := hs 14 rfl
                have h5 : r 131 = .bool false := hf.1
                have hy : ydD [some 126, some 127, some 128, some 129, some 130, some 131, some 132, some 133, some 134, some 135, some 136, some 137, some 138, some 139, some 140, some 141, some 142, some 143] r 5 = some false := by show (match r 131 with | .bool b => some b | _ => none) = some false; rw [h5]
                simp only [Region.wanted, hy, beq_self_eq_true, if_true]
                clear hs hq hf hy
                unfold gives
                go_simp
                exact ⟨Below.refl _ _, rfl⟩
              -- operation 9: Op.slice 23 (tmp 133) none (some (tmp 134)) none
              refine ⟨fun r wx hG hs hq hf => ?_, ?_⟩
              · have h7 : r 133 = .slice a9 es.length c9 := hf.1
                have h8 : r 134 = .int .i64 e2 := hf.2.1
                have h5 : r 131 = .bool false := hf.2.2.1
                have hy : ydD [some 126, some 127, some 128, some 129, some 130, some 131, some 132, some 133, some 134, some 135, some 136, some 137, some 138, some 139, some 140, some 141, some 142, some 143] r 5 = some false := by show (match r 131 with | .bool b => some b | _ => none) = some false; rw [h5]
                simp only [Region.wanted, hy, beq_self_eq_true, if_true]
                clear hs hq hf hy
                unfold gives
                have z0 : (0 : Int) ≤ (e2 : Int) := by omega
                have z1 : (e2 : Int) ≤ (c9 : Int) := by omega
                go_simp
                exact ⟨Below.refl _ _, rfl⟩
              -- operation 10: Op.call ( callee := Callee.value (func 15), args := #[tmp 135], argTypes := #[23] )
              refine ⟨fun r wx hG hs hq hf => ?_, ?_⟩
              · have h9 : r 135 = .slice a9 e2 c9 := hf.1
                have h5 : r 131 = .bool false := hf.2.1
                have hy : ydD [some 126, some 127, some 128, some 129, some 130, some 131, some 132, some 133, some 134, some 135, some 136, some 137, some 138, some 139, some 140, some 141, some 142, some 143] r 5 = some false := by show (match r 131 with | .bool b => some b | _ => none) = some false; rw [h5]
                simp only [Region.wanted, hy, beq_self_eq_true, if_true]
                clear hs hq hf hy
                unfold gives
                have hr9 := hG.1.2.2.2.2.1
                have htk := hr9.takeN e2 hes2
                rw [← ecells_take] at htk
                have hT := terms_any (.slice a9 e2 c9) (es.take e2) wx (by rw [HTE.out]; exact htk) (by rw [HTE.out]; omega)
                go_simp
                refine hT.mono ?_
                rintro e wy ⟨v, rfl, hr1, hb1⟩
                exact ⟨v, rfl, hb1, by show Rd wy 6 v (tl0 (es.take e2)).length _; rw [tl0_len]; exact hr1⟩
              -- operation 11: Op.move (tmp 0)
              refine ⟨fun r wx hG hs hq hf => ?_, ?_⟩
              · have e0 : r 0 = .slice la LL.length lc := hs 0 rfl
                have h5 : r 131 = .bool false := hf.1
                have hy : ydD [some 126, some 127, some 128, some 129, some 130, some 131, some 132, some 133, some 134, some 135, some 136, some 137, some 138, some 139, some 140, some 141, some 142, some 143] r 5 = some false := by show (match r 131 with | .bool b => some b | _ => none) = some false; rw [h5]
                simp only [Region.wanted, hy, beq_self_eq_true, if_true]
                clear hs hq hf hy
                unfold gives
                go_simp
                exact ⟨Below.refl _ _, rfl⟩
              -- operation 12: Op.move (tmp 14)
              refine ⟨fun r wx hG hs hq hf => ?_, ?_⟩
              · have e14 : r 14 = .int .i64 e2 := hs 14 rfl
                have h5 : r 131 = .bool false := hf.1
                have hy : ydD [some 126, some 127, some 128, some 129, some 130, some 131, some 132, some 133, some 134, some 135, some 136, some 137, some 138, some 139, some 140, some 141, some 142, some 143] r 5 = some false := by show (match r 131 with | .bool b => some b | _ => none) = some false; rw [h5]
                simp only [Region.wanted, hy, beq_self_eq_true, if_true]
                clear hs hq hf hy
                unfold gives
                go_simp
                exact ⟨Below.refl _ _, rfl⟩
              -- operation 13: Op.slice 23 (tmp 137) none (some (tmp 138)) none
              refine ⟨fun r wx hG hs hq hf => ?_, ?_⟩
              · have h11 : r 137 = .slice la LL.length lc := hf.1
                have h12 : r 138 = .int .i64 e2 := hf.2.1
                have h5 : r 131 = .bool false := hf.2.2.1
                have hy : ydD [some 126, some 127, some 128, some 129, some 130, some 131, some 132, some 133, some 134, some 135, some 136, some 137, some 138, some 139, some 140, some 141, some 142, some 143] r 5 = some false := by show (match r 131 with | .bool b => some b | _ => none) = some false; rw [h5]
                simp only [Region.wanted, hy, beq_self_eq_true, if_true]
                clear hs hq hf hy
                unfold gives
                have z0 : (0 : Int) ≤ (e2 : Int) := by omega
                have z1 : (e2 : Int) ≤ (lc : Int) := by omega
                go_simp
                exact ⟨Below.refl _ _, rfl⟩
              -- operation 14: Op.call ( callee := Callee.value (func 15), args := #[tmp 139], argTypes := #[23] )
              refine ⟨fun r wx hG hs hq hf => ?_, ?_⟩
              · have h13 : r 139 = .slice la e2 lc := hf.1
                have h10 : Rd wx 6 (r 136) (tl0 (es.take e2)).length (ecells (tl0 (es.take e2))) := hf.2.1
                have h5 : r 131 = .bool false := hf.2.2.1
                have hy : ydD [some 126, some 127, some 128, some 129, some 130, some 131, some 132, some 133, some 134, some 135, some 136, some 137, some 138, some 139, some 140, some 141, some 142, some 143] r 5 = some false := by show (match r 131 with | .bool b => some b | _ => none) = some false; rw [h5]
                simp only [Region.wanted, hy, beq_self_eq_true, if_true]
                clear hs hq hf hy
                unfold gives
                have hr9 := hlr.keep hG.1.2.2.2.2.2
                have htk := hr9.takeN e2 hLe2
                rw [← ecells_take] at htk
                have hT := terms_any (.slice la e2 lc) (LL.take e2) wx (by rw [HTL.out]; exact htk) (by rw [HTL.out]; omega)
                go_simp
                refine hT.mono ?_
                rintro e wy ⟨v, rfl, hr1, hb1⟩
                exact ⟨v, rfl, hb1, by show Rd wy 6 v (tl0 (LL.take e2)).length _; rw [tl0_len]; exact hr1⟩
              -- operation 15: Op.call ( callee := Callee.value (func 12), args := #[tmp 136, tmp 140], argTypes := #[23, 23] )
              refine ⟨fun r wx hG hs hq hf => ?_, ?_⟩
              · have h10 : Rd wx 6 (r 136) (tl0 (es.take e2)).length (ecells (tl0 (es.take e2))) := hf.1
                have h14 : Rd wx 6 (r 140) (tl0 (LL.take e2)).length (ecells (tl0 (LL.take e2))) := hf.2.1
                have h5 : r 131 = .bool false := hf.2.2.2.1
                have hy : ydD [some 126, some 127, some 128, some 129, some 130, some 131, some 132, some 133, some 134, some 135, some 136, some 137, some 138, some 139, some 140, some 141, some 142, some 143] r 5 = some false := by show (match r 131 with | .bool b => some b | _ => none) = some false; rw [h5]
                simp only [Region.wanted, hy, beq_self_eq_true, if_true]
                clear hs hq hf hy
                unfold gives
                rw [HTA.out] at h14
                have hS := SameList_self _ _ (tl0 (es.take e2)) wx (by rw [tl0_len, HTE.out]; omega) h10 h14 (tl0_ok _ _)
                go_simp
                refine hS.mono ?_
                rintro e wy ⟨rfl, hb1⟩
                exact ⟨_, rfl, hb1, rfl⟩
              -- operation 16: Op.unOp UnOp.not 4 (tmp 141)
              refine ⟨fun r wx hG hs hq hf => ?_, ?_⟩
              · have h15 : r 141 = .bool true := hf.1
                have h5 : r 131 = .bool false := hf.2.1
                have hy : ydD [some 126, some 127, some 128, some 129, some 130, some 131, some 132, some 133, some 134, some 135, some 136, some 137, some 138, some 139, some 140, some 141, some 142, some 143] r 5 = some false := by show (match r 131 with | .bool b => some b | _ => none) = some false; rw [h5]
                simp only [Region.wanted, hy, beq_self_eq_true, if_true]
                clear hs hq hf hy
                unfold gives
                go_simp
                exact ⟨Below.refl _ _, rfl⟩
              -- operation 17: Op.pick (tmp 131) (const (Value.bool true)) (tmp 142)
              refine ⟨fun r wx hG hs hq hf => ?_, ?_⟩
              · have h5 : r 131 = .bool false := hf.1
                have h16 : r 142 = .bool false := hf.2.1
                refine (if_pos rfl).symm ▸ ?_
                clear hs hq hf
                unfold gives
                go_simp
                exact ⟨Below.refl _ _, rfl⟩
              exact trivial
            case hend =>
              intro u wz hG hfin
              have z17 : u 17 = .bool false := hfin 17 (by decide) (by kernel_rfl)
              clear hfin
              simp only [fill]
              have hFW8 := hG.1
              have HFWz := Lib.hid hG.1
              have HGSz := Lib.hid hG.2
              obtain ⟨w9, hw9⟩ : ∃ x : World, x = wz := ⟨_, rfl⟩
              subst hw9
              clear hFW7 hGS7 hG
              obtain ⟨_, _, _, ⟨k0, k1, k2, k3⟩, _, _⟩ := hFW8
              have htok : (termP 0 0 LL k).2 = true := by
                unfold termP
                split
                · rfl
                · rw [if_pos ⟨by omega, by omega⟩]
              obtain ⟨tk, htk⟩ : ∃ tk, termP 0 0 LL k = (tk, true) := ⟨_, Prod.ext rfl htok⟩
              have hT := Term_any 0 0 (.slice la LL.length lc) LL k w9 (by omega) (by omega) hLl (hlr.keep HFWz.out.2.2.2.2.2)
              rw [htk] at hT
              have HT := Lib.hid hT
              have hMg := agree_again (HE2.out ▸ HAG2.out) hke
              rw [htk] at hMg
              obtain ⟨kn, hkn⟩ : ∃ kn, kn = e2 - k := ⟨_, rfl⟩
              rw [← hkn] at hMg
              have HM2 := Lib.hid hMg
              have HKN : Hid ((k : Int) + (kn : Int) = (e2 : Int)) := by unfold Hid; omega
              have HPL2 := Lib.hid (piece_len LL k kn (by omega))
              have hpc := slice_piece hlr k kn (by omega) hLl
              rw [← ecells_drop, ← ecells_take] at hpc
              have HPC2 := Lib.hid hpc
              have HKN2 := Lib.hid hkn
              clear hT hMg hpc hkn htok htk
              go_simp
              go_wp2_with fail
              refine HT.out.mono ?_
              rintro e w8 ⟨rfl, hb8⟩
              have hFW8 := HFWz.out.keep hb8
              have hGS8 := HGSz.out.keep hb8
              clear k0 k1 k2 k3 hb8 HFWz HGSz HT
              go_wp2_with fail
              refine wp_region_steps [some 159, some 160, some 161, some 162, some 163, some 164, some 165, some 166, some 167, some 158, some 168, some 169, some 170, some 171, none, some 24, some 25, some 22] [] (f24 k tk kn e2 g LL es a9 c9 la lc) (gmK 14 g) (fun wx => FW w G12 G13 (.slice la LL.length lc) es (.slice a9 es.length c9) wx ∧ GS g wx) (by kernel_rfl) (by kernel_rfl) rfl (by kernel_rfl) ⟨hFW8.keep (Below.refl _ _).drew, hGS8.keep (Below.refl _ _).drew⟩ (gmk_refl _ _) (fun j wx wy h k => gm_step hg12 hg13 hgw h k) ?hF ?hstep ?hend
              case hF =>
                exact ⟨fun _ _ _ _ _ _ h => h, ⟨fun _ _ _ _ _ _ h => h, ⟨fun _ _ _ _ _ _ h => h, ⟨fun _ _ _ _ _ _ h => h, ⟨fun _ _ _ _ _ _ h => h, ⟨fun _ _ _ _ _ _ h => h, ⟨fun _ _ _ _ _ _ h => h, ⟨fun j hg _ _ _ k h => by
          have kb := gmk_below (fun e => by subst e; exact absurd hg (by rw [show goneB _ 7 14 = true by kernel_rfl]; simp)) k
          exact ex_keep h kb, ⟨fun j hg _ _ _ k h => by
          obtain ⟨a8, c8, h1, h2⟩ := h
          exact ⟨a8, c8, h1, gm_rd h2 k⟩, ⟨fun j hg _ _ _ k h => by
          obtain ⟨a8, c8, h1, h2⟩ := h
          exact ⟨a8, c8, h1, gm_rd h2 k⟩, ⟨fun j hg _ _ _ k h => by
          obtain ⟨a8, c8, h1, h2⟩ := h
          exact ⟨a8, c8, h1, gm_rd h2 k⟩, ⟨fun _ _ _ _ _ _ h => h, ⟨fun _ _ _ _ _ _ h => h, ⟨fun _ _ _ _ _ _ h => h, ⟨fun j hg _ _ _ k h => by
          have kb := gmk_below (fun e => by subst e; exact absurd hg (by rw [show goneB _ 14 14 = true by kernel_rfl]; simp)) k
          obtain ⟨a8, c8, h1, h2⟩ := h
          exact ⟨a8, c8, h1.keep kb, h2.keep kb⟩, ⟨fun _ _ _ _ _ _ h => h, ⟨fun _ _ _ _ _ _ h => h, ⟨fun _ _ _ _ _ _ h => h, trivial⟩⟩⟩⟩⟩⟩⟩⟩⟩⟩⟩⟩⟩⟩⟩⟩⟩⟩
              case hstep =>
                -- operation 0: Op.load 25 (tmp 12)
                refine ⟨fun r wx hG hs hq hf => ?_, ?_⟩
                · have e12 : r 12 = .pointer (some ⟨G12, 0, none⟩) := hs 12 rfl
                  refine (if_pos rfl).symm ▸ ?_
                  clear hs hq hf
                  unfold gives
                  obtain ⟨⟨k0, k1, k2, k3⟩, _⟩ := hG.1
                  go_simp
                  exact ⟨gmk_refl _ _ _ _, rfl⟩
                -- operation 1: Op.move (tmp 23)
                refine ⟨fun r wx hG hs hq hf => ?_, ?_⟩
                · have e23 : r 23 = .int .i64 k := hs 23 rfl
                  refine (if_pos rfl).symm ▸ ?_
                  clear hs hq hf
                  unfold gives
                  go_simp
                  exact ⟨gmk_refl _ _ _ _, rfl⟩
                -- operation 2: Op.convert 3 22 (tmp 160)
                refine ⟨fun r wx hG hs hq hf => ?_, ?_⟩
                · have h1 : r 160 = .int .i64 k := hf.1
                  refine (if_pos rfl).symm ▸ ?_
                  clear hs hq hf
                  unfold gives
                  have zw : IntKind.u64.wrap (k : Int) = (k : Int) := IntWalk.u64_in _ (by omega)
                  go_simp
                  exact ⟨gmk_refl _ _ _ _, rfl⟩
                -- operation 3: Op.move (tmp 17)
                refine ⟨fun r wx hG hs hq hf => ?_, ?_⟩
                · have e17 : r 17 = .int .u64 tk := hs 17 rfl
                  refine (if_pos rfl).symm ▸ ?_
                  clear hs hq hf
                  unfold gives
                  go_simp
                  exact ⟨gmk_refl _ _ _ _, rfl⟩
                -- operation 4: Op.move (tmp 0)
                refine ⟨fun r wx hG hs hq hf => ?_, ?_⟩
                · have e0 : r 0 = .slice la LL.length lc := hs 0 rfl
                  refine (if_pos rfl).symm ▸ ?_
                  clear hs hq hf
                  unfold gives
                  go_simp
                  exact ⟨gmk_refl _ _ _ _, rfl⟩
                -- operation 5: Op.move (tmp 23)
                refine ⟨fun r wx hG hs hq hf => ?_, ?_⟩
                · have e23 : r 23 = .int .i64 k := hs 23 rfl
                  refine (if_pos rfl).symm ▸ ?_
                  clear hs hq hf
                  unfold gives
                  go_simp
                  exact ⟨gmk_refl _ _ _ _, rfl⟩
                -- operation 6: Op.move (tmp 14)
                refine ⟨fun r wx hG hs hq hf => ?_, ?_⟩
                · have e14 : r 14 = .int .i64 e2 := hs 14 rfl
                  refine (if_pos rfl).symm ▸ ?_
                  clear hs hq hf
                  unfold gives
                  go_simp
                  exact ⟨gmk_refl _ _ _ _, rfl⟩
                -- operation 7: Op.slice 23 (tmp 163) (some (tmp 164)) (some (tmp 165)) none
                refine ⟨fun r wx hG hs hq hf => ?_, ?_⟩
                · have h4 : r 163 = .slice la LL.length lc := hf.1
                  have h5 : r 164 = .int .i64 k := hf.2.1
                  have h6 : r 165 = .int .i64 e2 := hf.2.2.1
                  refine (if_pos rfl).symm ▸ ?_
                  clear hs hq hf
                  unfold gives
                  obtain ⟨a8, c8, hsl, hpr⟩ := HPC2.out
                  have hpk := hpr.keep hG.1.2.2.2.2.2
                  have hslw := hsl wx
                  rw [HKN.out] at hslw
                  go_simp
                  exact ⟨gmk_refl _ _ _ _, a8, c8, rfl, hpk⟩
                -- operation 8: Op.call ( callee := Callee.value (func 9), args := #[tmp 159, tmp 161, tmp 162, tmp 166], argTypes := #[25, 22, 22, 23] 
                refine ⟨fun r wx hG hs hq hf => ?_, ?_⟩
                · have h0 : r 159 = .agg #[.int .u64 0, .int .u64 0, .slice a9 es.length c9] := hf.1
                  have h2 : r 161 = .int .u64 k := hf.2.1
                  have h3 : r 162 = .int .u64 tk := hf.2.2.1
                  have h7 : ∃ a9 c9, (r 166) = .slice a9 kn c9 ∧ Rd wx 6 (.slice a9 kn c9) kn (ecells ((LL.drop k).take kn)) := hf.2.2.2.1
                  refine (if_pos rfl).symm ▸ ?_
                  clear hs hq hf
                  unfold gives
                  obtain ⟨a8, c8, h7, hpr⟩ := h7
                  have hown := hG.1.2.2.2.2.1
                  have hM := Merge_any 0 0 (.slice a9 es.length c9) es k tk (.slice a8 kn c8) ((LL.drop k).take kn) wx (by omega) (by omega) hown (by rw [HPL2.out]; exact hpr) (by rw [HPL2.out]; have := HKN.out; omega)
                  rw [HM2.out] at hM
                  go_simp
                  refine hM.mono ?_
                  rintro e wy ⟨v9, rfl, hr9, hb9⟩
                  obtain ⟨a7, c7, rfl⟩ := hr9.form
                  exact ⟨_, rfl, gmk_of (by decide) hb9, a7, c7, rfl, hr9⟩
                -- operation 9: Op.move (tmp 167)
                refine ⟨fun r wx hG hs hq hf => ?_, ?_⟩
                · have h8 : ∃ a9 c9, (r 167) = .tuple #[.agg #[.int .u64 0, .int .u64 0, .slice a9 es.length c9], .int .u64 ((es.length + 1 : Nat) : Int), .int .u64 e2, .bool true] ∧ Rd wx 6 (.slice a9 es.length c9) es.length (ecells es) := hf.1
                  refine (if_pos rfl).symm ▸ ?_
                  clear hs hq hf
                  unfold gives
                  obtain ⟨a8, c8, h8, hpr⟩ := h8
                  go_simp
                  exact ⟨gmk_refl _ _ _ _, a8, c8, rfl, hpr⟩
                -- operation 10: Op.extract (tmp 158) 0
                refine ⟨fun r wx hG hs hq hf => ?_, ?_⟩
                · have h9 : ∃ a9 c9, (r 158) = .tuple #[.agg #[.int .u64 0, .int .u64 0, .slice a9 es.length c9], .int .u64 ((es.length + 1 : Nat) : Int), .int .u64 e2, .bool true] ∧ Rd wx 6 (.slice a9 es.length c9) es.length (ecells es) := hf.1
                  refine (if_pos rfl).symm ▸ ?_
                  clear hs hq hf
                  unfold gives
                  obtain ⟨a8, c8, h9, hpr⟩ := h9
                  go_simp
                  exact ⟨gmk_refl _ _ _ _, a8, c8, rfl, hpr⟩
                -- operation 11: Op.extract (tmp 158) 1
                refine ⟨fun r wx hG hs hq hf => ?_, ?_⟩
                · have h9 : ∃ a9 c9, (r 158) = .tuple #[.agg #[.int .u64 0, .int .u64 0, .slice a9 es.length c9], .int .u64 ((es.length + 1 : Nat) : Int), .int .u64 e2, .bool true] ∧ Rd wx 6 (.slice a9 es.length c9) es.length (ecells es) := hf.1
                  refine (if_pos rfl).symm ▸ ?_
                  clear hs hq hf
                  unfold gives
                  obtain ⟨a8, c8, h9, hpr⟩ := h9
                  go_simp
                  exact ⟨gmk_refl _ _ _ _, rfl⟩
                -- operation 12: Op.extract (tmp 158) 2
                refine ⟨fun r wx hG hs hq hf => ?_, ?_⟩
                · have h9 : ∃ a9 c9, (r 158) = .tuple #[.agg #[.int .u64 0, .int .u64 0, .slice a9 es.length c9], .int .u64 ((es.length + 1 : Nat) : Int), .int .u64 e2, .bool true] ∧ Rd wx 6 (.slice a9 es.length c9) es.length (ecells es) := hf.1
                  refine (if_pos rfl).symm ▸ ?_
                  clear hs hq hf
                  unfold gives
                  obtain ⟨a8, c8, h9, hpr⟩ := h9
                  go_simp
                  exact ⟨gmk_refl _ _ _ _, rfl⟩
                -- operation 13: Op.extract (tmp 158) 3
                refine ⟨fun r wx hG hs hq hf => ?_, ?_⟩
                · have h9 : ∃ a9 c9, (r 158) = .tuple #[.agg #[.int .u64 0, .int .u64 0, .slice a9 es.length c9], .int .u64 ((es.length + 1 : Nat) : Int), .int .u64 e2, .bool true] ∧ Rd wx 6 (.slice a9 es.length c9) es.length (ecells es) := hf.1
                  refine (if_pos rfl).symm ▸ ?_
                  clear hs hq hf
                  unfold gives
                  obtain ⟨a8, c8, h9, hpr⟩ := h9
                  go_simp
                  exact ⟨gmk_refl _ _ _ _, rfl⟩
                -- operation 14: Op.store 25 (tmp 19) (tmp 168)
                refine ⟨fun r wx hG hs hq hf => ?_, ?_⟩
                · have e19 : r 19 = .pointer (some ⟨g, 0, none⟩) := hs 19 rfl
                  have h10 : ∃ a9 c9, (r 168) = .agg #[.int .u64 0, .int .u64 0, .slice a9 es.length c9] ∧ Rd wx 6 (.slice a9 es.length c9) es.length (ecells es) := hf.1
                  have h8 : ∃ a9 c9, (r 167) = .tuple #[.agg #[.int .u64 0, .int .u64 0, .slice a9 es.length c9], .int .u64 ((es.length + 1 : Nat) : Int), .int .u64 e2, .bool true] ∧ Rd wx 6 (.slice a9 es.length c9) es.length (ecells es) := hf.2.1
                  refine (if_pos rfl).symm ▸ ?_
                  clear hs hq hf
                  unfold gives
                  obtain ⟨a8, c8, h10, hpr⟩ := h10
                  obtain ⟨hl3, ⟨f0, f1, f2⟩, x0, x1, x2, y0, y1, y2, y3⟩ := hG.2
                  go_simp
                  obtain ⟨q0, q1, q2⟩ := mset_cells (x := .int .u64 0) (y := .int .u64 0) (z := .slice a8 es.length c8) y1 y2 y3
                  exact ⟨gmk_set _ _ _ hl3 _ _ _, a8, c8, ⟨by simpa [mset] using y0, q0, q1, q2⟩, rd_set3 hpr hl3 _ _ _⟩
                -- operation 15: Op.assign (tmp 169)
                refine ⟨fun r wx hG hs hq hf => ?_, ?_⟩
                · have h11 : r 169 = .int .u64 ((es.length + 1 : Nat) : Int) := hf.1
                  have h14 : ∃ a9 c9, C3 wx g (.int .u64 0) (.int .u64 0) (.slice a9 es.length c9) ∧ Rd wx 6 (.slice a9 es.length c9) es.length (ecells es) := hf.2.1
                  refine (if_pos rfl).symm ▸ ?_
                  clear hs hq hf
                  unfold gives
                  go_simp
                  exact ⟨gmk_refl _ _ _ _, rfl⟩
                -- operation 16: Op.assign (tmp 170)
                refine ⟨fun r wx hG hs hq hf => ?_, ?_⟩
                · have h12 : r 170 = .int .u64 e2 := hf.1
                  refine (if_pos rfl).symm ▸ ?_
                  clear hs hq hf
                  unfold gives
                  go_simp
                  exact ⟨gmk_refl _ _ _ _, rfl⟩
                -- operation 17: Op.assign (tmp 171)
                refine ⟨fun r wx hG hs hq hf => ?_, ?_⟩
                · have h13 : r 171 = .bool true := hf.1
                  refine (if_pos rfl).symm ▸ ?_
                  clear hs hq hf
                  unfold gives
                  go_simp
                  exact ⟨gmk_refl _ _ _ _, rfl⟩
                exact trivial
              case hend =>
                intro u wz hG hfin
                have z14 : ∃ a9 c9, C3 wz g (.int .u64 0) (.int .u64 0) (.slice a9 es.length c9) ∧ Rd wz 6 (.slice a9 es.length c9) es.length (ecells es) := hfin 14 (by decide) (by kernel_rfl)
                have z15 : u 15 = .int .u64 ((es.length + 1 : Nat) : Int) := hfin 15 (by decide) (by kernel_rfl)
                have z16 : u 16 = .int .u64 e2 := hfin 16 (by decide) (by kernel_rfl)
                have z17 : u 17 = .bool true := hfin 17 (by decide) (by kernel_rfl)
                clear hfin
                simp only [fill]
                obtain ⟨a8, c8, hC8, hr8⟩ := z14
                have HFWz := Lib.hid hG.1
                have HC8 := Lib.hid hC8
                have HR8 := Lib.hid hr8
                have hFWk := hG.1
                obtain ⟨w10, hw10⟩ : ∃ x : World, x = wz := ⟨_, rfl⟩
                subst hw10
                clear hFW8 hGS8 hG hr8
                obtain ⟨x0, x1, x2, x3⟩ := hC8
                obtain ⟨⟨k0, k1, k2, k3⟩, _⟩ := hFWk
                have hla := Last_any 0 0 es.length c9 a9 w10 (by omega) (by omega)
                have HLA := Lib.hid hla
                have hok10 : ∀ wx, Below w.heap.size w wx → ESok wx es := fun wx h e he => by
                  rcases HEM2.out e he with h1 | h1
                  · rcases HEM.out e h1 with h2 | h2
                    · exact (hokl e h2).keep h
                    · exact (hokm e h2).keep h
                  · exact (hokl e h1).keep h
                have HOK := Lib.hid hok10
                clear hla hok10
                go_simp
                go_wp2_with fail
                refine HLA.out.mono ?_
                rintro e w11 ⟨rfl, hb11⟩
                have HFW11 := Lib.hid (HFWz.out.keep hb11)
                have HR11 := Lib.hid (HR8.out.keep hb11)
                have hC11 := HC8.out.keep hb11
                have hFW11 := HFW11.out
                have hsl := SameLog_self 0 0 (.slice a8 es.length c8) (.slice a9 es.length c9) es w11 (by omega) HR11.out hFW11.2.2.2.2.1 (HOK.out w11 hFW11.2.2.2.2.2)
                have HSL := Lib.hid hsl
                clear k0 k1 k2 k3 x0 x1 x2 x3 hb11 HFWz HC8 HR8 HLA hsl HR11
                obtain ⟨x0, x1, x2, x3⟩ := hC11
                obtain ⟨⟨k0, k1, k2, k3⟩, _⟩ := hFW11
                have hw12 : IntKind.u64.wrap ((es.length : Int) + 1) = (es.length : Int) + 1 := IntWalk.u64_in _ (by omega)
                go_wp2_with fail
                refine HSL.out.mono ?_
                rintro e w12 ⟨rfl, hb12⟩
                have HFW12 := Lib.hid (HFW11.out.keep hb12)
                clear k0 k1 k2 k3 x0 x1 x2 x3 hb12 HFW11 HSL
                go_wp2_with fail
                go_roundw
                case rel =>
                  refine ⟨i + 1, e2, es, a9, c9, by omega, by omega, by go_num, rfl, HE2.out ▸ HAG2.out, hesl, fun e he => (HEM2.out e he).elim (HEM.out e) (fun h => .inl h), HFW12.out⟩
                case measure => simp [intOf]; omega
        · have hfin := HFW.out.2.2.2.2.2
          have HB := Lib.hid hfin
          clear hfin HFW hag hEm
          by_cases hl1 : i < ns.length
          · have y1 : (i : Int) < (ns.length : Int) := by omega
            have y2 : ¬ (i : Int) < 40 := by omega
            go_wp2_with fail
            go_ret
            exact ⟨rfl, HB.out⟩
          · have y1 : ¬ (i : Int) < (ns.length : Int) := by omega
            go_wp2_with fail
            go_ret
            exact ⟨rfl, HB.out⟩
  · by_cases h2 : LL.length ≤ 60
    · have x1 : decide ((60 : Int) < (LL.length : Int)) = false := by simp; omega
      have x2 : decide ((60 : Int) < (MM.length : Int)) = true := by simp; omega
      clear hlr hmr hokl hokm hsr
      go_enter Try.func4, Try.ntmps4
      go_wp2_with fail
      refine (awake21_any _).mono ?_
      rintro e w1 ⟨rfl, hb1⟩
      go_wp2_with fail
      refine (awake21_any _).mono ?_
      rintro e w2 ⟨rfl, hb2⟩
      go_wp2_with fail
      go_ret
      exact ⟨rfl, hb1.trans (hb2.mono hb1.size)⟩
    · have x1 : decide ((60 : Int) < (LL.length : Int)) = true := by simp; omega
      clear hlr hmr hokl hokm hsr
      go_enter Try.func4, Try.ntmps4
      go_wp2_with fail
      refine (awake21_any _).mono ?_
      rintro e w1 ⟨rfl, hb1⟩
      go_wp2_with fail
      refine (awake21_any _).mono ?_
      rintro e w2 ⟨rfl, hb2⟩
      go_wp2_with fail
      go_ret
      exact ⟨rfl, hb1.trans (hb2.mono hb1.size)⟩
end Go.Proofs.Yteflpphpbecciaa
