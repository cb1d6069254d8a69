/- The state of a hash: what a write does to it. -/
import Derived.Test.YtdjmebfjanophaaDoorShaR
namespace Go.Proofs.YtdjmebfjanophaaDoor
open Go.RowKit Sha

theorem u64_and63 (n : Nat) (h : n < 18446744073709551616) : bits .and .u64 (n : Int) 63 = ((n % 64 : Nat) : Int) := by
  have := Go.u64_and_nat n 63 h (by omega)
  rw [Go.nat_mask6] at this
  exact this
/-- What may stand between two steps of a write: the text so far (whole blocks), the rest of it. -/
structure WI (w wr : World) (l b : List UInt8) (s : Value) (l2 b2 : List UInt8) : Prop where
  text : l2 ++ b2 = l ++ b
  whole : l2.length % 64 = 0
  rd : Rd w 1 s b2.length (bv b2)
  row : wr.heap[w.heap.size]? = some (.cells (rowL (hs l2 (l2.length / 64)) (zs 64) (l.length + b.length)).toArray 67 (0, 0))
  res : wr.heap[w.heap.size + 1]? = some (.cells (rowL begin0 (zs 64) 0).toArray 67 (0, 0))
  bl : Below w.heap.size w wr

set_option maxHeartbeats 4000000 in
set_option maxRecDepth 100000 in
theorem Write_any (l b : List UInt8) (v : Value) (w : World) (hl : l.length + b.length ≤ 4611686018427387904) (hr : Rd w 1 v b.length (bv b)) (hG : Tabs w) :
    Calls Tryd.prog 57 #[.agg (stv l), v] w fun e w' => e = .returned (.agg (stv (l ++ b))) ∧ Below w.heap.size w w' := by
  obtain ⟨a, c, rfl⟩ := hr.form
  have hz := (zero_of_info infoSt).1
  obtain ⟨p, hp⟩ : ∃ p, p = l.length % 64 := ⟨_, rfl⟩
  have hp64 : p < 64 := by omega
  have hand : bits .and .u64 (l.length : Int) 63 = (p : Int) := by rw [u64_and63 _ (by omega), hp]
  have HP := Lib.hid hp
  clear hp
  have hA : stv l = (rowL (hs l (l.length / 64)) (tail64 l) l.length).toArray := rfl
  have hsz : (stv l).size = 73 := stL_length l
  generalize stv l = A at *
  have HA := Lib.hid hA
  clear hA
  go_enter Tryd.func57, Tryd.ntmps57
  go_upto_region 1 with fail
  obtain ⟨w1, hw1⟩ : ∃ x : World, x = (w.alloc (.cells A 67)).alloc (.cells (rowL begin0 (zs 64) 0).toArray 67) := ⟨_, rfl⟩
  rw [← hw1]
  have hrow1 : w1.heap[w.heap.size]? = some (.cells (rowL (hs l (l.length / 64)) (tail64 l) l.length).toArray 67 (0, 0)) := by
    rw [hw1, ← HA.out, heap_alloc_old _ _ (by simp), heap_alloc_new]
  have hres1 : w1.heap[w.heap.size + 1]? = some (.cells (rowL begin0 (zs 64) 0).toArray 67 (0, 0)) := by
    rw [hw1]
    have h := heap_alloc_new (w.alloc (.cells A 67)) (.cells (rowL begin0 (zs 64) 0).toArray 67)
    simpa using h
  have hb1 : Below w.heap.size w w1 := by rw [hw1]; exact ((Below.refl _ _).alloc (Nat.le_refl _) _).alloc (by simp) _
  have hn1 : w1.cell? ⟨w.heap.size, 72, none⟩ = some (.int .u64 (l.length : Nat)) := by
    rw [cell_of_row _ _ _ _ _ _ hrow1, List.getElem?_toArray, rowL_n _ _ _ (tail64_length l)]
  have hf1 := frozen_of_row _ _ 72 _ _ hrow1
  have hadd : IntKind.u64.wrap ((l.length : Int) + (b.length : Int)) = ((l.length + b.length : Nat) : Int) := (IntWalk.u64_in _ (by omega)).trans (by omega)
  have H1 := Lib.hid (And.intro hrow1 (And.intro hres1 hb1))
  clear hrow1 hres1 hb1 hw1
  go_upto_region 3 with fail
  obtain ⟨w2, hw2⟩ : ∃ x : World, x = w1.setCell ⟨w.heap.size, 72, none⟩ (.int .u64 ((l.length : Int) + (b.length : Int))) := ⟨_, rfl⟩
  rw [← hw2]
  have hrow2 : w2.heap[w.heap.size]? = some (.cells (rowL (hs l (l.length / 64)) (tail64 l) (l.length + b.length)).toArray 67 (0, 0)) := by
    have := rowL_setN (hs l (l.length / 64)) (tail64 l) l.length (l.length + b.length) (tail64_length l)
    rw [hw2, heap_setCell_same _ _ _ _ _ _ H1.out.1, ← this]
    rfl
  have hres2 : w2.heap[w.heap.size + 1]? = some (.cells (rowL begin0 (zs 64) 0).toArray 67 (0, 0)) := by
    rw [hw2, heap_setCell_other _ _ _ _ (by simp)]; exact H1.out.2.1
  have hb2 : Below w.heap.size w w2 := by rw [hw2]; exact H1.out.2.2.setCell (p := ⟨_, _, none⟩) (Nat.le_refl _) _
  clear hw2 H1 hn1 hf1 hsz
  go_upto_if 19 with fail
  go_cut [1] (fun s1 wq => ∃ l2 b2, RowKit.Hid (WI w wq l b s1 l2 b2))
  case first =>
    by_cases hp0 : p = 0
    · obtain rfl : p = 0 := hp0
      have hpz : ¬ (0 : Int) < 0 := by omega
      have H2 := Lib.hid (And.intro hrow2 (And.intro hres2 hb2))
      clear hrow2 hres2 hb2
      go_wp2_with fail
      go_meet
      refine ⟨l, b, show WI _ _ _ _ _ _ _ from ⟨rfl, HP.out.symm, hr, ?_, H2.out.2.1, H2.out.2.2⟩⟩
      have := H2.out.1
      rwa [tail_whole l HP.out.symm] at this
    · have hpz : (0 : Int) < (p : Int) := by omega
      have hpz0 : (0 : Int) ≤ (p : Int) := by omega
      have hpz1 : (p : Int) < 64 := by omega
      have hpz2 : (p : Int) ≤ 64 := by omega
      obtain ⟨k, hk⟩ : ∃ k, k = Nat.min b.length (64 - p) := ⟨_, rfl⟩
      have hkl : k ≤ b.length ∧ k ≤ 64 - p := by rw [hk]; exact ⟨Nat.min_le_left _ _, Nat.min_le_right _ _⟩
      have hk2 : k = b.length ∨ k = 64 - p := by
        rcases Nat.le_total b.length (64 - p) with h | h
        · exact .inl (hk.trans (Nat.min_eq_left h))
        · exact .inr (hk.trans (Nat.min_eq_right h))
      obtain ⟨X, hX⟩ : ∃ X, X = bv (b.take k) := ⟨_, rfl⟩
      have hXl : X.length = k := by rw [hX, bv_length, List.length_take]; omega
      have hc1 : X.length = b.length.min (64 - p) := by rw [hXl, hk]
      have hc2 : Rd w2 1 (.slice a b.length c) b.length (X ++ bv (b.drop k)) := by
        rw [hX, ← bv_append, List.take_append_drop]; exact hr.keep hb2
      have hc3 : 8 + p + X.length ≤ (rowL (hs l (l.length / 64)) (tail64 l) (l.length + b.length)).length := by rw [rowL_length _ _ _ (tail64_length l), hXl]; omega
      have HC := Lib.hid (And.intro hc1 (And.intro hc2 hc3))
      have H2 := Lib.hid (And.intro hrow2 (And.intro hres2 hb2))
      have HX := Lib.hid hX
      clear hrow2 hres2 hb2 hX hk hc1 hc2 hc3
      have HR := Lib.hid hr
      have hcb : b.length ≤ c := by
        obtain ⟨_, _, ⟨hv, h0⟩ | ⟨ad, c', hv, hcc, _⟩⟩ := hr
        · omega
        · simp only [Value.slice.injEq, true_and] at hv; omega
      clear hr
      by_cases hlt : p + k < 64
      · have hltz : (p : Int) + (k : Int) < 64 := by omega
        go_upto_region 5 with (with_reducible show wpList _ _ _ (⟨some 24, _, _, _, _, _⟩ :: _) _ _; refine wpList_copy_grown rfl _ _ _ _ rfl _ Tryd.underlying69 (by kernel_rfl) _ _ _ _ _ _ rfl rfl w.heap.size (8 + p) _ _ H2.out.1 X _ HC.out.1 rfl HC.out.2.1 HC.out.2.2 ?_; intro w3 HG3 hg3)
        go_upto_region 7 with fail
        iterate 1
          obtain ⟨a2, ha2⟩ : ∃ a2, a2 = (if c = k then a else Option.map (fun x : Addr => x.add k) a) := ⟨_, rfl⟩
          rw [← ha2]
          have HA2 := Lib.hid ha2
          clear ha2
          have hrow3 : w3.heap[w.heap.size]? = some (.cells (stL (l ++ b)).toArray 67 (0, 0)) := by
            have h := HG3.out
            have hp := HP.out
            rw [HX.out, rowL_splice _ _ _ _ _ (by rw [tail64_length, List.length_take]; omega), List.take_of_length_le (by omega), hp, hs_early l b (by omega)] at h
            exact h
          have hres3 := (hg3.block _ (Array.getElem?_eq_some_iff.1 H2.out.2.1).1 (by simp)).trans H2.out.2.1
          have hb3 : Below w.heap.size w w3 := below_grow H2.out.2.2 hg3 (Nat.le_refl _) (Array.getElem?_eq_some_iff.1 H2.out.1).1
          have H3 := Lib.hid (And.intro hrow3 (And.intro hres3 hb3))
          clear hrow3 hres3 hb3 HG3 hg3
          go_wp2_with (first
  | (with_reducible show wpList _ _ _ (⟨some 32, _, _, _, _, _⟩ :: _) _ _; refine wpList_load_row rfl _ _ rfl w.heap.size rfl _ _ (0, 0) _ H3.out.1 Tryd.underlying67 rfl (stInfo _ (stL_length (l ++ b))) ?_)
  | (with_reducible show wpList _ _ _ (⟨none, Op.store _ _ _, _, _, _, _⟩ :: _) _ _; refine wpList_store_splice rfl _ _ _ rfl (w.heap.size + 1) 0 _ rfl rfl _ _ H3.out.2.1 (stInfo' _ (stL_length (l ++ b))) (by rw [stL_length, rowL_length _ _ _ (by simp [zs])]; omega) (stL_one _) ?_; intro w9 HG9 hg9))
          all_goals
            have hend : w9.heap[w.heap.size + 1]? = some (.cells (stv (l ++ b)) 67 (0, 0)) := by have h := HG9.out; rw [splice_all _ _ (by rw [stL_length, rowL_length _ _ _ (by simp [zs])])] at h; exact h
            refine bodyPost_ret (v := .agg (stv (l ++ b))) ?_ ?_ ?_
            · exact results_cell_row Tryd.results57 _ _ (w.heap.size + 1) 67 (stv (l ++ b)) (0, 0) _ rfl hend Tryd.underlying67 rfl (stInfo _ (stL_length (l ++ b)))
            · rfl
            · exact ⟨rfl, below_grow H3.out.2.2 hg9 (by omega) (Array.getElem?_eq_some_iff.1 H3.out.2.1).1⟩
      · have hltz : ¬ (p : Int) + (k : Int) < 64 := by omega
        have HK := Lib.hid (show k = 64 - p by omega)
        clear hk2 hlt hltz
        go_upto_region 5 with (with_reducible show wpList _ _ _ (⟨some 24, _, _, _, _, _⟩ :: _) _ _; refine wpList_copy_grown rfl _ _ _ _ rfl _ Tryd.underlying69 (by kernel_rfl) _ _ _ _ _ _ rfl rfl w.heap.size (8 + p) _ _ H2.out.1 X _ HC.out.1 rfl HC.out.2.1 HC.out.2.2 ?_; intro w3 HG3 hg3)
        have HK2 := HK.out
        have hltd : decide ((p : Int) + (k : Int) < 64) = false := decide_eq_false (by omega)
        clear HK2
        go_upto_region 8 with fail
        iterate 1
          obtain ⟨a2, ha2⟩ : ∃ a2, a2 = (if c = k then a else Option.map (fun x : Addr => x.add k) a) := ⟨_, rfl⟩
          rw [← ha2]
          have HA2 := Lib.hid ha2
          clear ha2
          have hk64 := HK.out
          have hlen : (b.take k).length = 64 - p := by rw [List.length_take]; omega
          have hrow3 : w3.heap[w.heap.size]? = some (.cells (rowL (hs l (l.length / 64)) (splice (tail64 l) p (b.take k)) (l.length + b.length)).toArray 67 (0, 0)) := by
            have h := HG3.out
            rw [HX.out, rowL_splice _ _ _ _ _ (by rw [tail64_length, hlen]; omega)] at h
            exact h
          have hsl : (splice (tail64 l) p (b.take k)).length = 64 := by rw [length_splice _ _ _ (by rw [tail64_length, hlen]; omega), tail64_length]
          have hfill := hs_fill l (b.take k) (by have := HP.out; omega)
          rw [← HP.out] at hfill
          have hres3 := (hg3.block _ (Array.getElem?_eq_some_iff.1 H2.out.2.1).1 (by simp)).trans H2.out.2.1
          have hb3 : Below w.heap.size w w3 := below_grow H2.out.2.2 hg3 (Nat.le_refl _) (Array.getElem?_eq_some_iff.1 H2.out.1).1
          generalize splice (tail64 l) p (b.take k) = y at *
          have hmix := mix_any w.heap.size w.heap.size 8 64 64 (hs l (l.length / 64)) y (bv y ++ [Value.int .u64 (l.length + b.length : Nat)]).toArray 67 w3 hsl (Nat.le_refl _) (Nat.le_refl _) (by rw [← rowL_arr]; exact hrow3)
            (fun j x hx => by rw [cell_of_row _ _ _ _ _ _ hrow3, List.getElem?_toArray, rowL_r _ _ _ _ _ hx]) (hG.keepB hb3)
          rw [hfill.1, ← rowL_arr] at hmix
          have H3 := Lib.hid (And.intro hres3 (And.intro hb3 (And.intro hfill (And.intro hsl (And.intro hrow3 hlen)))))
          have HM := Lib.hid hmix
          clear hres3 hb3 hfill hsl hrow3 hlen hmix HG3 hg3 hk64
          go_wp2_with fail
          refine HM.out.mono ?_
          rintro e w4 ⟨rfl, hrow4, hg4⟩
          have hres4 := (hg4.block _ (Array.getElem?_eq_some_iff.1 H3.out.1).1 (by simp)).trans H3.out.1
          have hb4 : Below w.heap.size w w4 := below_grow H3.out.2.1 hg4 (Nat.le_refl _) (Array.getElem?_eq_some_iff.1 H3.out.2.2.2.2.1).1
          have H4 := Lib.hid (And.intro hrow4 (And.intro hres4 hb4))
          clear hrow4 hres4 hb4 hg4 HM
          go_wp2_with (with_reducible show wpList _ _ _ (⟨none, Op.store _ _ _, _, _, _, _⟩ :: _) _ _; refine wpList_store_splice rfl _ _ _ rfl w.heap.size 8 (bv (zs 64)) rfl rfl _ _ H4.out.1 (by kernel_rfl) (by rw [rowL_length _ _ _ H3.out.2.2.2.1]; simp [bv_length, zs]) (bv_one _) ?_; intro w5 HG5 hg5)
          go_meet
          have h := HG5.out
          rw [show (8 : Nat) = 8 + 0 from rfl, rowL_splice _ _ _ _ 0 (by simp [zs, H3.out.2.2.2.1]), splice_all _ _ (by simp [zs, H3.out.2.2.2.1])] at h
          exact ⟨l ++ b.take k, b.drop k, show WI _ _ _ _ _ _ _ from ⟨by simp, H3.out.2.2.1.2, (by
            rw [HA2.out]
            have := HR.out.cut k hkl.1
            simpa [bv] using this), h, (hg5.block _ (Array.getElem?_eq_some_iff.1 H4.out.2.1).1 (by simp)).trans H4.out.2.1,
            below_grow H4.out.2.2 hg5 (Nat.le_refl _) (Array.getElem?_eq_some_iff.1 H4.out.1).1⟩⟩
  case rest =>
    clear hr
    go_wp2_with fail
    go_loopw [1] (fun s1 wr => ∃ l2 b2, RowKit.Hid (WI w wr l b s1 l2 b2)) (fun v _ => match v with | .slice _ n _ => n | _ => 0)
    case atStart => exact hcut
    case round =>
      clear hcut
      obtain ⟨l2, b2, HW⟩ := hrel
      obtain ⟨a2, c2, rfl⟩ := HW.out.rd.form
      by_cases hge : 64 ≤ b2.length
      · have hd : decide ((64 : Int) ≤ (b2.length : Int)) = true := decide_eq_true (by omega)
        obtain ⟨bb, off, c', hv, hcp, hcell⟩ := (HW.out.rd.keep HW.out.bl).at (by omega)
        simp only [Value.slice.injEq, true_and] at hv
        obtain ⟨rfl, rfl⟩ := hv
        have hx64 : (b2.take 64).length = 64 := by rw [List.length_take]; omega
        have hnext := hs_next l2 (b2.take 64) HW.out.whole hx64
        have hmix := mix_any w.heap.size bb off b2.length c2 (hs l2 (l2.length / 64)) (b2.take 64) (bv (zs 64) ++ [Value.int .u64 (l.length + b.length : Nat)]).toArray 67 wr hx64 hge hcp (by rw [← rowL_arr]; exact HW.out.row)
            (fun j x hx => hcell j _ (by
              have hj := (List.getElem?_eq_some_iff.1 hx).1
              rw [List.getElem?_take_of_lt (by omega)] at hx
              simp [bv, hx])) (hG.keepB HW.out.bl)
        rw [hnext.1, ← rowL_arr] at hmix
        have HM := Lib.hid (And.intro hmix (And.intro hnext.2 (And.intro hx64 hge)))
        clear hmix hnext hx64 hcell hge
        go_wp2_with fail
        refine HM.out.1.mono ?_
        rintro e w4 ⟨rfl, hrow4, hg4⟩
        have hWI : ∀ v2, Rd w 1 v2 (b2.drop 64).length (bv (b2.drop 64)) → WI w w4 l b v2 (l2 ++ b2.take 64) (b2.drop 64) := fun v2 h2 =>
          ⟨by rw [List.append_assoc, List.take_append_drop]; exact HW.out.text, HM.out.2.1, h2, hrow4, (hg4.block _ (Array.getElem?_eq_some_iff.1 HW.out.res).1 (by simp)).trans HW.out.res,
            below_grow HW.out.bl hg4 (Nat.le_refl _) (Array.getElem?_eq_some_iff.1 HW.out.row).1⟩
        have hge := HM.out.2.2.2
        have hcut := HW.out.rd.cut 64 hge
        have hmeas : b2.length - 64 < b2.length := by omega
        have HE := Lib.hid (And.intro hWI (And.intro hcut hmeas))
        have hgz : (64 : Int) ≤ (b2.length : Int) := by omega
        have hgc : (64 : Int) ≤ (c2 : Int) := by omega
        clear hge hWI hcut hrow4 hg4 hmeas HM
        by_cases hc64 : c2 = 64
        · go_wp2_with fail
          go_roundw
          case rel => exact ⟨_, _, HE.out.1 _ (by have := HE.out.2.1; rw [if_pos hc64, hc64] at this; simpa [bv] using this)⟩
          case measure => exact HE.out.2.2
        · go_wp2_with fail
          go_roundw
          case rel => exact ⟨_, _, HE.out.1 _ (by have := HE.out.2.1; rw [if_neg hc64] at this; simpa [bv, Addr.add_lit] using this)⟩
          case measure => exact HE.out.2.2
      · have hd : decide ((64 : Int) ≤ (b2.length : Int)) = false := decide_eq_false (by omega)
        have hlt : b2.length < 64 := by omega
        have hfin := hs_end l2 b2 HW.out.whole hlt
        have hlen : l2.length + b2.length = l.length + b.length := by have := congrArg List.length HW.out.text; simpa using this
        rw [HW.out.text, hlen] at hfin
        have hc1 : (bv b2).length = b2.length.min 64 := by rw [bv_length]; exact (Nat.min_eq_left (by omega)).symm
        have hc2 : Rd wr 1 (.slice a2 b2.length c2) b2.length (bv b2 ++ []) := by rw [List.append_nil]; exact HW.out.rd.keep HW.out.bl
        have hc3 : 8 + (bv b2).length ≤ (rowL (hs l2 (l2.length / 64)) (zs 64) (l.length + b.length)).length := by rw [rowL_length _ _ _ (by simp [zs]), bv_length]; omega
        have hlz : splice (rowL (hs l2 (l2.length / 64)) (zs 64) (l.length + b.length)) 8 (bv b2) = stL (l ++ b) := by
          have := rowL_splice (hs l2 (l2.length / 64)) (zs 64) b2 (l.length + b.length) 0 (by simp [zs]; omega)
          rw [Nat.add_zero] at this
          rw [this, hfin]
        have HC := Lib.hid (And.intro hc1 (And.intro hc2 (And.intro hc3 (And.intro hfin hlz))))
        obtain ⟨X, hX⟩ : ∃ X, X = bv b2 := ⟨_, rfl⟩
        rw [← hX] at HC
        have HX := Lib.hid hX
        clear hc1 hc2 hc3 hfin hlen hge hlt hlz hX
        go_wp2_with (first
          | (with_reducible show wpList _ _ _ (⟨some 48, _, _, _, _, _⟩ :: _) _ _; refine wpList_copy_grown rfl _ _ _ _ rfl _ Tryd.underlying69 (by kernel_rfl) _ _ _ _ _ _ rfl rfl w.heap.size 8 _ _ HW.out.row X _ HC.out.1 rfl HC.out.2.1 HC.out.2.2.1 ?_; intro w3 HG3 hg3)
          | (with_reducible show wpList _ _ _ (⟨some 49, _, _, _, _, _⟩ :: _) _ _; refine wpList_load_row rfl _ _ rfl w.heap.size rfl _ _ (0, 0) _ HG3.out Tryd.underlying67 rfl (stInfo _ (by rw [HC.out.2.2.2.2]; exact stL_length _)) ?_)
          | (with_reducible show wpList _ _ _ (⟨none, Op.store _ _ _, _, _, _, _⟩ :: _) _ _; refine wpList_store_splice rfl _ _ _ rfl (w.heap.size + 1) 0 _ rfl rfl _ _ ((hg3.block _ (Array.getElem?_eq_some_iff.1 HW.out.res).1 (by simp)).trans HW.out.res) (stInfo' _ (by rw [HC.out.2.2.2.2]; exact stL_length _)) (by rw [HC.out.2.2.2.2, stL_length, rowL_length _ _ _ (by simp [zs])]; omega) (by rw [HC.out.2.2.2.2]; exact stL_one _) ?_; intro w9 HG9 hg9))
        have hend : w9.heap[w.heap.size + 1]? = some (.cells (stv (l ++ b)) 67 (0, 0)) := by have h := HG9.out; rw [HC.out.2.2.2.2, splice_all _ _ (by rw [stL_length, rowL_length _ _ _ (by simp [zs])])] at h; exact h
        refine bodyPost_ret (v := .agg (stv (l ++ b))) ?_ ?_ ?_
        · exact results_cell_row Tryd.results57 _ _ (w.heap.size + 1) 67 (stv (l ++ b)) (0, 0) _ rfl hend Tryd.underlying67 rfl (stInfo _ (stL_length (l ++ b)))
        · rfl
        · exact ⟨rfl, below_grow (below_grow HW.out.bl hg3 (Nat.le_refl _) (Array.getElem?_eq_some_iff.1 HW.out.row).1) hg9 (by omega) (Nat.lt_of_lt_of_le (Array.getElem?_eq_some_iff.1 HW.out.res).1 hg3.size)⟩
end Go.Proofs.YtdjmebfjanophaaDoor
