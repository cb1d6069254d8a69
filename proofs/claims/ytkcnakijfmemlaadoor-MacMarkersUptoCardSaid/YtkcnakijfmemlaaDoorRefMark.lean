/- The reference's Mark. (printed by gen/refmark.py) -/
import Derived.Test.YtkcnakijfmemlaaDoorPad
namespace Go.Proofs.YtkcnakijfmemlaaDoor
open Go.RowKit Sha

/-- Operation 5 leaves alone what lies below B, operation 3 what lies below B2, each other what there was. -/
def kTwo (B B2 : Nat) (j : Nat) (w w' : World) : Prop := if j = 5 then Below B w w' else if j = 3 then Below B2 w w' else Below w.heap.size w w'
theorem kTwo_refl (B B2 j : Nat) (w : World) : kTwo B B2 j w w := by
  unfold kTwo; split
  · exact Below.refl _ _
  · split <;> exact Below.refl _ _
theorem kTwo_of {B B2 j : Nat} {w w' : World} (h5 : j ≠ 5) (h3 : j ≠ 3) (h : Below w.heap.size w w') : kTwo B B2 j w w' := by
  unfold kTwo; rw [if_neg h5, if_neg h3]; exact h
theorem kTwo_app {B B2 : Nat} {w w' : World} (h : Below B2 w w') : kTwo B B2 3 w w' := by unfold kTwo; rw [if_neg (by decide), if_pos rfl]; exact h
theorem kTwo_last {B B2 : Nat} {w w' : World} (h : Below B w w') : kTwo B B2 5 w w' := by unfold kTwo; rw [if_pos rfl]; exact h
theorem kTwo_below {B B2 j : Nat} {w w' : World} (h3 : j ≠ 3) (h5 : j ≠ 5) (h : kTwo B B2 j w w') : Below w.heap.size w w' := by
  unfold kTwo at h; rw [if_neg h5, if_neg h3] at h; exact h
theorem kTwo_two {B B2 j : Nat} {w w' : World} (h5 : j ≠ 5) (hB : B2 ≤ w.heap.size) (h : kTwo B B2 j w w') : Below B2 w w' := by
  unfold kTwo at h; rw [if_neg h5] at h
  split at h
  · exact h
  · exact h.mono hB
theorem kTwo_base {B B2 j : Nat} {w w' : World} (hBB : B ≤ B2) (hB : B ≤ w.heap.size) (h : kTwo B B2 j w w') : Below B w w' := by
  unfold kTwo at h
  split at h
  · exact h
  · split at h
    · exact h.mono hBB
    · exact h.mono hB
theorem kTwo_mid {B B2 j g : Nat} {w w' : World} (h5 : j ≠ 5) (hg : g < B2) (h : kTwo B B2 j w w') (hgw : g < w.heap.size) : w'.heap[g]? = w.heap[g]? := by
  unfold kTwo at h; rw [if_neg h5] at h
  split at h
  · exact h.block _ hg
  · exact h.block _ hgw
/-- What each operation hands on. -/
def rmF (a0 : Option Addr) (kn c0 : Nat) (kb hh : List UInt8) (o : List Value) (g4 g5 B2 : Nat) : Nat → Value → World → Prop
  | 0, v, _ => v = .slice a0 kn c0
  | 1, v, w => w.ownsRow B2 5 1 v 64 (bv kb)
  | 2, v, _ => v = .slice (some ⟨g5, 0, none⟩) 32 32
  | 3, v, w => w.ownsRow B2 5 1 v (64 + 32) (bv (kb ++ hh))
  | 4, v, _ => v = .agg o.toArray
  | 5, _, w => w.heap[g4]? = some (.cells o.toArray 25 (0, 0))
  | _, _, _ => True

set_option maxHeartbeats 4000000 in
set_option maxRecDepth 100000 in
theorem refMark_any (key text : List UInt8) (v v1 : Value) (w : World) (hl : key.length ≤ 140737488351232) (hl1 : text.length ≤ 140737488351300) (hr : Rd w 1 v key.length (bv key)) (hr1 : Rd w 1 v1 text.length (bv text)) (hT : TabsR w) :
    Calls Tryd.prog 24 #[v, v1] w fun e w' => e = .returned (.agg (bv (macB key text)).toArray) ∧ Below w.heap.size w w' := by
  obtain ⟨a0, c0, rfl⟩ := hr.form
  obtain ⟨a1, c1, rfl⟩ := hr1.form
  have hz := (zero_of_info info32).1
  have hkl : (pad64 (hkey key)).length = 64 := pad64_length _ (hkey_le key)
  have hPa := fun w' hr' hG' => pad_any key 54 (.slice a0 key.length c0) w' hl hr' hG'
  have hPb := fun w' hr' hG' => pad_any key 92 (.slice a0 key.length c0) w' hl hr' hG'
  obtain ⟨k, hk⟩ : ∃ k, k = pad64 (hkey key) := ⟨_, rfl⟩
  rw [← hk] at hkl
  simp only [← hk] at hPa hPb
  have hmac : macB key text = Sha.sum (kx k 92 ++ Sha.sum (kx k 54 ++ text)) := by rw [macB, ← hk]; rfl
  have hS1 := fun v w' hr' hG' => refSumSha_any (kx k 54 ++ text) v w' (by rw [List.length_append, kx_length, hkl]; omega) hr' hG'
  have hol1 := sum_length (kx k 54 ++ text)
  obtain ⟨hh, hhe⟩ : ∃ hh, hh = Sha.sum (kx k 54 ++ text) := ⟨_, rfl⟩
  rw [← hhe] at hmac hS1 hol1
  have hS2 := fun v w' hr' hG' => refSumSha_any (kx k 92 ++ hh) v w' (by rw [List.length_append, kx_length, hkl, hol1]; omega) hr' hG'
  rw [← hmac] at hS2
  have hol := macB_length key text
  have hk5 : (kx k 54).length = 64 := by rw [kx_length, hkl]
  have hk9 : (kx k 92).length = 64 := by rw [kx_length, hkl]
  have HX := Lib.hid (And.intro hr (And.intro hr1 (And.intro hk5 (And.intro hk9 (And.intro hol1 hol)))))
  have HPA := Lib.hid hPa
  have HPB := Lib.hid hPb
  have HS1 := Lib.hid hS1
  have HS2 := Lib.hid hS2
  clear hr hr1 hPa hPb hS1 hS2 hhe hmac hk hkl hk5 hk9 hol1 hol
  generalize kx k 54 = ka at *
  generalize kx k 92 = kb at *
  go_enter Tryd.func24, Tryd.ntmps24
  go_wp2_with fail
  have hb0 : Below w.heap.size w (w.alloc (.cells (bv (zs 32)).toArray 25)) := (Below.refl _ _).alloc (Nat.le_refl _) _
  refine (HPA.out _ (HX.out.1.keep hb0) (hT.keepB hb0)).mono ?_
  rintro e w1 ⟨v1', rfl, ho1, hb1⟩
  have hs1 : w1.heap[w.heap.size]? = some (.cells (bv (zs 32)).toArray 25 (0, 0)) := (hb1.block _ (by simp)).trans (heap_alloc_new _ _)
  have hbw1 := hb0.trans (hb1.mono (by simp))
  have hrt1 := HX.out.2.1.keep hbw1
  have hsz1 := hb1.size
  have H1 := Lib.hid (And.intro ho1 (And.intro hs1 (And.intro hbw1 (And.intro hrt1 hsz1))))
  clear ho1 hs1 hbw1 hrt1 hb1 hb0 hsz1
  go_wp2_with (at_builtin; go_loud (refine wpList_app Tryd.underlying22 infoU8s rfl (by decide) rfl _ _ rfl rfl rfl H1.out.1 H1.out.2.2.2.1 (by omega) (by omega) H1.out.2.2.2.2 ?_))
  intro v2' w2 ho2 hg2 _
  have hB0 : w.heap.size < (w.alloc (.cells (bv (zs 32)).toArray 25)).heap.size := by simp
  have hb2 := hg2.below H1.out.2.2.2.2 (own_block H1.out.1)
  have hs2 := (hb2.block _ hB0).trans H1.out.2.1
  have hbw2 := H1.out.2.2.1.trans (hb2.mono (Nat.le_of_lt hB0))
  have hr2 : Rd w2 1 v2' (ka ++ text).length (bv (ka ++ text)) := by
    have h := own_rd ho2 (by intro u hu; rcases List.mem_append.1 hu with h | h <;> exact bv_one _ _ h)
    rw [List.length_append, HX.out.2.2.1, bv_append]; exact h
  have HS1' := Lib.hid (HS1.out v2' w2 hr2 (hT.keepB hbw2))
  have H2 := Lib.hid (And.intro hs2 hbw2)
  clear ho2 hg2 hb2 hs2 hbw2 hr2 hB0 H1
  go_wp2_with fail
  refine HS1'.out.mono ?_
  rintro e w3 ⟨rfl, hb3⟩
  have hs3 := (hb3.block _ (Array.getElem?_eq_some_iff.1 H2.out.1).1).trans H2.out.1
  have hbw3 := H2.out.2.trans (hb3.mono H2.out.2.size)
  have H3 := Lib.hid (And.intro hs3 hbw3)
  clear hs3 hbw3 hb3 HS1' H2
  go_upto_region 2 with (with_reducible show wpList _ _ _ (⟨none, Op.store _ _ _, _, _, _, _⟩ :: _) _ _; go_loud (refine wpList_store_whole rfl _ _ _ rfl w3.heap.size (bv hh) rfl rfl (bv (zs 32)) _ (heap_alloc_new _ _) (hInfo' _ HX.out.2.2.2.2.1) (by rw [bv_length, bv_length, HX.out.2.2.2.2.1]; simp [zs]) (bv_one _) ?_); intro wr HG4 hg4)
  simp only [Act.put]
  have hlt3 : w.heap.size < w3.heap.size := (Array.getElem?_eq_some_iff.1 H3.out.1).1
  have hrow4 : wr.heap[w.heap.size]? = some (.cells (bv (zs 32)).toArray 25 (0, 0)) := (hg4.block _ (by simp; omega) (by simp; omega)).trans ((heap_alloc_old _ _ hlt3).trans H3.out.1)
  have hbr : Below w.heap.size w wr := below_grow (H3.out.2.alloc H3.out.2.size _) hg4 H3.out.2.size (by simp)
  have hd5 := rd_row HG4.out HX.out.2.2.2.2.1
  rw [HX.out.2.2.2.2.1] at hd5
  obtain ⟨kn, hkn⟩ : ∃ kn, kn = key.length := ⟨_, rfl⟩
  have h1 : ∀ w', Below wr.heap.size wr w' → _ := fun w' hb => HPB.out w' (HX.out.1.keep (hbr.trans (hb.mono hbr.size))) (hT.keepB (hbr.trans (hb.mono hbr.size)))
  rw [← hkn] at h1 ⊢
  have h2 : ∀ v w', Below wr.heap.size wr w' → Rd w' 1 v (64 + 32) (bv (kb ++ hh)) → _ := fun v w' hb hr => HS2.out v w' (by rw [List.length_append, HX.out.2.2.2.1, HX.out.2.2.2.2.1]; exact hr) (hT.keepB (hbr.trans (hb.mono hbr.size)))
  have hol := HX.out.2.2.2.2.2
  have hfin : Ending.returned (.agg (bv (macB key text)).toArray) = Ending.returned (.agg (bv (macB key text)).toArray) := rfl
  obtain ⟨o, ho⟩ : ∃ o, o = bv (macB key text) := ⟨_, rfl⟩
  have hosz := hInfo _ hol
  have hfit1 := hInfo' _ hol
  have hfit2 : (bv (macB key text)).length = (bv (zs 32)).length := by rw [bv_length, bv_length, hol]; simp [zs]
  have hone : ∀ u ∈ bv (macB key text), u.oneCell' = true := bv_one _
  have hfin : Ending.returned (.agg o.toArray) = Ending.returned (.agg (bv (macB key text)).toArray) := by rw [ho]
  rw [← ho] at h2 hosz hfit1 hfit2 hone
  generalize w3.heap.size = g5 at *
  obtain ⟨B, hB⟩ : ∃ B, B = w.heap.size := ⟨_, rfl⟩
  obtain ⟨B2, hB2⟩ : ∃ B2, B2 = wr.heap.size := ⟨_, rfl⟩
  obtain ⟨g4, hg4e⟩ : ∃ g4, g4 = w.heap.size := ⟨_, rfl⟩
  rw [← hg4e] at hrow4 ⊢
  have hBr : B ≤ wr.heap.size := by rw [hB]; exact hbr.size
  have hB4 : B ≤ g4 := by omega
  have hlt4w := (Array.getElem?_eq_some_iff.1 hrow4).1
  have hlt4 : g4 < B2 := by omega
  have hg4lt : g4 < B2 := hlt4
  have hBB : B ≤ B2 := by omega
  have hB2r : B2 ≤ wr.heap.size := by omega
  have HBE := Lib.hid hB
  have HBW := Lib.hid hbr
  have HP := Lib.hid h1
  have HS := Lib.hid h2
  have HO := Lib.hid hfin
  have HB2 := Lib.hid hB2
  clear h1 h2 hfin ho hol hB hB2 hg4e hbr hlt3 HPA HPB HG4 hg4 H3 hkn HX
  refine wp_region_until [some 11, some 12, some 13, some 14, some 15, none] [] 5 (fun wx => Below wr.heap.size wr wx) [0, 1, 2, 3, 4, 5] (rmF a0 kn c0 kb hh o g4 g5 B2) (kTwo B B2) (fun wx => Below B wr wx) (by kernel_rfl) (by kernel_rfl) rfl (by kernel_rfl) (by kernel_rfl) (Below.refl _ _).drew (Below.refl _ _).drew ((fun _ hj _ _ k h => h.trans (by have q := kTwo_two hj (Nat.le_trans hB2r h.size) k; rw [HB2.out] at q; exact q))) (fun _ _ => kTwo_refl _ _ _ _) (fun _ _ _ h k => h.trans (kTwo_base hBB (Nat.le_trans hBr h.size) k)) ?hF ?hstep ?hend
  case hF =>
    exact ⟨fun _ _ _ _ _ _ h => h, ⟨fun j hg _ _ _ k h => own_keep h (kTwo_below (fun e => by subst e; exact absurd hg (by rw [show goneB _ 1 3 = true by kernel_rfl]; simp)) (fun e => by subst e; exact absurd hg (by rw [show goneB _ 1 5 = true by kernel_rfl]; simp)) k), ⟨fun _ _ _ _ _ _ h => h, ⟨fun j hg _ _ _ k h => own_keep h (kTwo_below (fun e => by subst e; exact absurd hg (by rw [show goneB _ 3 3 = true by kernel_rfl]; simp)) (fun e => by subst e; exact absurd hg (by rw [show goneB _ 3 5 = true by kernel_rfl]; simp)) k), ⟨fun _ _ _ _ _ _ h => h, ⟨fun j hg _ _ _ k h => (kTwo_mid (fun e => by subst e; exact absurd hg (by rw [show goneB _ 5 5 = true by kernel_rfl]; simp)) hg4lt k (Array.getElem?_eq_some_iff.1 h).1).trans h, trivial⟩⟩⟩⟩⟩⟩
  case hstep =>
    -- operation 0: Op.move (tmp 0)
    refine ⟨fun r wx hG hs hq hf => ?_, ?_⟩
    · have hQ := hq rfl
      have e0 : r 0 = .slice a0 kn c0 := hs 0 rfl
      refine (if_pos rfl).symm ▸ ?_
      clear hs hq hf
      unfold gives
      go_simp
      exact ⟨kTwo_refl _ _ _ _, rfl⟩
    -- operation 1: Op.call ( callee := Callee.value (func 31), args := #[tmp 11, const (Value.int IntKind.u8 92)], argTypes := #[22, 5] )
    refine ⟨fun r wx hG hs hq hf => ?_, ?_⟩
    · have hQ := hq rfl
      have h0 : r 11 = .slice a0 kn c0 := hf.1
      refine (if_pos rfl).symm ▸ ?_
      clear hs hq hf
      unfold gives
      go_simp
      refine (HP.out wx hQ).mono ?_
      rintro e wy ⟨v, rfl, ho, hb1⟩
      exact ⟨v, rfl, kTwo_of (by decide) (by decide) hb1, own_base ho (Nat.le_trans hB2r hQ.size)⟩
    -- operation 2: Op.slice 25 (tmp 5) none none none
    refine ⟨fun r wx hG hs hq hf => ?_, ?_⟩
    · have hQ := hq rfl
      have e5 : r 5 = .pointer (some ⟨g5, 0, none⟩) := hs 5 rfl
      refine (if_pos rfl).symm ▸ ?_
      clear hs hq hf
      unfold gives
      go_simp
      exact ⟨kTwo_refl _ _ _ _, rfl⟩
    -- operation 3: Op.call ( callee := Callee.builtin Builtin.append, args := #[tmp 12, tmp 13], argTypes := #[22, 22] )
    refine ⟨fun r wx hG hs hq hf => ?_, ?_⟩
    · have hQ := hq rfl
      have h1 : wx.ownsRow B2 5 1 (r 12) 64 (bv kb) := hf.1
      have h2 : r 13 = .slice (some ⟨g5, 0, none⟩) 32 32 := hf.2.1
      refine (if_pos rfl).symm ▸ ?_
      clear hs hq hf
      unfold gives
      have hd := hd5.keep hQ
      refine gives_app Tryd.underlying22 infoU8s rfl (by decide) _ _ rfl rfl h2 h1 hd (by omega) (by omega) (Nat.le_trans hB2r hQ.size) ?_
      intro v' wy ho hg _
      refine ⟨kTwo_app (hg.below (Nat.le_trans hB2r hQ.size) (own_block h1)), ?_⟩
      show wy.ownsRow B2 5 1 v' _ _
      rw [bv_append]; exact ho
    -- operation 4: Op.call ( callee := Callee.value (func 14), args := #[tmp 14], argTypes := #[22] )
    refine ⟨fun r wx hG hs hq hf => ?_, ?_⟩
    · have hQ := hq rfl
      have h3 : wx.ownsRow B2 5 1 (r 14) (64 + 32) (bv (kb ++ hh)) := hf.1
      refine (if_pos rfl).symm ▸ ?_
      clear hs hq hf
      unfold gives
      go_simp
      refine (HS.out _ wx hQ (own_rd h3 (bv_one _))).mono ?_
      rintro e wy ⟨rfl, hb1⟩
      exact ⟨_, rfl, kTwo_of (by decide) (by decide) hb1, rfl⟩
    -- operation 5: Op.store 25 (tmp 4) (tmp 15)
    refine ⟨fun r wx hG hs hq hf => ?_, ?_⟩
    · have hQ := hq rfl
      have e4 : r 4 = .pointer (some ⟨g4, 0, none⟩) := hs 4 rfl
      have h4 : r 15 = .agg o.toArray := hf.1
      refine (if_pos rfl).symm ▸ ?_
      clear hs hq hf
      unfold gives
      refine gives_store_row 25 _ _ rfl g4 o e4 h4 (bv (zs 32)) 25 ((hQ.block _ hlt4w).trans hrow4) hfit1 hfit2 hone ?_
      intro wy h1 h2
      exact ⟨kTwo_last (below_grow (Below.refl _ _) h2 hB4 (Nat.lt_of_lt_of_le hlt4w hQ.size)), h1⟩
    exact trivial
  case hend =>
    intro u wz hG hfin
    have z5 : wz.heap[g4]? = some (.cells o.toArray 25 (0, 0)) := hfin 5 (by decide) (by kernel_rfl)
    clear hfin
    simp only [fill]
    go_simp
    go_wp2_with fail
    refine bodyPost_ret (v := .agg o.toArray) ?_ ?_ ?_
    · exact results_cell_row Tryd.results24 _ _ g4 25 _ (0, 0) _ rfl z5 Tryd.underlying25 rfl hosz
    · rfl
    · exact ⟨HO.out, HBW.out.trans (by rw [← HBE.out]; exact hG)⟩
end Go.Proofs.YtkcnakijfmemlaaDoor
