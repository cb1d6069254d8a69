/- The reference's root, hashed and down. (printed by gen/cle.py) · The reference's Lists and Clash; the law's same, few and awake. (printed by gen/clf.py) -/
import Derived.Test.YtfibhmgjkooemaaDoorClD
import Derived.Test.YtfibhmgjkooemaaDoorLeafLs
namespace Go.Proofs.YtfibhmgjkooemaaDoor
open Go.RowKit Sha Root Path Clash

set_option maxRecDepth 100000 in
set_option maxHeartbeats 1000000 in
theorem r17root_any (W : Int) (l : List (List UInt8)) (v : Value) (w : World) (hW : -9223372036854775808 ≤ W ∧ W ≤ 9223372036854775807) (hl : l.length ≤ 1000000) (ht : ∀ t ∈ l, t.length ≤ 140737488351232) (hv : Txw w v l) (hT : TabsR w) :
    Calls Tryd.prog 29 #[.int .i64 W, v] w fun e w' => e = .returned (.agg (bv (rt (hw W) l)).toArray) ∧ Below w.heap.size w w' := by
  have hz := (zero_of_info info32).1
  have hol := rt32 W l
  obtain ⟨a, c, rfl⟩ := hv.form
  have H0 := Lib.hid (fun wx (hb : Below w.heap.size w wx) => refLeaves_any W l _ wx hW hl ht (hv.keep hb) (hT.keepB hb))
  have H1 := Lib.hid (fun (va : Option Addr) (vc : Nat) wx (hb : Below w.heap.size w wx) (hr : Rd wx 32 (.slice va l.length vc) l.length ((l.map (leafH W)).flatMap bv)) => refRoot_any W hW l.length (l.map (leafH W)) va vc wx (by simp) (fun p hp => by obtain ⟨t, _, rfl⟩ := List.mem_map.1 hp; exact leafH_length W t) (by rw [List.length_map]; omega) (by rw [List.length_map]; exact hr) (hT.keepB hb))
  simp only [rootH_rt, List.length_map] at H1
  generalize rt (hw W) l = out at *
  generalize l.length = n at *
  obtain ⟨lv, hlv⟩ : ∃ x, x = (l.map (leafH W)).flatMap bv := ⟨_, rfl⟩
  have HLV := Lib.hid (fun u (hu : u ∈ lv) => (by rw [hlv] at hu; obtain ⟨p, _, hp⟩ := List.mem_flatMap.1 hu; exact bv_one p u hp : u.oneCell' = true))
  rw [← hlv] at H0 H1
  clear hlv hv hT hW hl ht
  have HOL := Lib.hid hol
  clear hol
  go_enter Tryd.func29, Tryd.ntmps29
  go_upto_region 1 with fail
  obtain ⟨w0, hw0⟩ : ∃ x : World, x = w.alloc (.cells (bv (zs 32)).toArray 35) := ⟨_, rfl⟩
  have hres0 : w0.heap[w.heap.size]? = some (.cells (bv (zs 32)).toArray 35 (0, 0)) := by rw [hw0]; exact heap_alloc_new _ _
  have hbw0 : Below w.heap.size w w0 := by rw [hw0]; exact (Below.refl _ _).alloc (Nat.le_refl _) _
  rw [← hw0]
  have HX0 := Lib.hid (And.intro hres0 hbw0)
  clear hw0 hres0 hbw0
  go_wp2_with fail
  refine (H0.out _ HX0.out.2).mono ?_
  rintro e w1 ⟨va, vc, rfl, ho1, hb1⟩
  have HX1 := Lib.hid (And.intro ((hb1.block _ (Array.getElem?_eq_some_iff.1 HX0.out.1).1).trans HX0.out.1) (HX0.out.2.trans (hb1.mono HX0.out.2.size)))
  have HO1 := Lib.hid (own_rd ho1 HLV.out)
  clear hb1 ho1 HX0
  go_wp2_with fail
  refine (H1.out va vc _ HX1.out.2 HO1.out).mono ?_
  rintro e w2 ⟨rfl, hb2⟩
  have HX := Lib.hid (And.intro ((hb2.block _ (Array.getElem?_eq_some_iff.1 HX1.out.1).1).trans HX1.out.1) (HX1.out.2.trans (hb2.mono HX1.out.2.size)))
  clear hb2 HX1
  go_wp2_with (with_reducible show wpList _ _ _ (⟨none, Op.store _ _ _, _, _, _, _⟩ :: _) _ _; refine wpList_store_whole rfl _ _ _ rfl w.heap.size _ rfl rfl _ _ HX.out.1 (hInfo' _ HOL.out) (by rw [bv_length, bv_length, HOL.out]; simp [zs]) (bv_one _) ?_; intro w9 HG9 hg9)
  refine bodyPost_ret (v := .agg (bv out).toArray) ?_ ?_ ?_
  · exact results_cell_row Tryd.results29 _ _ w.heap.size 35 _ (0, 0) _ rfl HG9.out Tryd.underlying35 rfl (hInfo _ HOL.out)
  · rfl
  · exact ⟨rfl, below_grow HX.out.2 hg9 (Nat.le_refl _) (Array.getElem?_eq_some_iff.1 HX.out.1).1⟩

/-- What each operation hands on. -/
def ha4F (W : Int) (b off c n K : Nat) (ra rb : List UInt8) : Nat → Value → World → Prop
  | 0, v, _ => v = .int .i64 W
  | 1, v, _ => v = .slice (some ⟨b, off, none⟩) n c
  | 2, v, _ => v = .int .i64 K
  | 3, v, _ => v = .slice (some ⟨b, off, none⟩) K c
  | 4, v, _ => v = .agg (bv ra).toArray
  | 5, v, _ => v = .int .i64 W
  | 6, v, _ => v = .slice (some ⟨b, off, none⟩) n c
  | 7, v, _ => v = .int .i64 K
  | 8, v, _ => v = .slice (some ⟨b, off + K, none⟩) (n - K) (c - K)
  | 9, v, _ => v = .agg (bv rb).toArray
  | 10, v, w => Rd w 1 v 65 (bv (1 :: (ra ++ rb)))
  | 11, v, w => Rd w 1 v 65 (bv (1 :: (ra ++ rb)))
  | _, _, _ => True

set_option maxHeartbeats 4000000 in
set_option maxRecDepth 100000 in
theorem hashed_any (W : Int) (l : List (List UInt8)) (v : Value) (w : World) (hW : -9223372036854775808 ≤ W ∧ W ≤ 9223372036854775807) (h0 : 0 < l.length) (hl : l.length ≤ 1000000) (ht : ∀ t ∈ l, t.length ≤ 140737488351232) (hv : Txw w v l) (hT : TabsR w) :
    Calls Tryd.prog 36 #[.int .i64 W, v] w fun e w' => ∃ v', e = .returned v' ∧ Rd w' 1 v' (tx (hw W) l).length (bv (tx (hw W) l)) ∧ Below w.heap.size w w' := by
  obtain ⟨b, off, c, rfl, hc, hat⟩ := hv.at h0
  by_cases h1 : l.length = 1
  · obtain ⟨x, rfl⟩ := List.length_eq_one_iff.1 h1
    obtain ⟨xa, xc, hcx, hrx⟩ := hat 0 x rfl
    rw [Nat.add_zero] at hcx
    have hxl := ht x (by simp)
    have HLT := Lib.hid (refLeafText_any x (.slice xa x.length xc) w (by omega) hrx)
    rw [tx_one]
    generalize 0 :: x = y at *
    generalize x.length = xn at *
    clear hat hrx hT hv ht hl hW h0 h1
    rw [show ([x] : List (List UInt8)).length = 1 from rfl] at hc ⊢
    clear hc
    go_enter Tryd.func36, Tryd.ntmps36
    go_wp2_with fail
    refine HLT.out.mono ?_
    rintro e w1 ⟨v', rfl, hr1, hb1⟩
    obtain ⟨a5, c5, rfl⟩ := hr1.form
    have HZ := Lib.hid (And.intro hr1 hb1)
    clear hr1 hb1
    go_wp2_with fail
    go_ret
    exact ⟨_, rfl, HZ.out.1, HZ.out.2⟩
  · obtain ⟨n, hln⟩ : ∃ n, n = l.length := ⟨_, rfl⟩
    have z1 : ((n : Int) == 1) = false := by simp; omega
    have htl := top_lt n (by omega)
    have htp := top_pos n
    have HSP := Lib.hid (Split_any n w (by omega) (by omega))
    obtain ⟨K, hK⟩ : ∃ k, k = top n := ⟨_, rfl⟩
    rw [← hK] at htl htp HSP
    have HRA0 := Lib.hid (fun wx (hb : Below w.heap.size w wx) => r17root_any W (l.take K) (.slice (some ⟨b, off, none⟩) K c) wx hW (by rw [List.length_take]; omega) (fun t h => ht t (List.mem_of_mem_take h)) ((hv.take rfl K (by omega)).keep hb) (hT.keepB hb))
    have HRB0 := Lib.hid (fun wx (hb : Below w.heap.size w wx) => r17root_any W (l.drop K) (.slice (some ⟨b, off + K, none⟩) (l.length - K) (c - K)) wx hW (by rw [List.length_drop]; omega) (fun t h => ht t (List.mem_of_mem_drop h)) ((hv.drop rfl K (by omega)).keep hb) (hT.keepB hb))
    rw [← hln] at HRB0 hc hl ⊢
    have HTX := Lib.hid (show (tx (hw W) l).length = 65 ∧ tx (hw W) l = 1 :: (rt (hw W) (l.take K) ++ rt (hw W) (l.drop K)) from ⟨tx_length _ (hw32 W) l (by omega), by rw [tx_more _ _ (by omega), txN, ← hln, ← hK]⟩)
    have HAB := Lib.hid (And.intro (rt32 W (l.take K)) (rt32 W (l.drop K)))
    generalize rt (hw W) (l.take K) = ra at *
    generalize rt (hw W) (l.drop K) = rb at *
    have hn2 : 2 ≤ n := by omega
    clear hat hT hv ht hW h0 h1 hln hK
    go_enter Tryd.func36, Tryd.ntmps36
    go_wp2_with fail
    refine HSP.out.mono ?_
    rintro e w1 ⟨rfl, hb1⟩
    have HB1 := Lib.hid hb1
    have HRA := Lib.hid (fun wx (hb : Below w1.heap.size w1 wx) => HRA0.out wx (HB1.out.trans (hb.mono HB1.out.size)))
    have HRB := Lib.hid (fun wx (hb : Below w1.heap.size w1 wx) => HRB0.out wx (HB1.out.trans (hb.mono HB1.out.size)))
    clear hb1
    go_upto_region 4 with fail
    refine wp_region_steps [some 16, some 17, some 18, some 19, some 20, some 21, some 22, some 23, some 24, some 25, some 26, some 4] [] (ha4F W b off c n K ra rb) (fun _ wx wy => Below wx.heap.size wx wy) (fun wx => Below w1.heap.size w1 wx) (by kernel_rfl) (by kernel_rfl) rfl (by kernel_rfl) (Below.refl _ _).drew (fun _ wx => Below.refl _ _) (fun _ wx wy h k => h.trans (k.mono h.size)) ?hF ?hstep ?hend
    case hF =>
      exact ⟨fun _ _ _ _ _ _ h => h, ⟨fun _ _ _ _ _ _ h => h, ⟨fun _ _ _ _ _ _ h => h, ⟨fun _ _ _ _ _ _ h => h, ⟨fun _ _ _ _ _ _ h => h, ⟨fun _ _ _ _ _ _ h => h, ⟨fun _ _ _ _ _ _ h => h, ⟨fun _ _ _ _ _ _ h => h, ⟨fun _ _ _ _ _ _ h => h, ⟨fun _ _ _ _ _ _ h => h, ⟨fun _ _ _ _ _ k h => Rd.keep h k, ⟨fun _ _ _ _ _ k h => Rd.keep h k, trivial⟩⟩⟩⟩⟩⟩⟩⟩⟩⟩⟩⟩
    case hstep =>
      refine ⟨fun r wx hG hs hq hf => ?_, ?_⟩
      · have e0 : r 0 = .int .i64 W := hs 0 rfl
        refine (if_pos rfl).symm ▸ ?_
        clear hs hq hf
        unfold gives
        go_simp
        exact ⟨Below.refl _ _, rfl⟩
      refine ⟨fun r wx hG hs hq hf => ?_, ?_⟩
      · have e1 : r 1 = .slice (some ⟨b, off, none⟩) n c := hs 1 rfl
        refine (if_pos rfl).symm ▸ ?_
        clear hs hq hf
        unfold gives
        go_simp
        exact ⟨Below.refl _ _, rfl⟩
      refine ⟨fun r wx hG hs hq hf => ?_, ?_⟩
      · have e5 : r 5 = .int .i64 K := hs 5 rfl
        refine (if_pos rfl).symm ▸ ?_
        clear hs hq hf
        unfold gives
        go_simp
        exact ⟨Below.refl _ _, rfl⟩
      refine ⟨fun r wx hG hs hq hf => ?_, ?_⟩
      · have h1 : r 17 = .slice (some ⟨b, off, none⟩) n c := hf.1
        have h2 : r 18 = .int .i64 K := hf.2.1
        refine (if_pos rfl).symm ▸ ?_
        clear hs hq hf
        unfold gives
        have y1 : (0 : Int) ≤ (K : Int) := by omega
        have y2 : (K : Int) ≤ (c : Int) := by omega
        go_simp
        exact ⟨Below.refl _ _, rfl⟩
      refine ⟨fun r wx hG hs hq hf => ?_, ?_⟩
      · have h0 : r 16 = .int .i64 W := hf.1
        have h3 : r 19 = .slice (some ⟨b, off, none⟩) K c := hf.2.1
        refine (if_pos rfl).symm ▸ ?_
        clear hs hq hf
        unfold gives
        go_simp
        refine (HRA.out wx hG).mono ?_
        rintro e wy ⟨rfl, hb1⟩
        exact ⟨_, rfl, hb1, rfl⟩
      refine ⟨fun r wx hG hs hq hf => ?_, ?_⟩
      · have e0 : r 0 = .int .i64 W := hs 0 rfl
        refine (if_pos rfl).symm ▸ ?_
        clear hs hq hf
        unfold gives
        go_simp
        exact ⟨Below.refl _ _, rfl⟩
      refine ⟨fun r wx hG hs hq hf => ?_, ?_⟩
      · have e1 : r 1 = .slice (some ⟨b, off, none⟩) n c := hs 1 rfl
        refine (if_pos rfl).symm ▸ ?_
        clear hs hq hf
        unfold gives
        go_simp
        exact ⟨Below.refl _ _, rfl⟩
      refine ⟨fun r wx hG hs hq hf => ?_, ?_⟩
      · have e5 : r 5 = .int .i64 K := hs 5 rfl
        refine (if_pos rfl).symm ▸ ?_
        clear hs hq hf
        unfold gives
        go_simp
        exact ⟨Below.refl _ _, rfl⟩
      refine ⟨fun r wx hG hs hq hf => ?_, ?_⟩
      · have h6 : r 22 = .slice (some ⟨b, off, none⟩) n c := hf.1
        have h7 : r 23 = .int .i64 K := hf.2.1
        refine (if_pos rfl).symm ▸ ?_
        clear hs hq hf
        unfold gives
        have y1 : (0 : Int) ≤ (K : Int) := by omega
        have y2 : (K : Int) ≤ (n : Int) := by omega
        have y3 : (n : Int) ≤ (c : Int) := by omega
        have y4 : ¬ (c = K) := by omega
        go_simp
        exact ⟨Below.refl _ _, rfl⟩
      refine ⟨fun r wx hG hs hq hf => ?_, ?_⟩
      · have h5 : r 21 = .int .i64 W := hf.1
        have h8 : r 24 = .slice (some ⟨b, off + K, none⟩) (n - K) (c - K) := hf.2.1
        refine (if_pos rfl).symm ▸ ?_
        clear hs hq hf
        unfold gives
        go_simp
        refine (HRB.out wx hG).mono ?_
        rintro e wy ⟨rfl, hb1⟩
        exact ⟨_, rfl, hb1, rfl⟩
      refine ⟨fun r wx hG hs hq hf => ?_, ?_⟩
      · have h4 : r 20 = .agg (bv ra).toArray := hf.1
        have h9 : r 25 = .agg (bv rb).toArray := hf.2.1
        refine (if_pos rfl).symm ▸ ?_
        clear hs hq hf
        unfold gives
        go_simp
        refine (refNodeText_any ra rb wx HAB.out.1 HAB.out.2).mono ?_
        rintro e wy ⟨v', rfl, hq1, hb1⟩
        rw [show (1 :: (ra ++ rb)).length = 65 by simp [HAB.out.1, HAB.out.2]] at hq1
        exact ⟨_, rfl, hb1, hq1⟩
      refine ⟨fun r wx hG hs hq hf => ?_, ?_⟩
      · have h10 : Rd wx 1 (r 26) 65 (bv (1 :: (ra ++ rb))) := hf.1
        refine (if_pos rfl).symm ▸ ?_
        clear hs hq hf
        unfold gives
        go_simp
        exact ⟨Below.refl _ _, h10⟩
      exact trivial
    case hend =>
      intro u wz hG hfin
      have z11 : Rd wz 1 (u 11) 65 (bv (1 :: (ra ++ rb))) := hfin 11 (by decide) (by kernel_rfl)
      clear hfin
      simp only [fill]
      have HZ := Lib.hid (And.intro z11 (HB1.out.trans (hG.mono HB1.out.size)))
      obtain ⟨a5, c5, h5⟩ := z11.form
      rw [h5] at HZ ⊢
      clear z11 hG h5
      go_simp
      go_wp2_with fail
      go_ret
      exact ⟨_, rfl, by rw [HTX.out.1, HTX.out.2]; exact HZ.out.1, HZ.out.2⟩

/-- Two cells of a pair are set. -/
theorem s2_facts {w : World} {p : Nat} {o1 o2 a b : Value} {T : TypeId} (hp : w.heap[p]? = some (.cells #[o1, o2] T (0, 0))) :
    ((w.setCell ⟨p, 0, none⟩ a).setCell ⟨p, 1, none⟩ b).heap[p]? = some (.cells #[a, b] T (0, 0)) ∧ w.grownBy ((w.setCell ⟨p, 0, none⟩ a).setCell ⟨p, 1, none⟩ b) (some p) := by
  have h1 := heap_setCell_same w p 0 _ _ a hp
  have h2 := heap_setCell_same _ p 1 _ _ b h1
  refine ⟨by rw [h2]; rfl, ⟨rfl, rfl, rfl, by simp [World.setCell], fun k _ hk => ?_⟩⟩
  have hkp : k ≠ p := fun e => hk (by rw [e])
  rw [heap_setCell_other _ _ _ _ hkp, heap_setCell_other _ _ _ _ hkp]
/-- Bytes are no part of a pair. -/
theorem Rd.pairB {w w' : World} {p : Nat} {a1 a2 : Option Addr} {n1 n2 c1 c2 : Nat} {T : TypeId} {v : Value} {n : Nat} {l : List UInt8} (h : Rd w 1 v n (bv l)) (hp : w.heap[p]? = some (.cells #[.slice a1 n1 c1, .slice a2 n2 c2] T (0, 0))) (hg : w.grownBy w' (some p)) : Rd w' 1 v n (bv l) := by
  by_cases h0 : n = 0
  · obtain ⟨hl, h1, h2 | ⟨ad, c, hv, hc, hcell⟩⟩ := h
    · exact ⟨hl, h1, .inl h2⟩
    · refine ⟨hl, h1, .inr ⟨ad, c, hv, hc, fun j u hu => ?_⟩⟩
      have hj := (List.getElem?_eq_some_iff.1 hu).1
      rw [hl, h0] at hj
      omega
  · obtain ⟨blk, off, c, hv, hc, hcell⟩ := h.at (by omega)
    refine ⟨h.1, h.2.1, .inr ⟨⟨blk, off, none⟩, c, hv, hc, fun j u hu => ?_⟩⟩
    have h3 := hcell j u hu
    rw [Addr.add_lit]
    obtain ⟨x, rfl⟩ : ∃ x : UInt8, u = .int .u8 x.toNat := by
      unfold bv at hu
      rw [List.getElem?_map] at hu
      obtain ⟨x, _, rfl⟩ := Option.map_eq_some_iff.1 hu
      exact ⟨x, rfl⟩
    rw [← h3]
    refine World.cell?_of_block (hg.block _ (World.block_lt_of_cell? w _ h3) (fun e1 => ?_))
    have e1 : blk = p := by simpa using e1
    subst e1
    simp only [World.cell?, hp] at h3
    match hj : off + j with
    | 0 => rw [hj] at h3; simp at h3
    | 1 => rw [hj] at h3; simp at h3
    | k + 2 => rw [hj] at h3; simp at h3
theorem Rd.s2 {w : World} {p : Nat} {a1 a2 : Option Addr} {n1 n2 c1 c2 : Nat} {T : TypeId} {v a b : Value} {n : Nat} {l : List UInt8} (h : Rd w 1 v n (bv l)) (hp : w.heap[p]? = some (.cells #[.slice a1 n1 c1, .slice a2 n2 c2] T (0, 0))) : Rd ((w.setCell ⟨p, 0, none⟩ a).setCell ⟨p, 1, none⟩ b) 1 v n (bv l) := h.pairB hp (s2_facts hp).2
/-- One operation sets a pair; the others leave alone what there was. -/
def kPr (q B j : Nat) (w w' : World) : Prop := if j = q then w' = w ∨ ∃ g a1 n1 c1 a2 n2 c2 T, B ≤ g ∧ w.heap[g]? = some (.cells #[.slice a1 n1 c1, .slice a2 n2 c2] T (0, 0)) ∧ w.grownBy w' (some g) else Below w.heap.size w w'
theorem kPr_refl (q B j : Nat) (w : World) : kPr q B j w w := by
  unfold kPr; split
  · exact .inl rfl
  · exact Below.refl _ _
theorem kPr_of {q B j : Nat} {w w' : World} (h1 : j ≠ q) (h : Below w.heap.size w w') : kPr q B j w w' := by unfold kPr; rw [if_neg h1]; exact h
theorem kPr_st {q B : Nat} {w w' : World} {g : Nat} {a1 a2 : Option Addr} {n1 n2 c1 c2 : Nat} {T : TypeId} (hB : B ≤ g) (h : w.heap[g]? = some (.cells #[.slice a1 n1 c1, .slice a2 n2 c2] T (0, 0))) (k : w.grownBy w' (some g)) : kPr q B q w w' := by
  unfold kPr; rw [if_pos rfl]; exact .inr ⟨g, a1, n1, c1, a2, n2, c2, T, hB, h, k⟩
theorem kPr_below {q B j : Nat} {w w' : World} (h1 : j ≠ q) (h : kPr q B j w w') : Below w.heap.size w w' := by unfold kPr at h; rwa [if_neg h1] at h
theorem kPr_base {q B j : Nat} {w w' : World} (hB : B ≤ w.heap.size) (h : kPr q B j w w') : Below B w w' := by
  unfold kPr at h
  split at h
  · rcases h with rfl | ⟨g, a1, n1, c1, a2, n2, c2, T, h1, _, h2⟩
    · exact Below.refl _ _
    · exact ⟨h2.os, h2.tape, h2.output, h2.size, fun k hk => h2.block k (by omega) (by simp; omega)⟩
  · exact h.mono hB
theorem Rd.kPr {q B j : Nat} {w w' : World} {v : Value} {n : Nat} {l : List UInt8} (h : Rd w 1 v n (bv l)) (k : kPr q B j w w') : Rd w' 1 v n (bv l) := by
  unfold Go.Proofs.YtfibhmgjkooemaaDoor.kPr at k
  split at k
  · rcases k with rfl | ⟨g, a1, n1, c1, a2, n2, c2, T, _, h1, h2⟩
    · exact h
    · exact h.pairB h1 h2
  · exact h.keep k
/-- What down answers. -/
def dnA (o : Option (List UInt8 × List UInt8)) : Bool × List UInt8 × List UInt8 := match o with
  | none => (false, [], [])
  | some p => (true, p.1, p.2)
def DnE (w w' : World) (r : Bool × List UInt8 × List UInt8) (e : Ending) : Prop := ∃ a1 c1 a2 c2, e = .returned (.tuple #[.agg #[.slice a1 r.2.1.length c1, .slice a2 r.2.2.length c2], .bool r.1]) ∧ Rd w' 1 (.slice a1 r.2.1.length c1) r.2.1.length (bv r.2.1) ∧ Rd w' 1 (.slice a2 r.2.2.length c2) r.2.2.length (bv r.2.2) ∧ Below w.heap.size w w'
/-- What each operation hands on. -/
def dn8F (W : Int) (B b1 o1 c1 b2 o2 c2 n K : Nat) (bb : Bool) (X Y : List UInt8) : Nat → Value → World → Prop
  | 0, v, _ => v = .int .i64 W
  | 1, v, _ => v = .slice (some ⟨b1, o1, none⟩) n c1
  | 2, v, _ => v = .int .i64 K
  | 3, v, _ => v = .slice (some ⟨b1, o1, none⟩) K c1
  | 4, v, _ => v = .slice (some ⟨b2, o2, none⟩) n c2
  | 5, v, _ => v = .int .i64 K
  | 6, v, _ => v = .slice (some ⟨b2, o2, none⟩) K c2
  | 7, v, w => ∃ a1 c1 a2 c2, v = .tuple #[.agg #[.slice a1 X.length c1, .slice a2 Y.length c2], .bool bb] ∧ Rd w 1 (.slice a1 X.length c1) X.length (bv X) ∧ Rd w 1 (.slice a2 Y.length c2) Y.length (bv Y)
  | 8, v, w => ∃ a1 c1 a2 c2, v = .tuple #[.agg #[.slice a1 X.length c1, .slice a2 Y.length c2], .bool bb] ∧ Rd w 1 (.slice a1 X.length c1) X.length (bv X) ∧ Rd w 1 (.slice a2 Y.length c2) Y.length (bv Y)
  | 9, v, w => ∃ a1 c1 a2 c2, v = .agg #[.slice a1 X.length c1, .slice a2 Y.length c2] ∧ Rd w 1 (.slice a1 X.length c1) X.length (bv X) ∧ Rd w 1 (.slice a2 Y.length c2) Y.length (bv Y)
  | 10, v, _ => v = .bool bb
  | 11, v, w => ∃ g, v = .pointer (some ⟨g, 0, none⟩) ∧ B ≤ g ∧ w.heap[g]? = some (.cells #[.slice none 0 0, .slice none 0 0] 27 (0, 0))
  | 12, v, w => ∃ g, v = .pointer (some ⟨g, 0, none⟩) ∧ B ≤ g ∧ ∃ a1 c1 a2 c2, w.heap[g]? = some (.cells #[.slice a1 X.length c1, .slice a2 Y.length c2] 27 (0, 0)) ∧ Rd w 1 (.slice a1 X.length c1) X.length (bv X) ∧ Rd w 1 (.slice a2 Y.length c2) Y.length (bv Y)
  | 13, v, _ => v = .bool bb
  | _, _, _ => True
/-- What each operation hands on. -/
def dn11F (W : Int) (p6 b1 o1 c1 b2 o2 c2 n K : Nat) (bb : Bool) (X Y : List UInt8) : Nat → Value → World → Prop
  | 0, v, _ => v = .int .i64 W
  | 1, v, _ => v = .slice (some ⟨b1, o1, none⟩) n c1
  | 2, v, _ => v = .int .i64 K
  | 3, v, _ => v = .slice (some ⟨b1, o1 + K, none⟩) (n - K) (c1 - K)
  | 4, v, _ => v = .slice (some ⟨b2, o2, none⟩) n c2
  | 5, v, _ => v = .int .i64 K
  | 6, v, _ => v = .slice (some ⟨b2, o2 + K, none⟩) (n - K) (c2 - K)
  | 7, v, w => ∃ a1 c1 a2 c2, v = .tuple #[.agg #[.slice a1 X.length c1, .slice a2 Y.length c2], .bool bb] ∧ Rd w 1 (.slice a1 X.length c1) X.length (bv X) ∧ Rd w 1 (.slice a2 Y.length c2) Y.length (bv Y)
  | 8, v, w => ∃ a1 c1 a2 c2, v = .agg #[.slice a1 X.length c1, .slice a2 Y.length c2] ∧ Rd w 1 (.slice a1 X.length c1) X.length (bv X) ∧ Rd w 1 (.slice a2 Y.length c2) Y.length (bv Y)
  | 9, v, _ => v = .bool bb
  | 10, _, w => ∃ a1 c1 a2 c2, w.heap[p6]? = some (.cells #[.slice a1 X.length c1, .slice a2 Y.length c2] 27 (0, 0)) ∧ Rd w 1 (.slice a1 X.length c1) X.length (bv X) ∧ Rd w 1 (.slice a2 Y.length c2) Y.length (bv Y)
  | 11, v, _ => v = .bool bb
  | _, _, _ => True

theorem below_ofp {w w1 w2 : World} {p : Nat} (hb : Below w.heap.size w w1) (hp : w.heap.size ≤ p) (hg : w1.grownBy w2 (some p)) : Below w.heap.size w w2 :=
  ⟨hg.os.trans hb.os, hg.tape.trans hb.tape, hg.output.trans hb.output, Nat.le_trans hb.size hg.size, fun k hk => (hg.block k (Nat.lt_of_lt_of_le hk hb.size) (fun e => by simp only [Option.some.injEq] at e; omega)).trans (hb.block k hk)⟩

set_option maxHeartbeats 8000000 in
set_option maxRecDepth 100000 in
theorem down_any (W : Int) (hW : -9223372036854775808 ≤ W ∧ W ≤ 9223372036854775807) : ∀ (f : Nat) (la lb : List (List UInt8)) (v u : Value) (w : World), la.length ≤ f → la.length = lb.length → 0 < la.length → la.length ≤ 1000000 → (∀ t ∈ la, t.length ≤ 140737488351232) → (∀ t ∈ lb, t.length ≤ 140737488351232) → Txw w v la → Txw w u lb → TabsR w →
    Calls Tryd.prog 30 #[.int .i64 W, v, u] w fun e w' => DnE w w' (dnA (meetF (hw W) f la lb)) e := by
  intro f
  induction f with
  | zero => intro la lb v u w hf hl h0; omega
  | succ f ih =>
    intro la lb v u w hf hl h0 hln hta htb hv hu hT
    obtain ⟨b1, o1, c1, rfl, hc1, hat1⟩ := hv.at h0
    obtain ⟨b2, o2, c2, rfl, hc2, hat2⟩ := hu.at (by omega)
    obtain ⟨w0, hw0⟩ : ∃ x : World, x = w.alloc (.cells #[.slice none 0 0, .slice none 0 0] 27) := ⟨_, rfl⟩
    have hB0 : Below w.heap.size w w0 := by rw [hw0]; exact (Below.refl _ _).alloc (Nat.le_refl _) _
    have r6 : w0.heap[w.heap.size]? = some (.cells #[.slice none 0 0, .slice none 0 0] 27 (0, 0)) := by rw [hw0]; exact heap_alloc_new _ _
    have HHA := Lib.hid (fun wx (hb : Below w0.heap.size w0 wx) => hashed_any W la (.slice (some ⟨b1, o1, none⟩) la.length c1) wx hW h0 hln hta (hv.keep (hB0.trans (hb.mono hB0.size))) (hT.keepB (hB0.trans (hb.mono hB0.size))))
    have HHB := Lib.hid (fun wx (hb : Below w0.heap.size w0 wx) => hashed_any W lb (.slice (some ⟨b2, o2, none⟩) lb.length c2) wx hW (by omega) (by omega) htb (hu.keep (hB0.trans (hb.mono hB0.size))) (hT.keepB (hB0.trans (hb.mono hB0.size))))
    obtain ⟨n, hn⟩ : ∃ n, n = la.length := ⟨_, rfl⟩
    have hnb : lb.length = n := by omega
    have HA := Lib.hid hW
    have HI := Lib.hid ih
    have HARG := Lib.hid (And.intro hv (And.intro hu (And.intro hta (And.intro htb (And.intro hT hl)))))
    rw [← hn] at HHA hc1 h0 hf hln ⊢
    rw [hnb] at HHB hc2 ⊢
    have HN := Lib.hid (And.intro hn hnb)
    have HW0 := Lib.hid hw0
    have H0 := Lib.hid (And.intro hB0 r6)
    obtain ⟨M, hM⟩ : ∃ M, M = meetF (hw W) (f + 1) la lb := ⟨_, rfl⟩
    rw [← hM]
    have HM := Lib.hid hM
    clear hat1 hat2 hW ih hv hu hta htb hT hl hw0 hB0 r6 hnb hM hn
    go_enter Tryd.func30, Tryd.ntmps30
    go_upto_region 1 with fail
    rw [show w.alloc (.cells #[.slice none 0 0, .slice none 0 0] 27) = w0 from HW0.out.symm]
    go_wp2_with fail
    refine (HHA.out _ (Below.refl _ _)).mono ?_
    rintro e w1 ⟨va, rfl, hra, hb1⟩
    obtain ⟨xa, xc, rfl⟩ := hra.form
    have H1 := Lib.hid (And.intro hra hb1)
    clear hra hb1
    go_wp2_with fail
    refine (HHB.out _ H1.out.2).mono ?_
    rintro e w2 ⟨vb, rfl, hrb, hb2⟩
    obtain ⟨ya, yc, rfl⟩ := hrb.form
    have H2 := Lib.hid (And.intro (H1.out.1.keep hb2) (And.intro hrb (H1.out.2.trans (hb2.mono H1.out.2.size))))
    have hs1 := string_of_bytes (P := Tryd.prog) (w := w2) Tryd.underlying25 Tryd.underlying5 Tryd.underlying9 H2.out.1
    have hs2 := string_of_bytes (P := Tryd.prog) (w := w2) Tryd.underlying25 Tryd.underlying5 Tryd.underlying9 H2.out.2.1
    have R2 := Lib.hid (And.intro ((H2.out.2.2.block _ (Array.getElem?_eq_some_iff.1 H0.out.2).1).trans H0.out.2) (H0.out.1.trans (H2.out.2.2.mono H0.out.1.size)))
    clear hrb hb2 H1
    have h60 : w2.cell? ⟨w.heap.size, 0, none⟩ = some (.slice none 0 0) := cell_of_rowp R2.out.1 rfl
    have h61 : w2.cell? ⟨w.heap.size, 1, none⟩ = some (.slice none 0 0) := cell_of_rowp R2.out.1 rfl
    have z60 : w2.frozen? ⟨w.heap.size, 0, none⟩ = false := by simp [World.frozen?, R2.out.1]
    have z61 : w2.frozen? ⟨w.heap.size, 1, none⟩ = false := by simp [World.frozen?, R2.out.1]
    by_cases hq : tx (hw W) la = tx (hw W) lb
    · have hqb : (tx (hw W) la == tx (hw W) lb) = true := beq_iff_eq.2 hq
      have HQ := Lib.hid hq
      clear hq
      obtain ⟨xA, hxA⟩ : ∃ x, x = tx (hw W) la := ⟨_, rfl⟩
      obtain ⟨xB, hxB⟩ : ∃ x, x = tx (hw W) lb := ⟨_, rfl⟩
      rw [← hxA] at hs1 hqb ⊢
      rw [← hxB] at hs2 hqb ⊢
      clear hxA hxB
      by_cases h1 : n = 1
      · subst h1
        have HM1 := Lib.hid (show M = none by rw [HM.out]; exact meet_one _ f la lb HN.out.1.symm HQ.out)
        have hs6 := s2_facts (a := .slice none 0 0) (b := .slice none 0 0) R2.out.1
        have HS6 := Lib.hid hs6
        clear hs6
        go_wp2_with fail
        have hld := pair_ld Tryd.prog _ w.heap.size _ _ _ 27 HS6.out.1 Tryd.underlying27 rfl pairInfo
        have hbz := below_ofp R2.out.2 (Nat.le_refl _) HS6.out.2
        obtain ⟨wz, hwz⟩ : ∃ x, x = (w2.setCell ⟨w.heap.size, 0, none⟩ (.slice none 0 0)).setCell ⟨w.heap.size, 1, none⟩ (.slice none 0 0) := ⟨_, rfl⟩
        rw [← hwz] at hld hbz ⊢
        refine bodyPost_ret (v := .tuple #[.agg #[.slice none 0 0, .slice none 0 0], .bool false]) ?_ ?_ ?_
        · simp [results, Tryd.results30, asAddr, hld]
        · rfl
        · exact (show DnE w wz (dnA M) _ by rw [HM1.out]; exact ⟨none, 0, none, 0, rfl, Rd.nil _ _, Rd.nil _ _, hbz⟩)
      · have z1 : ((n : Int) == 1) = false := by simp; omega
        have htl := top_lt n (by omega)
        have htp := top_pos n
        have HSP := Lib.hid (Split_any n w2 (by omega) (by omega))
        obtain ⟨K, hK⟩ : ∃ k, k = top n := ⟨_, rfl⟩
        rw [← hK] at htl htp HSP
        have HK := Lib.hid hK
        clear hK
        go_wp2_with fail
        refine HSP.out.mono ?_
        rintro e w3 ⟨rfl, hb3⟩
        have H3 := Lib.hid (And.intro ((hb3.block _ (Array.getElem?_eq_some_iff.1 R2.out.1).1).trans R2.out.1) (R2.out.2.trans (hb3.mono R2.out.2.size)))
        clear hb3 h60 h61 z60 z61 hs1 hs2 hqb
        have htk : (la.take K).length = K ∧ (lb.take K).length = K := ⟨by rw [List.length_take, ← HN.out.1]; omega, by rw [List.length_take, HN.out.2]; omega⟩
        have hdk : (la.drop K).length = n - K ∧ (lb.drop K).length = n - K := ⟨by rw [List.length_drop, ← HN.out.1], by rw [List.length_drop, HN.out.2]⟩
        have HD := Lib.hid (fun wx (hb : Below w3.heap.size w3 wx) => HI.out (la.take K) (lb.take K) (.slice (some ⟨b1, o1, none⟩) K c1) (.slice (some ⟨b2, o2, none⟩) K c2) wx (by omega) (by omega) (by omega) (by omega) (fun t h => HARG.out.2.2.1 t (List.mem_of_mem_take h)) (fun t h => HARG.out.2.2.2.1 t (List.mem_of_mem_take h))
          ((HARG.out.1.take rfl K (by rw [← HN.out.1]; omega)).keep (H3.out.2.trans (hb.mono H3.out.2.size))) ((HARG.out.2.1.take rfl K (by rw [HN.out.2]; omega)).keep (H3.out.2.trans (hb.mono H3.out.2.size))) (HARG.out.2.2.2.2.1.keepB (H3.out.2.trans (hb.mono H3.out.2.size))))
        have HD2' := Lib.hid (fun wx (hb : Below w.heap.size w wx) => HI.out (la.drop K) (lb.drop K) (.slice (some ⟨b1, o1 + K, none⟩) (n - K) (c1 - K)) (.slice (some ⟨b2, o2 + K, none⟩) (n - K) (c2 - K)) wx (by omega) (by omega) (by omega) (by omega) (fun t h => HARG.out.2.2.1 t (List.mem_of_mem_drop h)) (fun t h => HARG.out.2.2.2.1 t (List.mem_of_mem_drop h))
          (by have := (HARG.out.1.drop rfl K (by rw [← HN.out.1]; omega)).keep hb; rwa [← HN.out.1] at this) (by have := (HARG.out.2.1.drop rfl K (by rw [HN.out.2]; omega)).keep hb; rwa [HN.out.2] at this) (HARG.out.2.2.2.2.1.keepB hb))
        have HTL := Lib.hid (show 2 ≤ la.length ∧ K = top la.length ∧ K = top lb.length by rw [← HN.out.1, HN.out.2]; exact ⟨by omega, HK.out, HK.out⟩)
        obtain ⟨D, hD⟩ : ∃ D, D = dnA (meetF (hw W) f (la.take K) (lb.take K)) := ⟨_, rfl⟩
        rw [← hD] at HD
        have HDE := Lib.hid hD
        obtain ⟨bb, X, Y⟩ := D
        have HD := Lib.hid (fun wx hb => (HD.out wx hb))
        simp only [DnE] at HD
        clear hD htk hdk
        go_upto_region 8 with fail
        refine wp_region_link [some 35, some 36, some 37, some 38, some 39, some 40, some 41, some 42, some 34, some 43, some 44, some 11, none, some 12] [] 0 (fun _ => True) [] [(12, 11)] (dn8F W w3.heap.size b1 o1 c1 b2 o2 c2 n K bb X Y) (kPr 12 w3.heap.size) (fun wx => Below w3.heap.size w3 wx) (by kernel_rfl) (by kernel_rfl) rfl (by kernel_rfl) (by kernel_rfl) (by kernel_rfl) (Below.refl _ _).drew (trivial) (fun _ _ _ _ _ _ => trivial) (fun _ _ => kPr_refl _ _ _ _) (fun _ _ _ h k => h.trans (kPr_base h.size k)) ?hF ?hstep ?hend
        case hF =>
          exact ⟨fun _ _ _ _ _ _ h => h, ⟨fun _ _ _ _ _ _ h => h, ⟨fun _ _ _ _ _ _ h => h, ⟨fun _ _ _ _ _ _ h => h, ⟨fun _ _ _ _ _ _ h => h, ⟨fun _ _ _ _ _ _ h => h, ⟨fun _ _ _ _ _ _ h => h, ⟨fun j hg _ _ _ k h => by obtain ⟨a1, c1, a2, c2, e, q1, q2⟩ := h; exact ⟨a1, c1, a2, c2, e, q1.kPr k, q2.kPr k⟩, ⟨fun j hg _ _ _ k h => by obtain ⟨a1, c1, a2, c2, e, q1, q2⟩ := h; exact ⟨a1, c1, a2, c2, e, q1.kPr k, q2.kPr k⟩, ⟨fun j hg _ _ _ k h => by obtain ⟨a1, c1, a2, c2, e, q1, q2⟩ := h; exact ⟨a1, c1, a2, c2, e, q1.kPr k, q2.kPr k⟩, ⟨fun _ _ _ _ _ _ h => h, ⟨fun j hg _ _ _ k h => by obtain ⟨g, e, q1, q2⟩ := h; exact ⟨g, e, q1, ((kPr_below (fun e => by subst e; exact absurd hg (by rw [show goneB _ 11 12 = true by kernel_rfl]; simp)) k).block _ (Array.getElem?_eq_some_iff.1 q2).1).trans q2⟩, ⟨fun j hg _ _ _ k h => by obtain ⟨g, e, q1, a1, c1, a2, c2, q2, q3, q4⟩ := h; exact ⟨g, e, q1, a1, c1, a2, c2, ((kPr_below (fun e => by subst e; exact absurd hg (by rw [show goneB _ 12 12 = true by kernel_rfl]; simp)) k).block _ (Array.getElem?_eq_some_iff.1 q2).1).trans q2, q3.kPr k, q4.kPr k⟩, ⟨fun _ _ _ _ _ _ h => h, trivial⟩⟩⟩⟩⟩⟩⟩⟩⟩⟩⟩⟩⟩⟩
        case hstep =>
          refine ⟨fun r wx hG hs hq hf => ?_, ?_⟩
          · have e0 : r 0 = .int .i64 W := hs 0 rfl
            refine (if_pos rfl).symm ▸ ?_
            clear hs hq hf
            unfold gives
            go_simp
            exact ⟨kPr_refl _ _ _ _, rfl⟩
          refine ⟨fun r wx hG hs hq hf => ?_, ?_⟩
          · have e1 : r 1 = .slice (some ⟨b1, o1, none⟩) n c1 := hs 1 rfl
            refine (if_pos rfl).symm ▸ ?_
            clear hs hq hf
            unfold gives
            go_simp
            exact ⟨kPr_refl _ _ _ _, rfl⟩
          refine ⟨fun r wx hG hs hq hf => ?_, ?_⟩
          · have e10 : r 10 = .int .i64 K := hs 10 rfl
            refine (if_pos rfl).symm ▸ ?_
            clear hs hq hf
            unfold gives
            go_simp
            exact ⟨kPr_refl _ _ _ _, rfl⟩
          refine ⟨fun r wx hG hs hq hf => ?_, ?_⟩
          · have h1 : r 36 = .slice (some ⟨b1, o1, none⟩) n c1 := hf.1
            have h2 : r 37 = .int .i64 K := hf.2.1
            refine (if_pos rfl).symm ▸ ?_
            clear hs hq hf
            unfold gives
            have y1 : (0 : Int) ≤ (K : Int) := by omega
            have y2 : (K : Int) ≤ (c1 : Int) := by omega
            go_simp
            exact ⟨kPr_refl _ _ _ _, rfl⟩
          refine ⟨fun r wx hG hs hq hf => ?_, ?_⟩
          · have e2 : r 2 = .slice (some ⟨b2, o2, none⟩) n c2 := hs 2 rfl
            refine (if_pos rfl).symm ▸ ?_
            clear hs hq hf
            unfold gives
            go_simp
            exact ⟨kPr_refl _ _ _ _, rfl⟩
          refine ⟨fun r wx hG hs hq hf => ?_, ?_⟩
          · have e10 : r 10 = .int .i64 K := hs 10 rfl
            refine (if_pos rfl).symm ▸ ?_
            clear hs hq hf
            unfold gives
            go_simp
            exact ⟨kPr_refl _ _ _ _, rfl⟩
          refine ⟨fun r wx hG hs hq hf => ?_, ?_⟩
          · have h4 : r 39 = .slice (some ⟨b2, o2, none⟩) n c2 := hf.1
            have h5 : r 40 = .int .i64 K := hf.2.1
            refine (if_pos rfl).symm ▸ ?_
            clear hs hq hf
            unfold gives
            have y1 : (0 : Int) ≤ (K : Int) := by omega
            have y2 : (K : Int) ≤ (c2 : Int) := by omega
            go_simp
            exact ⟨kPr_refl _ _ _ _, rfl⟩
          refine ⟨fun r wx hG hs hq hf => ?_, ?_⟩
          · have h0 : r 35 = .int .i64 W := hf.1
            have h3 : r 38 = .slice (some ⟨b1, o1, none⟩) K c1 := hf.2.1
            have h6 : r 41 = .slice (some ⟨b2, o2, none⟩) K c2 := hf.2.2.1
            refine (if_pos rfl).symm ▸ ?_
            clear hs hq hf
            unfold gives
            go_simp
            refine (HD.out wx hG).mono ?_
            rintro e wy ⟨a1, c1, a2, c2, rfl, hq1, hq2, hb1⟩
            exact ⟨_, rfl, kPr_of (by decide) hb1, a1, c1, a2, c2, rfl, hq1, hq2⟩
          refine ⟨fun r wx hG hs hq hf => ?_, ?_⟩
          · have h7 : ∃ a1 c1 a2 c2, (r 42) = .tuple #[.agg #[.slice a1 X.length c1, .slice a2 Y.length c2], .bool bb] ∧ Rd wx 1 (.slice a1 X.length c1) X.length (bv X) ∧ Rd wx 1 (.slice a2 Y.length c2) Y.length (bv Y) := hf.1
            refine (if_pos rfl).symm ▸ ?_
            clear hs hq hf
            unfold gives
            go_simp
            exact ⟨kPr_refl _ _ _ _, h7⟩
          refine ⟨fun r wx hG hs hq hf => ?_, ?_⟩
          · have h8 : ∃ a1 c1 a2 c2, (r 34) = .tuple #[.agg #[.slice a1 X.length c1, .slice a2 Y.length c2], .bool bb] ∧ Rd wx 1 (.slice a1 X.length c1) X.length (bv X) ∧ Rd wx 1 (.slice a2 Y.length c2) Y.length (bv Y) := hf.1
            refine (if_pos rfl).symm ▸ ?_
            clear hs hq hf
            unfold gives
            obtain ⟨a1, c1, a2, c2, hv, hq1, hq2⟩ := h8
            go_simp
            exact ⟨kPr_refl _ _ _ _, a1, c1, a2, c2, rfl, hq1, hq2⟩
          refine ⟨fun r wx hG hs hq hf => ?_, ?_⟩
          · have h8 : ∃ a1 c1 a2 c2, (r 34) = .tuple #[.agg #[.slice a1 X.length c1, .slice a2 Y.length c2], .bool bb] ∧ Rd wx 1 (.slice a1 X.length c1) X.length (bv X) ∧ Rd wx 1 (.slice a2 Y.length c2) Y.length (bv Y) := hf.1
            refine (if_pos rfl).symm ▸ ?_
            clear hs hq hf
            unfold gives
            obtain ⟨a1, c1, a2, c2, hv, hq1, hq2⟩ := h8
            go_simp
            exact ⟨kPr_refl _ _ _ _, rfl⟩
          refine ⟨fun r wx hG hs hq hf => ?_, ?_⟩
          · refine (if_pos rfl).symm ▸ ?_
            clear hs hq hf
            unfold gives
            go_simp
            exact ⟨kPr_of (by decide) ((Below.refl _ _).alloc (Nat.le_refl _) _), _, rfl, hG.size, heap_alloc_new _ _⟩
          refine ⟨fun r wx hG hs hq hf => ?_, ?_⟩
          · have h11 : ∃ g, (r 11) = .pointer (some ⟨g, 0, none⟩) ∧ w3.heap.size ≤ g ∧ wx.heap[g]? = some (.cells #[.slice none 0 0, .slice none 0 0] 27 (0, 0)) := hf.1
            have h9 : ∃ a1 c1 a2 c2, (r 43) = .agg #[.slice a1 X.length c1, .slice a2 Y.length c2] ∧ Rd wx 1 (.slice a1 X.length c1) X.length (bv X) ∧ Rd wx 1 (.slice a2 Y.length c2) Y.length (bv Y) := hf.2.1
            have h7 : ∃ a1 c1 a2 c2, (r 42) = .tuple #[.agg #[.slice a1 X.length c1, .slice a2 Y.length c2], .bool bb] ∧ Rd wx 1 (.slice a1 X.length c1) X.length (bv X) ∧ Rd wx 1 (.slice a2 Y.length c2) Y.length (bv Y) := hf.2.2.1
            refine (if_pos rfl).symm ▸ ?_
            clear hs hq hf
            unfold gives
            obtain ⟨g, hg1, hg2, hg3⟩ := h11
            obtain ⟨a1, c1, a2, c2, hv, hq1, hq2⟩ := h9
            have f0 : wx.cell? ⟨g, 0, none⟩ = some (.slice none 0 0) := cell_of_rowp hg3 rfl
            have f1 : wx.cell? ⟨g, 1, none⟩ = some (.slice none 0 0) := cell_of_rowp hg3 rfl
            have z0 : wx.frozen? ⟨g, 0, none⟩ = false := by simp [World.frozen?, hg3]
            have z1 : wx.frozen? ⟨g, 1, none⟩ = false := by simp [World.frozen?, hg3]
            have hs := s2_facts (a := .slice a1 X.length c1) (b := .slice a2 Y.length c2) hg3
            have k1 := hq1.s2 (a := .slice a1 X.length c1) (b := .slice a2 Y.length c2) hg3
            have k2 := hq2.s2 (a := .slice a1 X.length c1) (b := .slice a2 Y.length c2) hg3
            go_simp
            exact ⟨kPr_st hg2 hg3 hs.2, g, hg1, hg2, a1, c1, a2, c2, hs.1, k1, k2⟩
          refine ⟨fun r wx hG hs hq hf => ?_, ?_⟩
          · have h10 : r 44 = .bool bb := hf.1
            have h12 : ∃ g, (r 11) = .pointer (some ⟨g, 0, none⟩) ∧ w3.heap.size ≤ g ∧ ∃ a1 c1 a2 c2, wx.heap[g]? = some (.cells #[.slice a1 X.length c1, .slice a2 Y.length c2] 27 (0, 0)) ∧ Rd wx 1 (.slice a1 X.length c1) X.length (bv X) ∧ Rd wx 1 (.slice a2 Y.length c2) Y.length (bv Y) := hf.2.1
            refine (if_pos rfl).symm ▸ ?_
            clear hs hq hf
            unfold gives
            go_simp
            exact ⟨kPr_refl _ _ _ _, rfl⟩
          exact trivial
        case hend =>
          intro u wz hG hfin
          have z12 : ∃ g, (u 11) = .pointer (some ⟨g, 0, none⟩) ∧ w3.heap.size ≤ g ∧ ∃ a1 c1 a2 c2, wz.heap[g]? = some (.cells #[.slice a1 X.length c1, .slice a2 Y.length c2] 27 (0, 0)) ∧ Rd wz 1 (.slice a1 X.length c1) X.length (bv X) ∧ Rd wz 1 (.slice a2 Y.length c2) Y.length (bv Y) := hfin 12 (by decide) (by kernel_rfl)
          have z13 : u 13 = .bool bb := hfin 13 (by decide) (by kernel_rfl)
          clear hfin
          simp only [fill]
          obtain ⟨g, hg1, hg2, x1, y1, x2, y2, hrow, hx1, hx2⟩ := z12
          have HZ := Lib.hid (And.intro hrow (And.intro hx1 (And.intro hx2 (And.intro (((hG.block _ (Array.getElem?_eq_some_iff.1 H3.out.1).1)).trans H3.out.1) (H3.out.2.trans (hG.mono H3.out.2.size))))))
          have hgw : g ≠ w.heap.size := by have := (Array.getElem?_eq_some_iff.1 H3.out.1).1; omega
          have HGW := Lib.hid hgw
          clear hrow hx1 hx2 hG hg2 hgw
          rw [hg1]
          clear hg1
          go_simp
          cases bb with
          | true =>
            have h60 : wz.cell? ⟨w.heap.size, 0, none⟩ = some (.slice none 0 0) := cell_of_rowp HZ.out.2.2.2.1 rfl
            have h61 : wz.cell? ⟨w.heap.size, 1, none⟩ = some (.slice none 0 0) := cell_of_rowp HZ.out.2.2.2.1 rfl
            have z60 : wz.frozen? ⟨w.heap.size, 0, none⟩ = false := by simp [World.frozen?, HZ.out.2.2.2.1]
            have z61 : wz.frozen? ⟨w.heap.size, 1, none⟩ = false := by simp [World.frozen?, HZ.out.2.2.2.1]
            have g60 : wz.cell? ⟨g, 0, none⟩ = some (.slice x1 X.length y1) := cell_of_rowp HZ.out.1 rfl
            have g61 : wz.cell? ⟨g, 1, none⟩ = some (.slice x2 Y.length y2) := cell_of_rowp HZ.out.1 rfl
            have hs6 := s2_facts (a := .slice x1 X.length y1) (b := .slice x2 Y.length y2) HZ.out.2.2.2.1
            have k1 := HZ.out.2.1.s2 (a := .slice x1 X.length y1) (b := .slice x2 Y.length y2) HZ.out.2.2.2.1
            have k2 := HZ.out.2.2.1.s2 (a := .slice x1 X.length y1) (b := .slice x2 Y.length y2) HZ.out.2.2.2.1
            have HS6 := Lib.hid (And.intro hs6 (And.intro k1 k2))
            clear hs6 k1 k2
            go_wp2_with fail
            have hld := pair_ld Tryd.prog _ w.heap.size _ _ _ 27 HS6.out.1.1 Tryd.underlying27 rfl pairInfo
            have hbz := below_ofp HZ.out.2.2.2.2 (Nat.le_refl _) HS6.out.1.2
            have k1 := HS6.out.2.1
            have k2 := HS6.out.2.2
            obtain ⟨w9, hw9⟩ : ∃ x, x = (wz.setCell ⟨w.heap.size, 0, none⟩ (.slice x1 X.length y1)).setCell ⟨w.heap.size, 1, none⟩ (.slice x2 Y.length y2) := ⟨_, rfl⟩
            rw [← hw9] at hld hbz k1 k2 ⊢
            refine bodyPost_ret (v := .tuple #[.agg #[.slice x1 X.length y1, .slice x2 Y.length y2], .bool true]) ?_ ?_ ?_
            · simp [results, Tryd.results30, asAddr, hld]
            · rfl
            · refine (show DnE w w9 (dnA M) _ from ?_)
              have hm : meetF (hw W) f (la.take K) (lb.take K) = some (X, Y) := by
                have h := HDE.out
                cases hm : meetF (hw W) f (la.take K) (lb.take K) with
                | none => rw [hm] at h; simp [dnA] at h
                | some p => rw [hm] at h; simp only [dnA, Prod.mk.injEq, true_and] at h; rw [h.1, h.2]
              have hm2 : M = some (X, Y) := by
                rw [HM.out]
                refine meet_left _ f la lb HTL.out.1 HQ.out (X, Y) ?_
                rw [← HTL.out.2.1, ← HTL.out.2.2]; exact hm
              rw [hm2]
              exact ⟨x1, y1, x2, y2, rfl, k1, k2, hbz⟩
          | false =>
            have hm : meetF (hw W) f (la.take K) (lb.take K) = none := by
              have h := HDE.out
              cases hm : meetF (hw W) f (la.take K) (lb.take K) with
              | none => rfl
              | some p => rw [hm] at h; simp [dnA] at h
            have hm2 : M = meetF (hw W) f (la.drop K) (lb.drop K) := by
              rw [HM.out, meet_right _ f la lb HTL.out.1 HQ.out (by rw [← HTL.out.2.1, ← HTL.out.2.2]; exact hm), ← HTL.out.2.1, ← HTL.out.2.2]
            clear HDE hm HD
            obtain ⟨w5, hw5⟩ : ∃ x, x = wz := ⟨_, rfl⟩
            subst hw5
            obtain ⟨p6, hp6⟩ : ∃ p, p = w.heap.size := ⟨_, rfl⟩
            have HZ5 := Lib.hid HZ.out.2.2.2.2
            have HR6 := Lib.hid HZ.out.2.2.2.1
            rw [← hp6] at HR6 ⊢
            have HP6 := Lib.hid (Array.getElem?_eq_some_iff.1 HR6.out).1
            have HPE := Lib.hid hp6
            have HD2 := Lib.hid (fun wx (hb : Below p6 w5 wx) => HD2'.out wx (HZ.out.2.2.2.2.trans (hb.mono (by rw [HPE.out]; exact Nat.le_refl _))))
            obtain ⟨D, hD⟩ : ∃ D, D = dnA (meetF (hw W) f (la.drop K) (lb.drop K)) := ⟨_, rfl⟩
            rw [← hD] at HD2
            have HDE2 := Lib.hid (show dnA M = D by rw [hD, hm2])
            obtain ⟨bb, X, Y⟩ := D
            simp only [DnE] at HD2
            clear hD hm2 hp6
            go_upto_region 11 with fail
            refine wp_region_until [some 47, some 48, some 49, some 50, some 51, some 52, some 53, some 54, some 55, some 56, none, some 7] [] 10 (fun wx => wx.heap[p6]? = some (.cells #[.slice none 0 0, .slice none 0 0] 27 (0, 0))) [0, 1, 2, 3, 4, 5, 6, 7, 8, 9, 10] (dn11F W p6 b1 o1 c1 b2 o2 c2 n K bb X Y) (kPr 10 p6) (fun wx => Below p6 w5 wx) (by kernel_rfl) (by kernel_rfl) rfl (by kernel_rfl) (by kernel_rfl) (Below.refl _ _).drew HR6.out (fun _ hj _ _ k h => ((kPr_below hj k).block _ (Array.getElem?_eq_some_iff.1 h).1).trans h) (fun _ _ => kPr_refl _ _ _ _) (fun _ _ _ h k => h.trans (kPr_base (Nat.le_trans (Nat.le_of_lt HP6.out) h.size) k)) ?hF ?hstep ?hend
            case hF =>
              exact ⟨fun _ _ _ _ _ _ h => h, ⟨fun _ _ _ _ _ _ h => h, ⟨fun _ _ _ _ _ _ h => h, ⟨fun _ _ _ _ _ _ h => h, ⟨fun _ _ _ _ _ _ h => h, ⟨fun _ _ _ _ _ _ h => h, ⟨fun _ _ _ _ _ _ h => h, ⟨fun j hg _ _ _ k h => by obtain ⟨a1, c1, a2, c2, e, q1, q2⟩ := h; exact ⟨a1, c1, a2, c2, e, q1.kPr k, q2.kPr k⟩, ⟨fun j hg _ _ _ k h => by obtain ⟨a1, c1, a2, c2, e, q1, q2⟩ := h; exact ⟨a1, c1, a2, c2, e, q1.kPr k, q2.kPr k⟩, ⟨fun _ _ _ _ _ _ h => h, ⟨fun j hg _ _ _ k h => by obtain ⟨a1, c1, a2, c2, q2, q3, q4⟩ := h; exact ⟨a1, c1, a2, c2, ((kPr_below (fun e => by subst e; exact absurd hg (by rw [show goneB _ 10 10 = true by kernel_rfl]; simp)) k).block _ (Array.getElem?_eq_some_iff.1 q2).1).trans q2, q3.kPr k, q4.kPr k⟩, ⟨fun _ _ _ _ _ _ h => h, trivial⟩⟩⟩⟩⟩⟩⟩⟩⟩⟩⟩⟩
            case hstep =>
              refine ⟨fun r wx hG hs hq hf => ?_, ?_⟩
              · have hQ := hq rfl
                have e0 : r 0 = .int .i64 W := hs 0 rfl
                refine (if_pos rfl).symm ▸ ?_
                clear hs hq hf
                unfold gives
                go_simp
                exact ⟨kPr_refl _ _ _ _, rfl⟩
              refine ⟨fun r wx hG hs hq hf => ?_, ?_⟩
              · have hQ := hq rfl
                have e1 : r 1 = .slice (some ⟨b1, o1, none⟩) n c1 := hs 1 rfl
                refine (if_pos rfl).symm ▸ ?_
                clear hs hq hf
                unfold gives
                go_simp
                exact ⟨kPr_refl _ _ _ _, rfl⟩
              refine ⟨fun r wx hG hs hq hf => ?_, ?_⟩
              · have hQ := hq rfl
                have e10 : r 10 = .int .i64 K := hs 10 rfl
                refine (if_pos rfl).symm ▸ ?_
                clear hs hq hf
                unfold gives
                go_simp
                exact ⟨kPr_refl _ _ _ _, rfl⟩
              refine ⟨fun r wx hG hs hq hf => ?_, ?_⟩
              · have hQ := hq rfl
                have h1 : r 48 = .slice (some ⟨b1, o1, none⟩) n c1 := hf.1
                have h2 : r 49 = .int .i64 K := hf.2.1
                refine (if_pos rfl).symm ▸ ?_
                clear hs hq hf
                unfold gives
                have y1 : (0 : Int) ≤ (K : Int) := by omega
                have y2 : (K : Int) ≤ (n : Int) := by omega
                have y3 : (n : Int) ≤ (c1 : Int) := by omega
                have y4 : ¬ (c1 = K) := by omega
                go_simp
                exact ⟨kPr_refl _ _ _ _, rfl⟩
              refine ⟨fun r wx hG hs hq hf => ?_, ?_⟩
              · have hQ := hq rfl
                have e2 : r 2 = .slice (some ⟨b2, o2, none⟩) n c2 := hs 2 rfl
                refine (if_pos rfl).symm ▸ ?_
                clear hs hq hf
                unfold gives
                go_simp
                exact ⟨kPr_refl _ _ _ _, rfl⟩
              refine ⟨fun r wx hG hs hq hf => ?_, ?_⟩
              · have hQ := hq rfl
                have e10 : r 10 = .int .i64 K := hs 10 rfl
                refine (if_pos rfl).symm ▸ ?_
                clear hs hq hf
                unfold gives
                go_simp
                exact ⟨kPr_refl _ _ _ _, rfl⟩
              refine ⟨fun r wx hG hs hq hf => ?_, ?_⟩
              · have hQ := hq rfl
                have h4 : r 51 = .slice (some ⟨b2, o2, none⟩) n c2 := hf.1
                have h5 : r 52 = .int .i64 K := hf.2.1
                refine (if_pos rfl).symm ▸ ?_
                clear hs hq hf
                unfold gives
                have y1 : (0 : Int) ≤ (K : Int) := by omega
                have y2 : (K : Int) ≤ (n : Int) := by omega
                have y3 : (n : Int) ≤ (c2 : Int) := by omega
                have y4 : ¬ (c2 = K) := by omega
                go_simp
                exact ⟨kPr_refl _ _ _ _, rfl⟩
              refine ⟨fun r wx hG hs hq hf => ?_, ?_⟩
              · have hQ := hq rfl
                have h0 : r 47 = .int .i64 W := hf.1
                have h3 : r 50 = .slice (some ⟨b1, o1 + K, none⟩) (n - K) (c1 - K) := hf.2.1
                have h6 : r 53 = .slice (some ⟨b2, o2 + K, none⟩) (n - K) (c2 - K) := hf.2.2.1
                refine (if_pos rfl).symm ▸ ?_
                clear hs hq hf
                unfold gives
                go_simp
                refine (HD2.out wx hG).mono ?_
                rintro e wy ⟨a1, c1, a2, c2, rfl, hq1, hq2, hb1⟩
                exact ⟨_, rfl, kPr_of (by decide) hb1, a1, c1, a2, c2, rfl, hq1, hq2⟩
              refine ⟨fun r wx hG hs hq hf => ?_, ?_⟩
              · have hQ := hq rfl
                have h7 : ∃ a1 c1 a2 c2, (r 54) = .tuple #[.agg #[.slice a1 X.length c1, .slice a2 Y.length c2], .bool bb] ∧ Rd wx 1 (.slice a1 X.length c1) X.length (bv X) ∧ Rd wx 1 (.slice a2 Y.length c2) Y.length (bv Y) := hf.1
                refine (if_pos rfl).symm ▸ ?_
                clear hs hq hf
                unfold gives
                obtain ⟨a1, c1, a2, c2, hv, hq1, hq2⟩ := h7
                go_simp
                exact ⟨kPr_refl _ _ _ _, a1, c1, a2, c2, rfl, hq1, hq2⟩
              refine ⟨fun r wx hG hs hq hf => ?_, ?_⟩
              · have hQ := hq rfl
                have h7 : ∃ a1 c1 a2 c2, (r 54) = .tuple #[.agg #[.slice a1 X.length c1, .slice a2 Y.length c2], .bool bb] ∧ Rd wx 1 (.slice a1 X.length c1) X.length (bv X) ∧ Rd wx 1 (.slice a2 Y.length c2) Y.length (bv Y) := hf.1
                refine (if_pos rfl).symm ▸ ?_
                clear hs hq hf
                unfold gives
                obtain ⟨a1, c1, a2, c2, hv, hq1, hq2⟩ := h7
                go_simp
                exact ⟨kPr_refl _ _ _ _, rfl⟩
              refine ⟨fun r wx hG hs hq hf => ?_, ?_⟩
              · have hQ := hq rfl
                have e6 : r 6 = .pointer (some ⟨p6, 0, none⟩) := hs 6 rfl
                have h8 : ∃ a1 c1 a2 c2, (r 55) = .agg #[.slice a1 X.length c1, .slice a2 Y.length c2] ∧ Rd wx 1 (.slice a1 X.length c1) X.length (bv X) ∧ Rd wx 1 (.slice a2 Y.length c2) Y.length (bv Y) := hf.1
                have h7 : ∃ a1 c1 a2 c2, (r 54) = .tuple #[.agg #[.slice a1 X.length c1, .slice a2 Y.length c2], .bool bb] ∧ Rd wx 1 (.slice a1 X.length c1) X.length (bv X) ∧ Rd wx 1 (.slice a2 Y.length c2) Y.length (bv Y) := hf.2.1
                refine (if_pos rfl).symm ▸ ?_
                clear hs hq hf
                unfold gives
                obtain ⟨a1, c1, a2, c2, hv, hq1, hq2⟩ := h8
                have f0 : wx.cell? ⟨p6, 0, none⟩ = some (.slice none 0 0) := cell_of_rowp hQ rfl
                have f1 : wx.cell? ⟨p6, 1, none⟩ = some (.slice none 0 0) := cell_of_rowp hQ rfl
                have z0 : wx.frozen? ⟨p6, 0, none⟩ = false := by simp [World.frozen?, hQ]
                have z1 : wx.frozen? ⟨p6, 1, none⟩ = false := by simp [World.frozen?, hQ]
                have hs := s2_facts (a := .slice a1 X.length c1) (b := .slice a2 Y.length c2) hQ
                have k1 := hq1.s2 (a := .slice a1 X.length c1) (b := .slice a2 Y.length c2) hQ
                have k2 := hq2.s2 (a := .slice a1 X.length c1) (b := .slice a2 Y.length c2) hQ
                go_simp
                exact ⟨kPr_st (Nat.le_refl _) hQ hs.2, a1, c1, a2, c2, hs.1, k1, k2⟩
              refine ⟨fun r wx hG hs hq hf => ?_, ?_⟩
              · have h9 : r 56 = .bool bb := hf.1
                have h10 : ∃ a1 c1 a2 c2, wx.heap[p6]? = some (.cells #[.slice a1 X.length c1, .slice a2 Y.length c2] 27 (0, 0)) ∧ Rd wx 1 (.slice a1 X.length c1) X.length (bv X) ∧ Rd wx 1 (.slice a2 Y.length c2) Y.length (bv Y) := hf.2.1
                refine (if_pos rfl).symm ▸ ?_
                clear hs hq hf
                unfold gives
                go_simp
                exact ⟨kPr_refl _ _ _ _, rfl⟩
              exact trivial
            case hend =>
              intro u wz hG hfin
              have z10 : ∃ a1 c1 a2 c2, wz.heap[p6]? = some (.cells #[.slice a1 X.length c1, .slice a2 Y.length c2] 27 (0, 0)) ∧ Rd wz 1 (.slice a1 X.length c1) X.length (bv X) ∧ Rd wz 1 (.slice a2 Y.length c2) Y.length (bv Y) := hfin 10 (by decide) (by kernel_rfl)
              have z11 : u 11 = .bool bb := hfin 11 (by decide) (by kernel_rfl)
              clear hfin
              simp only [fill]
              have HZ := Lib.hid (And.intro z10 hG)
              obtain ⟨x1, y1, x2, y2, hrow, hx1, hx2⟩ := z10
              clear hG
              go_simp
              have hld := pair_ld Tryd.prog wz p6 _ _ _ 27 hrow Tryd.underlying27 rfl pairInfo
              go_wp2_with fail
              refine bodyPost_ret (v := .tuple #[.agg #[.slice x1 X.length y1, .slice x2 Y.length y2], .bool bb]) ?_ ?_ ?_
              · simp [results, Tryd.results30, asAddr, hld]
              · rfl
              · exact (show DnE w wz (dnA M) _ by
                rw [HDE2.out]
                exact ⟨x1, y1, x2, y2, rfl, hx1, hx2, HZ5.out.trans (HZ.out.2.mono (by rw [HPE.out]; exact Nat.le_refl _))⟩)
    · have hqb : (tx (hw W) la == tx (hw W) lb) = false := beq_eq_false_iff_ne.2 hq
      have HM1 := Lib.hid (show M = some (tx (hw W) la, tx (hw W) lb) by rw [HM.out]; exact meet_at _ f la lb (by rw [← HN.out.1]; exact h0) hq)
      clear hq
      obtain ⟨xA, hxA⟩ : ∃ x, x = tx (hw W) la := ⟨_, rfl⟩
      obtain ⟨xB, hxB⟩ : ∃ x, x = tx (hw W) lb := ⟨_, rfl⟩
      rw [← hxA] at hs1 hqb H2 HM1 ⊢
      rw [← hxB] at hs2 hqb H2 HM1 ⊢
      clear hxA hxB
      have hs6 := s2_facts (a := .slice xa xA.length xc) (b := .slice ya xB.length yc) R2.out.1
      have k1 := H2.out.1.s2 (a := .slice xa xA.length xc) (b := .slice ya xB.length yc) R2.out.1
      have k2 := H2.out.2.1.s2 (a := .slice xa xA.length xc) (b := .slice ya xB.length yc) R2.out.1
      have HS6 := Lib.hid (And.intro hs6 (And.intro k1 k2))
      clear hs6 k1 k2
      go_wp2_with fail
      have hld := pair_ld Tryd.prog _ w.heap.size _ _ _ 27 HS6.out.1.1 Tryd.underlying27 rfl pairInfo
      have hbz := below_ofp R2.out.2 (Nat.le_refl _) HS6.out.1.2
      have k1 := HS6.out.2.1
      have k2 := HS6.out.2.2
      obtain ⟨w9, hw9⟩ : ∃ x, x = (w2.setCell ⟨w.heap.size, 0, none⟩ (.slice xa xA.length xc)).setCell ⟨w.heap.size, 1, none⟩ (.slice ya xB.length yc) := ⟨_, rfl⟩
      rw [← hw9] at hld hbz k1 k2 ⊢
      refine bodyPost_ret (v := .tuple #[.agg #[.slice xa xA.length xc, .slice ya xB.length yc], .bool true]) ?_ ?_ ?_
      · simp [results, Tryd.results30, asAddr, hld]
      · rfl
      · exact (show DnE w w9 (dnA M) _ by rw [HM1.out]; exact ⟨xa, xc, ya, yc, rfl, k1, k2, hbz⟩)
end Go.Proofs.YtfibhmgjkooemaaDoor
namespace Go.Proofs.YtfibhmgjkooemaaDoor
open Go.RowKit Sha Root Path Clash

set_option maxHeartbeats 8000000 in
set_option maxRecDepth 100000 in
theorem r17Lists_any (W : Int) (la lb : List (List UInt8)) (v u : Value) (w : World) (hW : -9223372036854775808 ≤ W ∧ W ≤ 9223372036854775807) (hla : la.length ≤ 1000000) (hlb : lb.length ≤ 1000000) (hta : ∀ t ∈ la, t.length ≤ 140737488351232) (htb : ∀ t ∈ lb, t.length ≤ 140737488351232) (hv : Txw w v la) (hu : Txw w u lb) (hT : TabsR w) :
    Calls Tryd.prog 11 #[.int .i64 W, v, u] w fun e w' => PairE w w' (ansL W la lb) e := by
  obtain ⟨a1, c1, rfl⟩ := hv.form
  obtain ⟨a2, c2, rfl⟩ := hu.form
  obtain ⟨n, hn⟩ : ∃ n, n = la.length := ⟨_, rfl⟩
  obtain ⟨m, hm⟩ : ∃ n, n = lb.length := ⟨_, rfl⟩
  obtain ⟨w1, hw1⟩ : ∃ x : World, x = w.alloc (.cells #[.slice none 0 0, .slice none 0 0] 27) := ⟨_, rfl⟩
  have hB : Below w.heap.size w w1 := by rw [hw1]; exact (Below.refl _ _).alloc (Nat.le_refl _) _
  have r1 : w1.heap[w.heap.size]? = some (.cells #[.slice none 0 0, .slice none 0 0] 27 (0, 0)) := by rw [hw1]; exact heap_alloc_new _ _
  have HW1 := Lib.hid hw1
  have H1 := Lib.hid (And.intro hB r1)
  have HG1 := Lib.hid (fun wx (hb : Below w1.heap.size w1 wx) => r17root_any W la (.slice a1 la.length c1) wx hW hla hta (hv.keep (hB.trans (hb.mono hB.size))) (hT.keepB (hB.trans (hb.mono hB.size))))
  have HG2 := Lib.hid (fun wx (hb : Below w1.heap.size w1 wx) => r17root_any W lb (.slice a2 lb.length c2) wx hW hlb htb (hu.keep (hB.trans (hb.mono hB.size))) (hT.keepB (hB.trans (hb.mono hB.size))))
  have HDN := Lib.hid (fun (h1 : la.length = lb.length) (h0 : 0 < la.length) wx (hb : Below w1.heap.size w1 wx) => down_any W hW la.length la lb (.slice a1 la.length c1) (.slice a2 lb.length c2) wx (Nat.le_refl _) h1 h0 hla hta htb (hv.keep (hB.trans (hb.mono hB.size))) (hu.keep (hB.trans (hb.mono hB.size))) (hT.keepB (hB.trans (hb.mono hB.size))))
  rw [← hn] at HG1 ⊢
  rw [← hm] at HG2 ⊢
  have HN := Lib.hid (And.intro hn hm)
  have hee : ansL W la lb = (if n ≠ m then (9, [], []) else if rt (hw W) la ≠ rt (hw W) lb then (3, [], []) else (match meetF (hw W) n la lb with
    | none => (8, [], [])
    | some p => (0, p.1, p.2)) : Int × List UInt8 × List UInt8) := by rw [ansL, ← hn, ← hm]; rfl
  obtain ⟨A, hA⟩ : ∃ A, A = ansL W la lb := ⟨_, rfl⟩
  have HEE := Lib.hid (hA.trans hee)
  rw [← hA]
  have hdn2 : n = m → 0 < n → ∀ wx, Below w1.heap.size w1 wx → Calls Tryd.prog 30 #[.int .i64 W, .slice a1 n c1, .slice a2 m c2] wx fun e w' => DnE wx w' (dnA (meetF (hw W) n la lb)) e := by
    rw [hn, hm]; exact HDN.out
  have HD := Lib.hid hdn2
  clear hA hee hw1 hB r1 hv hu hT hW hn hm hla hlb hta htb hdn2 HDN
  go_enter Tryd.func11, Tryd.ntmps11
  go_upto_region 1 with fail
  rw [show w.alloc (.cells #[.slice none 0 0, .slice none 0 0] 27) = w1 from HW1.out.symm]
  have FIN := Lib.hid (fun (wz : World) (E : Int) (hA : A = (E, [], [])) (h1 : wz.heap[w.heap.size]? = some (.cells #[.slice none 0 0, .slice none 0 0] 27 (0, 0))) (h3 : Below w.heap.size w wz) =>
    (show (loadVar 27 ⟨w.heap.size, 0, none⟩).run Tryd.prog ((wz.setCell ⟨w.heap.size, 0, none⟩ (.slice none 0 0)).setCell ⟨w.heap.size, 1, none⟩ (.slice none 0 0)) = .ok (.agg #[.slice none 0 0, .slice none 0 0]) ((wz.setCell ⟨w.heap.size, 0, none⟩ (.slice none 0 0)).setCell ⟨w.heap.size, 1, none⟩ (.slice none 0 0)) ∧
      PairE w ((wz.setCell ⟨w.heap.size, 0, none⟩ (.slice none 0 0)).setCell ⟨w.heap.size, 1, none⟩ (.slice none 0 0)) A (.returned (.tuple #[.agg #[.slice none 0 0, .slice none 0 0], .int .i64 E])) from by
        have hs := s2_facts (a := .slice none 0 0) (b := .slice none 0 0) h1
        exact ⟨pair_ld Tryd.prog _ w.heap.size _ _ _ 27 hs.1 Tryd.underlying27 rfl pairInfo, by rw [hA]; exact ⟨none, 0, none, 0, rfl, Rd.nil _ _, Rd.nil _ _, below_ofp h3 (Nat.le_refl _) hs.2⟩⟩))
  by_cases hnm : n = m
  · subst hnm
    have y1 : ((n : Int) != (n : Int)) = false := by simp
    go_wp2_with fail
    refine (HG1.out _ (Below.refl _ _)).mono ?_
    rintro e w4 ⟨rfl, hb4⟩
    have H4 := Lib.hid hb4
    clear hb4
    go_wp2_with fail
    refine (HG2.out _ H4.out).mono ?_
    rintro e w5 ⟨rfl, hb5⟩
    have H5 := Lib.hid (H4.out.trans (hb5.mono H4.out.size))
    clear hb5 H4
    have hqe := fun wx => eqIn_hash (rt (hw W) la) (rt (hw W) lb) (rt32 W la) (rt32 W lb) wx
    have hgd := eq_guard
    have R5 := Lib.hid (And.intro ((H5.out.block _ (Array.getElem?_eq_some_iff.1 H1.out.2).1).trans H1.out.2) (H1.out.1.trans (H5.out.mono H1.out.1.size)))
    have h60 : w5.cell? ⟨w.heap.size, 0, none⟩ = some (.slice none 0 0) := cell_of_rowp R5.out.1 rfl
    have h61 : w5.cell? ⟨w.heap.size, 1, none⟩ = some (.slice none 0 0) := cell_of_rowp R5.out.1 rfl
    have z60 : w5.frozen? ⟨w.heap.size, 0, none⟩ = false := by simp [World.frozen?, R5.out.1]
    have z61 : w5.frozen? ⟨w.heap.size, 1, none⟩ = false := by simp [World.frozen?, R5.out.1]
    by_cases hrr : rt (hw W) la = rt (hw W) lb
    · have hrb : (rt (hw W) la == rt (hw W) lb) = true := by simp [hrr]
      rw [hrb] at hqe
      have HR9 := Lib.hid hrr
      clear hrr hrb
      by_cases h0 : n = 0
      · subst h0
        have HE := Lib.hid (FIN.out w5 8 (by rw [HEE.out, if_neg (by simp), if_neg (by simp [HR9.out])]; rfl) R5.out.1 R5.out.2)
        go_wp2_with fail
        obtain ⟨hld, fin⟩ := HE.out
        obtain ⟨w9, hw9⟩ : ∃ x, x = (w5.setCell ⟨w.heap.size, 0, none⟩ (.slice none 0 0)).setCell ⟨w.heap.size, 1, none⟩ (.slice none 0 0) := ⟨_, rfl⟩
        rw [← hw9] at hld fin ⊢
        refine bodyPost_ret (v := .tuple #[.agg #[.slice none 0 0, .slice none 0 0], .int .i64 8]) ?_ ?_ ?_
        · simp [results, Tryd.results11, asAddr, hld]
        · rfl
        · exact fin
      · have y2 : (0 : Int) < (n : Int) := by omega
        go_wp2_with fail
        cases hmt : meetF (hw W) n la lb with
        | none =>
          have hdd := HD.out trivial (by omega) _ H5.out
          rw [hmt] at hdd
          refine hdd.mono ?_
          rintro e w6 ⟨x1, d1, x2, d2, he, hx1, hx2, hb6⟩
          have he : e = .returned (.tuple #[.agg #[.slice x1 0 d1, .slice x2 0 d2], .bool false]) := he
          subst he
          clear hdd
          have R6 := Lib.hid (And.intro ((hb6.block _ (Array.getElem?_eq_some_iff.1 R5.out.1).1).trans R5.out.1) (R5.out.2.trans (hb6.mono R5.out.2.size)))
          obtain ⟨w7, hw7⟩ : ∃ x : World, x = w6.alloc (.cells #[.slice x1 0 d1, .slice x2 0 d2] 27) := ⟨_, rfl⟩
          have hb7 : Below w6.heap.size w6 w7 := by rw [hw7]; exact (Below.refl _ _).alloc (Nat.le_refl _) _
          have R7 := Lib.hid (And.intro ((hb7.block _ (Array.getElem?_eq_some_iff.1 R6.out.1).1).trans R6.out.1) (R6.out.2.trans (hb7.mono R6.out.2.size)))
          have h60 : w7.cell? ⟨w.heap.size, 0, none⟩ = some (.slice none 0 0) := cell_of_rowp R7.out.1 rfl
          have h61 : w7.cell? ⟨w.heap.size, 1, none⟩ = some (.slice none 0 0) := cell_of_rowp R7.out.1 rfl
          have z60 : w7.frozen? ⟨w.heap.size, 0, none⟩ = false := by simp [World.frozen?, R7.out.1]
          have z61 : w7.frozen? ⟨w.heap.size, 1, none⟩ = false := by simp [World.frozen?, R7.out.1]
          have HE := Lib.hid (FIN.out w7 8 (by rw [HEE.out, if_neg (by simp), if_neg (by simp [HR9.out]), hmt]) R7.out.1 R7.out.2)
          have HW7 := Lib.hid hw7
          clear hw7 hb7 hb6 hx1 hx2 hmt R6
          go_upto_region 7 with fail
          rw [show w6.alloc (.cells #[.slice x1 0 d1, .slice x2 0 d2] 27) = w7 from HW7.out.symm]
          go_wp2_with fail
          obtain ⟨hld, fin⟩ := HE.out
          obtain ⟨w9, hw9⟩ : ∃ x, x = (w7.setCell ⟨w.heap.size, 0, none⟩ (.slice none 0 0)).setCell ⟨w.heap.size, 1, none⟩ (.slice none 0 0) := ⟨_, rfl⟩
          rw [← hw9] at hld fin ⊢
          refine bodyPost_ret (v := .tuple #[.agg #[.slice none 0 0, .slice none 0 0], .int .i64 8]) ?_ ?_ ?_
          · simp [results, Tryd.results11, asAddr, hld]
          · rfl
          · exact fin
        | some p =>
          obtain ⟨X, Y⟩ := p
          have hdd := HD.out trivial (by omega) _ H5.out
          rw [hmt] at hdd
          refine hdd.mono ?_
          rintro e w6 ⟨x1, d1, x2, d2, he, hx1, hx2, hb6⟩
          have he : e = .returned (.tuple #[.agg #[.slice x1 X.length d1, .slice x2 Y.length d2], .bool true]) := he
          subst he
          clear hdd
          have hx1 : Rd w6 1 (.slice x1 X.length d1) X.length (bv X) := hx1
          have hx2 : Rd w6 1 (.slice x2 Y.length d2) Y.length (bv Y) := hx2
          have R6 := Lib.hid (And.intro ((hb6.block _ (Array.getElem?_eq_some_iff.1 R5.out.1).1).trans R5.out.1) (R5.out.2.trans (hb6.mono R5.out.2.size)))
          have HEE2 := Lib.hid (show A = (0, X, Y) by rw [HEE.out, if_neg (by simp), if_neg (by simp [HR9.out]), hmt])
          have hx1' := hx1.alloc (.cells #[.slice x1 X.length d1, .slice x2 Y.length d2] 27)
          have hx2' := hx2.alloc (.cells #[.slice x1 X.length d1, .slice x2 Y.length d2] 27)
          have hrow7 := heap_alloc_new w6 (.cells #[.slice x1 X.length d1, .slice x2 Y.length d2] 27)
          obtain ⟨w7, hw7⟩ : ∃ x : World, x = w6.alloc (.cells #[.slice x1 X.length d1, .slice x2 Y.length d2] 27) := ⟨_, rfl⟩
          have hb7 : Below w6.heap.size w6 w7 := by rw [hw7]; exact (Below.refl _ _).alloc (Nat.le_refl _) _
          rw [← hw7] at hx1' hx2' hrow7
          have R7 := Lib.hid (And.intro ((hb7.block _ (Array.getElem?_eq_some_iff.1 R6.out.1).1).trans R6.out.1) (R6.out.2.trans (hb7.mono R6.out.2.size)))
          have h60 : w7.cell? ⟨w.heap.size, 0, none⟩ = some (.slice none 0 0) := cell_of_rowp R7.out.1 rfl
          have h61 : w7.cell? ⟨w.heap.size, 1, none⟩ = some (.slice none 0 0) := cell_of_rowp R7.out.1 rfl
          have z60 : w7.frozen? ⟨w.heap.size, 0, none⟩ = false := by simp [World.frozen?, R7.out.1]
          have z61 : w7.frozen? ⟨w.heap.size, 1, none⟩ = false := by simp [World.frozen?, R7.out.1]
          have g60 : w7.cell? ⟨w6.heap.size, 0, none⟩ = some (.slice x1 X.length d1) := cell_of_rowp hrow7 rfl
          have g61 : w7.cell? ⟨w6.heap.size, 1, none⟩ = some (.slice x2 Y.length d2) := cell_of_rowp hrow7 rfl
          have hs6 := s2_facts (a := .slice x1 X.length d1) (b := .slice x2 Y.length d2) R7.out.1
          have k1 := hx1'.s2 (a := .slice x1 X.length d1) (b := .slice x2 Y.length d2) R7.out.1
          have k2 := hx2'.s2 (a := .slice x1 X.length d1) (b := .slice x2 Y.length d2) R7.out.1
          have HS6 := Lib.hid (And.intro hs6 (And.intro k1 k2))
          have HW7 := Lib.hid hw7
          clear hw7 hb7 hb6 hx1 hx2 hmt R6 hs6 k1 k2 hx1' hx2' hrow7
          go_upto_region 7 with fail
          rw [show w6.alloc (.cells #[.slice x1 X.length d1, .slice x2 Y.length d2] 27) = w7 from HW7.out.symm]
          go_wp2_with fail
          have hld := pair_ld Tryd.prog _ w.heap.size _ _ _ 27 HS6.out.1.1 Tryd.underlying27 rfl pairInfo
          have hbz := below_ofp R7.out.2 (Nat.le_refl _) HS6.out.1.2
          have k1 := HS6.out.2.1
          have k2 := HS6.out.2.2
          obtain ⟨w9, hw9⟩ : ∃ x, x = (w7.setCell ⟨w.heap.size, 0, none⟩ (.slice x1 X.length d1)).setCell ⟨w.heap.size, 1, none⟩ (.slice x2 Y.length d2) := ⟨_, rfl⟩
          rw [← hw9] at hld hbz k1 k2 ⊢
          refine bodyPost_ret (v := .tuple #[.agg #[.slice x1 X.length d1, .slice x2 Y.length d2], .int .i64 0]) ?_ ?_ ?_
          · simp [results, Tryd.results11, asAddr, hld]
          · rfl
          · exact (show PairE w w9 A _ by rw [HEE2.out]; exact ⟨x1, d1, x2, d2, rfl, k1, k2, hbz⟩)
    · have hrb : (rt (hw W) la == rt (hw W) lb) = false := by simpa using hrr
      rw [hrb] at hqe
      have HE := Lib.hid (FIN.out w5 3 (by rw [HEE.out, if_neg (by simp), if_pos hrr]) R5.out.1 R5.out.2)
      clear hrr hrb
      go_wp2_with fail
      obtain ⟨hld, fin⟩ := HE.out
      obtain ⟨w9, hw9⟩ : ∃ x, x = (w5.setCell ⟨w.heap.size, 0, none⟩ (.slice none 0 0)).setCell ⟨w.heap.size, 1, none⟩ (.slice none 0 0) := ⟨_, rfl⟩
      rw [← hw9] at hld fin ⊢
      refine bodyPost_ret (v := .tuple #[.agg #[.slice none 0 0, .slice none 0 0], .int .i64 3]) ?_ ?_ ?_
      · simp [results, Tryd.results11, asAddr, hld]
      · rfl
      · exact fin
  · have y1 : ((n : Int) != (m : Int)) = true := by simp; omega
    have h60 : w1.cell? ⟨w.heap.size, 0, none⟩ = some (.slice none 0 0) := cell_of_rowp H1.out.2 rfl
    have h61 : w1.cell? ⟨w.heap.size, 1, none⟩ = some (.slice none 0 0) := cell_of_rowp H1.out.2 rfl
    have z60 : w1.frozen? ⟨w.heap.size, 0, none⟩ = false := by simp [World.frozen?, H1.out.2]
    have z61 : w1.frozen? ⟨w.heap.size, 1, none⟩ = false := by simp [World.frozen?, H1.out.2]
    have HE := Lib.hid (FIN.out w1 9 (by rw [HEE.out, if_pos hnm]) H1.out.2 H1.out.1)
    clear hnm
    go_wp2_with fail
    obtain ⟨hld, fin⟩ := HE.out
    obtain ⟨w9, hw9⟩ : ∃ x, x = (w1.setCell ⟨w.heap.size, 0, none⟩ (.slice none 0 0)).setCell ⟨w.heap.size, 1, none⟩ (.slice none 0 0) := ⟨_, rfl⟩
    rw [← hw9] at hld fin ⊢
    refine bodyPost_ret (v := .tuple #[.agg #[.slice none 0 0, .slice none 0 0], .int .i64 9]) ?_ ?_ ?_
    · simp [results, Tryd.results11, asAddr, hld]
    · rfl
    · exact fin

/-- What each operation hands on. -/
def clYF (W : Int) (g nx ny c1 c2 : Nat) (a1 a2 : Option Addr) (X Y : List UInt8) (sx sy hx hy : List UInt8) : Nat → Value → World → Prop
  | 0, v, _ => v = .pointer (some ⟨g, 0, none⟩)
  | 1, v, _ => v = .slice a1 nx c1
  | 2, v, _ => v = .string ⟨X.toArray⟩
  | 3, v, _ => v = .pointer (some ⟨g, 1, none⟩)
  | 4, v, _ => v = .slice a2 ny c2
  | 5, v, _ => v = .string ⟨Y.toArray⟩
  | 6, v, _ => v = .bool true
  | 7, v, _ => v = .bool true
  | 8, v, _ => v = .pointer (some ⟨g, 0, none⟩)
  | 9, v, _ => v = .slice a1 nx c1
  | 10, v, _ => v = .agg (bv sx).toArray
  | 11, v, _ => v = .int .i64 W
  | 12, v, _ => v = .agg (bv hx).toArray
  | 13, v, _ => v = .pointer (some ⟨g, 1, none⟩)
  | 14, v, _ => v = .slice a2 ny c2
  | 15, v, _ => v = .agg (bv sy).toArray
  | 16, v, _ => v = .int .i64 W
  | 17, v, _ => v = .agg (bv hy).toArray
  | 18, v, _ => v = .bool (hx == hy)
  | 19, v, _ => v = .bool (hx == hy)
  | 20, v, _ => v = .bool (hx == hy)
  | _, _, _ => True
/-- What each operation hands on. -/
def clNF (W : Int) (g nx ny c1 c2 : Nat) (a1 a2 : Option Addr) (X Y : List UInt8) : Nat → Value → World → Prop
  | 0, v, _ => v = .pointer (some ⟨g, 0, none⟩)
  | 1, v, _ => v = .slice a1 nx c1
  | 2, v, _ => v = .string ⟨X.toArray⟩
  | 3, v, _ => v = .pointer (some ⟨g, 1, none⟩)
  | 4, v, _ => v = .slice a2 ny c2
  | 5, v, _ => v = .string ⟨Y.toArray⟩
  | 6, v, _ => v = .bool false
  | 7, v, _ => v = .bool false
  | 8, v, _ => v = undef
  | 9, v, _ => v = undef
  | 10, v, _ => v = undef
  | 11, v, _ => v = undef
  | 12, v, _ => v = undef
  | 13, v, _ => v = undef
  | 14, v, _ => v = undef
  | 15, v, _ => v = undef
  | 16, v, _ => v = undef
  | 17, v, _ => v = undef
  | 18, v, _ => v = undef
  | 19, v, _ => v = .bool false
  | 20, v, _ => v = .bool false
  | _, _, _ => True

def clB (W : Int) (X Y : List UInt8) : Bool := !(X == Y) && (hw W X == hw W Y)
set_option maxHeartbeats 4000000 in
set_option maxRecDepth 100000 in
theorem clash_any (W : Int) (X Y : List UInt8) (a1 a2 : Option Addr) (c1 c2 : Nat) (w : World) (hW : -9223372036854775808 ≤ W ∧ W ≤ 9223372036854775807) (hx : X.length ≤ 140737488355000) (hy : Y.length ≤ 140737488355000) (h1 : Rd w 1 (.slice a1 X.length c1) X.length (bv X)) (h2 : Rd w 1 (.slice a2 Y.length c2) Y.length (bv Y)) (hT : TabsR w) :
    Calls Tryd.prog 18 #[.int .i64 W, .agg #[.slice a1 X.length c1, .slice a2 Y.length c2]] w fun e w' => e = .returned (.bool (clB W X Y)) ∧ Below w.heap.size w w' := by
  obtain ⟨w0, hw0⟩ : ∃ x : World, x = w.alloc (.cells #[.slice a1 X.length c1, .slice a2 Y.length c2] 27) := ⟨_, rfl⟩
  have hB0 : Below w.heap.size w w0 := by rw [hw0]; exact (Below.refl _ _).alloc (Nat.le_refl _) _
  have hrow : w0.heap[w.heap.size]? = some (.cells #[.slice a1 X.length c1, .slice a2 Y.length c2] 27 (0, 0)) := by rw [hw0]; exact heap_alloc_new _ _
  have HSX := Lib.hid (fun wx (hb : Below w0.heap.size w0 wx) => refSumSha_any X (.slice a1 X.length c1) wx hx (h1.keep (hB0.trans (hb.mono hB0.size))) (hT.keepB (hB0.trans (hb.mono hB0.size))))
  have HSY := Lib.hid (fun wx (hb : Below w0.heap.size w0 wx) => refSumSha_any Y (.slice a2 Y.length c2) wx hy (h2.keep (hB0.trans (hb.mono hB0.size))) (hT.keepB (hB0.trans (hb.mono hB0.size))))
  have HNX := Lib.hid (fun wx (_ : Below w0.heap.size w0 wx) => refNarrow_any (Sha.sum X) W wx (sum_length X) hW)
  have HNY := Lib.hid (fun wx (_ : Below w0.heap.size w0 wx) => refNarrow_any (Sha.sum Y) W wx (sum_length Y) hW)
  rw [show nar (Sha.sum X) (clip W) = hw W X from rfl] at HNX
  rw [show nar (Sha.sum Y) (clip W) = hw W Y from rfl] at HNY
  have HL2 := Lib.hid (And.intro (hw32 W X) (hw32 W Y))
  have HR := Lib.hid (And.intro (h1.keep hB0) (h2.keep hB0))
  obtain ⟨nx, hnx⟩ : ∃ n, n = X.length := ⟨_, rfl⟩
  obtain ⟨ny, hny⟩ : ∃ n, n = Y.length := ⟨_, rfl⟩
  rw [← hnx] at HSX hrow hw0 ⊢
  rw [← hny] at HSY hrow hw0 ⊢
  have HR' : Rd w0 1 (.slice a1 nx c1) X.length (bv X) ∧ Rd w0 1 (.slice a2 ny c2) Y.length (bv Y) := by rw [hnx, hny]; exact HR.out
  have HR := Lib.hid HR'
  have HC := Lib.hid (fun wx (hb : Below w0.heap.size w0 wx) => (show wx.cell? ⟨w.heap.size, 0, none⟩ = some (.slice a1 nx c1) ∧ wx.cell? ⟨w.heap.size, 1, none⟩ = some (.slice a2 ny c2) from by
    have h := (hb.block _ (Array.getElem?_eq_some_iff.1 hrow).1).trans hrow
    exact ⟨cell_of_rowp h rfl, cell_of_rowp h rfl⟩))
  have H0 := Lib.hid hB0
  have HW0 := Lib.hid hw0
  unfold clB
  clear HR' h1 h2 hT hB0 hrow hw0 hx hy hnx hny
  generalize hw W X = hx at *
  generalize hw W Y = hy at *
  generalize Sha.sum X = sx at *
  generalize Sha.sum Y = sy at *
  by_cases hq : X = Y
  · have HQ := Lib.hid (show (X == Y) = true from beq_iff_eq.2 hq)
    rw [HQ.out, Bool.not_true, Bool.false_and]
    clear hq HSX HSY HNX HNY HL2
    go_enter Tryd.func18, Tryd.ntmps18
    go_upto_region 1 with fail
    rw [show w.alloc (.cells #[.slice a1 nx c1, .slice a2 ny c2] 27) = w0 from HW0.out.symm]
    refine wp_region_steps [some 5, some 6, some 7, some 8, some 9, some 10, some 11, some 12, some 13, some 14, some 15, some 16, some 17, some 18, some 19, some 20, some 21, some 22, some 23, some 24, some 4] [] (clNF W w.heap.size nx ny c1 c2 a1 a2 X Y) (fun _ wx wy => Below wx.heap.size wx wy) (fun wx => Below w0.heap.size w0 wx) (by kernel_rfl) (by kernel_rfl) rfl (by kernel_rfl) (Below.refl _ _).drew (fun _ wx => Below.refl _ _) (fun _ wx wy h k => h.trans (k.mono h.size)) ?hF ?hstep ?hend
    case hF =>
      exact ⟨fun _ _ _ _ _ _ h => h, ⟨fun _ _ _ _ _ _ h => h, ⟨fun _ _ _ _ _ _ h => h, ⟨fun _ _ _ _ _ _ h => h, ⟨fun _ _ _ _ _ _ h => h, ⟨fun _ _ _ _ _ _ h => h, ⟨fun _ _ _ _ _ _ h => h, ⟨fun _ _ _ _ _ _ h => h, ⟨fun _ _ _ _ _ _ h => h, ⟨fun _ _ _ _ _ _ h => h, ⟨fun _ _ _ _ _ _ h => h, ⟨fun _ _ _ _ _ _ h => h, ⟨fun _ _ _ _ _ _ h => h, ⟨fun _ _ _ _ _ _ h => h, ⟨fun _ _ _ _ _ _ h => h, ⟨fun _ _ _ _ _ _ h => h, ⟨fun _ _ _ _ _ _ h => h, ⟨fun _ _ _ _ _ _ h => h, ⟨fun _ _ _ _ _ _ h => h, ⟨fun _ _ _ _ _ _ h => h, ⟨fun _ _ _ _ _ _ h => h, trivial⟩⟩⟩⟩⟩⟩⟩⟩⟩⟩⟩⟩⟩⟩⟩⟩⟩⟩⟩⟩⟩
    case hstep =>
      refine ⟨fun r wx hG hs hq hf => ?_, ?_⟩
      · have e3 : r 3 = .pointer (some ⟨w.heap.size, 0, none⟩) := hs 3 rfl
        refine (if_pos rfl).symm ▸ ?_
        clear hs hq hf
        unfold gives
        go_simp
        exact ⟨Below.refl _ _, rfl⟩
      refine ⟨fun r wx hG hs hq hf => ?_, ?_⟩
      · have h0 : r 5 = .pointer (some ⟨w.heap.size, 0, none⟩) := hf.1
        refine (if_pos rfl).symm ▸ ?_
        clear hs hq hf
        unfold gives
        have hcl := (HC.out wx hG).1
        go_simp
        exact ⟨Below.refl _ _, rfl⟩
      refine ⟨fun r wx hG hs hq hf => ?_, ?_⟩
      · have h1 : r 6 = .slice a1 nx c1 := hf.1
        refine (if_pos rfl).symm ▸ ?_
        clear hs hq hf
        unfold gives
        have hs := string_of_bytes (P := Tryd.prog) (w := wx) Tryd.underlying25 Tryd.underlying5 Tryd.underlying9 (HR.out.1.keep hG)
        go_simp
        exact ⟨Below.refl _ _, rfl⟩
      refine ⟨fun r wx hG hs hq hf => ?_, ?_⟩
      · have e3 : r 3 = .pointer (some ⟨w.heap.size, 0, none⟩) := hs 3 rfl
        refine (if_pos rfl).symm ▸ ?_
        clear hs hq hf
        unfold gives
        go_simp
        exact ⟨Below.refl _ _, rfl⟩
      refine ⟨fun r wx hG hs hq hf => ?_, ?_⟩
      · have h3 : r 8 = .pointer (some ⟨w.heap.size, 1, none⟩) := hf.1
        refine (if_pos rfl).symm ▸ ?_
        clear hs hq hf
        unfold gives
        have hcl := (HC.out wx hG).2
        go_simp
        exact ⟨Below.refl _ _, rfl⟩
      refine ⟨fun r wx hG hs hq hf => ?_, ?_⟩
      · have h4 : r 9 = .slice a2 ny c2 := hf.1
        refine (if_pos rfl).symm ▸ ?_
        clear hs hq hf
        unfold gives
        have hs := string_of_bytes (P := Tryd.prog) (w := wx) Tryd.underlying25 Tryd.underlying5 Tryd.underlying9 (HR.out.2.keep hG)
        go_simp
        exact ⟨Below.refl _ _, rfl⟩
      refine ⟨fun r wx hG hs hq hf => ?_, ?_⟩
      · have h2 : r 7 = .string ⟨X.toArray⟩ := hf.1
        have h5 : r 10 = .string ⟨Y.toArray⟩ := hf.2.1
        refine (if_pos rfl).symm ▸ ?_
        clear hs hq hf
        unfold gives
        have hqb := HQ.out
        go_simp
        exact ⟨Below.refl _ _, by simp [clNF]⟩
      refine ⟨fun r wx hG hs hq hf => ?_, ?_⟩
      · have h6 : r 11 = .bool false := hf.1
        refine (if_pos rfl).symm ▸ ?_
        clear hs hq hf
        unfold gives
        go_simp
        exact ⟨Below.refl _ _, rfl⟩
      refine ⟨fun r wx hG hs hq hf => ?_, ?_⟩
      · have e3 : r 3 = .pointer (some ⟨w.heap.size, 0, none⟩) := hs 3 rfl
        have h7 : r 12 = .bool false := hf.1
        have hy : ydD [some 5, some 6, some 7, some 8, some 9, some 10, some 11, some 12, some 13, some 14, some 15, some 16, some 17, some 18, some 19, some 20, some 21, some 22, some 23, some 24, some 4] r 7 = some false := by show (match r 12 with | .bool b => some b | _ => none) = some false; rw [h7]
        simp only [Region.wanted, hy]
        rw [if_neg (show ¬ (some false == some true) = true by decide)]
        clear hs hq hf hy
        rfl
      refine ⟨fun r wx hG hs hq hf => ?_, ?_⟩
      · have h8 : r 13 = undef := hf.1
        have h7 : r 12 = .bool false := hf.2.1
        have hy : ydD [some 5, some 6, some 7, some 8, some 9, some 10, some 11, some 12, some 13, some 14, some 15, some 16, some 17, some 18, some 19, some 20, some 21, some 22, some 23, some 24, some 4] r 7 = some false := by show (match r 12 with | .bool b => some b | _ => none) = some false; rw [h7]
        simp only [Region.wanted, hy]
        rw [if_neg (show ¬ (some false == some true) = true by decide)]
        clear hs hq hf hy
        rfl
      refine ⟨fun r wx hG hs hq hf => ?_, ?_⟩
      · have h9 : r 14 = undef := hf.1
        have h7 : r 12 = .bool false := hf.2.1
        have hy : ydD [some 5, some 6, some 7, some 8, some 9, some 10, some 11, some 12, some 13, some 14, some 15, some 16, some 17, some 18, some 19, some 20, some 21, some 22, some 23, some 24, some 4] r 7 = some false := by show (match r 12 with | .bool b => some b | _ => none) = some false; rw [h7]
        simp only [Region.wanted, hy]
        rw [if_neg (show ¬ (some false == some true) = true by decide)]
        clear hs hq hf hy
        rfl
      refine ⟨fun r wx hG hs hq hf => ?_, ?_⟩
      · have e0 : r 0 = .int .i64 W := hs 0 rfl
        have h7 : r 12 = .bool false := hf.1
        have hy : ydD [some 5, some 6, some 7, some 8, some 9, some 10, some 11, some 12, some 13, some 14, some 15, some 16, some 17, some 18, some 19, some 20, some 21, some 22, some 23, some 24, some 4] r 7 = some false := by show (match r 12 with | .bool b => some b | _ => none) = some false; rw [h7]
        simp only [Region.wanted, hy]
        rw [if_neg (show ¬ (some false == some true) = true by decide)]
        clear hs hq hf hy
        rfl
      refine ⟨fun r wx hG hs hq hf => ?_, ?_⟩
      · have h10 : r 15 = undef := hf.1
        have h11 : r 16 = undef := hf.2.1
        have h7 : r 12 = .bool false := hf.2.2.2.1
        have hy : ydD [some 5, some 6, some 7, some 8, some 9, some 10, some 11, some 12, some 13, some 14, some 15, some 16, some 17, some 18, some 19, some 20, some 21, some 22, some 23, some 24, some 4] r 7 = some false := by show (match r 12 with | .bool b => some b | _ => none) = some false; rw [h7]
        simp only [Region.wanted, hy]
        rw [if_neg (show ¬ (some false == some true) = true by decide)]
        clear hs hq hf hy
        rfl
      refine ⟨fun r wx hG hs hq hf => ?_, ?_⟩
      · have e3 : r 3 = .pointer (some ⟨w.heap.size, 0, none⟩) := hs 3 rfl
        have h7 : r 12 = .bool false := hf.1
        have hy : ydD [some 5, some 6, some 7, some 8, some 9, some 10, some 11, some 12, some 13, some 14, some 15, some 16, some 17, some 18, some 19, some 20, some 21, some 22, some 23, some 24, some 4] r 7 = some false := by show (match r 12 with | .bool b => some b | _ => none) = some false; rw [h7]
        simp only [Region.wanted, hy]
        rw [if_neg (show ¬ (some false == some true) = true by decide)]
        clear hs hq hf hy
        rfl
      refine ⟨fun r wx hG hs hq hf => ?_, ?_⟩
      · have h13 : r 18 = undef := hf.1
        have h7 : r 12 = .bool false := hf.2.1
        have hy : ydD [some 5, some 6, some 7, some 8, some 9, some 10, some 11, some 12, some 13, some 14, some 15, some 16, some 17, some 18, some 19, some 20, some 21, some 22, some 23, some 24, some 4] r 7 = some false := by show (match r 12 with | .bool b => some b | _ => none) = some false; rw [h7]
        simp only [Region.wanted, hy]
        rw [if_neg (show ¬ (some false == some true) = true by decide)]
        clear hs hq hf hy
        rfl
      refine ⟨fun r wx hG hs hq hf => ?_, ?_⟩
      · have h14 : r 19 = undef := hf.1
        have h7 : r 12 = .bool false := hf.2.2.1
        have hy : ydD [some 5, some 6, some 7, some 8, some 9, some 10, some 11, some 12, some 13, some 14, some 15, some 16, some 17, some 18, some 19, some 20, some 21, some 22, some 23, some 24, some 4] r 7 = some false := by show (match r 12 with | .bool b => some b | _ => none) = some false; rw [h7]
        simp only [Region.wanted, hy]
        rw [if_neg (show ¬ (some false == some true) = true by decide)]
        clear hs hq hf hy
        rfl
      refine ⟨fun r wx hG hs hq hf => ?_, ?_⟩
      · have e0 : r 0 = .int .i64 W := hs 0 rfl
        have h7 : r 12 = .bool false := hf.1
        have hy : ydD [some 5, some 6, some 7, some 8, some 9, some 10, some 11, some 12, some 13, some 14, some 15, some 16, some 17, some 18, some 19, some 20, some 21, some 22, some 23, some 24, some 4] r 7 = some false := by show (match r 12 with | .bool b => some b | _ => none) = some false; rw [h7]
        simp only [Region.wanted, hy]
        rw [if_neg (show ¬ (some false == some true) = true by decide)]
        clear hs hq hf hy
        rfl
      refine ⟨fun r wx hG hs hq hf => ?_, ?_⟩
      · have h15 : r 20 = undef := hf.1
        have h16 : r 21 = undef := hf.2.1
        have h7 : r 12 = .bool false := hf.2.2.2.1
        have hy : ydD [some 5, some 6, some 7, some 8, some 9, some 10, some 11, some 12, some 13, some 14, some 15, some 16, some 17, some 18, some 19, some 20, some 21, some 22, some 23, some 24, some 4] r 7 = some false := by show (match r 12 with | .bool b => some b | _ => none) = some false; rw [h7]
        simp only [Region.wanted, hy]
        rw [if_neg (show ¬ (some false == some true) = true by decide)]
        clear hs hq hf hy
        rfl
      refine ⟨fun r wx hG hs hq hf => ?_, ?_⟩
      · have h12 : r 17 = undef := hf.1
        have h17 : r 22 = undef := hf.2.1
        have h7 : r 12 = .bool false := hf.2.2.1
        have hy : ydD [some 5, some 6, some 7, some 8, some 9, some 10, some 11, some 12, some 13, some 14, some 15, some 16, some 17, some 18, some 19, some 20, some 21, some 22, some 23, some 24, some 4] r 7 = some false := by show (match r 12 with | .bool b => some b | _ => none) = some false; rw [h7]
        simp only [Region.wanted, hy]
        rw [if_neg (show ¬ (some false == some true) = true by decide)]
        clear hs hq hf hy
        rfl
      refine ⟨fun r wx hG hs hq hf => ?_, ?_⟩
      · have h7 : r 12 = .bool false := hf.1
        have h18 : r 23 = undef := hf.2.1
        refine (if_pos rfl).symm ▸ ?_
        clear hs hq hf
        unfold gives
        go_simp
        exact ⟨Below.refl _ _, rfl⟩
      refine ⟨fun r wx hG hs hq hf => ?_, ?_⟩
      · have h19 : r 24 = .bool false := hf.1
        refine (if_pos rfl).symm ▸ ?_
        clear hs hq hf
        unfold gives
        go_simp
        exact ⟨Below.refl _ _, rfl⟩
      exact trivial
    case hend =>
      intro u wz hG hfin
      have z20 : u 20 = .bool false := hfin 20 (by decide) (by kernel_rfl)
      clear hfin
      simp only [fill]
      have HZ := Lib.hid (H0.out.trans (hG.mono H0.out.size))
      have hz := z20
      clear z20 hG
      go_simp
      go_wp2_with fail
      go_ret
      exact ⟨rfl, HZ.out⟩

  · have HQ := Lib.hid (show (X == Y) = false from beq_eq_false_iff_ne.2 hq)
    rw [HQ.out, Bool.not_false, Bool.true_and]
    clear hq
    go_enter Tryd.func18, Tryd.ntmps18
    go_upto_region 1 with fail
    rw [show w.alloc (.cells #[.slice a1 nx c1, .slice a2 ny c2] 27) = w0 from HW0.out.symm]
    refine wp_region_steps [some 5, some 6, some 7, some 8, some 9, some 10, some 11, some 12, some 13, some 14, some 15, some 16, some 17, some 18, some 19, some 20, some 21, some 22, some 23, some 24, some 4] [] (clYF W w.heap.size nx ny c1 c2 a1 a2 X Y sx sy hx hy) (fun _ wx wy => Below wx.heap.size wx wy) (fun wx => Below w0.heap.size w0 wx) (by kernel_rfl) (by kernel_rfl) rfl (by kernel_rfl) (Below.refl _ _).drew (fun _ wx => Below.refl _ _) (fun _ wx wy h k => h.trans (k.mono h.size)) ?hF ?hstep ?hend
    case hF =>
      exact ⟨fun _ _ _ _ _ _ h => h, ⟨fun _ _ _ _ _ _ h => h, ⟨fun _ _ _ _ _ _ h => h, ⟨fun _ _ _ _ _ _ h => h, ⟨fun _ _ _ _ _ _ h => h, ⟨fun _ _ _ _ _ _ h => h, ⟨fun _ _ _ _ _ _ h => h, ⟨fun _ _ _ _ _ _ h => h, ⟨fun _ _ _ _ _ _ h => h, ⟨fun _ _ _ _ _ _ h => h, ⟨fun _ _ _ _ _ _ h => h, ⟨fun _ _ _ _ _ _ h => h, ⟨fun _ _ _ _ _ _ h => h, ⟨fun _ _ _ _ _ _ h => h, ⟨fun _ _ _ _ _ _ h => h, ⟨fun _ _ _ _ _ _ h => h, ⟨fun _ _ _ _ _ _ h => h, ⟨fun _ _ _ _ _ _ h => h, ⟨fun _ _ _ _ _ _ h => h, ⟨fun _ _ _ _ _ _ h => h, ⟨fun _ _ _ _ _ _ h => h, trivial⟩⟩⟩⟩⟩⟩⟩⟩⟩⟩⟩⟩⟩⟩⟩⟩⟩⟩⟩⟩⟩
    case hstep =>
      refine ⟨fun r wx hG hs hq hf => ?_, ?_⟩
      · have e3 : r 3 = .pointer (some ⟨w.heap.size, 0, none⟩) := hs 3 rfl
        refine (if_pos rfl).symm ▸ ?_
        clear hs hq hf
        unfold gives
        go_simp
        exact ⟨Below.refl _ _, rfl⟩
      refine ⟨fun r wx hG hs hq hf => ?_, ?_⟩
      · have h0 : r 5 = .pointer (some ⟨w.heap.size, 0, none⟩) := hf.1
        refine (if_pos rfl).symm ▸ ?_
        clear hs hq hf
        unfold gives
        have hcl := (HC.out wx hG).1
        go_simp
        exact ⟨Below.refl _ _, rfl⟩
      refine ⟨fun r wx hG hs hq hf => ?_, ?_⟩
      · have h1 : r 6 = .slice a1 nx c1 := hf.1
        refine (if_pos rfl).symm ▸ ?_
        clear hs hq hf
        unfold gives
        have hs := string_of_bytes (P := Tryd.prog) (w := wx) Tryd.underlying25 Tryd.underlying5 Tryd.underlying9 (HR.out.1.keep hG)
        go_simp
        exact ⟨Below.refl _ _, rfl⟩
      refine ⟨fun r wx hG hs hq hf => ?_, ?_⟩
      · have e3 : r 3 = .pointer (some ⟨w.heap.size, 0, none⟩) := hs 3 rfl
        refine (if_pos rfl).symm ▸ ?_
        clear hs hq hf
        unfold gives
        go_simp
        exact ⟨Below.refl _ _, rfl⟩
      refine ⟨fun r wx hG hs hq hf => ?_, ?_⟩
      · have h3 : r 8 = .pointer (some ⟨w.heap.size, 1, none⟩) := hf.1
        refine (if_pos rfl).symm ▸ ?_
        clear hs hq hf
        unfold gives
        have hcl := (HC.out wx hG).2
        go_simp
        exact ⟨Below.refl _ _, rfl⟩
      refine ⟨fun r wx hG hs hq hf => ?_, ?_⟩
      · have h4 : r 9 = .slice a2 ny c2 := hf.1
        refine (if_pos rfl).symm ▸ ?_
        clear hs hq hf
        unfold gives
        have hs := string_of_bytes (P := Tryd.prog) (w := wx) Tryd.underlying25 Tryd.underlying5 Tryd.underlying9 (HR.out.2.keep hG)
        go_simp
        exact ⟨Below.refl _ _, rfl⟩
      refine ⟨fun r wx hG hs hq hf => ?_, ?_⟩
      · have h2 : r 7 = .string ⟨X.toArray⟩ := hf.1
        have h5 : r 10 = .string ⟨Y.toArray⟩ := hf.2.1
        refine (if_pos rfl).symm ▸ ?_
        clear hs hq hf
        unfold gives
        have hqb := HQ.out
        go_simp
        exact ⟨Below.refl _ _, by simp [clYF]⟩
      refine ⟨fun r wx hG hs hq hf => ?_, ?_⟩
      · have h6 : r 11 = .bool true := hf.1
        refine (if_pos rfl).symm ▸ ?_
        clear hs hq hf
        unfold gives
        go_simp
        exact ⟨Below.refl _ _, rfl⟩
      refine ⟨fun r wx hG hs hq hf => ?_, ?_⟩
      · have e3 : r 3 = .pointer (some ⟨w.heap.size, 0, none⟩) := hs 3 rfl
        have h7 : r 12 = .bool true := hf.1
        have hy : ydD [some 5, some 6, some 7, some 8, some 9, some 10, some 11, some 12, some 13, some 14, some 15, some 16, some 17, some 18, some 19, some 20, some 21, some 22, some 23, some 24, some 4] r 7 = some true := by show (match r 12 with | .bool b => some b | _ => none) = some true; rw [h7]
        simp only [Region.wanted, hy, beq_self_eq_true, if_true]
        clear hs hq hf hy
        unfold gives
        go_simp
        exact ⟨Below.refl _ _, rfl⟩
      refine ⟨fun r wx hG hs hq hf => ?_, ?_⟩
      · have h8 : r 13 = .pointer (some ⟨w.heap.size, 0, none⟩) := hf.1
        have h7 : r 12 = .bool true := hf.2.1
        have hy : ydD [some 5, some 6, some 7, some 8, some 9, some 10, some 11, some 12, some 13, some 14, some 15, some 16, some 17, some 18, some 19, some 20, some 21, some 22, some 23, some 24, some 4] r 7 = some true := by show (match r 12 with | .bool b => some b | _ => none) = some true; rw [h7]
        simp only [Region.wanted, hy, beq_self_eq_true, if_true]
        clear hs hq hf hy
        unfold gives
        have hcl := (HC.out wx hG).1
        go_simp
        exact ⟨Below.refl _ _, rfl⟩
      refine ⟨fun r wx hG hs hq hf => ?_, ?_⟩
      · have h9 : r 14 = .slice a1 nx c1 := hf.1
        have h7 : r 12 = .bool true := hf.2.1
        have hy : ydD [some 5, some 6, some 7, some 8, some 9, some 10, some 11, some 12, some 13, some 14, some 15, some 16, some 17, some 18, some 19, some 20, some 21, some 22, some 23, some 24, some 4] r 7 = some true := by show (match r 12 with | .bool b => some b | _ => none) = some true; rw [h7]
        simp only [Region.wanted, hy, beq_self_eq_true, if_true]
        clear hs hq hf hy
        unfold gives
        go_simp
        refine (HSX.out wx hG).mono ?_
        rintro e wy ⟨rfl, hb1⟩
        exact ⟨_, rfl, hb1, rfl⟩
      refine ⟨fun r wx hG hs hq hf => ?_, ?_⟩
      · have e0 : r 0 = .int .i64 W := hs 0 rfl
        have h7 : r 12 = .bool true := hf.1
        have hy : ydD [some 5, some 6, some 7, some 8, some 9, some 10, some 11, some 12, some 13, some 14, some 15, some 16, some 17, some 18, some 19, some 20, some 21, some 22, some 23, some 24, some 4] r 7 = some true := by show (match r 12 with | .bool b => some b | _ => none) = some true; rw [h7]
        simp only [Region.wanted, hy, beq_self_eq_true, if_true]
        clear hs hq hf hy
        unfold gives
        go_simp
        exact ⟨Below.refl _ _, rfl⟩
      refine ⟨fun r wx hG hs hq hf => ?_, ?_⟩
      · have h10 : r 15 = .agg (bv sx).toArray := hf.1
        have h11 : r 16 = .int .i64 W := hf.2.1
        have h7 : r 12 = .bool true := hf.2.2.2.1
        have hy : ydD [some 5, some 6, some 7, some 8, some 9, some 10, some 11, some 12, some 13, some 14, some 15, some 16, some 17, some 18, some 19, some 20, some 21, some 22, some 23, some 24, some 4] r 7 = some true := by show (match r 12 with | .bool b => some b | _ => none) = some true; rw [h7]
        simp only [Region.wanted, hy, beq_self_eq_true, if_true]
        clear hs hq hf hy
        unfold gives
        go_simp
        refine (HNX.out wx hG).mono ?_
        rintro e wy ⟨rfl, hb1⟩
        exact ⟨_, rfl, hb1, rfl⟩
      refine ⟨fun r wx hG hs hq hf => ?_, ?_⟩
      · have e3 : r 3 = .pointer (some ⟨w.heap.size, 0, none⟩) := hs 3 rfl
        have h7 : r 12 = .bool true := hf.1
        have hy : ydD [some 5, some 6, some 7, some 8, some 9, some 10, some 11, some 12, some 13, some 14, some 15, some 16, some 17, some 18, some 19, some 20, some 21, some 22, some 23, some 24, some 4] r 7 = some true := by show (match r 12 with | .bool b => some b | _ => none) = some true; rw [h7]
        simp only [Region.wanted, hy, beq_self_eq_true, if_true]
        clear hs hq hf hy
        unfold gives
        go_simp
        exact ⟨Below.refl _ _, rfl⟩
      refine ⟨fun r wx hG hs hq hf => ?_, ?_⟩
      · have h13 : r 18 = .pointer (some ⟨w.heap.size, 1, none⟩) := hf.1
        have h7 : r 12 = .bool true := hf.2.1
        have hy : ydD [some 5, some 6, some 7, some 8, some 9, some 10, some 11, some 12, some 13, some 14, some 15, some 16, some 17, some 18, some 19, some 20, some 21, some 22, some 23, some 24, some 4] r 7 = some true := by show (match r 12 with | .bool b => some b | _ => none) = some true; rw [h7]
        simp only [Region.wanted, hy, beq_self_eq_true, if_true]
        clear hs hq hf hy
        unfold gives
        have hcl := (HC.out wx hG).2
        go_simp
        exact ⟨Below.refl _ _, rfl⟩
      refine ⟨fun r wx hG hs hq hf => ?_, ?_⟩
      · have h14 : r 19 = .slice a2 ny c2 := hf.1
        have h7 : r 12 = .bool true := hf.2.2.1
        have hy : ydD [some 5, some 6, some 7, some 8, some 9, some 10, some 11, some 12, some 13, some 14, some 15, some 16, some 17, some 18, some 19, some 20, some 21, some 22, some 23, some 24, some 4] r 7 = some true := by show (match r 12 with | .bool b => some b | _ => none) = some true; rw [h7]
        simp only [Region.wanted, hy, beq_self_eq_true, if_true]
        clear hs hq hf hy
        unfold gives
        go_simp
        refine (HSY.out wx hG).mono ?_
        rintro e wy ⟨rfl, hb1⟩
        exact ⟨_, rfl, hb1, rfl⟩
      refine ⟨fun r wx hG hs hq hf => ?_, ?_⟩
      · have e0 : r 0 = .int .i64 W := hs 0 rfl
        have h7 : r 12 = .bool true := hf.1
        have hy : ydD [some 5, some 6, some 7, some 8, some 9, some 10, some 11, some 12, some 13, some 14, some 15, some 16, some 17, some 18, some 19, some 20, some 21, some 22, some 23, some 24, some 4] r 7 = some true := by show (match r 12 with | .bool b => some b | _ => none) = some true; rw [h7]
        simp only [Region.wanted, hy, beq_self_eq_true, if_true]
        clear hs hq hf hy
        unfold gives
        go_simp
        exact ⟨Below.refl _ _, rfl⟩
      refine ⟨fun r wx hG hs hq hf => ?_, ?_⟩
      · have h15 : r 20 = .agg (bv sy).toArray := hf.1
        have h16 : r 21 = .int .i64 W := hf.2.1
        have h7 : r 12 = .bool true := hf.2.2.2.1
        have hy : ydD [some 5, some 6, some 7, some 8, some 9, some 10, some 11, some 12, some 13, some 14, some 15, some 16, some 17, some 18, some 19, some 20, some 21, some 22, some 23, some 24, some 4] r 7 = some true := by show (match r 12 with | .bool b => some b | _ => none) = some true; rw [h7]
        simp only [Region.wanted, hy, beq_self_eq_true, if_true]
        clear hs hq hf hy
        unfold gives
        go_simp
        refine (HNY.out wx hG).mono ?_
        rintro e wy ⟨rfl, hb1⟩
        exact ⟨_, rfl, hb1, rfl⟩
      refine ⟨fun r wx hG hs hq hf => ?_, ?_⟩
      · have h12 : r 17 = .agg (bv hx).toArray := hf.1
        have h17 : r 22 = .agg (bv hy).toArray := hf.2.1
        have h7 : r 12 = .bool true := hf.2.2.1
        have hy : ydD [some 5, some 6, some 7, some 8, some 9, some 10, some 11, some 12, some 13, some 14, some 15, some 16, some 17, some 18, some 19, some 20, some 21, some 22, some 23, some 24, some 4] r 7 = some true := by show (match r 12 with | .bool b => some b | _ => none) = some true; rw [h7]
        simp only [Region.wanted, hy, beq_self_eq_true, if_true]
        clear hs hq hf hy
        unfold gives
        have hqe := eqIn_hash hx hy HL2.out.1 HL2.out.2 wx
        have hgd := eq_guard
        go_simp
        exact ⟨Below.refl _ _, rfl⟩
      refine ⟨fun r wx hG hs hq hf => ?_, ?_⟩
      · have h7 : r 12 = .bool true := hf.1
        have h18 : r 23 = .bool (hx == hy) := hf.2.1
        refine (if_pos rfl).symm ▸ ?_
        clear hs hq hf
        unfold gives
        go_simp
        exact ⟨Below.refl _ _, rfl⟩
      refine ⟨fun r wx hG hs hq hf => ?_, ?_⟩
      · have h19 : r 24 = .bool (hx == hy) := hf.1
        refine (if_pos rfl).symm ▸ ?_
        clear hs hq hf
        unfold gives
        go_simp
        exact ⟨Below.refl _ _, rfl⟩
      exact trivial
    case hend =>
      intro u wz hG hfin
      have z20 : u 20 = .bool (hx == hy) := hfin 20 (by decide) (by kernel_rfl)
      clear hfin
      simp only [fill]
      have HZ := Lib.hid (H0.out.trans (hG.mono H0.out.size))
      have hz := z20
      clear z20 hG
      go_simp
      go_wp2_with fail
      go_ret
      exact ⟨rfl, HZ.out⟩

end Go.Proofs.YtfibhmgjkooemaaDoor
