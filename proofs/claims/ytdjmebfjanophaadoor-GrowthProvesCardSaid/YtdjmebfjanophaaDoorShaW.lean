/- The reference's hash of a text. -/
import Derived.Test.YtdjmebfjanophaaDoorShaV
namespace Go.Proofs.YtdjmebfjanophaaDoor
open Go.RowKit Sha

theorem infoU8s : (Tryd.prog.info? 5).map (fun i => (i.zero, i.size, i.bytes)) = some (some (.int .u8 0), 1, 1) := by kernel_rfl
theorem row_step (out : List UInt8) (i : Nat) (y : UInt8) (hy : y = out.getD i 0) (_hi : i < 32) :
    (bs (fun j => if j < i then out.getD j 0 else 0) 32).set i y = bs (fun j => if j < i + 1 then out.getD j 0 else 0) 32 :=
  bs_set _ _ 32 _ _ (by simp [hy]) (fun j hj hne => by
    by_cases h1 : j < i
    · simp [h1, show j < i + 1 by omega]
    · simp [h1, show ¬ j < i + 1 by omega])
theorem A8_len (v : W8) : (A8 v).toList.length = 8 := rfl
theorem zs_snoc (k : Nat) : zs k ++ [0] = zs (k + 1) := by unfold zs; rw [List.replicate_succ']

set_option maxHeartbeats 4000000 in
set_option maxRecDepth 100000 in
theorem refSumSha_any (b : List UInt8) (v : Value) (w : World) (hl : b.length ≤ 140737488355000) (hr : Rd w 1 v b.length (bv b)) (hG : TabsR w) :
    Calls Tryd.prog 78 #[v] w fun e w' => e = .returned (.agg (bv (Sha.sum b)).toArray) ∧ Below w.heap.size w w' := by
  obtain ⟨a, c, rfl⟩ := hr.form
  have hz := (zero_of_info info32).1
  have HO := Lib.hid (And.intro (sum_length b) (show Sha.sum b = outB (hs (pad b) ((pad b).length / 64)) from rfl))
  generalize Sha.sum b = out at *
  go_enter Tryd.func78, Tryd.ntmps78
  go_upto_region 1 with fail
  obtain ⟨w1, hw1⟩ : ∃ x : World, x = w.alloc (.cells (bv (zs 32)).toArray 33) := ⟨_, rfl⟩
  rw [← hw1]
  have hb1 : Below w.heap.size w w1 := by rw [hw1]; exact (Below.refl _ _).alloc (Nat.le_refl _) _
  have hres1 : w1.heap[w.heap.size]? = some (.cells (bv (zs 32)).toArray 33 (0, 0)) := by rw [hw1]; exact heap_alloc_new _ _
  have hlt1 : w.heap.size < w1.heap.size := by rw [hw1]; simp
  clear hw1
  have hr1 := hr.keep hb1
  have hown0 := own_new w1 5 1 0 w1.heap.size [] rfl (by omega) (Nat.le_refl _)
  have hra := hr1.alloc (.cells #[] 5)
  have H1 := Lib.hid (And.intro hb1 (And.intro hres1 hlt1))
  have HA := Lib.hid (And.intro hown0 hra)
  have HR := Lib.hid hr
  clear hr hr1 hb1 hres1 hlt1 hown0 hra
  go_upto_region 2 with (first
    | (with_reducible show wpList _ _ _ (⟨some 12, _, _, _, _, _⟩ :: _) _ _
       refine wpList_app Tryd.underlying69 infoU8s rfl (by decide) rfl _ _ rfl rfl rfl HA.out.1 HA.out.2 (by omega) (by omega) (by simp) ?_
       intro v' wy ho hg _
       have hby := hg.below (by simp) (own_block HA.out.1)
       have hb2 : Below w1.heap.size w1 wy := ((Below.refl _ _).alloc (Nat.le_refl _) _).trans hby
       have hn0 : 0 + b.length = b.length := by omega
       rw [hn0, List.nil_append] at ho
       obtain ⟨a2, c2, rfl⟩ := (own_rd ho (bv_one _)).form
       have H2 := Lib.hid (And.intro (own_keep ho ((Below.refl _ _).alloc (Nat.le_refl _) (.cells #[.int .u8 128] 5))) hb2)
       clear ho hg hby hb2 hn0)
    | (with_reducible show wpList _ _ _ (⟨some 14, _, _, _, _, _⟩ :: _) _ _
       refine wpList_app Tryd.underlying69 infoU8s rfl (by decide) rfl _ _ rfl rfl rfl H2.out.1 (Rd.one wy (.int .u8 128) 5 rfl) (by omega) (by omega) (by have := H2.out.2.size; simp; omega) ?_
       intro v' wz ho hg _
       have hbz : Below w1.heap.size wy wz := ((Below.refl _ _).alloc H2.out.2.size _).trans (hg.below (by have := H2.out.2.size; simp; omega) (own_block H2.out.1))
       have hb3 := H2.out.2.trans hbz
       rw [show bv b ++ [Value.int .u8 128] = bv (b ++ [128]) by simp [bv]] at ho
       have H3 := Lib.hid (And.intro ho hb3)
       obtain ⟨a3, c3, rfl⟩ := (own_rd ho (bv_one _)).form
       clear ho hg hbz hb3 H2))
  have hc0 : gap b.length < 64 := by unfold gap; omega
  have hgq := show gap b.length = (119 - b.length % 64) % 64 from rfl
  generalize gap b.length = q at *
  have HQ := Lib.hid (And.intro hc0 hgq)
  clear hc0 hgq
  go_wp2_with fail
  go_loopw [3] (fun s3 wr => ∃ k, RowKit.Hid (k ≤ q ∧ wr.ownsRow w1.heap.size 5 1 s3 (b.length + 1 + k) (bv (b ++ [128] ++ zs k)) ∧ Below w1.heap.size w1 wr)) (fun s3 _ => match s3 with | .slice _ n _ => b.length + 1 + q - n | _ => 0)
  case atStart => exact ⟨0, show _ ∧ _ from ⟨by omega, by simpa [zs] using H3.out.1, H3.out.2⟩⟩
  case round =>
    clear H3
    obtain ⟨k, HK⟩ := hrel
    obtain ⟨a4, c4, rfl⟩ := (own_rd HK.out.2.1 (bv_one _)).form
    by_cases hkq : k < q
    · have hm : ¬ ((b.length : Int) + 1 + (k : Int)) % 64 = 56 := by have := HQ.out.2; omega
      have hm2 : ¬ ((b.length : Int) + 1 + (k : Int)).tmod 64 = 56 := by rw [Int.tmod_eq_emod_of_nonneg (by omega)]; exact hm
      have HKQ := Lib.hid hkq
      clear hkq
      go_wp2_with (with_reducible show wpList _ _ _ (⟨some 21, _, _, _, _, _⟩ :: _) _ _
                   refine wpList_app Tryd.underlying69 infoU8s rfl (by decide) rfl _ _ rfl rfl rfl (own_keep HK.out.2.1 ((Below.refl _ _).alloc (Nat.le_refl _) _)) (Rd.one wr (.int .u8 0) 5 rfl) (by have := HK.out.1; have := HQ.out.1; omega) (by have := HK.out.1; have := HQ.out.1; omega) (by have := HK.out.2.2.size; simp; omega) ?_
                   intro v' wy ho hg _)
      have hby : Below w1.heap.size wr wy := ((Below.refl _ _).alloc HK.out.2.2.size _).trans (hg.below (by have := HK.out.2.2.size; simp; omega) (own_block HK.out.2.1))
      rw [show bv (b ++ [128] ++ zs k) ++ [Value.int .u8 0] = bv (b ++ [128] ++ zs (k + 1)) by rw [← zs_snoc]; simp [bv]] at ho
      have H2 := Lib.hid (show k + 1 ≤ q ∧ wy.ownsRow w1.heap.size 5 1 v' (b.length + 1 + (k + 1)) _ ∧ _ from ⟨HKQ.out, ho, HK.out.2.2.trans hby⟩)
      obtain ⟨a5, c5, rfl⟩ := (own_rd ho (bv_one _)).form
      clear ho hg hby
      go_roundw
      case rel => exact ⟨k + 1, H2⟩
      case measure => have := HKQ.out; dsimp only; omega
    · have hm : ((b.length : Int) + 1 + (k : Int)) % 64 = 56 := by have := HQ.out.2; have := HK.out.1; omega
      have hm2 : ((b.length : Int) + 1 + (k : Int)).tmod 64 = 56 := by rw [Int.tmod_eq_emod_of_nonneg (by omega)]; exact hm
      obtain rfl : k = q := by have := HK.out.1; omega
      have h8 : IntKind.u64.wrap ((b.length : Int) * 8) = (b.length : Int) * 8 := IntWalk.u64_in _ (by omega)
      have HA8 := Lib.hid (And.intro HK.out.2.1 HK.out.2.2)
      clear HK
      go_wp2_with fail
      go_loopw [5, 3] (fun s5 s3 wq => ∃ j : Nat, j ≤ 8 ∧ s5 = .int .i64 ((j : Int) - 1) ∧ RowKit.Hid (wq.ownsRow w1.heap.size 5 1 s3 (b.length + 1 + k + (8 - j)) (bv (b ++ [128] ++ zs k ++ be (8 - j) (b.length * 8 / 256 ^ j))) ∧ Below w1.heap.size w1 wq)) (fun s5 _ _ => (intOf s5 + 1).toNat)
      case atStart => exact ⟨8, Nat.le_refl _, rfl, show _ ∧ _ from ⟨by simpa [be] using HA8.out.1, HA8.out.2⟩⟩
      case round =>
        clear HA8
        obtain ⟨j, hj8, rfl, HJ⟩ := hrel
        obtain ⟨a5, c5, hs⟩ := (own_rd HJ.out.1 (bv_one _)).form
        subst hs
        by_cases hj0 : j = 0
        · subst hj0
          have hpl : (pad b).length = b.length + 9 + k := by rw [pad_length]; have := HQ.out.2; unfold gap; omega
          have hpm := pad_mod b
          have hpe : b ++ [128] ++ zs k ++ be (8 - 0) (b.length * 8 / 256 ^ 0) = pad b := by
            have := HQ.out.2
            rw [show k = gap b.length from this]; simp [pad]
          have hk64 := HQ.out.1
          rw [hpe, show b.length + 1 + k + (8 - 0) = (pad b).length by omega] at HJ
          rw [show b.length + 1 + k + (8 - 0) = (pad b).length by omega, show ((0 : Nat) : Int) - 1 = -1 from rfl]
          obtain ⟨L, hL⟩ : ∃ L, L = (pad b).length := ⟨_, rfl⟩
          rw [← hL] at HJ ⊢ hpm hpl
          rw [← hL] at HO
          have HRD := Lib.hid (And.intro (own_rd HJ.out.1 (bv_one _)) hL)
          have hbq := H1.out.1.trans (HJ.out.2.mono (Nat.le_of_lt H1.out.2.2))
          have hresq := (HJ.out.2.block _ H1.out.2.2).trans H1.out.2.1
          have HW := Lib.hid (And.intro hbq (And.intro hresq (show w.heap.size < wr.heap.size from Nat.lt_of_lt_of_le H1.out.2.2 HJ.out.2.size)))
          have HL := Lib.hid (And.intro hpl (And.intro hpm hk64))
          clear hL hbq hresq hpe hpl hpm HJ HQ HR H1 hk64
          go_wp2_with fail
          generalize wr = wo at *
          obtain ⟨w3, hw3⟩ : ∃ x : World, x = wo.alloc (.cells #[Value.int IntKind.u32 1779033703, Value.int IntKind.u32 3144134277, Value.int IntKind.u32 1013904242, Value.int IntKind.u32 2773480762, Value.int IntKind.u32 1359893119, Value.int IntKind.u32 2600822924, Value.int IntKind.u32 528734635, Value.int IntKind.u32 1541459225] 64) := ⟨_, rfl⟩
          rw [← hw3]
          have hh3 : w3.heap[wo.heap.size]? = some (.cells (A8 (hs (pad b) 0)) 64 (0, 0)) := by rw [hw3]; exact heap_alloc_new _ _
          have hb3 : Below wo.heap.size wo w3 := by rw [hw3]; exact (Below.refl _ _).alloc (Nat.le_refl _) _
          have H3 := Lib.hid (And.intro hh3 hb3)
          clear hw3 hh3 hb3
          go_loopw [7] (fun s7 wr => ∃ e : Nat, s7 = .int .i64 (64 * (e : Int)) ∧ RowKit.Hid (64 * e ≤ L ∧ wr.heap[wo.heap.size]? = some (.cells (A8 (hs (pad b) e)) 64 (0, 0)) ∧ Below wo.heap.size wo wr)) (fun s7 _ => L - (intOf s7).toNat)
          case atStart => exact ⟨0, rfl, show _ ∧ _ from ⟨by omega, H3.out⟩⟩
          case round =>
            clear H3
            obtain ⟨e, rfl, HE⟩ := hrel
            by_cases hel : 64 * e < L
            · have hz1 : 64 * (e : Int) < (L : Int) := by omega
              have hL1 : L ≤ 140737488355200 := by have := HL.out.1; have := HL.out.2.2; omega
              have hle : 64 * e + 64 ≤ L := by have := HL.out.2.1; omega
              obtain ⟨bb, off, c', hv, hcp, hcell⟩ := (HRD.out.1.keep HE.out.2.2).at (by omega)
              simp only [Value.slice.injEq, true_and] at hv
              obtain ⟨rfl, rfl⟩ := hv
              have hx64 : (((pad b).drop (64 * e)).take 64).length = 64 := by rw [List.length_take, List.length_drop, ← HRD.out.2]; omega
              have hblk := fun w' hG' hrd => block_any bb (off + 64 * e) 64 (c5 - 64 * e) (hs (pad b) e) (((pad b).drop (64 * e)).take 64) w' hx64 (by omega) (by omega) hrd hG'
              have HB := Lib.hid (And.intro hblk (And.intro hcell hle))
              have hc (i : Nat) (x : UInt32) (hi : (A8 (hs (pad b) e))[i]? = some (.int .u32 x.toNat)) : wr.cell? ⟨wo.heap.size, i, none⟩ = some (.int .u32 x.toNat) := by
                rw [cell_of_row _ _ _ _ _ _ HE.out.2.1, hi]
              have d0 := hc 0 _ rfl
              have d1 := hc 1 _ rfl
              have d2 := hc 2 _ rfl
              have d3 := hc 3 _ rfl
              have d4 := hc 4 _ rfl
              have d5 := hc 5 _ rfl
              have d6 := hc 6 _ rfl
              have d7 := hc 7 _ rfl
              clear hc hcell hblk
              have hz2 : (64 * (e : Int) + 64) ≤ (c5 : Int) := by omega
              have hz3 : (0 : Int) ≤ 64 * (e : Int) := by omega
              have hz4 : (64 * (e : Int)).toNat = 64 * e := by omega
              have hz5 : (64 * (e : Int) + 64).toNat = 64 * e + 64 := by omega
              have hz7 : (0 : Int) ≤ 64 * (e : Int) + 64 := by omega
              have hz8 : 64 * (e : Int) ≤ 64 * (e : Int) + 64 := by omega
              have hz9 : ¬ c5 = 64 * e := by omega
              have hz6 : IntKind.i64.wrap (64 * (e : Int) + 64) = 64 * (e : Int) + 64 := IntWalk.i64_in _ (by omega)
              go_wp2_with fail
              go_still_tail 6, (by kernel_rfl)
              change wpList _ _ _ _ _ wr.drew
              have HD := Lib.hid (show wr.drew.heap[wo.heap.size]? = _ ∧ Below wo.heap.size wo wr.drew from ⟨HE.out.2.1, HE.out.2.2.drew⟩)
              have hcl : 64 * e + 64 ≤ L := hle
              clear d0 d1 d2 d3 d4 d5 d6 d7 HE
              go_wp2_with fail
              refine (HB.out.1 _ (hG.keepB (HW.out.1.trans ((HD.out.2.mono (Nat.le_of_lt HW.out.2.2))))) (fun j x hx => ?_)).mono ?_
              · have hj := (List.getElem?_eq_some_iff.1 hx).1
                rw [hx64] at hj
                rw [List.getElem?_take_of_lt hj, List.getElem?_drop] at hx
                rw [Nat.add_assoc]
                exact HB.out.2.1 (64 * e + j) _ (by simp [bv, hx])
              rintro e1 w4 ⟨rfl, hb4⟩
              have hh4 := (hb4.block _ (Array.getElem?_eq_some_iff.1 HD.out.1).1).trans HD.out.1
              have hb4' := HD.out.2.trans (hb4.mono HD.out.2.size)
              have hnx : blk (hs (pad b) e) (((pad b).drop (64 * e)).take 64) = hs (pad b) (e + 1) := rfl
              rw [hnx]
              obtain ⟨z1, hz1⟩ : ∃ z1, z1 = hs (pad b) (e + 1) := ⟨_, rfl⟩
              rw [← hz1]
              have HZ := Lib.hid hz1
              clear hz1
              generalize hs (pad b) e = z0 at *
              have H4 := Lib.hid (And.intro hh4 hb4')
              clear HB hnx hx64 hh4 hb4 hb4' HD
              have hcs : A8 z1 = [Value.int .u32 z1.a.toNat, .int .u32 z1.b.toNat, .int .u32 z1.c.toNat, .int .u32 z1.d.toNat, .int .u32 z1.e.toNat, .int .u32 z1.f.toNat, .int .u32 z1.g.toNat, .int .u32 z1.h.toNat].toArray := rfl
              rw [hcs]
              obtain ⟨cs, hcs2⟩ : ∃ cs, cs = [Value.int .u32 z1.a.toNat, .int .u32 z1.b.toNat, .int .u32 z1.c.toNat, .int .u32 z1.d.toNat, .int .u32 z1.e.toNat, .int .u32 z1.f.toNat, .int .u32 z1.g.toNat, .int .u32 z1.h.toNat] := ⟨_, rfl⟩
              rw [← hcs2] at hcs ⊢
              have hcl8 : cs.length = 8 := by rw [hcs2]; rfl
              have hc1 : ∀ u ∈ cs, u.oneCell' = true := by
                rw [hcs2]; intro u hu; simp at hu
                rcases hu with rfl | rfl | rfl | rfl | rfl | rfl | rfl | rfl <;> rfl
              have HC := Lib.hid (And.intro hcs (And.intro hcl8 hc1))
              clear hcs hcs2 hcl8 hc1
              go_wp2_with (with_reducible show wpList _ _ _ (⟨none, Op.store _ _ _, _, _, _, _⟩ :: _) _ _; go_loud (refine wpList_store_whole rfl _ _ _ rfl wo.heap.size cs rfl rfl _ _ H4.out.1 (by rw [HC.out.2.1]; kernel_rfl) (by rw [HC.out.2.1, A8_len]) HC.out.2.2 ?_; intro w9 HG9 hg9))
              have hh9 := HG9.out
              rw [← HC.out.1, HZ.out] at hh9
              go_roundw
              case rel => exact ⟨e + 1, by go_num, show _ ∧ _ from ⟨by omega, hh9, below_grow H4.out.2 hg9 (Nat.le_refl _) (Array.getElem?_eq_some_iff.1 H4.out.1).1⟩⟩
              case measure => simp [intOf]; omega
            · have hz1 : ¬ 64 * (e : Int) < (L : Int) := by omega
              obtain rfl : L = 64 * e := by have := HE.out.1; omega
              have hL1 : 64 * e ≤ 140737488355200 := by have := HL.out.1; have := HL.out.2.2; omega
              have hee : e = 64 * e / 64 := by omega
              rw [← hee] at HO
              generalize hs (pad b) e = z at *
              clear hee HRD hel
              have HB := Lib.hid (HW.out.1.trans (HE.out.2.2.mono (Nat.le_of_lt HW.out.2.2)))
              have HV := Lib.hid ((HE.out.2.2.block _ HW.out.2.2).trans HW.out.2.1)
              have HT := Lib.hid (And.intro HW.out.2.2 (Array.getElem?_eq_some_iff.1 HE.out.2.1).1)
              clear HW
              go_wp2_with fail
              generalize wr = wk at *
              obtain ⟨w3, hw3⟩ : ∃ x : World, x = wk.alloc (.cells (bv (zs 32)).toArray 33) := ⟨_, rfl⟩
              rw [← hw3]
              have hh3 : w3.heap[wk.heap.size]? = some (.cells (bv (bs (fun j => if j < 0 then out.getD j 0 else 0) 32)).toArray 33 (0, 0)) := by rw [hw3]; exact heap_alloc_new _ _
              have hb3 : Below wk.heap.size wk w3 := by rw [hw3]; exact (Below.refl _ _).alloc (Nat.le_refl _) _
              have H3 := Lib.hid (And.intro hh3 hb3)
              clear hw3 hh3 hb3
              go_loopw [9] (fun s9 wx => ∃ i : Nat, i ≤ 32 ∧ s9 = .int .i64 i ∧ RowKit.Hid (wx.heap[wk.heap.size]? = some (.cells (bv (bs (fun j => if j < i then out.getD j 0 else 0) 32)).toArray 33 (0, 0)) ∧ Below wk.heap.size wk wx)) (fun s9 _ => 32 - (intOf s9).toNat)
              case atStart => exact ⟨0, by omega, rfl, H3⟩
              case round =>
                clear H3
                obtain ⟨i, hi, rfl, HI⟩ := hrel
                by_cases hil : i < 32
                · have hiz : (i : Int) < 32 := by omega
                  have hi0 : (0 : Int) ≤ (i : Int) := by omega
                  obtain ⟨q, hq⟩ : ∃ q, q = i / 4 := ⟨_, rfl⟩
                  have hq8 : q < 8 := by omega
                  have hget := out_get z q hq8
                  rw [← HO.out.2] at hget
                  obtain ⟨x, hx⟩ : ∃ x, x = z.l.getD q 0 := ⟨_, rfl⟩
                  rw [← hx] at hget
                  have hcx : wr.cell? ⟨wo.heap.size, q, none⟩ = some (.int .u32 x.toNat) := by
                    rw [cell_of_row _ _ _ _ _ _ ((HI.out.2.block _ HT.out.2).trans HE.out.2.1), A8_ws, ws_get _ _ _ hq8, hx]; rfl
                  have hfr := frozen_of_row _ _ i _ _ HI.out.1
                  have hc0 : wr.cell? ⟨wk.heap.size, i, none⟩ = some (.int .u8 (0 : Nat)) := by
                    rw [cell_of_row _ _ _ _ _ _ HI.out.1, List.getElem?_toArray]
                    simp only [bv, List.getElem?_map, bs_get _ _ _ hil]
                    rw [if_neg (by omega)]; rfl
                  have hd1 : (i : Int).tdiv 4 = (q : Int) := by rw [Int.tdiv_eq_ediv_of_nonneg hi0]; omega
                  have hd2 : (i : Int) / 4 = (q : Int) := by omega
                  have hq80 : (0 : Int) ≤ (q : Int) ∧ (q : Int) < 8 := by omega
                  obtain ⟨y, hy⟩ : ∃ y, y = out.getD i 0 := ⟨_, rfl⟩
                  have h4 : i % 4 = 0 ∨ i % 4 = 1 ∨ i % 4 = 2 ∨ i % 4 = 3 := by omega
                  have HX := Lib.hid (And.intro hy (And.intro hil HI.out))
                  clear HI hx
                  rcases h4 with h4 | h4 | h4 | h4
                  · have hm1 : (i : Int).tmod 4 = 0 := by rw [Int.tmod_eq_emod_of_nonneg hi0]; omega
                    have hm2 : (i : Int) % 4 = 0 := by omega
                    rw [show i = 4 * q by omega, hget.1] at hy
                    have v0 : (x.toNat : Int) / 16777216 = (y.toNat : Int) := by rw [hy, u8_int]; have := x.toNat_lt; omega
                    have v1 : (y.toNat : Int) % 256 = (y.toNat : Int) := by have := y.toNat_lt; omega
                    clear hget hy hq h4
                    go_wp2_with fail
                    go_roundw
                    case rel =>
                      obtain ⟨hy, hil, hr, hb⟩ := HX.out
                      refine ⟨i + 1, by omega, by go_num, show _ ∧ _ from ⟨?_, hb.setCell (p := ⟨_, _, none⟩) (Nat.le_refl _) _⟩⟩
                      rw [heap_setCell_same _ _ _ _ _ _ hr, rowB_set, row_step out i y hy hil]
                    case measure => simp [intOf]; omega
                  · have hm1 : (i : Int).tmod 4 = 1 := by rw [Int.tmod_eq_emod_of_nonneg hi0]; omega
                    have hm2 : (i : Int) % 4 = 1 := by omega
                    rw [show i = 4 * q + 1 by omega, hget.2.1] at hy
                    have v0 : (x.toNat : Int) / 65536 % 256 = (y.toNat : Int) := by rw [hy, u8_int]; omega
                    have v1 : (y.toNat : Int) % 256 = (y.toNat : Int) := by have := y.toNat_lt; omega
                    clear hget hy hq h4
                    go_wp2_with fail
                    go_roundw
                    case rel =>
                      obtain ⟨hy, hil, hr, hb⟩ := HX.out
                      refine ⟨i + 1, by omega, by go_num, show _ ∧ _ from ⟨?_, hb.setCell (p := ⟨_, _, none⟩) (Nat.le_refl _) _⟩⟩
                      rw [heap_setCell_same _ _ _ _ _ _ hr, rowB_set, row_step out i y hy hil]
                    case measure => simp [intOf]; omega
                  · have hm1 : (i : Int).tmod 4 = 2 := by rw [Int.tmod_eq_emod_of_nonneg hi0]; omega
                    have hm2 : (i : Int) % 4 = 2 := by omega
                    rw [show i = 4 * q + 2 by omega, hget.2.2.1] at hy
                    have v0 : (x.toNat : Int) / 256 % 256 = (y.toNat : Int) := by rw [hy, u8_int]; omega
                    have v1 : (y.toNat : Int) % 256 = (y.toNat : Int) := by have := y.toNat_lt; omega
                    clear hget hy hq h4
                    go_wp2_with fail
                    go_roundw
                    case rel =>
                      obtain ⟨hy, hil, hr, hb⟩ := HX.out
                      refine ⟨i + 1, by omega, by go_num, show _ ∧ _ from ⟨?_, hb.setCell (p := ⟨_, _, none⟩) (Nat.le_refl _) _⟩⟩
                      rw [heap_setCell_same _ _ _ _ _ _ hr, rowB_set, row_step out i y hy hil]
                    case measure => simp [intOf]; omega
                  · have hm1 : (i : Int).tmod 4 = 3 := by rw [Int.tmod_eq_emod_of_nonneg hi0]; omega
                    have hm2 : (i : Int) % 4 = 3 := by omega
                    rw [show i = 4 * q + 3 by omega, hget.2.2.2] at hy
                    have v0 : (x.toNat : Int) % 256 = (y.toNat : Int) := by rw [hy, u8_int]
                    have v1 : (y.toNat : Int) % 256 = (y.toNat : Int) := by have := y.toNat_lt; omega
                    clear hget hy hq h4
                    go_wp2_with fail
                    go_roundw
                    case rel =>
                      obtain ⟨hy, hil, hr, hb⟩ := HX.out
                      refine ⟨i + 1, by omega, by go_num, show _ ∧ _ from ⟨?_, hb.setCell (p := ⟨_, _, none⟩) (Nat.le_refl _) _⟩⟩
                      rw [heap_setCell_same _ _ _ _ _ _ hr, rowB_set, row_step out i y hy hil]
                    case measure => simp [intOf]; omega
                · have hiz : ¬ (i : Int) < 32 := by omega
                  obtain rfl : i = 32 := by omega
                  have hr' : wr.heap[wk.heap.size]? = some (.cells (bv out).toArray 33 (0, 0)) := by
                    rw [HI.out.1]
                    have e1 := bs_self out
                    rw [HO.out.1] at e1
                    rw [bs_congr _ (fun j => out.getD j 0) 32 (fun j hj => by rw [if_pos (by omega)]), e1]
                  have hv := (HI.out.2.block _ (Array.getElem?_eq_some_iff.1 HV.out).1).trans HV.out
                  have HX := Lib.hid (And.intro hr' (And.intro (HB.out.trans (HI.out.2.mono HB.out.size)) hv))
                  clear hr' hv HI
                  have hz32 : ¬ (32 : Int) < 32 := by decide
                  go_wp2_with (first
                    | (with_reducible show wpList _ _ _ (⟨some 70, _, _, _, _, _⟩ :: _) _ _; refine wpList_load_row rfl _ _ rfl wk.heap.size rfl _ _ (0, 0) _ HX.out.1 Tryd.underlying33 rfl (hInfo _ HO.out.1) ?_)
                    | (with_reducible show wpList _ _ _ (⟨none, Op.store _ _ _, _, _, _, _⟩ :: _) _ _; refine wpList_store_whole rfl _ _ _ rfl w.heap.size _ rfl rfl _ _ HX.out.2.2 (hInfo' _ HO.out.1) (by rw [bv_length, bv_length, HO.out.1]; simp [zs]) (bv_one _) ?_; intro w9 HG9 hg9))
                  refine bodyPost_ret (v := .agg (bv out).toArray) ?_ ?_ ?_
                  · exact results_cell_row Tryd.results78 _ _ w.heap.size 33 _ (0, 0) _ rfl HG9.out Tryd.underlying33 rfl (hInfo _ HO.out.1)
                  · rfl
                  · exact ⟨rfl, below_grow HX.out.2.1 hg9 (Nat.le_refl _) (Array.getElem?_eq_some_iff.1 HX.out.2.2).1⟩
        · obtain ⟨p, rfl⟩ : ∃ p, j = p + 1 := ⟨j - 1, by omega⟩
          clear hj0
          have hp1 : ((p + 1 : Nat) : Int) - 1 = (p : Int) := by omega
          rw [hp1]
          have hp0 : (0 : Int) ≤ (p : Int) := by omega
          have hp8 : IntKind.i64.wrap (8 * (p : Int)) = 8 * (p : Int) := IntWalk.i64_in _ (by omega)
          have hpu : IntKind.u64.wrap (8 * (p : Int)) = 8 * (p : Int) := IntWalk.u64_in _ (by omega)
          have hpow : ((UInt8.ofNat (b.length * 8 / 256 ^ p % 256)).toNat : Int) = (b.length : Int) * 8 / 2 ^ (8 * p) % 256 := by
            rw [u8_int, show (2 : Int) ^ (8 * p) = ((256 ^ p : Nat) : Int) by rw [Int.pow_mul]; simp]; simp
          have hbe := be_step 8 (b.length * 8) p hj8
          have e7 : 8 - (p + 1) = 7 - p := by omega
          rw [e7] at HJ hbe ⊢
          have HB := Lib.hid (And.intro hpow (And.intro hbe hj8))
          clear hpow hbe e7
          go_wp2_with (at_builtin; go_loud (refine wpList_app Tryd.underlying69 infoU8s rfl (by decide) rfl _ _ rfl rfl rfl (own_keep HJ.out.1 ((Below.refl _ _).alloc (Nat.le_refl _) _)) (Rd.one wr (.int .u8 (b.length * 8 / 2 ^ (8 * p) % 256)) 5 rfl) (by have := HQ.out.1; omega) (by have := HQ.out.1; omega) (by have := HJ.out.2.size; simp; omega) ?_))
          intro v' wy ho hg _
          have hby : Below w1.heap.size wr wy := ((Below.refl _ _).alloc HJ.out.2.size _).trans (hg.below (by have := HJ.out.2.size; simp; omega) (own_block HJ.out.1))
          have hle := HB.out.2.2
          rw [show bv (b ++ 128 :: (zs k ++ be (7 - p) (b.length * 8 / 256 ^ (p + 1)))) ++ [Value.int .u8 (b.length * 8 / 2 ^ (8 * p) % 256)] = bv (b ++ [128] ++ zs k ++ be (8 - p) (b.length * 8 / 256 ^ p)) by rw [HB.out.2.1, ← HB.out.1]; simp [bv], show b.length + 1 + k + (7 - p) + 1 = b.length + 1 + k + (8 - p) by omega] at ho
          have H2 := Lib.hid (And.intro ho (HJ.out.2.trans hby))
          obtain ⟨a6, c6, hs⟩ := (own_rd ho (bv_one _)).form
          subst hs
          clear ho hg hby
          go_wp2_with fail
          go_roundw
          case rel => exact ⟨p, by omega, by congr 1, H2⟩
          case measure => simp [intOf]
end Go.Proofs.YtdjmebfjanophaaDoor
