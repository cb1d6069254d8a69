/- The reference's Leaves. · HeadArchive: the walk. (printed by gen/hdp.py) · The law: its arguments opened. -/
import Derived.Test.YtgimblpdmlnfeaaDoorHdArg
import Derived.Test.YtgimblpdmlnfeaaDoorLeafJR
import Derived.Test.YtgimblpdmlnfeaaDoorLeafI
import Derived.Test.YtgimblpdmlnfeaaDoorHdF
import Derived.Test.YtgimblpdmlnfeaaDoorHdW
import Derived.Test.YtgimblpdmlnfeaaDoorPathD
import Derived.Test.YtgimblpdmlnfeaaDoorGrMP
import Derived.Test.YtgimblpdmlnfeaaDoorLaidL
namespace Go.Proofs.YtgimblpdmlnfeaaDoor
open Go.RowKit Sha

set_option maxHeartbeats 8000000 in
set_option maxRecDepth 100000 in
theorem refLeaves_any (W : Int) (ts : List (List UInt8)) (v : Value) (w : World) (hW : -9223372036854775808 ≤ W ∧ W ≤ 9223372036854775807) (hl : ts.length ≤ 16) (hts : ∀ t ∈ ts, t.length ≤ 140737488351232) (hr : Txw w v ts) (hG : TabsR w) :
    Calls Tryd.prog 36 #[.int .i64 W, v] w fun e w' => ∃ va vc, e = .returned (.slice va ts.length vc) ∧
      w'.ownsRow w.heap.size 35 32 (.slice va ts.length vc) ts.length ((ts.map (leafH W)).flatMap bv) ∧ Below w.heap.size w w' := by
  obtain ⟨vs, hvl, hrv, hrt⟩ := hr
  obtain ⟨a, c, rfl⟩ := hrv.form
  obtain ⟨n, hn⟩ : ∃ n, n = ts.length := ⟨_, rfl⟩
  rw [← hn] at hrv hvl hl ⊢
  have HR := Lib.hid (And.intro hvl (And.intro hrv (And.intro hrt (And.intro hts hn))))
  have HG := Lib.hid hG
  clear hvl hrv hrt hts hG hn
  go_enter Tryd.func36, Tryd.ntmps36
  go_wp2_with fail
  go_loopw [5, 6] (fun s5 s6 wr => ∃ (i : Nat) (va : Option Addr) (vc : Nat), i ≤ n ∧ s6 = .int .i64 i ∧ s5 = .slice va i vc ∧ Hid (wr.ownsRow w.heap.size 35 32 (.slice va i vc) i (((ts.take i).map (leafH W)).flatMap bv) ∧ Below w.heap.size w wr)) (fun _ s6 _ => n - (intOf s6).toNat)
  case atStart => exact ⟨0, none, 0, by omega, rfl, rfl, Lib.hid ⟨by simpa using World.ownsRow_nil w w.heap.size 35 32, Below.refl _ _⟩⟩
  case round =>
    obtain ⟨i, va, vc, hi, rfl, rfl, HI⟩ := hrel
    by_cases hlt : i < n
    · have hkz : (i : Int) < (n : Int) := by omega
      have hk0 : (0 : Int) ≤ (i : Int) := by omega
      obtain ⟨t, ht⟩ : ∃ t, ts[i]? = some t := ⟨ts[i]'(by rw [← HR.out.2.2.2.2]; exact hlt), List.getElem?_eq_getElem _⟩
      obtain ⟨u, hu⟩ : ∃ u, vs[i]? = some u := ⟨vs[i]'(by rw [HR.out.1]; exact hlt), List.getElem?_eq_getElem _⟩
      have hrx := HR.out.2.2.1 i t u ht hu
      obtain ⟨ta, tc, rfl⟩ := hrx.form
      obtain ⟨q, o, c', hv, hcn, cell⟩ := (HR.out.2.1.keep HI.out.2).at (by omega)
      simp only [Value.slice.injEq, true_and] at hv
      obtain ⟨rfl, rfl⟩ := hv
      have hc := cell i _ hu
      have htl := HR.out.2.2.2.1 t (List.mem_of_getElem? ht)
      have hleaf := refLeaf_any W t (.slice ta t.length tc) wr hW (by omega) (hrx.keep HI.out.2) (HG.out.keepB HI.out.2)
      have HL := Lib.hid hleaf
      have HT := Lib.hid ht
      clear hleaf cell hrx htl ht hu
      go_wp2_with fail
      refine HL.out.mono ?_
      rintro e wb ⟨rfl, hbb⟩
      have hx32 := leafH_length W t
      obtain ⟨x, hx⟩ : ∃ x, x = leafH W t := ⟨_, rfl⟩
      rw [← hx] at hx32 ⊢
      have HX := Lib.hid (And.intro hx32 hx)
      have how := own_keep HI.out.1 hbb
      have hbw := HI.out.2.trans (hbb.mono HI.out.2.size)
      have HO := Lib.hid (And.intro how hbw)
      have hB := hbw.size
      clear hx hx32 how hbw hbb HI HL hc
      go_wp2_with (first
        | (with_reducible show wpList _ _ _ (⟨some 20, _, _, _, _, _⟩ :: _) _ _; refine wpList_build1 rfl 44 35 _ rfl (bv x) rfl Tryd.underlying44 infoHb (by rw [bv_length]; exact HX.out.1) (by decide) (by decide) ?_)
        | (at_builtin; refine wpList_app (o := ⟨some 21, _, _, _, _, _⟩) Tryd.underlying44 infoHb rfl (by decide) rfl _ _ rfl rfl rfl (own_keep HO.out.1 ((Below.refl _ _).alloc (Nat.le_refl _) _)) (Rd.row wb 35 32 (bv x) (by rw [bv_length]; exact HX.out.1) (bv_one x)) (by omega) (by omega) (by simp; omega) ?_; intro v5 w5 how5 hg5 _))
      replace hg5 := hg5.alloc
      change Grew wb w5 (.slice va i vc) v5 at hg5
      have hb5 := hg5.below hB (own_block HO.out.1)
      obtain ⟨pa5, pc5, rfl⟩ := own_form how5
      have HC := Lib.hid (And.intro how5 (HO.out.2.trans hb5))
      clear how5 hb5 hg5 HO
      go_wp2_with fail
      go_roundw
      case rel => exact ⟨i + 1, pa5, pc5, by omega, by go_num, rfl, Lib.hid ⟨by rw [List.take_add_one, HT.out, Option.toList_some, List.map_append, List.flatMap_append]; simpa [← HX.out.2] using HC.out.1, HC.out.2⟩⟩
      case measure => simp [intOf]; omega
    · have hin : i = n := by omega
      have hkz : ¬ (i : Int) < (n : Int) := by omega
      subst hin
      have ho := HI.out.1
      rw [List.take_of_length_le (by rw [← HR.out.2.2.2.2]; exact Nat.le_refl _)] at ho
      have HF := Lib.hid (And.intro ho HI.out.2)
      clear ho HI hlt
      go_wp2_with fail
      go_ret
      exact ⟨_, _, rfl, HF.out.1, HF.out.2⟩
end Go.Proofs.YtgimblpdmlnfeaaDoor
namespace Go.Proofs.YtgimblpdmlnfeaaDoor
open Go.RowKit Sha Root Ones Path

/-- What a leaf's own proof is. -/
theorem holds_pass (W : Int) (ts : List (List UInt8)) (i : Nat) (t : List UInt8) (hi : i < ts.length) (hx : ts[i]? = some t) (h64 : ts.length ≤ 16) :
    holdsB W ts.length (rootH W (ts.map (leafH W))) i t (prL (nodeH W) ((ts.map (leafH W)).take ts.length) i) = true := by
  have ht : (ts.map (leafH W)).take ts.length = ts.map (leafH W) := List.take_of_length_le (by simp)
  rw [ht]
  obtain ⟨l, hl⟩ : ∃ l, l = ts.map (leafH W) := ⟨_, rfl⟩
  have hll : l.length = ts.length := by rw [hl, List.length_map]
  have hx2 : l[i]? = some (leafH W t) := by rw [hl, List.getElem?_map, hx]; rfl
  rw [← hl]
  clear hl ht
  obtain ⟨k, hk⟩ : ∃ k, k = ts.length := ⟨_, rfl⟩
  rw [← hk] at hll hi h64 ⊢
  have h1 := pr_length (nodeH W) k 64 l i (by omega) (by omega) (by omega)
  rw [hll] at h1
  have h2 : sizeN i k = sz 64 i (k - 1) := if_pos hi
  have h3 := pr_root (nodeH W) (emptyH W) k 64 l i (leafH W t) (by omega) hx2 (by omega)
  rw [hll] at h3
  have h4 : climbE i k (prL (nodeH W) l i).length = 0 := by
    rw [climbE, if_neg (by omega), h2, h1, if_neg (Nat.lt_irrefl _), if_neg (Nat.lt_irrefl _)]
  unfold holdsB
  rw [h4, climbH, if_pos h4, h3]
  simp [rootH]
theorem Rd.capL {w : World} {size : Nat} {a : Option Addr} {n c : Nat} {xs : List Value} (h : Rd w size (.slice a n c) n xs) : n ≤ c := by
  obtain ⟨_, _, h⟩ := h
  rcases h with ⟨_, rfl⟩ | ⟨ad, c', e, h, _⟩
  · exact Nat.zero_le _
  · cases e; exact h
theorem gP_le (W : Int) (ls : List (List UInt8)) (m n : Nat) (hn : n ≤ ls.length) (hm : m ≤ n) (h : n ≤ 16) : (gP W ls m n).length ≤ 140737488355328 := by
  rw [gp_len W ls m n hn hm]
  split
  · omega
  · rename_i h0
    have := Growth.szG_le m n true (by omega) hm (by omega)
    omega
theorem prL_le (W : Int) (ls : List (List UInt8)) (m : Nat) (hm : m < ls.length) (h : ls.length ≤ 16) : (prL (nodeH W) ls m).length ≤ 140737488355328 := by
  rw [pr_length (nodeH W) ls.length 64 ls m (Nat.le_refl _) hm (by omega)]
  have := sz_le 64 m (ls.length - 1)
  omega
theorem Txw.take {w : World} {a : Option Addr} {n c : Nat} {ls : List (List UInt8)} (h : Txw w (.slice a n c) ls) (hn : ls.length = n) (k : Nat) (hk : k ≤ n) : Txw w (.slice a k c) (ls.take k) := by
  obtain ⟨vs, h1, h2, h3⟩ := h
  have hkl : (ls.take k).length = k := by rw [List.length_take]; omega
  refine ⟨vs.take k, by rw [List.length_take, List.length_take]; omega, ?_, fun i t u ht hu => ?_⟩
  · rw [hkl]
    rw [hn] at h2
    have := rd_take h2 k hk
    rwa [Nat.mul_one] at this
  · have hi : i < k := by have := (List.getElem?_eq_some_iff.1 ht).1; omega
    rw [List.getElem?_take_of_lt hi] at ht hu
    exact h3 i t u ht hu
/-- What each operation hands on. -/
def har19 (W : Int) (n m q o xc L tc M pc2 : Nat) (rt sg : List UInt8) (ta pa2 : Option Addr) : Nat → Value → World → Prop
  | 0, v, _ => v = .int .i64 0
  | 1, v, _ => v = .bool false
  | 2, v, _ => v = .bool false
  | 3, v, _ => v = .int .i64 W
  | 4, v, _ => v = .agg (hdL 1 n rt sg).toArray
  | 5, v, _ => v = .int .i64 (m : Nat)
  | 6, v, _ => v = .int .u64 (m : Nat)
  | 7, v, _ => v = .slice (some ⟨q, o, none⟩) n xc
  | 8, v, _ => v = .int .i64 (m : Nat)
  | 9, v, _ => v = .pointer (some ⟨q, o + m, none⟩)
  | 10, v, _ => v = .slice ta L tc
  | 11, v, _ => v = .slice pa2 M pc2
  | 12, v, _ => v = .bool true
  | 13, v, _ => v = .bool false
  | 14, v, _ => v = .bool false
  | _, _, _ => True
set_option maxHeartbeats 16000000 in
set_option maxRecDepth 100000 in
theorem headArchive_walk (key : List UInt8) (ts0 : List (List UInt8)) (W : Int) (vk vt : Value) (w : World) (hW : -9223372036854775808 ≤ W ∧ W ≤ 9223372036854775807) (hkl : key.length ≤ 140737488351232) (hrk : Rd w 1 vk key.length (bv key)) (htl0 : ts0.length * 24 ≤ 140737488351232)
    (hts0 : ∀ t ∈ ts0, t.length ≤ 140737488351232) (hrt0 : Txw w vt ts0) (hG : TabsRD w) :
    Calls Tryd.prog 10 #[vk, vt, .int .i64 W] w fun e w' => e = .returned (.bool true) ∧ Below w.heap.size w w' := by
  obtain ⟨ka, kc, rfl⟩ := hrk.form
  obtain ⟨xa0, xc0, rfl⟩ : ∃ a c, vt = .slice a ts0.length c := by obtain ⟨vs, h1, h2, h3⟩ := hrt0; exact h2.form
  have hzd := (zero_of_info infoHead).1
  have hzl : (hdL 0 0 (zs 32) (zs 32)).length = 66 := hdL_length _ _ _ _ (by simp [zs]) (by simp [zs])
  obtain ⟨Zl, hZl⟩ : ∃ l, l = hdL 0 0 (zs 32) (zs 32) := ⟨_, rfl⟩
  rw [← hZl] at hzd hzl
  have HZL := Lib.hid hzl
  have HRK := Lib.hid (And.intro hrk hkl)
  have HRT := Lib.hid (And.intro hrt0 hts0)
  have HGG := Lib.hid hG
  clear hZl hzl hrk hkl hrt0 hts0 hG
  go_enter Tryd.func10, Tryd.ntmps10
  go_wp2_with fail
  refine (awake26_any w HGG.out.1.toTabs).mono ?_
  rintro e w1 ⟨rfl, hb1⟩
  have HB1 := Lib.hid hb1
  clear hb1
  go_upto_if 20 with fail
  go_cut [1] (fun s1 wq => Hid (wq = w1 ∧ ∃ xa xc, s1 = .slice xa (ts0.take 16).length xc ∧ Txw w (.slice xa (ts0.take 16).length xc) (ts0.take 16)))
  case first =>
    by_cases h16 : 16 < ts0.length
    · have hd : (16 : Int) < (ts0.length : Int) := by omega
      have hc16 : (16 : Int) ≤ (xc0 : Int) := by
        obtain ⟨vs, h1, h2, h3⟩ := HRT.out.1
        obtain ⟨b', o, k, hv, hcn, _⟩ := h2.at (by omega)
        simp only [Value.slice.injEq, true_and] at hv
        omega
      go_wp2_with fail
      go_meet
      have htl : (ts0.take 16).length = 16 := by rw [List.length_take]; omega
      refine show _ ∧ _ from ⟨rfl, xa0, xc0, by rw [htl], ?_⟩
      rw [htl]
      exact HRT.out.1.take rfl 16 (by omega)
    · have hd : ¬ (16 : Int) < (ts0.length : Int) := by omega
      go_wp2_with fail
      go_meet
      exact show _ ∧ _ from ⟨rfl, xa0, xc0, by rw [List.take_of_length_le (by omega)], by rw [List.take_of_length_le (by omega)]; exact HRT.out.1⟩
  case rest =>
    obtain ⟨rfl, xa, xc, rfl, hrq⟩ := hcut.out
    have hts : ∀ t ∈ ts0.take 16, t.length ≤ 140737488351232 := fun p hp => HRT.out.2 p (List.mem_of_mem_take hp)
    have hl16 : (ts0.take 16).length ≤ 16 := by rw [List.length_take]; omega
    obtain ⟨ts, hps⟩ : ∃ p, p = ts0.take 16 := ⟨_, rfl⟩
    rw [← hps] at hrq hts hl16 ⊢
    clear hps hcut HRT
    have hlv := refLeaves_any W ts (.slice xa ts.length xc) wc hW hl16 hts (hrq.keep HB1.out) (HGG.out.1.keepB HB1.out)
    have hpass := fun i t => holds_pass W ts i t
    have h32 : ∀ p ∈ ts.map (leafH W), p.length = 32 := fun p hp => by obtain ⟨t, _, rfl⟩ := List.mem_map.1 hp; exact leafH_length W t
    have hll : (ts.map (leafH W)).length = ts.length := List.length_map ..
    obtain ⟨ls, hls⟩ : ∃ l, l = ts.map (leafH W) := ⟨_, rfl⟩
    rw [← hls] at hlv hpass h32 hll
    obtain ⟨n, hn⟩ : ∃ n, n = ts.length := ⟨_, rfl⟩
    rw [← hn] at hlv hpass hll hrq hl16 ⊢
    have HLV := Lib.hid hlv
    have HP := Lib.hid (And.intro hpass (And.intro h32 (And.intro hll (And.intro hrq (And.intro hts hn)))))
    clear hlv hpass h32 hll hls hrq hts hn
    go_wp2_with fail
    refine HLV.out.mono ?_
    rintro e w2 ⟨va, vc, rfl, how, hb2⟩
    have hrL := own_rd how (flat_one32 _)
    have hcap := hrL.capL
    have hbw2 := HB1.out.trans (hb2.mono HB1.out.size)
    have hroot := Root_any W ls (.slice va n vc) w2 hW HP.out.2.1 (by rw [HP.out.2.2.1]; omega) (by rw [HP.out.2.2.1]; exact hrL) (HGG.out.1.toTabs.keepB hbw2) (HGG.out.2.keepB hbw2)
    have H2 := Lib.hid (And.intro hrL hbw2)
    have HRO := Lib.hid hroot
    clear how hb2 hbw2 hrL hroot HLV
    go_wp2_with fail
    refine HRO.out.mono ?_
    rintro e w3 ⟨rfl, hb3⟩
    have hrl : (rootH W ls).length = 32 := rootH_32 W ls HP.out.2.1
    have hgp : ∀ m, m ≤ n → gB W m n (rootH W (ls.take m)) (rootH W ls) (gP W ls m n) = true := fun m hm => by
      have h := gp_pass W ls m n (by rw [HP.out.2.2.1]; exact Nat.le_refl _) hm
      rwa [List.take_of_length_le (l := ls) (i := n) (by rw [HP.out.2.2.1]; exact Nat.le_refl _)] at h
    have hpass := HP.out.1
    obtain ⟨rt, hrt⟩ : ∃ r, r = rootH W ls := ⟨_, rfl⟩
    rw [← hrt] at hrl hgp hpass ⊢
    have hbw3 := H2.out.2.trans (hb3.mono H2.out.2.size)
    have hsign := Sign_any key 1 n rt (.slice ka key.length kc) w3 (by have := HRK.out.2; omega) (by decide) (by omega) hrl (HRK.out.1.keep hbw3) (HGG.out.1.toTabs.keepB hbw3)
    have hsl := signB_length key 1 n rt
    have hchk := fun wx (hb : Below w.heap.size w wx) => HCheck_any key 1 n rt (signB key 1 n rt) (.slice ka key.length kc) wx HRK.out.2 (by decide) (by omega) hrl hsl (HRK.out.1.keep hb) (HGG.out.1.toTabs.keepB hb)
    obtain ⟨sg, hsg⟩ : ∃ s, s = signB key 1 n rt := ⟨_, rfl⟩
    rw [← hsg] at hsign hsl hchk
    rw [show (sg == sg) = true by simp] at hchk
    have HLN := Lib.hid (And.intro hrl hsl)
    have HGP := Lib.hid (And.intro hgp hpass)
    have H3 := Lib.hid (And.intro (H2.out.1.keep hb3) hbw3)
    have HSI := Lib.hid hsign
    have HCH := Lib.hid hchk
    clear hb3 hrl hgp hpass hrt hbw3 hsign hsl hchk hsg H2 HRO
    go_wp2_with fail
    refine HSI.out.mono ?_
    rintro e w4 ⟨rfl, hb4⟩
    have hbw4 := H3.out.2.trans (hb4.mono H3.out.2.size)
    have H4 := Lib.hid (And.intro (H3.out.1.keep hb4) hbw4)
    clear hb4 hbw4 H3 HSI
    go_upto_region 8 with (with_reducible show wpList _ _ _ (⟨none, Op.store _ _ _, _, _, _, _⟩ :: _) _ _; go_loud (refine wpList_store_whole rfl _ _ _ rfl w4.heap.size (hdL 1 n rt sg) rfl rfl Zl _ (heap_alloc_new _ _) (hdInfo' _ _ _ _ HLN.out.1 HLN.out.2) (by rw [HZL.out, hdL_length _ _ _ _ HLN.out.1 HLN.out.2]) (hdL_one _ _ _ _) ?_); intro w5 HG5 hg5)
    obtain ⟨g9, hg9⟩ : ∃ x, x = w4.heap.size := ⟨_, rfl⟩
    have r9 := HG5.out
    rw [← hg9] at r9 hg5 ⊢
    have hb45 : Below g9 w4 w5 := below_grow ((Below.refl _ _).alloc (by omega) _) hg5 (Nat.le_refl _) (by simp; omega)
    have hb45' : Below w4.heap.size w4 w5 := hb45.mono (by omega)
    have hbw5 := H4.out.2.trans (hb45'.mono H4.out.2.size)
    have H5 := Lib.hid (And.intro r9 (And.intro (H4.out.1.keep hb45') hbw5))
    clear r9 hb45 hb45' hbw5 hg9 hg5 HG5 H4
    go_wp2_with (with_reducible show wpList _ _ _ (⟨some 36, _, _, _, _, _⟩ :: _) _ _; refine wpList_load_row rfl _ _ rfl g9 rfl _ _ (0, 0) _ H5.out.1 Tryd.underlying37 rfl (hdInfo _ _ _ _ HLN.out.1 HLN.out.2) ?_)
    refine (HCH.out w5 H5.out.2.2).mono ?_
    rintro e w6 ⟨rfl, hb6⟩
    have r9 := (hb6.block _ (Array.getElem?_eq_some_iff.1 H5.out.1).1).trans H5.out.1
    have hbw6 := H5.out.2.2.trans (hb6.mono H5.out.2.2.size)
    have H6 := Lib.hid (And.intro r9 (And.intro (H5.out.2.1.keep hb6) hbw6))
    clear r9 hb6 hbw6 H5 HCH
    go_wp2_with fail
    go_loopw [10] (fun s10 wr => ∃ m : Nat, m ≤ n + 1 ∧ s10 = .int .i64 m ∧ Hid (Below w6.heap.size w6 wr)) (fun i _ => n + 1 - (intOf i).toNat)
    case atStart => exact ⟨0, by omega, rfl, Lib.hid (Below.refl _ _)⟩
    case round =>
      obtain ⟨m, hm1, rfl, HI⟩ := hrel
      by_cases hm : m ≤ n
      · have z1 : (m : Int) ≤ (n : Int) := by omega
        have z2 : (m : Int) ≤ (vc : Int) := by omega
        have z3 : (0 : Int) ≤ (m : Int) := by omega
        have hbr := H6.out.2.2.trans (HI.out.mono H6.out.2.2.size)
        have hrd := H6.out.2.1.keep HI.out
        have hln : (ls.take m).length = m := by rw [List.length_take, HP.out.2.2.1]; omega
        have hrm : Rd wr 32 (.slice va m vc) m ((ls.take m).flatMap bv) := by
          rw [flat_take32 _ _ HP.out.2.1]; exact rd_take hrd m hm
        have h32m : ∀ p ∈ ls.take m, p.length = 32 := fun p hp => HP.out.2.1 p (List.mem_of_mem_take hp)
        have hroot := Root_any W (ls.take m) (.slice va m vc) wr hW h32m (by rw [hln]; omega) (by rw [hln]; exact hrm) (HGG.out.1.toTabs.keepB hbr) (HGG.out.2.keepB hbr)
        have HRO := Lib.hid hroot
        have HRM := Lib.hid (rootH_32 W (ls.take m) h32m)
        have HB := Lib.hid hbr
        clear hbr hrd hln hrm h32m hroot
        go_wp2_with fail
        refine HRO.out.mono ?_
        rintro e w7 ⟨rfl, hb7⟩
        have hgp := HGP.out.1 m hm
        have hrl := HRM.out
        obtain ⟨r0, hr0⟩ : ∃ r, r = rootH W (ls.take m) := ⟨_, rfl⟩
        rw [← hr0] at hgp hrl ⊢
        have hbw7 := HB.out.trans (hb7.mono HB.out.size)
        have hsign := Sign_any key 2 m r0 (.slice ka key.length kc) w7 (by have := HRK.out.2; omega) (by decide) (by omega) hrl (HRK.out.1.keep hbw7) (HGG.out.1.toTabs.keepB hbw7)
        have hsl := signB_length key 2 m r0
        obtain ⟨s0, hs0⟩ : ∃ s, s = signB key 2 m r0 := ⟨_, rfl⟩
        rw [← hs0] at hsign hsl
        have HL0 := Lib.hid (And.intro hrl hsl)
        have HGM := Lib.hid hgp
        have H7 := Lib.hid (And.intro (HI.out.trans (hb7.mono HI.out.size)) hbw7)
        have HSI := Lib.hid hsign
        clear hgp hrl hr0 hbw7 hb7 hsign hsl hs0 HRO HRM HI HB
        go_wp2_with fail
        refine HSI.out.mono ?_
        rintro e w8 ⟨rfl, hb8⟩
        have H8 := Lib.hid (And.intro (H7.out.1.trans (hb8.mono H7.out.1.size)) (H7.out.2.trans (hb8.mono H7.out.2.size)))
        clear hb8 H7 HSI
        go_upto_region 14 with (with_reducible show wpList _ _ _ (⟨none, Op.store _ _ _, _, _, _, _⟩ :: _) _ _; go_loud (refine wpList_store_whole rfl _ _ _ rfl w8.heap.size (hdL 2 m r0 s0) rfl rfl Zl _ (heap_alloc_new _ _) (hdInfo' _ _ _ _ HL0.out.1 HL0.out.2) (by rw [HZL.out, hdL_length _ _ _ _ HL0.out.1 HL0.out.2]) (hdL_one _ _ _ _) ?_); intro w9 HG5 hg5)
        obtain ⟨g11, hg11⟩ : ∃ x, x = w8.heap.size := ⟨_, rfl⟩
        have r11 := HG5.out
        rw [← hg11] at r11 hg5 ⊢
        have hb89 : Below g11 w8 w9 := below_grow ((Below.refl _ _).alloc (by omega) _) hg5 (Nat.le_refl _) (by simp; omega)
        have hb89' : Below w8.heap.size w8 w9 := hb89.mono (by omega)
        have hb69 := H8.out.1.trans (hb89'.mono H8.out.1.size)
        have hbw9 := H8.out.2.trans (hb89'.mono H8.out.2.size)
        have hgpr := gProve_any W ls m n va vc w9 hW HP.out.2.1 (by rw [HP.out.2.2.1]; omega) hm (by rw [HP.out.2.2.1]; exact Nat.le_refl _) (by rw [HP.out.2.2.1]; exact H6.out.2.1.keep hb69) (HGG.out.1.toTabs.keepB hbw9) (HGG.out.2.keepB hbw9)
        rw [HP.out.2.2.1] at hgpr
        have hg32 : ∀ p ∈ gP W ls m n, p.length = 32 := gP_32 W ls m n (by rw [HP.out.2.2.1]; exact Nat.le_refl _) hm HP.out.2.1
        have hgpl : (gP W ls m n).length ≤ 140737488355328 := gP_le W ls m n (by rw [HP.out.2.2.1]; exact Nat.le_refl _) hm (by omega)
        have hgm := HGM.out
        obtain ⟨ps, hps⟩ : ∃ p, p = gP W ls m n := ⟨_, rfl⟩
        rw [← hps] at hgpr hg32 hgpl hgm
        have H9 := Lib.hid (And.intro r11 (And.intro hb69 hbw9))
        have HPS := Lib.hid (And.intro hg32 (And.intro hgpl hgm))
        have HGR := Lib.hid hgpr
        clear r11 hb89 hb89' hb69 hbw9 hg11 hg5 HG5 hgpr hg32 hgpl hgm hps HGM H8
        go_wp2_with fail
        refine HGR.out.mono ?_
        rintro e wa ⟨pa, pc, rfl, howp, hba⟩
        have hrp := own_rd howp (flat_one32 _)
        have r11 := (hba.block _ (Array.getElem?_eq_some_iff.1 H9.out.1).1).trans H9.out.1
        have hb6a := H9.out.2.1.trans (hba.mono H9.out.2.1.size)
        have hbwa := H9.out.2.2.trans (hba.mono H9.out.2.2.size)
        have r9 := (hb6a.block _ (Array.getElem?_eq_some_iff.1 H6.out.1).1).trans H6.out.1
        have hfol := Follows_any W 2 m 1 n r0 s0 rt sg ps (.slice pa ps.length pc) wa hW (by omega) (by omega) HL0.out.1 HL0.out.2 HLN.out.1 HLN.out.2 HPS.out.1 HPS.out.2.1 hrp (HGG.out.1.toTabs.keepB hbwa)
        rw [HPS.out.2.2] at hfol
        obtain ⟨PL, hPL⟩ : ∃ l, l = ps.length := ⟨_, rfl⟩
        rw [← hPL] at hfol ⊢
        have HA := Lib.hid (And.intro r11 (And.intro r9 (And.intro hb6a hbwa)))
        have HFO := Lib.hid hfol
        clear howp hrp r11 r9 hb6a hbwa hba hfol hPL H9 HGR HPS
        go_wp2_with (first
          | (with_reducible show wpList _ _ _ (⟨some 65, _, _, _, _, _⟩ :: _) _ _; refine wpList_guard rfl ?_; refine wpList_load_row rfl _ _ rfl g11 rfl _ _ (0, 0) _ HA.out.1 Tryd.underlying37 rfl (hdInfo _ _ _ _ HL0.out.1 HL0.out.2) ?_; refine wpList_guard rfl ?_; refine wpList_load_row rfl _ _ rfl g9 rfl _ _ (0, 0) _ HA.out.2.1 Tryd.underlying37 rfl (hdInfo _ _ _ _ HLN.out.1 HLN.out.2) ?_))
        refine HFO.out.mono ?_
        rintro e wb ⟨rfl, hbb⟩
        have r9 := (hbb.block _ (Array.getElem?_eq_some_iff.1 HA.out.2.1).1).trans HA.out.2.1
        have hb6b := HA.out.2.2.1.trans (hbb.mono HA.out.2.2.1.size)
        have hbwb := HA.out.2.2.2.trans (hbb.mono HA.out.2.2.2.size)
        have HB := Lib.hid (And.intro r9 (And.intro hb6b hbwb))
        clear r9 hb6b hbwb hbb HA HFO HL0
        by_cases hmn : m < n
        · have z4 : (m : Int) < (n : Int) := by omega
          have hpp := Prove_good W ls m n va vc wb hW HP.out.2.1 (by rw [HP.out.2.2.1]; omega) hmn (by rw [HP.out.2.2.1]; exact Nat.le_refl _) (by rw [HP.out.2.2.1]; exact H6.out.2.1.keep HB.out.2.1) (HGG.out.1.toTabs.keepB HB.out.2.2)
          rw [HP.out.2.2.1] at hpp
          obtain ⟨t, ht⟩ : ∃ t, ts[m]? = some t := ⟨ts[m]'(by rw [← HP.out.2.2.2.2.2]; exact hmn), List.getElem?_eq_getElem _⟩
          have hh := HGP.out.2 m t hmn ht hl16
          have hp32 : ∀ p ∈ prL (nodeH W) (ls.take n) m, p.length = 32 := prL_32 W (ls.take n) m (fun p hp => HP.out.2.1 p (List.mem_of_mem_take hp))
          have hppl : (prL (nodeH W) (ls.take n) m).length ≤ 140737488355328 := prL_le W (ls.take n) m (by rw [List.length_take, HP.out.2.2.1]; omega) (by rw [List.length_take, HP.out.2.2.1]; omega)
          obtain ⟨qs, hqs⟩ : ∃ p, p = prL (nodeH W) (ls.take n) m := ⟨_, rfl⟩
          rw [← hqs] at hpp hh hp32 hppl
          have HQS := Lib.hid (And.intro hp32 (And.intro hppl (And.intro hh ht)))
          have HPP := Lib.hid hpp
          clear hpp ht hh hp32 hppl hqs
          go_upto_region 18 with fail
          go_wp2_with fail
          refine HPP.out.mono ?_
          rintro e wc2 ⟨pa2, pc2, rfl, howp, hbc⟩
          have hrp := own_rd howp (flat_one32 _)
          have r9 := (hbc.block _ (Array.getElem?_eq_some_iff.1 HB.out.1).1).trans HB.out.1
          have hb6c := HB.out.2.1.trans (hbc.mono HB.out.2.1.size)
          have hbwc := HB.out.2.2.trans (hbc.mono HB.out.2.2.size)
          obtain ⟨vs, hv1, hv2, hv3⟩ := HP.out.2.2.2.1
          obtain ⟨u, hu⟩ : ∃ u, vs[m]? = some u := ⟨vs[m]'(by rw [hv1, ← HP.out.2.2.2.2.2]; exact hmn), List.getElem?_eq_getElem _⟩
          have hrx := hv3 m t u HQS.out.2.2.2 hu
          obtain ⟨ta, tc, rfl⟩ := hrx.form
          rw [← HP.out.2.2.2.2.2] at hv2
          obtain ⟨q, o, c', hv, hcn, cell⟩ := (hv2.keep hbwc).at (by omega)
          simp only [Value.slice.injEq, true_and] at hv
          obtain ⟨rfl, rfl⟩ := hv
          have hc := cell m _ hu
          have htl := HP.out.2.2.2.2.1 t (List.mem_of_getElem? HQS.out.2.2.2)
          have hhold : ∀ wx, Below wc2.heap.size wc2 wx → Calls Tryd.prog 28 #[.int .i64 W, .agg (hdL 1 n rt sg).toArray, .int .u64 m, .slice ta t.length tc, .slice pa2 qs.length pc2] wx fun e w' => e = .returned (.bool true) ∧ Below wx.heap.size wx w' := fun wx hb => by
            have hbx := hbwc.trans (hb.mono hbwc.size)
            have h := Holds_any W 1 n m rt sg t qs (.slice ta t.length tc) (.slice pa2 qs.length pc2) wx hW (by omega) (by omega) HLN.out.1 HLN.out.2 (by omega) (hrx.keep hbx) HQS.out.1 HQS.out.2.1 (hrp.keep hb) (HGG.out.1.toTabs.keepB hbx)
            rw [HQS.out.2.2.1] at h
            exact h
          obtain ⟨L, hL⟩ : ∃ l, l = t.length := ⟨_, rfl⟩
          obtain ⟨M, hM⟩ : ∃ l, l = qs.length := ⟨_, rfl⟩
          rw [← hL, ← hM] at hhold
          rw [← hL] at hc
          rw [← hM]
          have HZ := Lib.hid (And.intro r9 (And.intro hc hhold))
          have HZB := Lib.hid hb6c
          clear howp hrp r9 hb6c hbwc hbc hv1 hv2 hv3 hu hrx cell hc htl hhold hL hM HPP HQS HB
          go_upto_region 19 with fail
          refine wp_region_steps [some 82, some 83, some 84, some 85, some 86, some 87, some 88, some 89, some 90, some 91, some 92, some 93, some 94, some 95, some 96] [] (har19 W n m q o xc L tc M pc2 rt sg ta pa2) (fun _ wx wy => Below wx.heap.size wx wy) (fun wx => Below wc2.heap.size wc2 wx) (by kernel_rfl) (by kernel_rfl) rfl (by kernel_rfl) (Below.refl _ _).drew (fun _ wx => Below.refl _ _) (fun _ wx wy h k => h.trans (k.mono h.size)) ?hF ?hstep ?hend
          case hF =>
            exact ⟨fun _ _ _ _ _ _ h => h, ⟨fun _ _ _ _ _ _ h => h, ⟨fun _ _ _ _ _ _ h => h, ⟨fun _ _ _ _ _ _ h => h, ⟨fun _ _ _ _ _ _ h => h, ⟨fun _ _ _ _ _ _ h => h, ⟨fun _ _ _ _ _ _ h => h, ⟨fun _ _ _ _ _ _ h => h, ⟨fun _ _ _ _ _ _ h => h, ⟨fun _ _ _ _ _ _ h => h, ⟨fun _ _ _ _ _ _ h => h, ⟨fun _ _ _ _ _ _ h => h, ⟨fun _ _ _ _ _ _ h => h, ⟨fun _ _ _ _ _ _ h => h, ⟨fun _ _ _ _ _ _ h => h, trivial⟩⟩⟩⟩⟩⟩⟩⟩⟩⟩⟩⟩⟩⟩⟩
          case hstep =>
            -- operation 0: Op.move (tmp 15)
            refine ⟨fun r wx hG hs hq hf => ?_, ?_⟩
            · have e15 : r 15 = .int .i64 0 := hs 15 rfl
              refine (if_pos rfl).symm ▸ ?_
              clear hs hq hf
              unfold gives
              go_simp
              exact ⟨Below.refl _ _, rfl⟩
            -- operation 1: Op.binOp BinOp.neq 28 (tmp 82) (const (Value.int IntKind.i64 0)) 28
            refine ⟨fun r wx hG hs hq hf => ?_, ?_⟩
            · have h0 : r 82 = .int .i64 0 := hf.1
              refine (if_pos rfl).symm ▸ ?_
              clear hs hq hf
              unfold gives
              go_simp
              exact ⟨Below.refl _ _, rfl⟩
            -- operation 2: Op.move (tmp 83)
            refine ⟨fun r wx hG hs hq hf => ?_, ?_⟩
            · have h1 : r 83 = .bool false := hf.1
              refine (if_pos rfl).symm ▸ ?_
              clear hs hq hf
              unfold gives
              go_simp
              exact ⟨Below.refl _ _, rfl⟩
            -- operation 3: Op.move (tmp 2)
            refine ⟨fun r wx hG hs hq hf => ?_, ?_⟩
            · have e2 : r 2 = .int .i64 W := hs 2 rfl
              have h2 : r 84 = .bool false := hf.1
              have hy : ydD [some 82, some 83, some 84, some 85, some 86, some 87, some 88, some 89, some 90, some 91, some 92, some 93, some 94, some 95, some 96] r 2 = some false := by show (match r 84 with | .bool b => some b | _ => none) = some false; rw [h2]
              simp only [Region.wanted, hy, beq_self_eq_true, if_true]
              clear hs hq hf hy
              unfold gives
              go_simp
              exact ⟨Below.refl _ _, rfl⟩
            -- operation 4: Op.load 37 (tmp 9)
            refine ⟨fun r wx hG hs hq hf => ?_, ?_⟩
            · have e9 : r 9 = .pointer (some ⟨g9, 0, none⟩) := hs 9 rfl
              have h2 : r 84 = .bool false := hf.1
              have hy : ydD [some 82, some 83, some 84, some 85, some 86, some 87, some 88, some 89, some 90, some 91, some 92, some 93, some 94, some 95, some 96] r 2 = some false := by show (match r 84 with | .bool b => some b | _ => none) = some false; rw [h2]
              simp only [Region.wanted, hy, beq_self_eq_true, if_true]
              clear hs hq hf hy
              unfold gives
              refine gives_load_row 37 _ rfl g9 e9 37 _ (0, 0) _ ((hG.block _ (Array.getElem?_eq_some_iff.1 HZ.out.1).1).trans HZ.out.1) Tryd.underlying37 rfl (hdInfo _ _ _ _ HLN.out.1 HLN.out.2) ?_
              exact ⟨Below.refl _ _, rfl⟩
            -- operation 5: Op.move (tmp 10)
            refine ⟨fun r wx hG hs hq hf => ?_, ?_⟩
            · have e10 : r 10 = .int .i64 m := hs 10 rfl
              have h2 : r 84 = .bool false := hf.1
              have hy : ydD [some 82, some 83, some 84, some 85, some 86, some 87, some 88, some 89, some 90, some 91, some 92, some 93, some 94, some 95, some 96] r 2 = some false := by show (match r 84 with | .bool b => some b | _ => none) = some false; rw [h2]
              simp only [Region.wanted, hy, beq_self_eq_true, if_true]
              clear hs hq hf hy
              unfold gives
              go_simp
              exact ⟨Below.refl _ _, rfl⟩
            -- operation 6: Op.convert 3 33 (tmp 87)
            refine ⟨fun r wx hG hs hq hf => ?_, ?_⟩
            · have h5 : r 87 = .int .i64 (m : Nat) := hf.1
              have h2 : r 84 = .bool false := hf.2.1
              have hy : ydD [some 82, some 83, some 84, some 85, some 86, some 87, some 88, some 89, some 90, some 91, some 92, some 93, some 94, some 95, some 96] r 2 = some false := by show (match r 84 with | .bool b => some b | _ => none) = some false; rw [h2]
              simp only [Region.wanted, hy, beq_self_eq_true, if_true]
              clear hs hq hf hy
              unfold gives
              have hwm : IntKind.u64.wrap (m : Int) = (m : Int) := IntWalk.u64_in _ (by omega)
              go_simp
              exact ⟨Below.refl _ _, rfl⟩
            -- operation 7: Op.move (tmp 1)
            refine ⟨fun r wx hG hs hq hf => ?_, ?_⟩
            · have e1 : r 1 = .slice (some ⟨q, o, none⟩) n xc := hs 1 rfl
              have h2 : r 84 = .bool false := hf.1
              have hy : ydD [some 82, some 83, some 84, some 85, some 86, some 87, some 88, some 89, some 90, some 91, some 92, some 93, some 94, some 95, some 96] r 2 = some false := by show (match r 84 with | .bool b => some b | _ => none) = some false; rw [h2]
              simp only [Region.wanted, hy, beq_self_eq_true, if_true]
              clear hs hq hf hy
              unfold gives
              go_simp
              exact ⟨Below.refl _ _, rfl⟩
            -- operation 8: Op.move (tmp 10)
            refine ⟨fun r wx hG hs hq hf => ?_, ?_⟩
            · have e10 : r 10 = .int .i64 m := hs 10 rfl
              have h2 : r 84 = .bool false := hf.1
              have hy : ydD [some 82, some 83, some 84, some 85, some 86, some 87, some 88, some 89, some 90, some 91, some 92, some 93, some 94, some 95, some 96] r 2 = some false := by show (match r 84 with | .bool b => some b | _ => none) = some false; rw [h2]
              simp only [Region.wanted, hy, beq_self_eq_true, if_true]
              clear hs hq hf hy
              unfold gives
              go_simp
              exact ⟨Below.refl _ _, rfl⟩
            -- operation 9: Op.indexAddr 22 (tmp 89) (tmp 90)
            refine ⟨fun r wx hG hs hq hf => ?_, ?_⟩
            · have h7 : r 89 = .slice (some ⟨q, o, none⟩) n xc := hf.1
              have h8 : r 90 = .int .i64 (m : Nat) := hf.2.1
              have h2 : r 84 = .bool false := hf.2.2.1
              have hy : ydD [some 82, some 83, some 84, some 85, some 86, some 87, some 88, some 89, some 90, some 91, some 92, some 93, some 94, some 95, some 96] r 2 = some false := by show (match r 84 with | .bool b => some b | _ => none) = some false; rw [h2]
              simp only [Region.wanted, hy, beq_self_eq_true, if_true]
              clear hs hq hf hy
              unfold gives
              have hmn0 : (0 : Int) ≤ (m : Int) := by omega
              go_simp
              exact ⟨Below.refl _ _, rfl⟩
            -- operation 10: Op.load 25 (tmp 91)
            refine ⟨fun r wx hG hs hq hf => ?_, ?_⟩
            · have h9 : r 91 = .pointer (some ⟨q, o + m, none⟩) := hf.1
              have h2 : r 84 = .bool false := hf.2.1
              have hy : ydD [some 82, some 83, some 84, some 85, some 86, some 87, some 88, some 89, some 90, some 91, some 92, some 93, some 94, some 95, some 96] r 2 = some false := by show (match r 84 with | .bool b => some b | _ => none) = some false; rw [h2]
              simp only [Region.wanted, hy, beq_self_eq_true, if_true]
              clear hs hq hf hy
              unfold gives
              have hc := (hG.cell (World.block_lt_of_cell? _ _ HZ.out.2.1)).trans HZ.out.2.1
              go_simp
              exact ⟨Below.refl _ _, rfl⟩
            -- operation 11: Op.move (tmp 14)
            refine ⟨fun r wx hG hs hq hf => ?_, ?_⟩
            · have e14 : r 14 = .slice pa2 M pc2 := hs 14 rfl
              have h2 : r 84 = .bool false := hf.1
              have hy : ydD [some 82, some 83, some 84, some 85, some 86, some 87, some 88, some 89, some 90, some 91, some 92, some 93, some 94, some 95, some 96] r 2 = some false := by show (match r 84 with | .bool b => some b | _ => none) = some false; rw [h2]
              simp only [Region.wanted, hy, beq_self_eq_true, if_true]
              clear hs hq hf hy
              unfold gives
              go_simp
              exact ⟨Below.refl _ _, rfl⟩
            -- operation 12: Op.call ( callee := Callee.value (func 28), args := #[tmp 85, tmp 86, tmp 88, tmp 92, tmp 93], argTypes := #[3, 37, 33, 
            refine ⟨fun r wx hG hs hq hf => ?_, ?_⟩
            · have h3 : r 85 = .int .i64 W := hf.1
              have h4 : r 86 = .agg (hdL 1 n rt sg).toArray := hf.2.1
              have h6 : r 88 = .int .u64 (m : Nat) := hf.2.2.1
              have h10 : r 92 = .slice ta L tc := hf.2.2.2.1
              have h11 : r 93 = .slice pa2 M pc2 := hf.2.2.2.2.1
              have h2 : r 84 = .bool false := hf.2.2.2.2.2.1
              have hy : ydD [some 82, some 83, some 84, some 85, some 86, some 87, some 88, some 89, some 90, some 91, some 92, some 93, some 94, some 95, some 96] r 2 = some false := by show (match r 84 with | .bool b => some b | _ => none) = some false; rw [h2]
              simp only [Region.wanted, hy, beq_self_eq_true, if_true]
              clear hs hq hf hy
              unfold gives
              have hk := HZ.out.2.2 wx hG
              go_simp
              refine hk.mono ?_
              rintro e wy ⟨rfl, hb1⟩
              exact ⟨_, rfl, hb1, rfl⟩
            -- operation 13: Op.unOp UnOp.not 4 (tmp 94)
            refine ⟨fun r wx hG hs hq hf => ?_, ?_⟩
            · have h12 : r 94 = .bool true := hf.1
              have h2 : r 84 = .bool false := hf.2.1
              have hy : ydD [some 82, some 83, some 84, some 85, some 86, some 87, some 88, some 89, some 90, some 91, some 92, some 93, some 94, some 95, some 96] r 2 = some false := by show (match r 84 with | .bool b => some b | _ => none) = some false; rw [h2]
              simp only [Region.wanted, hy, beq_self_eq_true, if_true]
              clear hs hq hf hy
              unfold gives
              go_simp
              exact ⟨Below.refl _ _, rfl⟩
            -- operation 14: Op.pick (tmp 84) (const (Value.bool true)) (tmp 95)
            refine ⟨fun r wx hG hs hq hf => ?_, ?_⟩
            · have h2 : r 84 = .bool false := hf.1
              have h13 : r 95 = .bool false := hf.2.1
              refine (if_pos rfl).symm ▸ ?_
              clear hs hq hf
              unfold gives
              go_simp
              exact ⟨Below.refl _ _, rfl⟩
            exact trivial
          case hend =>
            intro u wz hG hfin
            have z14 : u 14 = .bool false := hfin 14 (by decide) (by kernel_rfl)
            clear hfin
            simp only [fill]
            have HZ2 := Lib.hid (HZB.out.trans (hG.mono HZB.out.size))
            clear hG HZ HZB
            go_simp
            go_wp2_with fail
            go_roundw
            case rel => exact ⟨m + 1, by omega, by go_num, HZ2⟩
            case measure => simp [intOf]; omega
        · have z4 : ¬ (m : Int) < (n : Int) := by omega
          go_wp2_with fail
          go_roundw
          case rel => exact ⟨m + 1, by omega, by go_num, Lib.hid HB.out.2.1⟩
          case measure => simp [intOf]; omega
      · have z1 : ¬ (m : Int) ≤ (n : Int) := by omega
        have HF := Lib.hid (H6.out.2.2.trans (HI.out.mono H6.out.2.2.size))
        go_wp2_with fail
        go_ret
        exact ⟨rfl, HF.out⟩
end Go.Proofs.YtgimblpdmlnfeaaDoor
namespace Go.Proofs.YtgimblpdmlnfeaaDoor
open Go.ChangeShapes Go.WideShapes Go.ChangeAt Go.RowKit Sha

set_option maxRecDepth 100000 in
theorem headArchive.law (H : Type) (enc : TypeId × Value → H) (W : World) (base : Nat)
    (v0 : Value) (d0 : DataW H) (p0 : List MemPlace) (g0 : Value.okWide Tryd.prog W .any base 25 v0) (h0 : DataW.Trod enc Tryd.prog W 0 (fun _ => true) true 25 v0 d0 p0)
    (v1 : Value) (d1 : DataW H) (p1 : List MemPlace) (g1 : Value.okWide Tryd.prog W .any base 22 v1) (h1 : DataW.Trod enc Tryd.prog W 0 (fun _ => true) true 22 v1 d1 p1)
    (v2 : Value) (d2 : DataW H) (p2 : List MemPlace) (g2 : Value.okWide Tryd.prog W .any base 3 v2) (h2 : DataW.Trod enc Tryd.prog W 0 (fun _ => true) true 3 v2 d2 p2)
    {ts : List TypeId} {es : List (DataW H)} (hsz : (DataW.weightsEach Tryd.prog ([25, 22, 3] ++ ts) ([d0, d1, d2] ++ es)).all (· ≤ reachBytes) = true) (hG : TabsRD W) :
    Calls Tryd.prog 10 #[v0, v1, v2] W fun e W' => e = .returned (.bool true) ∧ Below W.heap.size W W' := by
  obtain ⟨a0, m0, c0, rfl⟩ := okWide_slice Tryd.underlying25 g0
  obtain ⟨t0, r0, b0⟩ := open_bytesW (TW.of hsz (j := 0) h0 rfl rfl)
  obtain ⟨a1, m1, c1, rfl⟩ := okWide_slice Tryd.underlying22 g1
  obtain ⟨ls1, r1, b1, q1⟩ := open_txw (TW.of hsz (j := 1) h1 rfl rfl)
  obtain ⟨n2, rfl, _, _, wn2⟩ := open_int Tryd.underlying3 g2 h2
  have hn2 := bounds_i64 wn2
  exact headArchive_walk t0 ls1 n2 _ _ W hn2 b0 r0 b1 q1 r1 hG
end Go.Proofs.YtgimblpdmlnfeaaDoor
