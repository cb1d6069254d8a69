/- mac: the keys of nodes; the reference's Mark and Derive. (printed by gen/mk.py) -/
import Derived.Test.YtgimblpdmlnfeaaDoorMkA
import Derived.Test.YtgimblpdmlnfeaaDoorBinRef
import Derived.Lib.SlBytesConst
namespace Go.Proofs.YtgimblpdmlnfeaaDoor
open Go.ChangeShapes Go.WideShapes Go.ChangeAt Go.RowKit Sha

theorem Rd.marked (w : World) (e : TypeId) (l : List UInt8) (fr : Nat × Nat) : Rd (w.alloc (.cells (bv l).toArray e fr)) 1 (.slice (some ⟨w.heap.size, 0, none⟩) l.length l.length) l.length (bv l) := by
  refine ⟨by simp [bv_length], bv_one _, .inr ⟨_, _, rfl, Nat.le_refl _, fun j u hu => ?_⟩⟩
  rw [Addr.add_lit, Nat.zero_add, cell_of_row _ w.heap.size j (bv l).toArray e fr (heap_alloc_new _ _)]
  simpa using hu

end Go.Proofs.YtgimblpdmlnfeaaDoor
namespace Go.Proofs.YtgimblpdmlnfeaaDoor
open Go.ChangeShapes Go.WideShapes Go.ChangeAt Go.RowKit Sha

theorem kx_snoc (k : List UInt8) (x : UInt8) (i : Nat) (h : i < k.length) : kx (k.take i) x ++ [k.getD i 0 ^^^ x] = kx (k.take (i + 1)) x := by
  rw [List.take_add_one, kx, kx, List.map_append, List.getD_eq_getElem?_getD, List.getElem?_eq_getElem h]; rfl
theorem padx_getD (l : List UInt8) (i : Nat) : (if h : i < l.length then l[i] else 0) = (pad64 l).getD i 0 := by
  unfold pad64
  rw [List.getD_eq_getElem?_getD]
  split
  · rename_i h; rw [List.getElem?_append_left h, List.getElem?_eq_getElem h]; rfl
  · rename_i h
    rw [List.getElem?_append_right (by omega), zs, List.getElem?_replicate]
    split <;> rfl

set_option maxHeartbeats 4000000 in
set_option maxRecDepth 100000 in
theorem pad_any (key : List UInt8) (x : UInt8) (v : Value) (w : World) (hl : key.length ≤ 140737488351232) (hr : Rd w 1 v key.length (bv key)) (hG : TabsR w) :
    Calls Tryd.prog 102 #[v, .int .u8 x.toNat] w fun e w' => ∃ v', e = .returned v' ∧ w'.ownsRow w.heap.size 5 1 v' 64 (bv (kx (pad64 (hkey key)) x)) ∧ Below w.heap.size w w' := by
  obtain ⟨a, c, rfl⟩ := hr.form
  have hz32 := (zero_of_info info32).1
  have HR := Lib.hid hr
  clear hr
  go_enter Tryd.func102, Tryd.ntmps102
  go_upto_region 1 with fail
  go_upto_if 11 with fail
  go_cut [0] (fun s wq => RowKit.Hid (Rd wq 1 s (hkey key).length (bv (hkey key)) ∧ Below w.heap.size w wq))
  case first =>
    by_cases h64 : 64 < key.length
    · have hd : (64 : Int) < (key.length : Int) := by omega
      have hh : hkey key = Sha.sum key := by unfold hkey; rw [if_pos h64]
      have HH := Lib.hid hh
      clear hh
      go_wp2_with fail
      refine (refSumSha_any key _ w (by omega) HR.out hG).mono ?_
      rintro e w2 ⟨rfl, hb2⟩
      have hol := sum_length key
      generalize Sha.sum key = o at *
      have H2 := Lib.hid (And.intro hb2 hol)
      clear hb2 hol
      go_wp2_with (with_reducible show wpList _ _ _ (⟨none, Op.store _ _ _, _, _, _, _⟩ :: _) _ _; go_loud (refine wpList_store_whole rfl _ _ _ rfl w2.heap.size (bv o) rfl rfl (bv (zs 32)) _ (heap_alloc_new _ _) (hInfo' _ H2.out.2) (by rw [bv_length, bv_length, H2.out.2]; simp [zs]) (bv_one _) ?_; intro w3 HG3 hg3))
      go_meet
      refine show _ ∧ _ from ⟨?_, below_grow (H2.out.1.alloc H2.out.1.size _) hg3 H2.out.1.size (by simp)⟩
      rw [HH.out]
      exact rd_row HG3.out H2.out.2
    · have hd : ¬ (64 : Int) < (key.length : Int) := by omega
      have hh : hkey key = key := by unfold hkey; rw [if_neg h64]
      have HH := Lib.hid hh
      clear hh
      go_wp2_with fail
      go_meet
      refine show _ ∧ _ from ⟨?_, Below.refl _ _⟩
      rw [HH.out]
      exact HR.out
  case rest =>
    have hle := hkey_le key
    obtain ⟨l, hll⟩ : ∃ l, l = hkey key := ⟨_, rfl⟩
    rw [← hll] at hcut hle
    have HLL := Lib.hid hll
    clear hll
    obtain ⟨a2, c2, hs⟩ := hcut.out.1.form
    subst hs
    obtain ⟨kn, hkn⟩ : ∃ kn, kn = l.length := ⟨_, rfl⟩
    have hrk := hcut.out.1
    rw [← hkn] at hrk hle ⊢
    have hkl : (pad64 l).length = 64 := pad64_length _ (by omega)
    obtain ⟨k, hk⟩ : ∃ k, k = pad64 l := ⟨_, rfl⟩
    rw [← hk] at hkl
    have HKK := Lib.hid (And.intro hrk (And.intro hkn (And.intro hk (And.intro hkl hcut.out.2))))
    clear hrk hkn hk hkl hcut
    generalize wc = wb at *
    go_wp2_with fail
    go_loopw [7, 6] (fun s7 s6 wr => ∃ i : Nat, i ≤ 64 ∧ s7 = .int .i64 i ∧ RowKit.Hid (wr.ownsRow wb.heap.size 5 1 s6 i (bv (kx (k.take i) x)) ∧ Below wb.heap.size wb wr)) (fun s7 _ _ => 64 - (intOf s7).toNat)
    case atStart => exact ⟨0, by omega, rfl, show _ ∧ _ from ⟨by
      rw [List.take_zero]
      exact ⟨rfl, .inl ⟨rfl, rfl⟩⟩, Below.refl _ _⟩⟩
    case round =>
      obtain ⟨i, hi, rfl, HI⟩ := hrel
      obtain ⟨a6, c6, hs⟩ := (own_rd HI.out.1 (bv_one _)).form
      subst hs
      by_cases hil : i < 64
      · have hiz : (i : Int) < 64 := by omega
        have hi0 : (0 : Int) ≤ (i : Int) := by omega
        obtain ⟨y, hy⟩ : ∃ y, y = k.getD i 0 := ⟨_, rfl⟩
        have hyi : (if h : i < l.length then l[i] else 0) = y := by rw [hy, HKK.out.2.2.1, padx_getD]
        have HY := Lib.hid (And.intro hy hyi)
        clear hy hyi
        go_upto_if 22 with fail
        go_cut [8] (fun s wq => wq = wr ∧ s = .int .u8 y.toNat)
        case first =>
          by_cases hik : i < kn
          · have hikz : (i : Int) < (kn : Int) := by omega
            obtain ⟨bb, off, c', hv, hcp, hcell⟩ := (HKK.out.1.keep HI.out.2).at (by omega)
            simp only [Value.slice.injEq, true_and] at hv
            obtain ⟨rfl, rfl⟩ := hv
            have hcy : wr.cell? ⟨bb, off + i, none⟩ = some (.int .u8 y.toNat) := by
              refine hcell i _ ?_
              have h1 := HY.out.2
              have h2 := HKK.out.2.1
              rw [dif_pos (by omega)] at h1
              simp [bv, ← h1, List.getElem?_eq_getElem (show i < l.length by omega)]
            clear hcell
            go_wp2_with fail
            go_meet
            exact ⟨rfl, rfl⟩
          · have hikz : ¬ (i : Int) < (kn : Int) := by omega
            have hy0 : y = 0 := by
              have h1 := HY.out.2
              have h2 := HKK.out.2.1
              rw [dif_neg (by omega)] at h1
              exact h1.symm
            have HY0 := Lib.hid hy0
            clear hy0
            go_wp2_with fail
            go_meet
            exact ⟨rfl, by rw [HY0.out]; rfl⟩
        case rest =>
          obtain ⟨hwc, hs8⟩ := hcut
          subst hs8
          rw [hwc]
          clear hwc
          have hxx := i8_xor y x
          obtain ⟨q, hq⟩ : ∃ q, q = y ^^^ x := ⟨_, rfl⟩
          rw [← hq] at hxx
          have HQ := Lib.hid hq
          clear hq
          go_wp2_with (at_builtin; go_loud (refine wpList_app Tryd.underlying25 infoU8s rfl (by decide) rfl _ _ rfl rfl rfl (own_keep HI.out.1 ((Below.refl _ _).alloc (Nat.le_refl _) _)) (Rd.one wr (.int .u8 q.toNat) 5 rfl) (by omega) (by omega) (by have := HI.out.2.size; simp; omega) ?_))
          intro v' wy ho hg _
          have hby : Below wb.heap.size wb wy := HI.out.2.trans (((Below.refl _ _).alloc HI.out.2.size _).trans (hg.below (by have := HI.out.2.size; simp; omega) (own_block HI.out.1)))
          rw [show bv (kx (k.take i) x) ++ [Value.int .u8 q.toNat] = bv (kx (k.take (i + 1)) x) by rw [← kx_snoc _ _ _ (by rw [HKK.out.2.2.2.1]; omega), ← HY.out.1, ← HQ.out]; simp [bv]] at ho
          have H9 := Lib.hid (And.intro ho hby)
          obtain ⟨a8, c8, hs⟩ := (own_rd ho (bv_one _)).form
          subst hs
          clear ho hg hby
          go_wp2_with fail
          go_roundw
          case rel => exact ⟨i + 1, by omega, by go_num, H9⟩
          case measure => simp [intOf]; omega
      · have hiz : ¬ (i : Int) < 64 := by omega
        obtain rfl : i = 64 := by omega
        have hz64 : ¬ (64 : Int) < 64 := by decide
        go_wp2_with fail
        go_ret
        refine ⟨_, rfl, ?_, HKK.out.2.2.2.2.trans (HI.out.2.mono HKK.out.2.2.2.2.size)⟩
        have h := HI.out.1
        rw [List.take_of_length_le (by rw [HKK.out.2.2.2.1]; omega), HKK.out.2.2.1, HLL.out] at h
        exact own_base h HKK.out.2.2.2.2.size
end Go.Proofs.YtgimblpdmlnfeaaDoor
namespace Go.Proofs.YtgimblpdmlnfeaaDoor
open Go.RowKit Sha

/-- Operation 5 leaves alone what lies below B, operation 3 what lies below B2, each other what there was. -/
def kTwo (B B2 : Nat) (j : Nat) (w w' : World) : Prop := if j = 5 then Below B w w' else if j = 3 then Below B2 w w' else Below w.heap.size w w'
theorem kTwo_refl (B B2 j : Nat) (w : World) : kTwo B B2 j w w := by
  unfold kTwo; split
  · exact Below.refl _ _
  · split <;> exact Below.refl _ _
theorem kTwo_of {B B2 j : Nat} {w w' : World} (h5 : j ≠ 5) (h3 : j ≠ 3) (h : Below w.heap.size w w') : kTwo B B2 j w w' := by
  unfold kTwo; rw [if_neg h5, if_neg h3]; exact h
theorem kTwo_app {B B2 : Nat} {w w' : World} (h : Below B2 w w') : kTwo B B2 3 w w' := by unfold kTwo; rw [if_neg (by decide), if_pos rfl]; exact h
theorem kTwo_last {B B2 : Nat} {w w' : World} (h : Below B w w') : kTwo B B2 5 w w' := by unfold kTwo; rw [if_pos rfl]; exact h
theorem kTwo_below {B B2 j : Nat} {w w' : World} (h3 : j ≠ 3) (h5 : j ≠ 5) (h : kTwo B B2 j w w') : Below w.heap.size w w' := by
  unfold kTwo at h; rw [if_neg h5, if_neg h3] at h; exact h
theorem kTwo_two {B B2 j : Nat} {w w' : World} (h5 : j ≠ 5) (hB : B2 ≤ w.heap.size) (h : kTwo B B2 j w w') : Below B2 w w' := by
  unfold kTwo at h; rw [if_neg h5] at h
  split at h
  · exact h
  · exact h.mono hB
theorem kTwo_base {B B2 j : Nat} {w w' : World} (hBB : B ≤ B2) (hB : B ≤ w.heap.size) (h : kTwo B B2 j w w') : Below B w w' := by
  unfold kTwo at h
  split at h
  · exact h
  · split at h
    · exact h.mono hBB
    · exact h.mono hB
theorem kTwo_mid {B B2 j g : Nat} {w w' : World} (h5 : j ≠ 5) (hg : g < B2) (h : kTwo B B2 j w w') (hgw : g < w.heap.size) : w'.heap[g]? = w.heap[g]? := by
  unfold kTwo at h; rw [if_neg h5] at h
  split at h
  · exact h.block _ hg
  · exact h.block _ hgw
/-- What each operation hands on. -/
def rmF (a0 : Option Addr) (kn c0 : Nat) (kb hh : List UInt8) (o : List Value) (g4 g5 B2 : Nat) : Nat → Value → World → Prop
  | 0, v, _ => v = .slice a0 kn c0
  | 1, v, w => w.ownsRow B2 5 1 v 64 (bv kb)
  | 2, v, _ => v = .slice (some ⟨g5, 0, none⟩) 32 32
  | 3, v, w => w.ownsRow B2 5 1 v (64 + 32) (bv (kb ++ hh))
  | 4, v, _ => v = .agg o.toArray
  | 5, _, w => w.heap[g4]? = some (.cells o.toArray 35 (0, 0))
  | _, _, _ => True

set_option maxHeartbeats 4000000 in
set_option maxRecDepth 100000 in
theorem refMark_any (key text : List UInt8) (v v1 : Value) (w : World) (hl : key.length ≤ 140737488351232) (hl1 : text.length ≤ 140737488351300) (hr : Rd w 1 v key.length (bv key)) (hr1 : Rd w 1 v1 text.length (bv text)) (hT : TabsR w) :
    Calls Tryd.prog 58 #[v, v1] w fun e w' => e = .returned (.agg (bv (macB key text)).toArray) ∧ Below w.heap.size w w' := by
  obtain ⟨a0, c0, rfl⟩ := hr.form
  obtain ⟨a1, c1, rfl⟩ := hr1.form
  have hz := (zero_of_info info32).1
  have hkl : (pad64 (hkey key)).length = 64 := pad64_length _ (hkey_le key)
  have hPa := fun w' hr' hG' => pad_any key 54 (.slice a0 key.length c0) w' hl hr' hG'
  have hPb := fun w' hr' hG' => pad_any key 92 (.slice a0 key.length c0) w' hl hr' hG'
  obtain ⟨k, hk⟩ : ∃ k, k = pad64 (hkey key) := ⟨_, rfl⟩
  rw [← hk] at hkl
  simp only [← hk] at hPa hPb
  have hmac : macB key text = Sha.sum (kx k 92 ++ Sha.sum (kx k 54 ++ text)) := by rw [macB, ← hk]; rfl
  have hS1 := fun v w' hr' hG' => refSumSha_any (kx k 54 ++ text) v w' (by rw [List.length_append, kx_length, hkl]; omega) hr' hG'
  have hol1 := sum_length (kx k 54 ++ text)
  obtain ⟨hh, hhe⟩ : ∃ hh, hh = Sha.sum (kx k 54 ++ text) := ⟨_, rfl⟩
  rw [← hhe] at hmac hS1 hol1
  have hS2 := fun v w' hr' hG' => refSumSha_any (kx k 92 ++ hh) v w' (by rw [List.length_append, kx_length, hkl, hol1]; omega) hr' hG'
  rw [← hmac] at hS2
  have hol := macB_length key text
  have hk5 : (kx k 54).length = 64 := by rw [kx_length, hkl]
  have hk9 : (kx k 92).length = 64 := by rw [kx_length, hkl]
  have HX := Lib.hid (And.intro hr (And.intro hr1 (And.intro hk5 (And.intro hk9 (And.intro hol1 hol)))))
  have HPA := Lib.hid hPa
  have HPB := Lib.hid hPb
  have HS1 := Lib.hid hS1
  have HS2 := Lib.hid hS2
  clear hr hr1 hPa hPb hS1 hS2 hhe hmac hk hkl hk5 hk9 hol1 hol
  generalize kx k 54 = ka at *
  generalize kx k 92 = kb at *
  go_enter Tryd.func58, Tryd.ntmps58
  go_wp2_with fail
  have hb0 : Below w.heap.size w (w.alloc (.cells (bv (zs 32)).toArray 35)) := (Below.refl _ _).alloc (Nat.le_refl _) _
  refine (HPA.out _ (HX.out.1.keep hb0) (hT.keepB hb0)).mono ?_
  rintro e w1 ⟨v1', rfl, ho1, hb1⟩
  have hs1 : w1.heap[w.heap.size]? = some (.cells (bv (zs 32)).toArray 35 (0, 0)) := (hb1.block _ (by simp)).trans (heap_alloc_new _ _)
  have hbw1 := hb0.trans (hb1.mono (by simp))
  have hrt1 := HX.out.2.1.keep hbw1
  have hsz1 := hb1.size
  have H1 := Lib.hid (And.intro ho1 (And.intro hs1 (And.intro hbw1 (And.intro hrt1 hsz1))))
  clear ho1 hs1 hbw1 hrt1 hb1 hb0 hsz1
  go_wp2_with (at_builtin; go_loud (refine wpList_app Tryd.underlying25 infoU8s rfl (by decide) rfl _ _ rfl rfl rfl H1.out.1 H1.out.2.2.2.1 (by omega) (by omega) H1.out.2.2.2.2 ?_))
  intro v2' w2 ho2 hg2 _
  have hB0 : w.heap.size < (w.alloc (.cells (bv (zs 32)).toArray 35)).heap.size := by simp
  have hb2 := hg2.below H1.out.2.2.2.2 (own_block H1.out.1)
  have hs2 := (hb2.block _ hB0).trans H1.out.2.1
  have hbw2 := H1.out.2.2.1.trans (hb2.mono (Nat.le_of_lt hB0))
  have hr2 : Rd w2 1 v2' (ka ++ text).length (bv (ka ++ text)) := by
    have h := own_rd ho2 (by intro u hu; rcases List.mem_append.1 hu with h | h <;> exact bv_one _ _ h)
    rw [List.length_append, HX.out.2.2.1, bv_append]; exact h
  have HS1' := Lib.hid (HS1.out v2' w2 hr2 (hT.keepB hbw2))
  have H2 := Lib.hid (And.intro hs2 hbw2)
  clear ho2 hg2 hb2 hs2 hbw2 hr2 hB0 H1
  go_wp2_with fail
  refine HS1'.out.mono ?_
  rintro e w3 ⟨rfl, hb3⟩
  have hs3 := (hb3.block _ (Array.getElem?_eq_some_iff.1 H2.out.1).1).trans H2.out.1
  have hbw3 := H2.out.2.trans (hb3.mono H2.out.2.size)
  have H3 := Lib.hid (And.intro hs3 hbw3)
  clear hs3 hbw3 hb3 HS1' H2
  go_upto_region 2 with (with_reducible show wpList _ _ _ (⟨none, Op.store _ _ _, _, _, _, _⟩ :: _) _ _; go_loud (refine wpList_store_whole rfl _ _ _ rfl w3.heap.size (bv hh) rfl rfl (bv (zs 32)) _ (heap_alloc_new _ _) (hInfo' _ HX.out.2.2.2.2.1) (by rw [bv_length, bv_length, HX.out.2.2.2.2.1]; simp [zs]) (bv_one _) ?_); intro wr HG4 hg4)
  simp only [Act.put]
  have hlt3 : w.heap.size < w3.heap.size := (Array.getElem?_eq_some_iff.1 H3.out.1).1
  have hrow4 : wr.heap[w.heap.size]? = some (.cells (bv (zs 32)).toArray 35 (0, 0)) := (hg4.block _ (by simp; omega) (by simp; omega)).trans ((heap_alloc_old _ _ hlt3).trans H3.out.1)
  have hbr : Below w.heap.size w wr := below_grow (H3.out.2.alloc H3.out.2.size _) hg4 H3.out.2.size (by simp)
  have hd5 := rd_row HG4.out HX.out.2.2.2.2.1
  rw [HX.out.2.2.2.2.1] at hd5
  obtain ⟨kn, hkn⟩ : ∃ kn, kn = key.length := ⟨_, rfl⟩
  have h1 : ∀ w', Below wr.heap.size wr w' → _ := fun w' hb => HPB.out w' (HX.out.1.keep (hbr.trans (hb.mono hbr.size))) (hT.keepB (hbr.trans (hb.mono hbr.size)))
  rw [← hkn] at h1 ⊢
  have h2 : ∀ v w', Below wr.heap.size wr w' → Rd w' 1 v (64 + 32) (bv (kb ++ hh)) → _ := fun v w' hb hr => HS2.out v w' (by rw [List.length_append, HX.out.2.2.2.1, HX.out.2.2.2.2.1]; exact hr) (hT.keepB (hbr.trans (hb.mono hbr.size)))
  have hol := HX.out.2.2.2.2.2
  have hfin : Ending.returned (.agg (bv (macB key text)).toArray) = Ending.returned (.agg (bv (macB key text)).toArray) := rfl
  obtain ⟨o, ho⟩ : ∃ o, o = bv (macB key text) := ⟨_, rfl⟩
  have hosz := hInfo _ hol
  have hfit1 := hInfo' _ hol
  have hfit2 : (bv (macB key text)).length = (bv (zs 32)).length := by rw [bv_length, bv_length, hol]; simp [zs]
  have hone : ∀ u ∈ bv (macB key text), u.oneCell' = true := bv_one _
  have hfin : Ending.returned (.agg o.toArray) = Ending.returned (.agg (bv (macB key text)).toArray) := by rw [ho]
  rw [← ho] at h2 hosz hfit1 hfit2 hone
  generalize w3.heap.size = g5 at *
  obtain ⟨B, hB⟩ : ∃ B, B = w.heap.size := ⟨_, rfl⟩
  obtain ⟨B2, hB2⟩ : ∃ B2, B2 = wr.heap.size := ⟨_, rfl⟩
  obtain ⟨g4, hg4e⟩ : ∃ g4, g4 = w.heap.size := ⟨_, rfl⟩
  rw [← hg4e] at hrow4 ⊢
  have hBr : B ≤ wr.heap.size := by rw [hB]; exact hbr.size
  have hB4 : B ≤ g4 := by omega
  have hlt4w := (Array.getElem?_eq_some_iff.1 hrow4).1
  have hlt4 : g4 < B2 := by omega
  have hg4lt : g4 < B2 := hlt4
  have hBB : B ≤ B2 := by omega
  have hB2r : B2 ≤ wr.heap.size := by omega
  have HBE := Lib.hid hB
  have HBW := Lib.hid hbr
  have HP := Lib.hid h1
  have HS := Lib.hid h2
  have HO := Lib.hid hfin
  have HB2 := Lib.hid hB2
  clear h1 h2 hfin ho hol hB hB2 hg4e hbr hlt3 HPA HPB HG4 hg4 H3 hkn HX
  refine wp_region_until [some 11, some 12, some 13, some 14, some 15, none] [] 5 (fun wx => Below wr.heap.size wr wx) [0, 1, 2, 3, 4, 5] (rmF a0 kn c0 kb hh o g4 g5 B2) (kTwo B B2) (fun wx => Below B wr wx) (by kernel_rfl) (by kernel_rfl) rfl (by kernel_rfl) (by kernel_rfl) (Below.refl _ _).drew (Below.refl _ _).drew ((fun _ hj _ _ k h => h.trans (by have q := kTwo_two hj (Nat.le_trans hB2r h.size) k; rw [HB2.out] at q; exact q))) (fun _ _ => kTwo_refl _ _ _ _) (fun _ _ _ h k => h.trans (kTwo_base hBB (Nat.le_trans hBr h.size) k)) ?hF ?hstep ?hend
  case hF =>
    exact ⟨fun _ _ _ _ _ _ h => h, ⟨fun j hg _ _ _ k h => own_keep h (kTwo_below (fun e => by subst e; exact absurd hg (by rw [show goneB _ 1 3 = true by kernel_rfl]; simp)) (fun e => by subst e; exact absurd hg (by rw [show goneB _ 1 5 = true by kernel_rfl]; simp)) k), ⟨fun _ _ _ _ _ _ h => h, ⟨fun j hg _ _ _ k h => own_keep h (kTwo_below (fun e => by subst e; exact absurd hg (by rw [show goneB _ 3 3 = true by kernel_rfl]; simp)) (fun e => by subst e; exact absurd hg (by rw [show goneB _ 3 5 = true by kernel_rfl]; simp)) k), ⟨fun _ _ _ _ _ _ h => h, ⟨fun j hg _ _ _ k h => (kTwo_mid (fun e => by subst e; exact absurd hg (by rw [show goneB _ 5 5 = true by kernel_rfl]; simp)) hg4lt k (Array.getElem?_eq_some_iff.1 h).1).trans h, trivial⟩⟩⟩⟩⟩⟩
  case hstep =>
    -- operation 0: Op.move (tmp 0)
    refine ⟨fun r wx hG hs hq hf => ?_, ?_⟩
    · have hQ := hq rfl
      have e0 : r 0 = .slice a0 kn c0 := hs 0 rfl
      refine (if_pos rfl).symm ▸ ?_
      clear hs hq hf
      unfold gives
      go_simp
      exact ⟨kTwo_refl _ _ _ _, rfl⟩
    -- operation 1: Op.call ( callee := Callee.value (func 31), args := #[tmp 11, const (Value.int IntKind.u8 92)], argTypes := #[22, 5] )
    refine ⟨fun r wx hG hs hq hf => ?_, ?_⟩
    · have hQ := hq rfl
      have h0 : r 11 = .slice a0 kn c0 := hf.1
      refine (if_pos rfl).symm ▸ ?_
      clear hs hq hf
      unfold gives
      go_simp
      refine (HP.out wx hQ).mono ?_
      rintro e wy ⟨v, rfl, ho, hb1⟩
      exact ⟨v, rfl, kTwo_of (by decide) (by decide) hb1, own_base ho (Nat.le_trans hB2r hQ.size)⟩
    -- operation 2: Op.slice 25 (tmp 5) none none none
    refine ⟨fun r wx hG hs hq hf => ?_, ?_⟩
    · have hQ := hq rfl
      have e5 : r 5 = .pointer (some ⟨g5, 0, none⟩) := hs 5 rfl
      refine (if_pos rfl).symm ▸ ?_
      clear hs hq hf
      unfold gives
      go_simp
      exact ⟨kTwo_refl _ _ _ _, rfl⟩
    -- operation 3: Op.call ( callee := Callee.builtin Builtin.append, args := #[tmp 12, tmp 13], argTypes := #[22, 22] )
    refine ⟨fun r wx hG hs hq hf => ?_, ?_⟩
    · have hQ := hq rfl
      have h1 : wx.ownsRow B2 5 1 (r 12) 64 (bv kb) := hf.1
      have h2 : r 13 = .slice (some ⟨g5, 0, none⟩) 32 32 := hf.2.1
      refine (if_pos rfl).symm ▸ ?_
      clear hs hq hf
      unfold gives
      have hd := hd5.keep hQ
      refine gives_app Tryd.underlying25 infoU8s rfl (by decide) _ _ rfl rfl h2 h1 hd (by omega) (by omega) (Nat.le_trans hB2r hQ.size) ?_
      intro v' wy ho hg _
      refine ⟨kTwo_app (hg.below (Nat.le_trans hB2r hQ.size) (own_block h1)), ?_⟩
      show wy.ownsRow B2 5 1 v' _ _
      rw [bv_append]; exact ho
    -- operation 4: Op.call ( callee := Callee.value (func 14), args := #[tmp 14], argTypes := #[22] )
    refine ⟨fun r wx hG hs hq hf => ?_, ?_⟩
    · have hQ := hq rfl
      have h3 : wx.ownsRow B2 5 1 (r 14) (64 + 32) (bv (kb ++ hh)) := hf.1
      refine (if_pos rfl).symm ▸ ?_
      clear hs hq hf
      unfold gives
      go_simp
      refine (HS.out _ wx hQ (own_rd h3 (bv_one _))).mono ?_
      rintro e wy ⟨rfl, hb1⟩
      exact ⟨_, rfl, kTwo_of (by decide) (by decide) hb1, rfl⟩
    -- operation 5: Op.store 25 (tmp 4) (tmp 15)
    refine ⟨fun r wx hG hs hq hf => ?_, ?_⟩
    · have hQ := hq rfl
      have e4 : r 4 = .pointer (some ⟨g4, 0, none⟩) := hs 4 rfl
      have h4 : r 15 = .agg o.toArray := hf.1
      refine (if_pos rfl).symm ▸ ?_
      clear hs hq hf
      unfold gives
      refine gives_store_row 35 _ _ rfl g4 o e4 h4 (bv (zs 32)) 35 ((hQ.block _ hlt4w).trans hrow4) hfit1 hfit2 hone ?_
      intro wy h1 h2
      exact ⟨kTwo_last (below_grow (Below.refl _ _) h2 hB4 (Nat.lt_of_lt_of_le hlt4w hQ.size)), h1⟩
    exact trivial
  case hend =>
    intro u wz hG hfin
    have z5 : wz.heap[g4]? = some (.cells o.toArray 35 (0, 0)) := hfin 5 (by decide) (by kernel_rfl)
    clear hfin
    simp only [fill]
    go_simp
    go_wp2_with fail
    refine bodyPost_ret (v := .agg o.toArray) ?_ ?_ ?_
    · exact results_cell_row Tryd.results58 _ _ g4 35 _ (0, 0) _ rfl z5 Tryd.underlying35 rfl hosz
    · rfl
    · exact ⟨HO.out, HBW.out.trans (by rw [← HBE.out]; exact hG)⟩
end Go.Proofs.YtgimblpdmlnfeaaDoor
namespace Go.Proofs.YtgimblpdmlnfeaaDoor
open Go.ChangeShapes Go.WideShapes Go.ChangeAt Go.RowKit Sha

/-- An append that must grow, onto a row of which nothing but the reading is known. -/
theorem wpList_app_grow {P : Program} {w : World} {ops : Array Oper} {rest : List Oper} {o : Oper} {a : Act} {Q : Exit → Act → World → Prop} {t e : TypeId} {z : Value} {size bytes : Nat}
    (ht : P.underlying t = some (.slice e)) (hinfo : (P.info? e).map (fun i => (i.zero, i.size, i.bytes)) = some (some z, size, bytes)) (hzs : z.cells.size = size) (hsz : 0 < size)
    (hgd : o.guard = none) (s x : Operand) (ho : o.op = .call { callee := .builtin .append, args := #[s, x], argTypes := #[t, t] })
    {ad : Addr} {xv : Value} {n m cap : Nat} {xs news : List Value} (hs : a.eval s = .slice (some ad) n cap) (hx : a.eval x = xv) (hxl : xs.length = n * size) (holds : ∀ j u, xs[j]? = some u → w.cell? (ad.add j) = some u) (hr : Rd w size xv m news)
    (hcap : cap < n + m) (h63 : n + m ≤ 140737488355328) (hbytes : (n + m) * bytes ≤ 140737488355328) (hm : 0 < m)
    (h : ∀ v' w', w'.ownsRow w.heap.size e size v' (n + m) (xs ++ news) → Below w.heap.size w w' → wpList P ops Q rest (a.put o.dst v') w') : wpList P ops Q (o :: rest) a w := by
  refine wpList_plain hgd fun K hK => ?_
  obtain ⟨i, hi, hz, hsize, hby⟩ := info_parts hinfo
  obtain ⟨hl, h1, ⟨_, h0⟩ | ⟨ax, c, rfl, _, hnews⟩⟩ := hr
  · omega
  subst hsize
  subst hby
  have hlen : (xs ++ news).length = (n + m) * i.size := by rw [List.length_append, hxl, hl, Nat.add_mul]
  have hrun := run_append_grow (P := P) w t o.type e i z ht hi hz ad n cap xs hxl holds ax m c news hl hnews (by omega) (by omega) (growslice_fits (by omega) hbytes)
  have hge := grownCap_ge w (n + m) cap e
  have hcm : grownCap w (n + m) cap e ≤ maxLen := grownCap_le_maxLen w (n + m) cap e (by unfold maxLen; omega)
  unfold Oper.wp execOp
  simp only [ho, resolve, invoke, builtin, Sem.run_bind, Sem.run_pure, Result.andThen_ok, List.map_toArray, List.map_cons, List.map_nil, hs, hx, hrun]
  refine hK _ _ (h _ _ ⟨hlen, .inr ⟨w.heap.size, _, _, rfl, Nat.le_refl _, heap_alloc_new w.drew _, hge, hcm, ?_, ?_⟩⟩ (grown_below ⟨rfl, rfl, rfl, by simp, fun k hk _ => Below.heap_alloc w.drew _ k hk⟩))
  · simp only [Array.size_append, List.size_toArray, size_zeroCells, hzs, hxl, hl, ← Nat.add_mul]
    congr 1
    omega
  · simp only [Array.toList_append, List.append_assoc]
    rw [← List.append_assoc, ← hlen]
    exact List.take_left

/-- The text that a node's key is the mark of. -/
def nodeT (n : Nat) : List UInt8 := [110, 111, 100, 101] ++ numB n
theorem nodeT_length (n : Nat) (h : n < 18446744073709551616) : (nodeT n).length ≤ 13 ∧ 5 ≤ (nodeT n).length := by
  have := nk_le n h
  simp [nodeT, numB_length]; omega

set_option maxHeartbeats 4000000 in
set_option maxRecDepth 100000 in
theorem Derive_any (key : List UInt8) (n : Nat) (v : Value) (w : World) (hl : key.length ≤ 1152921504606846976) (hn : n < 18446744073709551616) (hr : Rd w 1 v key.length (bv key)) (hG : Tabs w) :
    Calls Tryd.prog 51 #[v, .int .u64 n] w fun e w' => e = .returned (.agg (bv (macB key (nodeT n))).toArray) ∧ Below w.heap.size w w' := by
  have hz := (zero_of_info info32).1
  have hnl := nodeT_length n hn
  have hkl : (pad64 (hkey key)).length = 64 := pad64_length _ (hkey_le key)
  have hN := fun w' hr' hG' => MNew_any key v w' hl hr' hG'
  obtain ⟨k, hk⟩ : ∃ k, k = pad64 (hkey key) := ⟨_, rfl⟩
  rw [← hk] at hkl
  simp only [← hk] at hN
  have hnb : (numB n).length ≤ 9 := by have := nk_le n hn; rw [numB_length]; omega
  have hW1 := fun v' w' hr' hG' => MWrite_any k [] [110, 111, 100, 101] false v' w' hkl (by simp) hr' hG'
  rw [show bt k [] false = kx k 54 from rfl] at hW1
  have hW2 := fun v' w' hr' hG' => MWrite_any k (kx k 54 ++ [110, 111, 100, 101]) (numB n) true v' w' hkl (by rw [List.length_append, kx_length, hkl]; simp; omega) hr' hG'
  rw [show bt k (kx k 54 ++ [110, 111, 100, 101]) true = kx k 54 ++ [110, 111, 100, 101] from rfl, List.append_assoc] at hW2
  have hM := fun w' hG' => MMark_any k (kx k 54 ++ ([110, 111, 100, 101] ++ numB n)) true w' hkl (by rw [List.length_append, kx_length, hkl, List.length_append]; simp; omega) hG'
  rw [show bt k (kx k 54 ++ ([110, 111, 100, 101] ++ numB n)) true = kx k 54 ++ ([110, 111, 100, 101] ++ numB n) from rfl] at hM
  obtain ⟨o, ho⟩ : ∃ o, o = markB k (kx k 54 ++ ([110, 111, 100, 101] ++ numB n)) := ⟨_, rfl⟩
  have hol : o.length = 32 := by rw [ho]; exact sum_length _
  have hmac : o = macB key (nodeT n) := by rw [ho, hk]; rfl
  rw [← ho] at hM
  generalize (mkL k [] false).toArray = A0 at *
  generalize (mkL k (kx k 54 ++ [110, 111, 100, 101]) true).toArray = A1 at *
  generalize (mkL k (kx k 54 ++ ([110, 111, 100, 101] ++ numB n)) true).toArray = A2 at *
  have HX := Lib.hid (And.intro hr (And.intro hol hmac))
  have HN := Lib.hid hN
  have HW1 := Lib.hid hW1
  have HW2 := Lib.hid hW2
  have HM := Lib.hid hM
  clear hr hol hmac hk ho hN hW1 hW2 hM hnl hnb hkl
  go_enter Tryd.func51, Tryd.ntmps51
  go_wp2_with fail
  have hb0 : Below w.heap.size w (w.alloc (.cells (bv (zs 32)).toArray 35)) := (Below.refl _ _).alloc (Nat.le_refl _) _
  refine (HN.out _ (HX.out.1.keep hb0) (hG.keepB hb0)).mono ?_
  rintro e w1 ⟨rfl, hb1⟩
  have hs1 : w1.heap[w.heap.size]? = some (.cells (bv (zs 32)).toArray 35 (0, 0)) := (hb1.block _ (by simp)).trans (heap_alloc_new _ _)
  have hbw1 := hb0.trans (hb1.mono (by simp))
  clear hb0 hb1
  have kc := Lib.run_convert_bytes_const (P := Tryd.prog) w1 25 5 #[Value.int .u8 110, .int .u8 111, .int .u8 100, .int .u8 101] 4 4 Tryd.underlying25 Tryd.underlying5
  go_wp2_with fail
  clear kc
  have hr1 := Rd.marked w1 5 [110, 111, 100, 101] (4, 5)
  have hbm := hbw1.alloc hbw1.size (.cells #[Value.int .u8 110, .int .u8 111, .int .u8 100, .int .u8 101] 5 (4, 5))
  refine (HW1.out _ _ hr1 (hG.keepB hbm)).mono ?_
  rintro e w2 ⟨rfl, hb2⟩
  have hlt1 := (Array.getElem?_eq_some_iff.1 hs1).1
  have hs2 := (hb2.block _ (by simp; omega)).trans ((heap_alloc_old _ _ hlt1).trans hs1)
  have hbw2 := hbm.trans (hb2.mono hbm.size)
  clear hb2 hs1 hbw1 hbm hr1 hlt1
  go_wp2_with fail
  refine (Num_any n w2 hn).mono ?_
  rintro e w3 ⟨vn, rfl, hrn, hb3⟩
  have hs3 := (hb3.block _ (Array.getElem?_eq_some_iff.1 hs2).1).trans hs2
  have hbw3 := hbw2.trans (hb3.mono hbw2.size)
  have HW2' := Lib.hid (HW2.out vn w3 hrn (hG.keepB hbw3))
  have H3 := Lib.hid (And.intro hs3 hbw3)
  clear hb3 hs2 hbw2 hs3 hbw3 hrn
  go_wp2_with fail
  refine HW2'.out.mono ?_
  rintro e w4 ⟨rfl, hb4⟩
  have hs4 := (hb4.block _ (Array.getElem?_eq_some_iff.1 H3.out.1).1).trans H3.out.1
  have hbw4 := H3.out.2.trans (hb4.mono H3.out.2.size)
  clear hb4 H3 HW2'
  go_wp2_with fail
  refine (HM.out _ (hG.keepB hbw4)).mono ?_
  rintro e w5 ⟨rfl, hb5⟩
  have hs5 := (hb5.block _ (Array.getElem?_eq_some_iff.1 hs4).1).trans hs4
  have hbw5 := hbw4.trans (hb5.mono hbw4.size)
  have H5 := Lib.hid (And.intro hs5 hbw5)
  clear hb5 hs4 hbw4 hs5 hbw5
  go_wp2_with (with_reducible show wpList _ _ _ (⟨none, Op.store _ _ _, _, _, _, _⟩ :: _) _ _; refine wpList_store_whole rfl _ _ _ rfl w.heap.size (bv o) rfl rfl (bv (zs 32)) _ H5.out.1 (hInfo' _ HX.out.2.1) (by rw [bv_length, bv_length, HX.out.2.1]; simp [zs]) (bv_one _) ?_; intro w9 HG9 hg9)
  refine bodyPost_ret (v := .agg (bv o).toArray) ?_ ?_ ?_
  · exact results_cell_row Tryd.results51 _ _ w.heap.size 35 _ (0, 0) _ rfl HG9.out Tryd.underlying35 rfl (hInfo _ HX.out.2.1)
  · rfl
  · exact ⟨by rw [HX.out.2.2], below_grow H5.out.2 hg9 (Nat.le_refl _) (Array.getElem?_eq_some_iff.1 H5.out.1).1⟩

set_option maxHeartbeats 4000000 in
set_option maxRecDepth 100000 in
theorem refDerive_any (key : List UInt8) (n : Nat) (v : Value) (w : World) (hl : key.length ≤ 140737488351232) (hn : n < 18446744073709551616) (hr : Rd w 1 v key.length (bv key)) (hG : TabsR w) :
    Calls Tryd.prog 56 #[v, .int .u64 n] w fun e w' => e = .returned (.agg (bv (macB key (nodeT n))).toArray) ∧ Below w.heap.size w w' := by
  obtain ⟨a0, c0, rfl⟩ := hr.form
  have hz := (zero_of_info info32).1
  have hnl := nodeT_length n hn
  have hM := fun v' w' hr1' hr' hG' => refMark_any key (nodeT n) (.slice a0 key.length c0) v' w' hl (by omega) hr1' hr' hG'
  have hol := macB_length key (nodeT n)
  have hnb : (numB n).length ≤ 9 ∧ 0 < (numB n).length := by have := nk_le n hn; rw [numB_length]; omega
  have hnt : bv (nodeT n) = [Value.int .u8 110, .int .u8 111, .int .u8 100, .int .u8 101] ++ bv (numB n) := by rw [nodeT, bv_append]; rfl
  have hntl : (nodeT n).length = 4 + (numB n).length := by simp [nodeT]; omega
  obtain ⟨o, ho⟩ : ∃ o, o = macB key (nodeT n) := ⟨_, rfl⟩
  rw [← ho] at hM hol
  have HX := Lib.hid (And.intro hr (And.intro hol (And.intro ho (And.intro hnt (And.intro hntl hnb)))))
  have HM := Lib.hid hM
  clear hr hol ho hM hnt hntl hnb hnl
  have kc := Lib.run_convert_bytes_const (P := Tryd.prog) (w.alloc (.cells (bv (zs 32)).toArray 35)) 25 5 #[Value.int .u8 110, .int .u8 111, .int .u8 100, .int .u8 101] 4 4 Tryd.underlying25 Tryd.underlying5
  have hsz1 : (w.alloc (.cells (bv (zs 32)).toArray 35)).heap.size = w.heap.size + 1 := by simp
  rw [hsz1] at kc
  go_enter Tryd.func56, Tryd.ntmps56
  go_wp2_with fail
  clear kc
  obtain ⟨wm, hwm⟩ : ∃ x : World, x = (w.alloc (.cells (bv (zs 32)).toArray 35)).alloc (.cells #[Value.int .u8 110, .int .u8 111, .int .u8 100, .int .u8 101] 5 (4, 5)) := ⟨_, rfl⟩
  rw [← hwm]
  have hsm : wm.heap[w.heap.size]? = some (.cells (bv (zs 32)).toArray 35 (0, 0)) := by
    rw [hwm]; exact (heap_alloc_old _ _ (by simp)).trans (heap_alloc_new _ _)
  have hcm : wm.heap[w.heap.size + 1]? = some (.cells (bv [110, 111, 100, 101]).toArray 5 (4, 5)) := by
    rw [hwm, ← hsz1]; exact heap_alloc_new _ _
  have hbm : Below w.heap.size w wm := by rw [hwm]; exact ((Below.refl _ _).alloc (Nat.le_refl _) _).alloc (by simp) _
  clear hwm hsz1
  refine (refNum_any n wm hn).mono ?_
  rintro e w3 ⟨vn, rfl, hon, hb3⟩
  have hs3 := (hb3.block _ (Array.getElem?_eq_some_iff.1 hsm).1).trans hsm
  have hc3 := (hb3.block _ (Array.getElem?_eq_some_iff.1 hcm).1).trans hcm
  have hbw3 := hbm.trans (hb3.mono hbm.size)
  have holds : ∀ j u, [Value.int .u8 110, .int .u8 111, .int .u8 100, .int .u8 101][j]? = some u → w3.cell? ((⟨w.heap.size + 1, 0, none⟩ : Addr).add j) = some u := fun j u hu => by
    rw [Addr.add_lit, Nat.zero_add, cell_of_row _ _ _ _ _ _ hc3, List.getElem?_toArray]
    exact hu
  have H3 := Lib.hid (And.intro hs3 (And.intro holds (And.intro hbw3 (own_rd hon (bv_one _)))))
  clear hs3 hc3 hbw3 holds hon hb3 hsm hcm hbm
  go_wp2_with (at_builtin; go_loud (refine wpList_app_grow Tryd.underlying25 infoU8s rfl (by decide) rfl _ _ rfl rfl rfl rfl H3.out.2.1 H3.out.2.2.2 (by have := HX.out.2.2.2.2.2.2; omega) (by have := HX.out.2.2.2.2.2.1; omega) (by have := HX.out.2.2.2.2.2.1; omega) HX.out.2.2.2.2.2.2 ?_))
  intro v4 w4 ho4 hb4
  have hs4 := (hb4.block _ (Array.getElem?_eq_some_iff.1 H3.out.1).1).trans H3.out.1
  have hbw4 := H3.out.2.2.1.trans (hb4.mono H3.out.2.2.1.size)
  have hr4 : Rd w4 1 v4 (nodeT n).length (bv (nodeT n)) := by
    refine own_rd (B := w3.heap.size) (e := 5) ?_ (bv_one _)
    rw [HX.out.2.2.2.2.1, HX.out.2.2.2.1]; exact ho4
  have HM' := Lib.hid (HM.out v4 w4 (HX.out.1.keep hbw4) hr4 (hG.keepB hbw4))
  have H4 := Lib.hid (And.intro hs4 hbw4)
  clear hs4 hbw4 hr4 ho4 hb4 H3
  go_wp2_with fail
  refine HM'.out.mono ?_
  rintro e w5 ⟨rfl, hb5⟩
  have hs5 := (hb5.block _ (Array.getElem?_eq_some_iff.1 H4.out.1).1).trans H4.out.1
  have hbw5 := H4.out.2.trans (hb5.mono H4.out.2.size)
  have H5 := Lib.hid (And.intro hs5 hbw5)
  clear hb5 hs5 hbw5 H4 HM'
  go_wp2_with (with_reducible show wpList _ _ _ (⟨none, Op.store _ _ _, _, _, _, _⟩ :: _) _ _; refine wpList_store_whole rfl _ _ _ rfl w.heap.size (bv o) rfl rfl (bv (zs 32)) _ H5.out.1 (hInfo' _ HX.out.2.1) (by rw [bv_length, bv_length, HX.out.2.1]; simp [zs]) (bv_one _) ?_; intro w9 HG9 hg9)
  refine bodyPost_ret (v := .agg (bv o).toArray) ?_ ?_ ?_
  · exact results_cell_row Tryd.results56 _ _ w.heap.size 35 _ (0, 0) _ rfl HG9.out Tryd.underlying35 rfl (hInfo _ HX.out.2.1)
  · rfl
  · exact ⟨by rw [HX.out.2.2.1], below_grow H5.out.2 hg9 (Nat.le_refl _) (Array.getElem?_eq_some_iff.1 H5.out.1).1⟩
end Go.Proofs.YtgimblpdmlnfeaaDoor
