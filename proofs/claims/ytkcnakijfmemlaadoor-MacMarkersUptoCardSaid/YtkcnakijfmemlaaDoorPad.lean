/- The reference's key block. -/
import Derived.Test.YtkcnakijfmemlaaDoorMacL
namespace Go.Proofs.YtkcnakijfmemlaaDoor
open Go.ChangeShapes Go.WideShapes Go.ChangeAt Go.RowKit Sha

theorem kx_snoc (k : List UInt8) (x : UInt8) (i : Nat) (h : i < k.length) : kx (k.take i) x ++ [k.getD i 0 ^^^ x] = kx (k.take (i + 1)) x := by
  rw [List.take_add_one, kx, kx, List.map_append, List.getD_eq_getElem?_getD, List.getElem?_eq_getElem h]; rfl
theorem padx_getD (l : List UInt8) (i : Nat) : (if h : i < l.length then l[i] else 0) = (pad64 l).getD i 0 := by
  unfold pad64
  rw [List.getD_eq_getElem?_getD]
  split
  · rename_i h; rw [List.getElem?_append_left h, List.getElem?_eq_getElem h]; rfl
  · rename_i h
    rw [List.getElem?_append_right (by omega), zs, List.getElem?_replicate]
    split <;> rfl

set_option maxHeartbeats 4000000 in
set_option maxRecDepth 100000 in
theorem pad_any (key : List UInt8) (x : UInt8) (v : Value) (w : World) (hl : key.length ≤ 140737488351232) (hr : Rd w 1 v key.length (bv key)) (hG : TabsR w) :
    Calls Tryd.prog 31 #[v, .int .u8 x.toNat] w fun e w' => ∃ v', e = .returned v' ∧ w'.ownsRow w.heap.size 5 1 v' 64 (bv (kx (pad64 (hkey key)) x)) ∧ Below w.heap.size w w' := by
  obtain ⟨a, c, rfl⟩ := hr.form
  have hz32 := (zero_of_info info32).1
  have HR := Lib.hid hr
  clear hr
  go_enter Tryd.func31, Tryd.ntmps31
  go_upto_region 1 with fail
  go_upto_if 11 with fail
  go_cut [0] (fun s wq => RowKit.Hid (Rd wq 1 s (hkey key).length (bv (hkey key)) ∧ Below w.heap.size w wq))
  case first =>
    by_cases h64 : 64 < key.length
    · have hd : (64 : Int) < (key.length : Int) := by omega
      have hh : hkey key = Sha.sum key := by unfold hkey; rw [if_pos h64]
      have HH := Lib.hid hh
      clear hh
      go_wp2_with fail
      refine (refSumSha_any key _ w (by omega) HR.out hG).mono ?_
      rintro e w2 ⟨rfl, hb2⟩
      have hol := sum_length key
      generalize Sha.sum key = o at *
      have H2 := Lib.hid (And.intro hb2 hol)
      clear hb2 hol
      go_wp2_with (with_reducible show wpList _ _ _ (⟨none, Op.store _ _ _, _, _, _, _⟩ :: _) _ _; go_loud (refine wpList_store_whole rfl _ _ _ rfl w2.heap.size (bv o) rfl rfl (bv (zs 32)) _ (heap_alloc_new _ _) (hInfo' _ H2.out.2) (by rw [bv_length, bv_length, H2.out.2]; simp [zs]) (bv_one _) ?_; intro w3 HG3 hg3))
      go_meet
      refine show _ ∧ _ from ⟨?_, below_grow (H2.out.1.alloc H2.out.1.size _) hg3 H2.out.1.size (by simp)⟩
      rw [HH.out]
      exact rd_row HG3.out H2.out.2
    · have hd : ¬ (64 : Int) < (key.length : Int) := by omega
      have hh : hkey key = key := by unfold hkey; rw [if_neg h64]
      have HH := Lib.hid hh
      clear hh
      go_wp2_with fail
      go_meet
      refine show _ ∧ _ from ⟨?_, Below.refl _ _⟩
      rw [HH.out]
      exact HR.out
  case rest =>
    have hle := hkey_le key
    obtain ⟨l, hll⟩ : ∃ l, l = hkey key := ⟨_, rfl⟩
    rw [← hll] at hcut hle
    have HLL := Lib.hid hll
    clear hll
    obtain ⟨a2, c2, hs⟩ := hcut.out.1.form
    subst hs
    obtain ⟨kn, hkn⟩ : ∃ kn, kn = l.length := ⟨_, rfl⟩
    have hrk := hcut.out.1
    rw [← hkn] at hrk hle ⊢
    have hkl : (pad64 l).length = 64 := pad64_length _ (by omega)
    obtain ⟨k, hk⟩ : ∃ k, k = pad64 l := ⟨_, rfl⟩
    rw [← hk] at hkl
    have HKK := Lib.hid (And.intro hrk (And.intro hkn (And.intro hk (And.intro hkl hcut.out.2))))
    clear hrk hkn hk hkl hcut
    generalize wc = wb at *
    go_wp2_with fail
    go_loopw [7, 6] (fun s7 s6 wr => ∃ i : Nat, i ≤ 64 ∧ s7 = .int .i64 i ∧ RowKit.Hid (wr.ownsRow wb.heap.size 5 1 s6 i (bv (kx (k.take i) x)) ∧ Below wb.heap.size wb wr)) (fun s7 _ _ => 64 - (intOf s7).toNat)
    case atStart => exact ⟨0, by omega, rfl, show _ ∧ _ from ⟨by
      rw [List.take_zero]
      exact ⟨rfl, .inl ⟨rfl, rfl⟩⟩, Below.refl _ _⟩⟩
    case round =>
      obtain ⟨i, hi, rfl, HI⟩ := hrel
      obtain ⟨a6, c6, hs⟩ := (own_rd HI.out.1 (bv_one _)).form
      subst hs
      by_cases hil : i < 64
      · have hiz : (i : Int) < 64 := by omega
        have hi0 : (0 : Int) ≤ (i : Int) := by omega
        obtain ⟨y, hy⟩ : ∃ y, y = k.getD i 0 := ⟨_, rfl⟩
        have hyi : (if h : i < l.length then l[i] else 0) = y := by rw [hy, HKK.out.2.2.1, padx_getD]
        have HY := Lib.hid (And.intro hy hyi)
        clear hy hyi
        go_upto_if 22 with fail
        go_cut [8] (fun s wq => wq = wr ∧ s = .int .u8 y.toNat)
        case first =>
          by_cases hik : i < kn
          · have hikz : (i : Int) < (kn : Int) := by omega
            obtain ⟨bb, off, c', hv, hcp, hcell⟩ := (HKK.out.1.keep HI.out.2).at (by omega)
            simp only [Value.slice.injEq, true_and] at hv
            obtain ⟨rfl, rfl⟩ := hv
            have hcy : wr.cell? ⟨bb, off + i, none⟩ = some (.int .u8 y.toNat) := by
              refine hcell i _ ?_
              have h1 := HY.out.2
              have h2 := HKK.out.2.1
              rw [dif_pos (by omega)] at h1
              simp [bv, ← h1, List.getElem?_eq_getElem (show i < l.length by omega)]
            clear hcell
            go_wp2_with fail
            go_meet
            exact ⟨rfl, rfl⟩
          · have hikz : ¬ (i : Int) < (kn : Int) := by omega
            have hy0 : y = 0 := by
              have h1 := HY.out.2
              have h2 := HKK.out.2.1
              rw [dif_neg (by omega)] at h1
              exact h1.symm
            have HY0 := Lib.hid hy0
            clear hy0
            go_wp2_with fail
            go_meet
            exact ⟨rfl, by rw [HY0.out]; rfl⟩
        case rest =>
          obtain ⟨hwc, hs8⟩ := hcut
          subst hs8
          rw [hwc]
          clear hwc
          have hxx := i8_xor y x
          obtain ⟨q, hq⟩ : ∃ q, q = y ^^^ x := ⟨_, rfl⟩
          rw [← hq] at hxx
          have HQ := Lib.hid hq
          clear hq
          go_wp2_with (at_builtin; go_loud (refine wpList_app Tryd.underlying22 infoU8s rfl (by decide) rfl _ _ rfl rfl rfl (own_keep HI.out.1 ((Below.refl _ _).alloc (Nat.le_refl _) _)) (Rd.one wr (.int .u8 q.toNat) 5 rfl) (by omega) (by omega) (by have := HI.out.2.size; simp; omega) ?_))
          intro v' wy ho hg _
          have hby : Below wb.heap.size wb wy := HI.out.2.trans (((Below.refl _ _).alloc HI.out.2.size _).trans (hg.below (by have := HI.out.2.size; simp; omega) (own_block HI.out.1)))
          rw [show bv (kx (k.take i) x) ++ [Value.int .u8 q.toNat] = bv (kx (k.take (i + 1)) x) by rw [← kx_snoc _ _ _ (by rw [HKK.out.2.2.2.1]; omega), ← HY.out.1, ← HQ.out]; simp [bv]] at ho
          have H9 := Lib.hid (And.intro ho hby)
          obtain ⟨a8, c8, hs⟩ := (own_rd ho (bv_one _)).form
          subst hs
          clear ho hg hby
          go_wp2_with fail
          go_roundw
          case rel => exact ⟨i + 1, by omega, by go_num, H9⟩
          case measure => simp [intOf]; omega
      · have hiz : ¬ (i : Int) < 64 := by omega
        obtain rfl : i = 64 := by omega
        have hz64 : ¬ (64 : Int) < 64 := by decide
        go_wp2_with fail
        go_ret
        refine ⟨_, rfl, ?_, HKK.out.2.2.2.2.trans (HI.out.2.mono HKK.out.2.2.2.2.size)⟩
        have h := HI.out.1
        rw [List.take_of_length_le (by rw [HKK.out.2.2.2.1]; omega), HKK.out.2.2.1, HLL.out] at h
        exact own_base h HKK.out.2.2.2.2.size
end Go.Proofs.YtkcnakijfmemlaaDoor
