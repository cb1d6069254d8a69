/- Markers: made, begun, written. -/
import Derived.Test.YtkcnakijfmemlaaDoorShaPieces
namespace Go.Proofs.YtkcnakijfmemlaaDoor
open Go.RowKit Sha

/-- A marker's cells: its key, the state behind a text, whether it was begun. -/
def mkL (k t : List UInt8) (any : Bool) : List Value := bv k ++ (stL t ++ [.bool any])
theorem mkL_length (k t : List UInt8) (any : Bool) (h : k.length = 64) : (mkL k t any).length = 138 := by simp [mkL, bv_length, h, stL_length]
theorem mkL_one (k t : List UInt8) (any : Bool) : ∀ u ∈ mkL k t any, u.oneCell' = true := by
  intro u hu
  rcases List.mem_append.1 hu with h | h
  · exact bv_one _ _ h
  · rcases List.mem_append.1 h with h | h
    · exact stL_one _ _ h
    · simp at h; subst h; rfl
theorem infoMk : (Tryd.prog.info? 51).map (fun i => (i.zero, i.size)) = some (some (.agg (mkL (zs 64) [] false).toArray), 138) := by kernel_rfl
theorem mkInfo (R : List Value) (h : R.length = 138) : (Tryd.prog.info? 51).map (·.size) = some R.toArray.size := by
  rw [List.size_toArray, h]; kernel_rfl
theorem mkInfo' (R : List Value) (h : R.length = 138) : (Tryd.prog.info? 51).map (·.size) = some R.length := by
  rw [h]; kernel_rfl
theorem range_of_row {w : World} {g : Nat} {T : TypeId} (pre X post : List Value) (o : Nat) (ho : o = pre.length) (h : w.heap[g]? = some (.cells (pre ++ (X ++ post)).toArray T (0, 0))) : w.rangeAt g o X := fun j x hx => by
  subst ho
  rw [cell_of_row _ _ _ _ _ _ h, List.getElem?_toArray, List.getElem?_append_right (by omega), Nat.add_sub_cancel_left, List.getElem?_append_left (List.getElem?_eq_some_iff.1 hx).1]
  exact hx
/-- A key of at most 64 bytes, with zeros behind it. -/
def pad64 (l : List UInt8) : List UInt8 := l ++ zs (64 - l.length)
theorem pad64_length (l : List UInt8) (h : l.length ≤ 64) : (pad64 l).length = 64 := by simp [pad64, zs]; omega
theorem splice_key (l : List UInt8) (h : l.length ≤ 64) : splice (mkL (zs 64) [] false) 0 (bv l) = mkL (pad64 l) [] false := by
  have e : bv (zs 64) = bv (zs l.length) ++ bv (zs (64 - l.length)) := by
    rw [← bv_append, zs, zs, zs, List.replicate_append_replicate]; congr 2; omega
  unfold mkL splice
  rw [e]
  simp only [List.take_zero, List.nil_append, Nat.zero_add, pad64, bv_append, List.append_assoc]
  congr 1
  rw [List.drop_append_of_le_length (by simp [bv_length, zs]), List.drop_of_length_le (by simp [bv_length, zs]), List.nil_append]
theorem splice_text (k t t' : List UInt8) (any : Bool) (h : k.length = 64) : splice (mkL k t any) 64 (stL t') = mkL k t' any := by
  unfold mkL splice
  rw [List.take_append_of_le_length (by simp [bv_length, h]), List.take_of_length_le (by simp [bv_length, h]), List.drop_append, List.drop_of_length_le (by simp [bv_length, h])]
  simp [bv_length, h, stL_length]
theorem set_any (k t : List UInt8) (any b : Bool) (h : k.length = 64) : (mkL k t any).toArray.setIfInBounds 137 (.bool b) = (mkL k t b).toArray := by
  unfold mkL
  rw [List.setIfInBounds_toArray]
  congr 1
  rw [List.set_append_right _ _ (by simp [bv_length, h]), List.set_append_right _ _ (by simp [bv_length, h, stL_length])]
  simp [bv_length, h, stL_length]
theorem any_at (k t : List UInt8) (any : Bool) (h : k.length = 64) : (mkL k t any)[137]? = some (.bool any) := by
  unfold mkL
  rw [List.getElem?_append_right (by simp [bv_length, h]), List.getElem?_append_right (by simp [bv_length, h, stL_length])]
  simp [bv_length, h, stL_length]
def hkey (key : List UInt8) : List UInt8 := if 64 < key.length then Sha.sum key else key
theorem hkey_le (key : List UInt8) : (hkey key).length ≤ 64 := by
  unfold hkey; split
  · rw [sum_length]; omega
  · omega

set_option maxHeartbeats 4000000 in
set_option maxRecDepth 100000 in
theorem New_any (key : List UInt8) (v : Value) (w : World) (hl : key.length ≤ 1152921504606846976) (hr : Rd w 1 v key.length (bv key)) (hG : Tabs w) :
    Calls Tryd.prog 21 #[v] w fun e w' => e = .returned (.agg (mkL (pad64 (hkey key)) [] false).toArray) ∧ Below w.heap.size w w' := by
  obtain ⟨a, c, rfl⟩ := hr.form
  have hz := (zero_of_info infoMk).1
  have hz32 := (zero_of_info info32).1
  obtain ⟨z0, hz0⟩ : ∃ z0, z0 = mkL (zs 64) [] false := ⟨_, rfl⟩
  rw [← hz0] at hz
  have HR := Lib.hid (And.intro hr hz0)
  clear hr hz0
  go_enter Tryd.func21, Tryd.ntmps21
  go_upto_region 1 with fail
  obtain ⟨w1, hw1⟩ : ∃ x : World, x = w.alloc (.cells z0.toArray 51) := ⟨_, rfl⟩
  rw [← hw1]
  have hrow : w1.heap[w.heap.size]? = some (.cells z0.toArray 51 (0, 0)) := by rw [hw1]; exact heap_alloc_new _ _
  have hb1 : Below w.heap.size w w1 := by rw [hw1]; exact (Below.refl _ _).alloc (Nat.le_refl _) _
  have H1 := Lib.hid (And.intro hrow hb1)
  clear hrow hb1 hw1
  go_upto_if 6 with fail
  go_cut [0] (fun s0 wq => RowKit.Hid (Rd wq 1 s0 (hkey key).length (bv (hkey key)) ∧ wq.heap[w.heap.size]? = some (.cells z0.toArray 51 (0, 0)) ∧ Below w.heap.size w wq))
  case first =>
    by_cases h64 : 64 < key.length
    · have hd : (64 : Int) < (key.length : Int) := by omega
      have hh : hkey key = Sha.sum key := by unfold hkey; rw [if_pos h64]
      have HH := Lib.hid hh
      clear hh
      go_wp2_with fail
      refine (shaSum_any key _ w1 hl (HR.out.1.keep H1.out.2) (hG.keepB H1.out.2)).mono ?_
      rintro e w2 ⟨rfl, hb2⟩
      have hol := sum_length key
      generalize Sha.sum key = o at *
      have hrow2 := (hb2.block _ (Array.getElem?_eq_some_iff.1 H1.out.1).1).trans H1.out.1
      have hbw2 := H1.out.2.trans (hb2.mono H1.out.2.size)
      have H2 := Lib.hid (And.intro hrow2 hbw2)
      clear hrow2 hbw2 hb2 H1
      go_wp2_with (with_reducible show wpList _ _ _ (⟨none, Op.store _ _ _, _, _, _, _⟩ :: _) _ _; go_loud (refine wpList_store_whole rfl _ _ _ rfl w2.heap.size (bv o) rfl rfl (bv (zs 32)) _ (heap_alloc_new _ _) (hInfo' _ hol) (by rw [bv_length, bv_length, hol]; simp [zs]) (bv_one _) ?_; intro w3 HG3 hg3))
      go_meet
      have hlt := (Array.getElem?_eq_some_iff.1 H2.out.1).1
      refine show _ ∧ _ from ⟨?_, (hg3.block _ (by simp; omega) (by simp; omega)).trans ((heap_alloc_old _ _ hlt).trans H2.out.1), below_grow (H2.out.2.alloc H2.out.2.size _) hg3 H2.out.2.size (by simp)⟩
      rw [HH.out, hol]
      refine ⟨by rw [bv_length, hol], bv_one _, .inr ⟨⟨w2.heap.size, 0, none⟩, 32, rfl, Nat.le_refl _, fun j u hu => ?_⟩⟩
      rw [Addr.add_lit, Nat.zero_add, cell_of_row _ _ _ _ _ _ HG3.out]
      simpa using hu
    · have hd : ¬ (64 : Int) < (key.length : Int) := by omega
      have hh : hkey key = key := by unfold hkey; rw [if_neg h64]
      have HH := Lib.hid hh
      clear hh
      go_wp2_with fail
      go_meet
      exact show _ ∧ _ from ⟨by rw [HH.out]; exact HR.out.1.keep H1.out.2, H1.out⟩
  case rest =>
    have hle := hkey_le key
    obtain ⟨l, hll⟩ : ∃ l, l = hkey key := ⟨_, rfl⟩
    rw [← hll] at hcut hle
    have HLL := Lib.hid hll
    clear hll
    obtain ⟨a2, c2, rfl⟩ := hcut.out.1.form
    have hc1 : (bv l).length = Nat.min l.length 64 := by rw [bv_length]; exact (Nat.min_eq_left hle).symm
    have hc2 : Rd wc 1 (.slice a2 l.length c2) l.length (bv l ++ []) := by rw [List.append_nil]; exact hcut.out.1
    have hsp := splice_key l hle
    rw [← HR.out.2] at hsp
    have hzl : z0.length = 138 := by rw [HR.out.2]; exact mkL_length _ _ _ (by simp [zs])
    obtain ⟨X, hX⟩ : ∃ X, X = bv l := ⟨_, rfl⟩
    rw [← hX] at hc1 hc2 hsp
    have hXl : X.length ≤ 64 := by rw [hX, bv_length]; exact hle
    have hml := mkL_length (pad64 l) [] false (pad64_length l hle)
    have hmo := mkL_one (pad64 l) [] false
    obtain ⟨M, hM⟩ : ∃ M, M = mkL (pad64 l) [] false := ⟨_, rfl⟩
    rw [← hM] at hsp hml hmo
    have HMM := Lib.hid hM
    clear hM
    have HC := Lib.hid (And.intro hc1 (And.intro hc2 (And.intro hsp (And.intro hzl (And.intro hXl (And.intro hml hmo))))))
    clear hc1 hc2 hsp hX hzl hXl hml hmo H1
    go_upto_region 5 with (with_reducible show wpList _ _ _ (⟨some 13, _, _, _, _, _⟩ :: _) _ _; go_loud (refine wpList_copy_grown rfl _ _ _ _ rfl _ Tryd.underlying22 (by kernel_rfl) _ _ _ _ _ _ rfl rfl w.heap.size 0 z0 _ hcut.out.2.1 X [] HC.out.1 rfl HC.out.2.1 (by rw [HC.out.2.2.2.1]; have := HC.out.2.2.2.2.1; omega) ?_; intro w3 HG3 hg3))
    have hrow3 : w3.heap[w.heap.size]? = some (.cells M.toArray 51 (0, 0)) := by have h := HG3.out; rw [HC.out.2.2.1] at h; exact h
    have hbw3 := below_grow hcut.out.2.2 hg3 (Nat.le_refl _) (Array.getElem?_eq_some_iff.1 hcut.out.2.1).1
    have H3 := Lib.hid (And.intro hrow3 hbw3)
    clear hrow3 hbw3 HG3 hg3 hcut
    go_wp2_with (first
      | (with_reducible show wpList _ _ _ (⟨some 14, _, _, _, _, _⟩ :: _) _ _; refine wpList_load_row rfl _ _ rfl w.heap.size rfl _ _ (0, 0) _ H3.out.1 Tryd.underlying51 rfl (mkInfo _ HC.out.2.2.2.2.2.1) ?_)
      | (with_reducible show wpList _ _ _ (⟨none, Op.store _ _ _, _, _, _, _⟩ :: _) _ _; refine wpList_store_whole rfl _ _ _ rfl w.heap.size M rfl rfl M _ H3.out.1 (mkInfo' _ HC.out.2.2.2.2.2.1) rfl HC.out.2.2.2.2.2.2 ?_; intro w9 HG9 hg9))
    refine bodyPost_ret (v := .agg M.toArray) ?_ ?_ ?_
    · exact results_cell_row Tryd.results21 _ _ w.heap.size 51 _ (0, 0) _ rfl HG9.out Tryd.underlying51 rfl (mkInfo _ HC.out.2.2.2.2.2.1)
    · rfl
    · exact ⟨by rw [HMM.out, HLL.out], below_grow H3.out.2 hg9 (Nat.le_refl _) (Array.getElem?_eq_some_iff.1 H3.out.1).1⟩
end Go.Proofs.YtkcnakijfmemlaaDoor
