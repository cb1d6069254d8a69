/- mac: New, Write, Mark. (printed by gen/mk.py) -/
import Derived.Test.YtgimblpdmlnfeaaDoorLeafJ
import Derived.Test.YtgimblpdmlnfeaaDoorRegV
namespace Go.Proofs.YtgimblpdmlnfeaaDoor
open Go.ChangeShapes Go.WideShapes Go.ChangeAt Go.RowKit Sha

theorem wpStill_load_row {P : Program} {ops : Array Oper} {w : World} {Q : Act → Prop} {a : Act} {o : Oper} {rest : List Oper} (hgd : o.guard = none) (ty : TypeId) (x : Operand) (ho : o.op = .load ty x)
    (g : Nat) (hx : a.eval x = .pointer (some ⟨g, 0, none⟩)) (t : TypeId) (cs : Array Value) (fr : Nat × Nat) (d : TypeDesc) (hg : w.heap[g]? = some (.cells cs t fr))
    (hu : P.underlying ty = some d) (hd : (match d with | .struct _ | .array _ _ => true | _ => false) = true) (hi : (P.info? ty).map (·.size) = some cs.size)
    (h : wpStill P ops w Q rest (a.put o.dst (.agg cs))) : wpStill P ops w Q (o :: rest) a := by
  refine wpStill_step (fun K hK => ?_)
  rw [if_pos (by simp [Region.wanted, hgd])]
  unfold Oper.still execOp
  simp only [ho, hx, Instr.loadAt, Instr.sureAddr, Sem.run_bind, Sem.run_pure, Result.andThen_ok, run_loadVar_row w g t ty cs fr d hg hu hd hi, Oper.stillUpon]
  exact ⟨trivial, hK _ h⟩

/-- A slice cut out of the middle. -/
theorem Rd.mid {w : World} {a : Option Addr} {n c : Nat} {xs : List Value} (h : Rd w 1 (.slice a n c) n xs) (p k : Nat) (hk : p + k ≤ n) :
    Rd w 1 (.slice (if c = p then a else Option.map (fun x => x.add p) a) k (c - p)) k ((xs.drop p).take k) :=
  (h.cut p (by omega)).take' k (by omega)

theorem Rd.cap {w : World} {a : Option Addr} {m c n : Nat} {xs : List Value} (h : Rd w 1 (.slice a m c) n xs) : n ≤ c := by
  obtain ⟨_, _, h⟩ := h
  rcases h with ⟨e, rfl⟩ | ⟨ad, c', e, h, _⟩
  · cases e; exact Nat.zero_le _
  · cases e; exact h
end Go.Proofs.YtgimblpdmlnfeaaDoor
namespace Go.Proofs.YtgimblpdmlnfeaaDoor
open Go.RowKit Sha

/-- A marker's cells: its key, the state behind a text, whether it was begun. -/
def mkL (k t : List UInt8) (any : Bool) : List Value := bv k ++ (stL t ++ [.bool any])
theorem mkL_length (k t : List UInt8) (any : Bool) (h : k.length = 64) : (mkL k t any).length = 138 := by simp [mkL, bv_length, h, stL_length]
theorem mkL_one (k t : List UInt8) (any : Bool) : ∀ u ∈ mkL k t any, u.oneCell' = true := by
  intro u hu
  rcases List.mem_append.1 hu with h | h
  · exact bv_one _ _ h
  · rcases List.mem_append.1 h with h | h
    · exact stL_one _ _ h
    · simp at h; subst h; rfl
theorem infoMk : (Tryd.prog.info? 81).map (fun i => (i.zero, i.size)) = some (some (.agg (mkL (zs 64) [] false).toArray), 138) := by kernel_rfl
theorem mkInfo (R : List Value) (h : R.length = 138) : (Tryd.prog.info? 81).map (·.size) = some R.toArray.size := by
  rw [List.size_toArray, h]; kernel_rfl
theorem mkInfo' (R : List Value) (h : R.length = 138) : (Tryd.prog.info? 81).map (·.size) = some R.length := by
  rw [h]; kernel_rfl
theorem range_of_row {w : World} {g : Nat} {T : TypeId} (pre X post : List Value) (o : Nat) (ho : o = pre.length) (h : w.heap[g]? = some (.cells (pre ++ (X ++ post)).toArray T (0, 0))) : w.rangeAt g o X := fun j x hx => by
  subst ho
  rw [cell_of_row _ _ _ _ _ _ h, List.getElem?_toArray, List.getElem?_append_right (by omega), Nat.add_sub_cancel_left, List.getElem?_append_left (List.getElem?_eq_some_iff.1 hx).1]
  exact hx
/-- A key of at most 64 bytes, with zeros behind it. -/
def pad64 (l : List UInt8) : List UInt8 := l ++ zs (64 - l.length)
theorem pad64_length (l : List UInt8) (h : l.length ≤ 64) : (pad64 l).length = 64 := by simp [pad64, zs]; omega
theorem splice_key (l : List UInt8) (h : l.length ≤ 64) : splice (mkL (zs 64) [] false) 0 (bv l) = mkL (pad64 l) [] false := by
  have e : bv (zs 64) = bv (zs l.length) ++ bv (zs (64 - l.length)) := by
    rw [← bv_append, zs, zs, zs, List.replicate_append_replicate]; congr 2; omega
  unfold mkL splice
  rw [e]
  simp only [List.take_zero, List.nil_append, Nat.zero_add, pad64, bv_append, List.append_assoc]
  congr 1
  rw [List.drop_append_of_le_length (by simp [bv_length, zs]), List.drop_of_length_le (by simp [bv_length, zs]), List.nil_append]
theorem splice_text (k t t' : List UInt8) (any : Bool) (h : k.length = 64) : splice (mkL k t any) 64 (stL t') = mkL k t' any := by
  unfold mkL splice
  rw [List.take_append_of_le_length (by simp [bv_length, h]), List.take_of_length_le (by simp [bv_length, h]), List.drop_append, List.drop_of_length_le (by simp [bv_length, h])]
  simp [bv_length, h, stL_length]
theorem set_any (k t : List UInt8) (any b : Bool) (h : k.length = 64) : (mkL k t any).toArray.setIfInBounds 137 (.bool b) = (mkL k t b).toArray := by
  unfold mkL
  rw [List.setIfInBounds_toArray]
  congr 1
  rw [List.set_append_right _ _ (by simp [bv_length, h]), List.set_append_right _ _ (by simp [bv_length, h, stL_length])]
  simp [bv_length, h, stL_length]
theorem any_at (k t : List UInt8) (any : Bool) (h : k.length = 64) : (mkL k t any)[137]? = some (.bool any) := by
  unfold mkL
  rw [List.getElem?_append_right (by simp [bv_length, h]), List.getElem?_append_right (by simp [bv_length, h, stL_length])]
  simp [bv_length, h, stL_length]
def hkey (key : List UInt8) : List UInt8 := if 64 < key.length then Sha.sum key else key
theorem hkey_le (key : List UInt8) : (hkey key).length ≤ 64 := by
  unfold hkey; split
  · rw [sum_length]; omega
  · omega

set_option maxHeartbeats 4000000 in
set_option maxRecDepth 100000 in
theorem MNew_any (key : List UInt8) (v : Value) (w : World) (hl : key.length ≤ 1152921504606846976) (hr : Rd w 1 v key.length (bv key)) (hG : Tabs w) :
    Calls Tryd.prog 52 #[v] w fun e w' => e = .returned (.agg (mkL (pad64 (hkey key)) [] false).toArray) ∧ Below w.heap.size w w' := by
  obtain ⟨a, c, rfl⟩ := hr.form
  have hz := (zero_of_info infoMk).1
  have hz32 := (zero_of_info info32).1
  obtain ⟨z0, hz0⟩ : ∃ z0, z0 = mkL (zs 64) [] false := ⟨_, rfl⟩
  rw [← hz0] at hz
  have HR := Lib.hid (And.intro hr hz0)
  clear hr hz0
  go_enter Tryd.func52, Tryd.ntmps52
  go_upto_region 1 with fail
  obtain ⟨w1, hw1⟩ : ∃ x : World, x = w.alloc (.cells z0.toArray 81) := ⟨_, rfl⟩
  rw [← hw1]
  have hrow : w1.heap[w.heap.size]? = some (.cells z0.toArray 81 (0, 0)) := by rw [hw1]; exact heap_alloc_new _ _
  have hb1 : Below w.heap.size w w1 := by rw [hw1]; exact (Below.refl _ _).alloc (Nat.le_refl _) _
  have H1 := Lib.hid (And.intro hrow hb1)
  clear hrow hb1 hw1
  go_upto_if 6 with fail
  go_cut [0] (fun s0 wq => RowKit.Hid (Rd wq 1 s0 (hkey key).length (bv (hkey key)) ∧ wq.heap[w.heap.size]? = some (.cells z0.toArray 81 (0, 0)) ∧ Below w.heap.size w wq))
  case first =>
    by_cases h64 : 64 < key.length
    · have hd : (64 : Int) < (key.length : Int) := by omega
      have hh : hkey key = Sha.sum key := by unfold hkey; rw [if_pos h64]
      have HH := Lib.hid hh
      clear hh
      go_wp2_with fail
      refine (shaSum_any key _ w1 hl (HR.out.1.keep H1.out.2) (hG.keepB H1.out.2)).mono ?_
      rintro e w2 ⟨rfl, hb2⟩
      have hol := sum_length key
      generalize Sha.sum key = o at *
      have hrow2 := (hb2.block _ (Array.getElem?_eq_some_iff.1 H1.out.1).1).trans H1.out.1
      have hbw2 := H1.out.2.trans (hb2.mono H1.out.2.size)
      have H2 := Lib.hid (And.intro hrow2 hbw2)
      clear hrow2 hbw2 hb2 H1
      go_wp2_with (with_reducible show wpList _ _ _ (⟨none, Op.store _ _ _, _, _, _, _⟩ :: _) _ _; go_loud (refine wpList_store_whole rfl _ _ _ rfl w2.heap.size (bv o) rfl rfl (bv (zs 32)) _ (heap_alloc_new _ _) (hInfo' _ hol) (by rw [bv_length, bv_length, hol]; simp [zs]) (bv_one _) ?_; intro w3 HG3 hg3))
      go_meet
      have hlt := (Array.getElem?_eq_some_iff.1 H2.out.1).1
      refine show _ ∧ _ from ⟨?_, (hg3.block _ (by simp; omega) (by simp; omega)).trans ((heap_alloc_old _ _ hlt).trans H2.out.1), below_grow (H2.out.2.alloc H2.out.2.size _) hg3 H2.out.2.size (by simp)⟩
      rw [HH.out, hol]
      refine ⟨by rw [bv_length, hol], bv_one _, .inr ⟨⟨w2.heap.size, 0, none⟩, 32, rfl, Nat.le_refl _, fun j u hu => ?_⟩⟩
      rw [Addr.add_lit, Nat.zero_add, cell_of_row _ _ _ _ _ _ HG3.out]
      simpa using hu
    · have hd : ¬ (64 : Int) < (key.length : Int) := by omega
      have hh : hkey key = key := by unfold hkey; rw [if_neg h64]
      have HH := Lib.hid hh
      clear hh
      go_wp2_with fail
      go_meet
      exact show _ ∧ _ from ⟨by rw [HH.out]; exact HR.out.1.keep H1.out.2, H1.out⟩
  case rest =>
    have hle := hkey_le key
    obtain ⟨l, hll⟩ : ∃ l, l = hkey key := ⟨_, rfl⟩
    rw [← hll] at hcut hle
    have HLL := Lib.hid hll
    clear hll
    obtain ⟨a2, c2, rfl⟩ := hcut.out.1.form
    have hc1 : (bv l).length = Nat.min l.length 64 := by rw [bv_length]; exact (Nat.min_eq_left hle).symm
    have hc2 : Rd wc 1 (.slice a2 l.length c2) l.length (bv l ++ []) := by rw [List.append_nil]; exact hcut.out.1
    have hsp := splice_key l hle
    rw [← HR.out.2] at hsp
    have hzl : z0.length = 138 := by rw [HR.out.2]; exact mkL_length _ _ _ (by simp [zs])
    obtain ⟨X, hX⟩ : ∃ X, X = bv l := ⟨_, rfl⟩
    rw [← hX] at hc1 hc2 hsp
    have hXl : X.length ≤ 64 := by rw [hX, bv_length]; exact hle
    have hml := mkL_length (pad64 l) [] false (pad64_length l hle)
    have hmo := mkL_one (pad64 l) [] false
    obtain ⟨M, hM⟩ : ∃ M, M = mkL (pad64 l) [] false := ⟨_, rfl⟩
    rw [← hM] at hsp hml hmo
    have HMM := Lib.hid hM
    clear hM
    have HC := Lib.hid (And.intro hc1 (And.intro hc2 (And.intro hsp (And.intro hzl (And.intro hXl (And.intro hml hmo))))))
    clear hc1 hc2 hsp hX hzl hXl hml hmo H1
    go_upto_region 5 with (with_reducible show wpList _ _ _ (⟨some 13, _, _, _, _, _⟩ :: _) _ _; go_loud (refine wpList_copy_grown rfl _ _ _ _ rfl _ Tryd.underlying25 (by kernel_rfl) _ _ _ _ _ _ rfl rfl w.heap.size 0 z0 _ hcut.out.2.1 X [] HC.out.1 rfl HC.out.2.1 (by rw [HC.out.2.2.2.1]; have := HC.out.2.2.2.2.1; omega) ?_; intro w3 HG3 hg3))
    have hrow3 : w3.heap[w.heap.size]? = some (.cells M.toArray 81 (0, 0)) := by have h := HG3.out; rw [HC.out.2.2.1] at h; exact h
    have hbw3 := below_grow hcut.out.2.2 hg3 (Nat.le_refl _) (Array.getElem?_eq_some_iff.1 hcut.out.2.1).1
    have H3 := Lib.hid (And.intro hrow3 hbw3)
    clear hrow3 hbw3 HG3 hg3 hcut
    go_wp2_with (first
      | (with_reducible show wpList _ _ _ (⟨some 14, _, _, _, _, _⟩ :: _) _ _; refine wpList_load_row rfl _ _ rfl w.heap.size rfl _ _ (0, 0) _ H3.out.1 Tryd.underlying81 rfl (mkInfo _ HC.out.2.2.2.2.2.1) ?_)
      | (with_reducible show wpList _ _ _ (⟨none, Op.store _ _ _, _, _, _, _⟩ :: _) _ _; refine wpList_store_whole rfl _ _ _ rfl w.heap.size M rfl rfl M _ H3.out.1 (mkInfo' _ HC.out.2.2.2.2.2.1) rfl HC.out.2.2.2.2.2.2 ?_; intro w9 HG9 hg9))
    refine bodyPost_ret (v := .agg M.toArray) ?_ ?_ ?_
    · exact results_cell_row Tryd.results52 _ _ w.heap.size 81 _ (0, 0) _ rfl HG9.out Tryd.underlying81 rfl (mkInfo _ HC.out.2.2.2.2.2.1)
    · rfl
    · exact ⟨by rw [HMM.out, HLL.out], below_grow H3.out.2 hg9 (Nat.le_refl _) (Array.getElem?_eq_some_iff.1 H3.out.1).1⟩
end Go.Proofs.YtgimblpdmlnfeaaDoor
namespace Go.Proofs.YtgimblpdmlnfeaaDoor
open Go.RowKit Sha

/-- A key's bytes, xored. -/
def kx (k : List UInt8) (x : UInt8) : List UInt8 := k.map (· ^^^ x)
theorem kx_length (k : List UInt8) (x : UInt8) : (kx k x).length = k.length := by simp [kx]
theorem kx_bs (k : List UInt8) (x : UInt8) : kx k x = bs (fun j => k.getD j 0 ^^^ x) k.length := by
  apply List.ext_getElem?
  intro j
  by_cases h : j < k.length
  · rw [bs_get _ _ _ h, kx, List.getElem?_map, List.getElem?_eq_getElem h, List.getD_eq_getElem?_getD, List.getElem?_eq_getElem h]; rfl
  · rw [List.getElem?_eq_none (by rw [kx_length]; omega), List.getElem?_eq_none (by rw [bs_length]; omega)]
theorem i8_xor (x y : UInt8) : bits .xor .u8 (x.toNat : Int) (y.toNat : Int) = ((x ^^^ y).toNat : Int) := by
  rw [Go.u8_xor_nat _ _ x.toNat_lt y.toNat_lt, UInt8.toNat_xor]
theorem h64Info (R : List UInt8) (h : R.length = 64) : (Tryd.prog.info? 75).map (·.size) = some (bv R).toArray.size := by
  rw [List.size_toArray, bv_length, h]; kernel_rfl
theorem h64Info' (R : List UInt8) (h : R.length = 64) : (Tryd.prog.info? 75).map (·.size) = some (bv R).length := by
  rw [bv_length, h]; kernel_rfl

set_option maxHeartbeats 4000000 in
set_option maxRecDepth 100000 in
theorem begun_any (k t : List UInt8) (any : Bool) (x : UInt8) (w : World) (hk : k.length = 64) (hG : Tabs w) :
    Calls Tryd.prog 100 #[.agg (mkL k t any).toArray, .int .u8 x.toNat] w fun e w' => e = .returned (.agg (stv (kx k x))) ∧ Below w.heap.size w w' := by
  have hzs := (zero_of_info infoSt).1
  have hz64 := (zero_of_info info64).1
  rw [stv_nil] at hzs
  have hml := mkL_length k t any hk
  have hmd : mkL k t any = [] ++ (bv k ++ (stL t ++ [.bool any])) := rfl
  have HM := Lib.hid hmd
  obtain ⟨M, hM⟩ : ∃ M, M = mkL k t any := ⟨_, rfl⟩
  rw [← hM] at hml HM ⊢
  obtain ⟨A, hA⟩ : ∃ A, A = M.toArray := ⟨_, rfl⟩
  have hsz : A.size = 138 := by rw [hA]; simpa using hml
  rw [← hA]
  have HAM := Lib.hid hA
  clear hM hmd hA
  obtain ⟨s0, hs0⟩ : ∃ s0, s0 = stv [] := ⟨_, rfl⟩
  have HS0 := Lib.hid hs0
  rw [← hs0] at hzs
  clear hs0
  go_enter Tryd.func100, Tryd.ntmps100
  go_upto_region 1 with fail
  obtain ⟨w1, hw1⟩ : ∃ y : World, y = (w.alloc (.cells A 81)).alloc (.cells s0 79) := ⟨_, rfl⟩
  rw [← hw1]
  have hr1 : w1.heap[w.heap.size]? = some (.cells ([] ++ (bv k ++ (stL t ++ [Value.bool any]))).toArray 81 (0, 0)) := by
    rw [← HM.out, ← HAM.out, hw1]; exact (heap_alloc_old _ _ (by simp)).trans (heap_alloc_new _ _)
  have hs1 : w1.heap[w.heap.size + 1]? = some (.cells s0 79 (0, 0)) := by
    rw [hw1]
    have h := heap_alloc_new (w.alloc (.cells A 81)) (.cells s0 79)
    simpa using h
  have hb1 : Below w.heap.size w w1 := by rw [hw1]; exact ((Below.refl _ _).alloc (Nat.le_refl _) _).alloc (by simp) _
  have hlt1 : w.heap.size + 1 < w1.heap.size := (Array.getElem?_eq_some_iff.1 hs1).1
  have hkk := h64Info' k hk
  have hfit : (bv k).length = (bv (zs 64)).length := by rw [bv_length, hk]; simp [bv_length, zs]
  have hrng := range_of_row [] (bv k) (stL t ++ [Value.bool any]) 0 rfl hr1
  obtain ⟨X, hX⟩ : ∃ X, X = bv k := ⟨_, rfl⟩
  rw [← hX] at hkk hfit hrng
  have hX1 : ∀ u ∈ X, u.oneCell' = true := by rw [hX]; exact bv_one _
  have H1 := Lib.hid (And.intro hrng (And.intro hkk (And.intro hfit (And.intro hX1 (And.intro hs1 hb1)))))
  have HX := Lib.hid hX
  clear hw1 hr1 hs1 hb1 hkk hfit hrng hX1 hX hsz
  go_upto_region 2 with (first
    | (with_reducible show wpList _ _ _ (⟨some 8, _, _, _, _, _⟩ :: _) _ _; refine wpList_load_mid rfl _ _ rfl w.heap.size 0 rfl X _ H1.out.1 Tryd.underlying75 rfl H1.out.2.1 ?_)
    | (with_reducible show wpList _ _ _ (⟨none, Op.store _ _ _, _, _, _, _⟩ :: _) _ _; go_loud (refine wpList_store_whole rfl _ _ _ rfl w1.heap.size X rfl rfl (bv (zs 64)) _ (heap_alloc_new _ _) H1.out.2.1 H1.out.2.2.1 H1.out.2.2.2.1 ?_; intro w2 HG2 hg2)))
  have hrow : w2.heap[w1.heap.size]? = some (.cells (bv (bs (fun j => if j < 0 then k.getD j 0 ^^^ x else k.getD j 0) 64)).toArray 75 (0, 0)) := by
    have h := HG2.out
    have e := bs_self k
    rw [hk] at e
    rw [HX.out] at h
    rw [h, bs_congr (fun j => if j < 0 then k.getD j 0 ^^^ x else k.getD j 0) (fun j => k.getD j 0) 64 (fun j _ => if_neg (by omega)), e]
  have hs2 : w2.heap[w.heap.size + 1]? = some (.cells s0 79 (0, 0)) := (hg2.block _ (by simp; omega) (by simp; omega)).trans ((heap_alloc_old _ _ hlt1).trans H1.out.2.2.2.2.1)
  have hb2 : Below w.heap.size w w2 := below_grow (H1.out.2.2.2.2.2.alloc H1.out.2.2.2.2.2.size _) hg2 H1.out.2.2.2.2.2.size (by simp)
  obtain ⟨g5, hg5⟩ : ∃ g5, g5 = w1.heap.size := ⟨_, rfl⟩
  have hg5b : w.heap.size + 1 < g5 := by omega
  rw [← hg5] at hrow ⊢
  have H2 := Lib.hid (And.intro hrow (And.intro hs2 hb2))
  clear hrow hs2 hb2 HG2 hg2 H1 hg5 hlt1
  go_wp2_with fail
  go_loopw [9] (fun s9 wr => ∃ i : Nat, i ≤ 64 ∧ s9 = .int .i64 i ∧ RowKit.Hid (wr.heap[g5]? = some (.cells (bv (bs (fun j => if j < i then k.getD j 0 ^^^ x else k.getD j 0) 64)).toArray 75 (0, 0)) ∧
      wr.heap[w.heap.size + 1]? = some (.cells s0 79 (0, 0)) ∧ Below w.heap.size w wr)) (fun s9 _ => 64 - (intOf s9).toNat)
  case atStart => exact ⟨0, by omega, rfl, H2⟩
  case round =>
    clear H2
    obtain ⟨i, hi, rfl, HI⟩ := hrel
    by_cases hil : i < 64
    · have hiz : (i : Int) < 64 := by omega
      have hi0 : (0 : Int) ≤ (i : Int) := by omega
      obtain ⟨y, hy⟩ : ∃ y, y = k.getD i 0 := ⟨_, rfl⟩
      have hc : wr.cell? ⟨g5, i, none⟩ = some (.int .u8 y.toNat) := by
        rw [cell_of_row _ _ _ _ _ _ HI.out.1, List.getElem?_toArray]
        simp only [bv, List.getElem?_map, bs_get _ _ _ hil]
        rw [if_neg (by omega), hy]; rfl
      have hf := frozen_of_row _ _ i _ _ HI.out.1
      have hxx := i8_xor y x
      have HY := Lib.hid hy
      clear hy
      go_wp2_with fail
      go_roundw
      case rel =>
        have e1 := heap_setCell_same wr g5 i _ _ (.int .u8 (y ^^^ x).toNat) HI.out.1
        rw [rowB_set, bs_set _ (fun j => if j < i + 1 then k.getD j 0 ^^^ x else k.getD j 0) 64 i (y ^^^ x) (by simp [HY.out]) (fun j hj hne => by
          by_cases h1 : j < i
          · simp [h1, show j < i + 1 by omega]
          · simp [h1, show ¬ j < i + 1 by omega])] at e1
        have e2 := (heap_setCell_other wr ⟨g5, i, none⟩ (w.heap.size + 1) (.int .u8 (y ^^^ x).toNat) (by simp; omega)).trans HI.out.2.1
        have e3 := HI.out.2.2.setCell (p := ⟨g5, i, none⟩) (by simp; omega) (.int .u8 (y ^^^ x).toNat)
        exact ⟨i + 1, by omega, by go_num, And.intro e1 (And.intro e2 e3)⟩
      case measure => simp [intOf]; omega
    · have hiz : ¬ (i : Int) < 64 := by omega
      obtain rfl : i = 64 := by omega
      have hrow : wr.heap[g5]? = some (.cells (bv (kx k x)).toArray 75 (0, 0)) := by
        rw [HI.out.1, kx_bs, hk]
        refine congrArg (fun q => some (Obj.cells q 75 (0, 0))) (congrArg (fun q => (bv q).toArray) (bs_congr _ _ 64 fun j hj => ?_))
        rw [if_pos hj]
      have hrd := rd_row hrow (by rw [kx_length, hk])
      have hW := Write_any [] (kx k x) _ wr (by rw [kx_length, hk]; simp) hrd (hG.keepB HI.out.2.2)
      rw [List.nil_append, ← HS0.out, show stv (kx k x) = (stL (kx k x)).toArray from rfl] at hW
      have HW := Lib.hid hW
      have H3 := Lib.hid HI.out.2
      clear hrd hrow hW HI
      have hz64 : ¬ (64 : Int) < 64 := by decide
      go_wp2_with fail
      refine HW.out.mono ?_
      rintro e w4 ⟨rfl, hb4⟩
      have hs4 : w4.heap[w.heap.size + 1]? = some (.cells (stL []).toArray 79 (0, 0)) := by
        have h := (hb4.block _ (Array.getElem?_eq_some_iff.1 H3.out.1).1).trans H3.out.1
        rw [HS0.out] at h; exact h
      have hb4' := H3.out.2.trans (hb4.mono H3.out.2.size)
      have H4 := Lib.hid (And.intro hs4 hb4')
      clear hs4 hb4 hb4' HW H3
      go_wp2_with (with_reducible show wpList _ _ _ (⟨none, Op.store _ _ _, _, _, _, _⟩ :: _) _ _; refine wpList_store_whole rfl _ _ _ rfl (w.heap.size + 1) (stL (kx k x)) rfl rfl (stL []) _ H4.out.1 (stInfo' _ (stL_length _)) (by rw [stL_length, stL_length]) (stL_one _) ?_; intro w9 HG9 hg9)
      have hend : w9.heap[w.heap.size + 1]? = some (.cells (stv (kx k x)) 79 (0, 0)) := HG9.out
      have hszl : (Tryd.prog.info? 79).map (·.size) = some (stv (kx k x)).size := stInfo _ (stL_length _)
      refine bodyPost_ret (v := .agg (stv (kx k x))) ?_ ?_ ?_
      · exact results_cell_row Tryd.results100 _ _ (w.heap.size + 1) 79 _ (0, 0) _ rfl hend Tryd.underlying79 rfl hszl
      · rfl
      · exact ⟨rfl, below_grow H4.out.2 hg9 (by omega) (Array.getElem?_eq_some_iff.1 H4.out.1).1⟩
end Go.Proofs.YtgimblpdmlnfeaaDoor
namespace Go.Proofs.YtgimblpdmlnfeaaDoor
open Go.RowKit Sha

/-- What a marker's state holds once it is begun. -/
def bt (k t : List UInt8) (any : Bool) : List UInt8 := if any then t else kx k 54
theorem ext_text (k t : List UInt8) (any : Bool) (h : k.length = 64) : (mkL k t any).toArray.extract 64 137 = stv t := by
  unfold mkL stv
  rw [List.extract_toArray]
  congr 1
  rw [List.extract_eq_take_drop, List.drop_append, List.drop_of_length_le (by simp [bv_length, h])]
  simp [bv_length, h, stL_length]

theorem cell_any {w : World} {g : Nat} {k t : List UInt8} {any : Bool} {T : TypeId} (h : w.heap[g]? = some (.cells (mkL k t any).toArray T (0, 0))) (hk : k.length = 64) : w.cell? ⟨g, 137, none⟩ = some (.bool any) := by
  rw [cell_of_row _ _ _ _ _ _ h, List.getElem?_toArray, any_at _ _ _ hk]
set_option maxHeartbeats 4000000 in
set_option maxRecDepth 100000 in
theorem MWrite_any (k t b : List UInt8) (any : Bool) (v : Value) (w : World) (hk : k.length = 64) (hl : t.length + b.length ≤ 2305843009213693952) (hr : Rd w 1 v b.length (bv b)) (hG : Tabs w) :
    Calls Tryd.prog 53 #[.agg (mkL k t any).toArray, v] w fun e w' => e = .returned (.agg (mkL k (bt k t any ++ b) true).toArray) ∧ Below w.heap.size w w' := by
  have hzs := (zero_of_info infoMk).1
  have hml := mkL_length k t any hk
  obtain ⟨A, hA⟩ : ∃ A, A = (mkL k t any).toArray := ⟨_, rfl⟩
  obtain ⟨z0, hz0⟩ : ∃ z0, z0 = mkL (zs 64) [] false := ⟨_, rfl⟩
  have hzl : z0.length = 138 := by rw [hz0]; exact mkL_length _ _ _ (by simp [zs])
  have hsz : A.size = 138 := by rw [hA]; simpa using hml
  rw [← hA]
  rw [← hz0] at hzs
  have HA := Lib.hid hA
  have HR := Lib.hid hr
  have HZ := Lib.hid hzl
  clear hA hr hz0 hml hzl
  go_enter Tryd.func53, Tryd.ntmps53
  go_upto_region 1 with fail
  obtain ⟨w1, hw1⟩ : ∃ y : World, y = (w.alloc (.cells A 81)).alloc (.cells z0.toArray 81) := ⟨_, rfl⟩
  rw [← hw1]
  have hr1 : w1.heap[w.heap.size]? = some (.cells (mkL k t any).toArray 81 (0, 0)) := by
    rw [← HA.out, hw1]; exact (heap_alloc_old _ _ (by simp)).trans (heap_alloc_new _ _)
  have hs1 : w1.heap[w.heap.size + 1]? = some (.cells z0.toArray 81 (0, 0)) := by
    rw [hw1]
    have h := heap_alloc_new (w.alloc (.cells A 81)) (.cells z0.toArray 81)
    simpa using h
  have hb1 : Below w.heap.size w w1 := by rw [hw1]; exact ((Below.refl _ _).alloc (Nat.le_refl _) _).alloc (by simp) _
  have hany : w1.cell? ⟨w.heap.size, 137, none⟩ = some (.bool any) := by rw [cell_of_row _ _ _ _ _ _ hr1, List.getElem?_toArray, any_at _ _ _ hk]
  have H1 := Lib.hid (And.intro hr1 (And.intro hs1 hb1))
  clear hw1 hr1 hs1 hb1 hsz
  go_upto_if 7 with fail
  go_cut [] (fun wq => RowKit.Hid (wq.heap[w.heap.size]? = some (.cells (mkL k (bt k t any) true).toArray 81 (0, 0)) ∧ wq.heap[w.heap.size + 1]? = some (.cells z0.toArray 81 (0, 0)) ∧ Below w.heap.size w wq))
  case first =>
    cases any with
    | true =>
      clear hany
      go_wp2_with fail
      go_meet
      exact H1
    | false =>
      have hbeg := begun_any k t false 54 w1 hk (hG.keepB H1.out.2.2)
      rw [← HA.out, show stv (kx k 54) = (stL (kx k 54)).toArray from rfl] at hbeg
      have HB := Lib.hid hbeg
      have hszA : (Tryd.prog.info? 81).map (·.size) = some A.size := by rw [HA.out]; exact mkInfo _ (mkL_length _ _ _ hk)
      have hrA : w1.heap[w.heap.size]? = some (.cells A 81 (0, 0)) := by rw [HA.out]; exact H1.out.1
      have HL := Lib.hid (And.intro hrA hszA)
      clear hany hbeg hrA hszA
      go_wp2_with (with_reducible show wpList _ _ _ (⟨some 8, _, _, _, _, _⟩ :: _) _ _; refine wpList_load_row rfl _ _ rfl w.heap.size rfl _ _ (0, 0) _ HL.out.1 Tryd.underlying81 rfl HL.out.2 ?_)
      refine HB.out.mono ?_
      rintro e w2 ⟨rfl, hb2⟩
      have hr2 := (hb2.block _ (Array.getElem?_eq_some_iff.1 H1.out.1).1).trans H1.out.1
      have hs2 := (hb2.block _ (Array.getElem?_eq_some_iff.1 H1.out.2.1).1).trans H1.out.2.1
      have hbw2 := H1.out.2.2.trans (hb2.mono H1.out.2.2.size)
      have H2 := Lib.hid (And.intro hr2 (And.intro hs2 hbw2))
      clear hr2 hs2 hbw2 hb2 HB HL H1
      go_wp2_with (with_reducible show wpList _ _ _ (⟨none, Op.store 79 _ _, _, _, _, _⟩ :: _) _ _; go_loud (refine wpList_store_splice rfl _ _ _ rfl w.heap.size 64 (stL (kx k 54)) rfl rfl (mkL k t false) _ H2.out.1 (stInfo' _ (stL_length _)) (by rw [stL_length, mkL_length _ _ _ hk]; decide) (stL_one _) ?_); intro w3 HG3 hg3; go_loud (have HG3' := HG3.out; rw [splice_text _ _ _ _ hk] at HG3'); go_loud (have hc3 : w3.cell? ⟨w.heap.size, 137, none⟩ = some (.bool false) := cell_any HG3' hk); have hf3 := frozen_of_row _ _ 137 _ _ HG3'; have H3 := Lib.hid HG3'; clear HG3' HG3)
      go_meet
      have e1 := heap_setCell_same w3 w.heap.size 137 _ _ (.bool true) H3.out
      rw [set_any _ _ _ _ hk] at e1
      have hs3 := (hg3.block _ (Array.getElem?_eq_some_iff.1 H2.out.2.1).1 (by simp)).trans H2.out.2.1
      have e2 := (heap_setCell_other w3 ⟨w.heap.size, 137, none⟩ (w.heap.size + 1) (.bool true) (by simp)).trans hs3
      have hb3 := below_grow H2.out.2.2 hg3 (Nat.le_refl _) (Array.getElem?_eq_some_iff.1 H2.out.1).1
      exact And.intro e1 (And.intro e2 (hb3.setCell (p := ⟨w.heap.size, 137, none⟩) (Nat.le_refl _) (.bool true)))
  case rest =>
    clear H1 hany
    obtain ⟨T, hT⟩ : ∃ T, T = bt k t any := ⟨_, rfl⟩
    rw [← hT] at hcut
    have hTl : T.length ≤ t.length + 64 := by rw [hT]; cases any <;> simp [bt, kx_length, hk]
    have hrng := range_of_row (bv k) (stL T) [Value.bool true] 64 (by rw [bv_length, hk]) hcut.out.1
    have hW := Write_any T b _ wc (by omega) (HR.out.keep hcut.out.2.2) (hG.keepB hcut.out.2.2)
    rw [show stv T = (stL T).toArray from rfl, show stv (T ++ b) = (stL (T ++ b)).toArray from rfl] at hW
    have HW := Lib.hid hW
    have HC := Lib.hid (And.intro hrng (stInfo' _ (stL_length T)))
    have HT := Lib.hid hT
    clear hW hrng hT hTl
    go_wp2_with (with_reducible show wpList _ _ _ (⟨some 13, _, _, _, _, _⟩ :: _) _ _; refine wpList_load_mid rfl _ _ rfl w.heap.size 64 rfl (stL T) _ HC.out.1 Tryd.underlying79 rfl HC.out.2 ?_)
    refine HW.out.mono ?_
    rintro e w2 ⟨rfl, hb2⟩
    have hr2 := (hb2.block _ (Array.getElem?_eq_some_iff.1 hcut.out.1).1).trans hcut.out.1
    have hs2 := (hb2.block _ (Array.getElem?_eq_some_iff.1 hcut.out.2.1).1).trans hcut.out.2.1
    have hbw2 := hcut.out.2.2.trans (hb2.mono hcut.out.2.2.size)
    have H2 := Lib.hid (And.intro hr2 (And.intro hs2 hbw2))
    clear hr2 hs2 hbw2 hb2 HW HC hcut
    go_upto_region 4 with (with_reducible show wpList _ _ _ (⟨none, Op.store 79 _ _, _, _, _, _⟩ :: _) _ _; go_loud (refine wpList_store_splice rfl _ _ _ rfl w.heap.size 64 (stL (T ++ b)) rfl rfl (mkL k T true) _ H2.out.1 (stInfo' _ (stL_length _)) (by rw [stL_length, mkL_length _ _ _ hk]; decide) (stL_one _) ?_); intro w3 HG3 hg3)
    have hr3 := HG3.out
    rw [splice_text _ _ _ _ hk] at hr3
    have hs3 := (hg3.block _ (Array.getElem?_eq_some_iff.1 H2.out.2.1).1 (by simp)).trans H2.out.2.1
    have hb3 := below_grow H2.out.2.2 hg3 (Nat.le_refl _) (Array.getElem?_eq_some_iff.1 H2.out.1).1
    have hml := mkL_length k (T ++ b) true hk
    have hmo := mkL_one k (T ++ b) true
    obtain ⟨M, hM⟩ : ∃ M, M = mkL k (T ++ b) true := ⟨_, rfl⟩
    rw [← hM] at hr3 hml hmo
    have H3 := Lib.hid (And.intro hr3 (And.intro hs3 (And.intro hb3 (And.intro (mkInfo _ hml) (And.intro (mkInfo' _ hml) (And.intro (hml.trans HZ.out.symm) hmo))))))
    have HMM := Lib.hid hM
    clear hr3 hs3 hb3 hml hmo hM H2 HG3 hg3
    go_wp2_with (first
      | (with_reducible show wpList _ _ _ (⟨some 17, _, _, _, _, _⟩ :: _) _ _; refine wpList_load_row rfl _ _ rfl w.heap.size rfl _ _ (0, 0) _ H3.out.1 Tryd.underlying81 rfl H3.out.2.2.2.1 ?_)
      | (with_reducible show wpList _ _ _ (⟨none, Op.store _ _ _, _, _, _, _⟩ :: _) _ _; refine wpList_store_whole rfl _ _ _ rfl (w.heap.size + 1) M rfl rfl z0 _ H3.out.2.1 H3.out.2.2.2.2.1 H3.out.2.2.2.2.2.1 H3.out.2.2.2.2.2.2 ?_; intro w9 HG9 hg9))
    refine bodyPost_ret (v := .agg M.toArray) ?_ ?_ ?_
    · exact results_cell_row Tryd.results53 _ _ (w.heap.size + 1) 81 _ (0, 0) _ rfl HG9.out Tryd.underlying81 rfl H3.out.2.2.2.1
    · rfl
    · exact ⟨by rw [HMM.out, HT.out], below_grow H3.out.2.2.1 hg9 (by omega) (Array.getElem?_eq_some_iff.1 H3.out.2.1).1⟩

theorem run_field_text (B : Array Value) (w : World) (hs : B.size = 138) : (Instr.field 81 (.agg B) 1).run Tryd.prog w = .ok (.agg (B.extract 64 137)) w := by
  simp [Instr.field, part, asAgg, Sem.run_bind, Tryd.runUnderlying81, Tryd.sizeOf79, Tryd.isAgg79, hs]
def markB (k T : List UInt8) : List UInt8 := Sha.sum (kx k 92 ++ Sha.sum T)
/-- What each operation hands on. -/
def mmF (A s1 s2 : Array Value) (o : List Value) (g2 g3 : Nat) : Nat → Value → World → Prop
  | 0, v, _ => v = .agg A
  | 1, v, _ => v = .agg s1
  | 2, v, _ => v = .slice (some ⟨g3, 0, none⟩) 32 32
  | 3, v, _ => v = .agg s2
  | 4, v, _ => v = .agg o.toArray
  | 5, _, w => w.heap[g2]? = some (.cells o.toArray 35 (0, 0))
  | _, _, _ => True

set_option maxHeartbeats 4000000 in
set_option maxRecDepth 100000 in
theorem MMark_any (k t : List UInt8) (any : Bool) (w : World) (hk : k.length = 64) (hl : t.length ≤ 576460752303423488) (hG : Tabs w) :
    Calls Tryd.prog 55 #[.agg (mkL k t any).toArray] w fun e w' => e = .returned (.agg (bv (markB k (bt k t any))).toArray) ∧ Below w.heap.size w w' := by
  have hz := (zero_of_info info32).1
  have hml := mkL_length k t any hk
  have hWr := fun w' hG' => MWrite_any k t [] any (.slice none 0 0) w' hk (by simp; omega) (Rd.nil w' 1) hG'
  obtain ⟨T, hT⟩ : ∃ T, T = bt k t any := ⟨_, rfl⟩
  have hTl : T.length ≤ t.length + 64 := by rw [hT]; cases any <;> simp [bt, kx_length, hk]
  rw [List.append_nil, ← hT] at hWr
  have hext := ext_text k T true hk
  have hsS := fun w' hG' => StSum_any T w' (by omega) hG'
  have hbeg := fun w' hG' => begun_any k t any 92 w' hk hG'
  have hol1 := sum_length T
  obtain ⟨hh, hhe⟩ : ∃ hh, hh = Sha.sum T := ⟨_, rfl⟩
  have hW2 := fun v w' hr hG' => Write_any (kx k 92) hh v w' (by rw [kx_length, hk, hhe, hol1]; omega) hr hG'
  have hS2 := fun w' hG' => StSum_any (kx k 92 ++ hh) w' (by rw [List.length_append, kx_length, hk, hhe, hol1]; omega) hG'
  rw [← hhe] at hsS hol1
  have hmk : markB k T = Sha.sum (kx k 92 ++ hh) := by rw [hhe]; rfl
  obtain ⟨o', ho'⟩ : ∃ o', o' = Sha.sum (kx k 92 ++ hh) := ⟨_, rfl⟩
  have ho'l : o'.length = 32 := by rw [ho']; exact sum_length _
  rw [← ho'] at hS2 hmk
  generalize stv (kx k 92 ++ hh) = s2 at *
  generalize stv (kx k 92) = s1 at *
  generalize stv T = sT at *
  obtain ⟨B1, hB1⟩ : ∃ B1, B1 = (mkL k T true).toArray := ⟨_, rfl⟩
  have hB1s : B1.size = 138 := by rw [hB1]; simpa using mkL_length k T true hk
  rw [← hB1] at hWr hext
  obtain ⟨A, hA⟩ : ∃ A, A = (mkL k t any).toArray := ⟨_, rfl⟩
  have hszA : (Tryd.prog.info? 81).map (·.size) = some A.size := by rw [hA]; exact mkInfo _ hml
  have hsz : A.size = 138 := by rw [hA]; simpa using hml
  rw [← hA] at hWr hbeg ⊢
  have HO0 := Lib.hid (And.intro hmk hT)
  clear hhe ho' hB1 hA hml hT hTl hmk
  have HWR := Lib.hid hWr
  have HSS := Lib.hid hsS
  have HBG := Lib.hid hbeg
  have HW2 := Lib.hid hW2
  have HS2 := Lib.hid hS2
  have HSZ := Lib.hid (And.intro hszA (And.intro hol1 ho'l))
  clear hWr hsS hbeg hW2 hS2 hszA hol1 ho'l
  go_enter Tryd.func55, Tryd.ntmps55
  go_upto_region 1 with fail
  obtain ⟨w1, hw1⟩ : ∃ y : World, y = (w.alloc (.cells A 81)).alloc (.cells (bv (zs 32)).toArray 35) := ⟨_, rfl⟩
  rw [← hw1]
  have hr1 : w1.heap[w.heap.size]? = some (.cells A 81 (0, 0)) := by
    rw [hw1]; exact (heap_alloc_old _ _ (by simp)).trans (heap_alloc_new _ _)
  have hs1 : w1.heap[w.heap.size + 1]? = some (.cells (bv (zs 32)).toArray 35 (0, 0)) := by
    rw [hw1]
    have h := heap_alloc_new (w.alloc (.cells A 81)) (.cells (bv (zs 32)).toArray 35)
    simpa using h
  have hb1 : Below w.heap.size w w1 := by rw [hw1]; exact ((Below.refl _ _).alloc (Nat.le_refl _) _).alloc (by simp) _
  have H1 := Lib.hid (And.intro hr1 (And.intro hs1 hb1))
  clear hw1 hr1 hs1 hb1
  go_wp2_with (with_reducible show wpList _ _ _ (⟨some 4, _, _, _, _, _⟩ :: _) _ _; refine wpList_load_row rfl _ _ rfl w.heap.size rfl _ _ (0, 0) _ H1.out.1 Tryd.underlying81 rfl HSZ.out.1 ?_)
  refine (HWR.out w1 (hG.keepB H1.out.2.2)).mono ?_
  rintro e w2 ⟨rfl, hb2⟩
  have hr2 := (hb2.block _ (Array.getElem?_eq_some_iff.1 H1.out.1).1).trans H1.out.1
  have hs2 := (hb2.block _ (Array.getElem?_eq_some_iff.1 H1.out.2.1).1).trans H1.out.2.1
  have hbw2 := H1.out.2.2.trans (hb2.mono H1.out.2.2.size)
  have H2 := Lib.hid (And.intro hr2 (And.intro hs2 hbw2))
  clear hr2 hs2 hbw2 hb2 HWR H1
  have hfld := run_field_text B1 w2 hB1s
  rw [hext] at hfld
  go_wp2_with fail
  refine (HSS.out w2 (hG.keepB H2.out.2.2)).mono ?_
  rintro e w3 ⟨rfl, hb3⟩
  have hr3 := (hb3.block _ (Array.getElem?_eq_some_iff.1 H2.out.1).1).trans H2.out.1
  have hs3 := (hb3.block _ (Array.getElem?_eq_some_iff.1 H2.out.2.1).1).trans H2.out.2.1
  have hbw3 := H2.out.2.2.trans (hb3.mono H2.out.2.2.size)
  have H3 := Lib.hid (And.intro hr3 (And.intro hs3 hbw3))
  clear hr3 hs3 hbw3 hb3 HSS H2 hfld
  go_upto_region 2 with (with_reducible show wpList _ _ _ (⟨none, Op.store _ _ _, _, _, _, _⟩ :: _) _ _; go_loud (refine wpList_store_whole rfl _ _ _ rfl w3.heap.size (bv hh) rfl rfl (bv (zs 32)) _ (heap_alloc_new _ _) (hInfo' _ HSZ.out.2.1) (by rw [bv_length, bv_length, HSZ.out.2.1]; simp [zs]) (bv_one _) ?_); intro wr HG4 hg4)
  simp only [Act.put]
  have hlt3 : w.heap.size + 1 < w3.heap.size := (Array.getElem?_eq_some_iff.1 H3.out.2.1).1
  have hrow1 : wr.heap[w.heap.size]? = some (.cells A 81 (0, 0)) := (hg4.block _ (by simp; omega) (by simp; omega)).trans ((heap_alloc_old _ _ (by omega)).trans H3.out.1)
  have hrow2 : wr.heap[w.heap.size + 1]? = some (.cells (bv (zs 32)).toArray 35 (0, 0)) := (hg4.block _ (by simp; omega) (by simp; omega)).trans ((heap_alloc_old _ _ hlt3).trans H3.out.2.1)
  have hbr : Below w.heap.size w wr := below_grow (H3.out.2.2.alloc H3.out.2.2.size _) hg4 H3.out.2.2.size (by simp)
  have hrd3 := rd_row HG4.out HSZ.out.2.1
  have hHB : ∀ w', Below wr.heap.size wr w' → _ := fun w' hb => HBG.out w' (hG.keepB (hbr.trans (hb.mono hbr.size)))
  have hHW : ∀ w', Below wr.heap.size wr w' → _ := fun w' hb => HW2.out _ w' (hrd3.keep hb) (hG.keepB (hbr.trans (hb.mono hbr.size)))
  have hHS : ∀ w', Below wr.heap.size wr w' → _ := fun w' hb => HS2.out w' (hG.keepB (hbr.trans (hb.mono hbr.size)))
  obtain ⟨o, ho⟩ : ∃ o, o = bv o' := ⟨_, rfl⟩
  have hosz := hInfo o' HSZ.out.2.2
  have hfit1 := hInfo' o' HSZ.out.2.2
  have hfit2 : (bv o').length = (bv (zs 32)).length := by rw [bv_length, bv_length, HSZ.out.2.2]; simp [zs]
  have hone : ∀ u ∈ bv o', u.oneCell' = true := bv_one _
  have hfin : Ending.returned (.agg (bv o').toArray) = Ending.returned (.agg (bv (markB k (bt k t any))).toArray) := by rw [← HO0.out.2, HO0.out.1]
  rw [← ho] at hHS hosz hfit1 hfit2 hone hfin
  have hszA := HSZ.out.1
  generalize w3.heap.size = g3 at *
  obtain ⟨B, hB⟩ : ∃ B, B = w.heap.size := ⟨_, rfl⟩
  have HBE := Lib.hid hB
  have HBW := Lib.hid hbr
  have hBr : B ≤ wr.heap.size := by rw [hB]; exact hbr.size
  obtain ⟨g2, hg2e⟩ : ∃ g2, g2 = w.heap.size + 1 := ⟨_, rfl⟩
  obtain ⟨g1, hg1e⟩ : ∃ g1, g1 = w.heap.size := ⟨_, rfl⟩
  have hB2 : B ≤ g2 := by omega
  rw [← hg2e] at hrow2 ⊢
  rw [← hg1e] at hrow1 ⊢
  have hlt1 := (Array.getElem?_eq_some_iff.1 hrow1).1
  have hlt2 := (Array.getElem?_eq_some_iff.1 hrow2).1
  have HB := Lib.hid hHB
  have HW := Lib.hid hHW
  have HS := Lib.hid hHS
  have HO := Lib.hid hfin
  clear hHB hHW hHS hfin hg2e hg1e hB hbr ho HG4 hg4 hrd3 hlt3 HBG HW2 HS2 H3 HO0
  refine wp_region_until [some 8, some 9, some 10, some 11, some 12, none] [] 5 (fun wx => Below wr.heap.size wr wx) [0, 1, 2, 3, 4, 5] (mmF A s1 s2 o g2 g3) (kOne 5 B) (fun wx => Below B wr wx) (by kernel_rfl) (by kernel_rfl) rfl (by kernel_rfl) (by kernel_rfl) (Below.refl _ _).drew (Below.refl _ _).drew ((fun _ hj _ _ k h => h.trans ((kOne_below hj k).mono h.size))) (fun _ _ => kOne_refl _ _ _ _) (fun _ _ _ h k => h.trans (kOne_base (Nat.le_trans hBr h.size) k)) ?hF ?hstep ?hend
  case hF =>
    exact ⟨fun _ _ _ _ _ _ h => h, ⟨fun _ _ _ _ _ _ h => h, ⟨fun _ _ _ _ _ _ h => h, ⟨fun _ _ _ _ _ _ h => h, ⟨fun _ _ _ _ _ _ h => h, ⟨fun j hg _ _ _ k h => ((kOne_below (fun e => by subst e; exact absurd hg (by rw [show goneB _ 5 5 = true by kernel_rfl]; simp)) k).block _ (Array.getElem?_eq_some_iff.1 h).1).trans h, trivial⟩⟩⟩⟩⟩⟩
  case hstep =>
    -- operation 0: Op.load 51 (tmp 1)
    refine ⟨fun r wx hG hs hq hf => ?_, ?_⟩
    · have hQ := hq rfl
      have e1 : r 1 = .pointer (some ⟨g1, 0, none⟩) := hs 1 rfl
      refine (if_pos rfl).symm ▸ ?_
      clear hs hq hf
      unfold gives
      refine gives_load_row 81 _ rfl g1 e1 81 A (0, 0) _ ((hQ.block _ hlt1).trans hrow1) Tryd.underlying81 rfl hszA ⟨kOne_refl _ _ _ _, rfl⟩
    -- operation 1: Op.call ( callee := Callee.value (func 30), args := #[tmp 8, const (Value.int IntKind.u8 92)], argTypes := #[51, 5] )
    refine ⟨fun r wx hG hs hq hf => ?_, ?_⟩
    · have hQ := hq rfl
      have h0 : r 8 = .agg A := hf.1
      refine (if_pos rfl).symm ▸ ?_
      clear hs hq hf
      unfold gives
      go_simp
      refine (HB.out wx hQ).mono ?_
      rintro e wy ⟨rfl, hb1⟩
      exact ⟨_, rfl, kOne_of rfl hb1, rfl⟩
    -- operation 2: Op.slice 25 (tmp 3) none none none
    refine ⟨fun r wx hG hs hq hf => ?_, ?_⟩
    · have hQ := hq rfl
      have e3 : r 3 = .pointer (some ⟨g3, 0, none⟩) := hs 3 rfl
      refine (if_pos rfl).symm ▸ ?_
      clear hs hq hf
      unfold gives
      go_simp
      exact ⟨kOne_refl _ _ _ _, rfl⟩
    -- operation 3: Op.call ( callee := Callee.value (func 17), args := #[tmp 9, tmp 10], argTypes := #[38, 22] )
    refine ⟨fun r wx hG hs hq hf => ?_, ?_⟩
    · have hQ := hq rfl
      have h1 : r 9 = .agg s1 := hf.1
      have h2 : r 10 = .slice (some ⟨g3, 0, none⟩) 32 32 := hf.2.1
      refine (if_pos rfl).symm ▸ ?_
      clear hs hq hf
      unfold gives
      go_simp
      refine (HW.out wx hQ).mono ?_
      rintro e wy ⟨rfl, hb1⟩
      exact ⟨_, rfl, kOne_of rfl hb1, rfl⟩
    -- operation 4: Op.call ( callee := Callee.value (func 18), args := #[tmp 11], argTypes := #[38] )
    refine ⟨fun r wx hG hs hq hf => ?_, ?_⟩
    · have hQ := hq rfl
      have h3 : r 11 = .agg s2 := hf.1
      refine (if_pos rfl).symm ▸ ?_
      clear hs hq hf
      unfold gives
      go_simp
      refine (HS.out wx hQ).mono ?_
      rintro e wy ⟨rfl, hb1⟩
      exact ⟨_, rfl, kOne_of rfl hb1, rfl⟩
    -- operation 5: Op.store 25 (tmp 2) (tmp 12)
    refine ⟨fun r wx hG hs hq hf => ?_, ?_⟩
    · have hQ := hq rfl
      have e2 : r 2 = .pointer (some ⟨g2, 0, none⟩) := hs 2 rfl
      have h4 : r 12 = .agg o.toArray := hf.1
      refine (if_pos rfl).symm ▸ ?_
      clear hs hq hf
      unfold gives
      refine gives_store_row 35 _ _ rfl g2 o e2 h4 (bv (zs 32)) 35 ((hQ.block _ hlt2).trans hrow2) hfit1 hfit2 hone ?_
      intro wy h1 h2
      exact ⟨by unfold kOne; rw [if_pos rfl]; exact below_grow (Below.refl _ _) h2 hB2 (Nat.lt_of_lt_of_le hlt2 hQ.size), h1⟩
    exact trivial
  case hend =>
    intro u wz hG hfin
    have z5 : wz.heap[g2]? = some (.cells o.toArray 35 (0, 0)) := hfin 5 (by decide) (by kernel_rfl)
    clear hfin
    simp only [fill]
    go_simp
    go_wp2_with fail
    refine bodyPost_ret (v := .agg o.toArray) ?_ ?_ ?_
    · exact results_cell_row Tryd.results55 _ _ g2 35 _ (0, 0) _ rfl z5 Tryd.underlying35 rfl hosz
    · rfl
    · exact ⟨HO.out, HBW.out.trans (by rw [← HBE.out]; exact hG)⟩
end Go.Proofs.YtgimblpdmlnfeaaDoor
namespace Go.Proofs.YtgimblpdmlnfeaaDoor
open Go.RowKit Sha

def macB (key text : List UInt8) : List UInt8 := markB (pad64 (hkey key)) (kx (pad64 (hkey key)) 54 ++ text)
theorem macB_length (key text : List UInt8) : (macB key text).length = 32 := sum_length _

/-- The hash, for evaluation. -/
def hsF (l : List UInt8) : Nat → W8
  | 0 => begin0
  | k + 1 => (hsF l k).add (Sha.fast 64 (words ((l.drop (64 * k)).take 64)) (hsF l k) 0)
theorem hs_fast (l : List UInt8) : ∀ k, hs l k = hsF l k
  | 0 => rfl
  | k + 1 => by rw [hs, hsF, blk_fast, hs_fast l k]
theorem sum_fast (l : List UInt8) : Sha.sum l = outB (hsF (pad l) ((pad l).length / 64)) := by rw [Sha.sum, hs_fast]
end Go.Proofs.YtgimblpdmlnfeaaDoor
