/- Markers: written, marked. (printed by gen/macmark.py) -/
import Derived.Test.YtkcnakijfmemlaaDoorMac2
namespace Go.Proofs.YtkcnakijfmemlaaDoor
open Go.RowKit Sha

theorem gives_store_row {P : Program} {r : Nat → Value} {o : Oper} {w : World} {R : Value → World → Prop} (ty : TypeId) (x y : Operand) (ho : o.op = .store ty x y)
    (g : Nat) (cs : List Value) (hx : rd r x = .pointer (some ⟨g, 0, none⟩)) (hy : rd r y = .agg cs.toArray)
    (cur : List Value) (t : TypeId) (hg : w.heap[g]? = some (.cells cur.toArray t (0, 0))) (hi : (P.info? ty).map (·.size) = some cs.length) (hfit : cs.length = cur.length) (h1 : ∀ v ∈ cs, v.oneCell' = true)
    (h : ∀ w', w'.heap[g]? = some (.cells cs.toArray t (0, 0)) → w.grownBy w' (some g) → R undef w') : gives P r o w R := by
  have hst := run_storeCells_at P g 0 t cs 0 cur.toArray w hg (by simp [hfit]) h1
  have hrun : (storeVar ty ⟨g, 0, none⟩ (.agg cs.toArray)).run P w = .ok () (w.setRow g cs.toArray) := by
    cases hq : P.info? ty with
    | none => simp [hq] at hi
    | some i =>
      have hs : cs.length = i.size := by simp [hq] at hi; omega
      have e : (cur.toArray.toList.take (0 + 0) ++ cs ++ cur.toArray.toList.drop (0 + 0 + cs.length)).toArray = cs.toArray := by simp [hfit]
      rw [e] at hst
      simp [storeVar, sizeOf, typeInfo, hq, Value.cells, hs, hst]
  unfold gives execOp
  simp only [ho, hx, hy, Instr.storeAt, Instr.sureAddr, Sem.run_bind, Sem.run_pure, Result.andThen_ok, hrun]
  exact h _ (setRow_heap w g _ _ t _ hg) (grown_setRow w g _)

/-- What a marker's state holds once it is begun. -/
def bt (k t : List UInt8) (any : Bool) : List UInt8 := if any then t else kx k 54
theorem ext_text (k t : List UInt8) (any : Bool) (h : k.length = 64) : (mkL k t any).toArray.extract 64 137 = stv t := by
  unfold mkL stv
  rw [List.extract_toArray]
  congr 1
  rw [List.extract_eq_take_drop, List.drop_append, List.drop_of_length_le (by simp [bv_length, h])]
  simp [bv_length, h, stL_length]

theorem cell_any {w : World} {g : Nat} {k t : List UInt8} {any : Bool} {T : TypeId} (h : w.heap[g]? = some (.cells (mkL k t any).toArray T (0, 0))) (hk : k.length = 64) : w.cell? ⟨g, 137, none⟩ = some (.bool any) := by
  rw [cell_of_row _ _ _ _ _ _ h, List.getElem?_toArray, any_at _ _ _ hk]
set_option maxHeartbeats 4000000 in
set_option maxRecDepth 100000 in
theorem MWrite_any (k t b : List UInt8) (any : Bool) (v : Value) (w : World) (hk : k.length = 64) (hl : t.length + b.length ≤ 2305843009213693952) (hr : Rd w 1 v b.length (bv b)) (hG : Tabs w) :
    Calls Tryd.prog 22 #[.agg (mkL k t any).toArray, v] w fun e w' => e = .returned (.agg (mkL k (bt k t any ++ b) true).toArray) ∧ Below w.heap.size w w' := by
  have hzs := (zero_of_info infoMk).1
  have hml := mkL_length k t any hk
  obtain ⟨A, hA⟩ : ∃ A, A = (mkL k t any).toArray := ⟨_, rfl⟩
  obtain ⟨z0, hz0⟩ : ∃ z0, z0 = mkL (zs 64) [] false := ⟨_, rfl⟩
  have hzl : z0.length = 138 := by rw [hz0]; exact mkL_length _ _ _ (by simp [zs])
  have hsz : A.size = 138 := by rw [hA]; simpa using hml
  rw [← hA]
  rw [← hz0] at hzs
  have HA := Lib.hid hA
  have HR := Lib.hid hr
  have HZ := Lib.hid hzl
  clear hA hr hz0 hml hzl
  go_enter Tryd.func22, Tryd.ntmps22
  go_upto_region 1 with fail
  obtain ⟨w1, hw1⟩ : ∃ y : World, y = (w.alloc (.cells A 51)).alloc (.cells z0.toArray 51) := ⟨_, rfl⟩
  rw [← hw1]
  have hr1 : w1.heap[w.heap.size]? = some (.cells (mkL k t any).toArray 51 (0, 0)) := by
    rw [← HA.out, hw1]; exact (heap_alloc_old _ _ (by simp)).trans (heap_alloc_new _ _)
  have hs1 : w1.heap[w.heap.size + 1]? = some (.cells z0.toArray 51 (0, 0)) := by
    rw [hw1]
    have h := heap_alloc_new (w.alloc (.cells A 51)) (.cells z0.toArray 51)
    simpa using h
  have hb1 : Below w.heap.size w w1 := by rw [hw1]; exact ((Below.refl _ _).alloc (Nat.le_refl _) _).alloc (by simp) _
  have hany : w1.cell? ⟨w.heap.size, 137, none⟩ = some (.bool any) := by rw [cell_of_row _ _ _ _ _ _ hr1, List.getElem?_toArray, any_at _ _ _ hk]
  have H1 := Lib.hid (And.intro hr1 (And.intro hs1 hb1))
  clear hw1 hr1 hs1 hb1 hsz
  go_upto_if 7 with fail
  go_cut [] (fun wq => RowKit.Hid (wq.heap[w.heap.size]? = some (.cells (mkL k (bt k t any) true).toArray 51 (0, 0)) ∧ wq.heap[w.heap.size + 1]? = some (.cells z0.toArray 51 (0, 0)) ∧ Below w.heap.size w wq))
  case first =>
    cases any with
    | true =>
      clear hany
      go_wp2_with fail
      go_meet
      exact H1
    | false =>
      have hbeg := begun_any k t false 54 w1 hk (hG.keepB H1.out.2.2)
      rw [← HA.out, show stv (kx k 54) = (stL (kx k 54)).toArray from rfl] at hbeg
      have HB := Lib.hid hbeg
      have hszA : (Tryd.prog.info? 51).map (·.size) = some A.size := by rw [HA.out]; exact mkInfo _ (mkL_length _ _ _ hk)
      have hrA : w1.heap[w.heap.size]? = some (.cells A 51 (0, 0)) := by rw [HA.out]; exact H1.out.1
      have HL := Lib.hid (And.intro hrA hszA)
      clear hany hbeg hrA hszA
      go_wp2_with (with_reducible show wpList _ _ _ (⟨some 8, _, _, _, _, _⟩ :: _) _ _; refine wpList_load_row rfl _ _ rfl w.heap.size rfl _ _ (0, 0) _ HL.out.1 Tryd.underlying51 rfl HL.out.2 ?_)
      refine HB.out.mono ?_
      rintro e w2 ⟨rfl, hb2⟩
      have hr2 := (hb2.block _ (Array.getElem?_eq_some_iff.1 H1.out.1).1).trans H1.out.1
      have hs2 := (hb2.block _ (Array.getElem?_eq_some_iff.1 H1.out.2.1).1).trans H1.out.2.1
      have hbw2 := H1.out.2.2.trans (hb2.mono H1.out.2.2.size)
      have H2 := Lib.hid (And.intro hr2 (And.intro hs2 hbw2))
      clear hr2 hs2 hbw2 hb2 HB HL H1
      go_wp2_with (with_reducible show wpList _ _ _ (⟨none, Op.store 38 _ _, _, _, _, _⟩ :: _) _ _; go_loud (refine wpList_store_splice rfl _ _ _ rfl w.heap.size 64 (stL (kx k 54)) rfl rfl (mkL k t false) _ H2.out.1 (stInfo' _ (stL_length _)) (by rw [stL_length, mkL_length _ _ _ hk]; decide) (stL_one _) ?_); intro w3 HG3 hg3; go_loud (have HG3' := HG3.out; rw [splice_text _ _ _ _ hk] at HG3'); go_loud (have hc3 : w3.cell? ⟨w.heap.size, 137, none⟩ = some (.bool false) := cell_any HG3' hk); have hf3 := frozen_of_row _ _ 137 _ _ HG3'; have H3 := Lib.hid HG3'; clear HG3' HG3)
      go_meet
      have e1 := heap_setCell_same w3 w.heap.size 137 _ _ (.bool true) H3.out
      rw [set_any _ _ _ _ hk] at e1
      have hs3 := (hg3.block _ (Array.getElem?_eq_some_iff.1 H2.out.2.1).1 (by simp)).trans H2.out.2.1
      have e2 := (heap_setCell_other w3 ⟨w.heap.size, 137, none⟩ (w.heap.size + 1) (.bool true) (by simp)).trans hs3
      have hb3 := below_grow H2.out.2.2 hg3 (Nat.le_refl _) (Array.getElem?_eq_some_iff.1 H2.out.1).1
      exact And.intro e1 (And.intro e2 (hb3.setCell (p := ⟨w.heap.size, 137, none⟩) (Nat.le_refl _) (.bool true)))
  case rest =>
    clear H1 hany
    obtain ⟨T, hT⟩ : ∃ T, T = bt k t any := ⟨_, rfl⟩
    rw [← hT] at hcut
    have hTl : T.length ≤ t.length + 64 := by rw [hT]; cases any <;> simp [bt, kx_length, hk]
    have hrng := range_of_row (bv k) (stL T) [Value.bool true] 64 (by rw [bv_length, hk]) hcut.out.1
    have hW := Write_any T b _ wc (by omega) (HR.out.keep hcut.out.2.2) (hG.keepB hcut.out.2.2)
    rw [show stv T = (stL T).toArray from rfl, show stv (T ++ b) = (stL (T ++ b)).toArray from rfl] at hW
    have HW := Lib.hid hW
    have HC := Lib.hid (And.intro hrng (stInfo' _ (stL_length T)))
    have HT := Lib.hid hT
    clear hW hrng hT hTl
    go_wp2_with (with_reducible show wpList _ _ _ (⟨some 13, _, _, _, _, _⟩ :: _) _ _; refine wpList_load_mid rfl _ _ rfl w.heap.size 64 rfl (stL T) _ HC.out.1 Tryd.underlying38 rfl HC.out.2 ?_)
    refine HW.out.mono ?_
    rintro e w2 ⟨rfl, hb2⟩
    have hr2 := (hb2.block _ (Array.getElem?_eq_some_iff.1 hcut.out.1).1).trans hcut.out.1
    have hs2 := (hb2.block _ (Array.getElem?_eq_some_iff.1 hcut.out.2.1).1).trans hcut.out.2.1
    have hbw2 := hcut.out.2.2.trans (hb2.mono hcut.out.2.2.size)
    have H2 := Lib.hid (And.intro hr2 (And.intro hs2 hbw2))
    clear hr2 hs2 hbw2 hb2 HW HC hcut
    go_upto_region 4 with (with_reducible show wpList _ _ _ (⟨none, Op.store 38 _ _, _, _, _, _⟩ :: _) _ _; go_loud (refine wpList_store_splice rfl _ _ _ rfl w.heap.size 64 (stL (T ++ b)) rfl rfl (mkL k T true) _ H2.out.1 (stInfo' _ (stL_length _)) (by rw [stL_length, mkL_length _ _ _ hk]; decide) (stL_one _) ?_); intro w3 HG3 hg3)
    have hr3 := HG3.out
    rw [splice_text _ _ _ _ hk] at hr3
    have hs3 := (hg3.block _ (Array.getElem?_eq_some_iff.1 H2.out.2.1).1 (by simp)).trans H2.out.2.1
    have hb3 := below_grow H2.out.2.2 hg3 (Nat.le_refl _) (Array.getElem?_eq_some_iff.1 H2.out.1).1
    have hml := mkL_length k (T ++ b) true hk
    have hmo := mkL_one k (T ++ b) true
    obtain ⟨M, hM⟩ : ∃ M, M = mkL k (T ++ b) true := ⟨_, rfl⟩
    rw [← hM] at hr3 hml hmo
    have H3 := Lib.hid (And.intro hr3 (And.intro hs3 (And.intro hb3 (And.intro (mkInfo _ hml) (And.intro (mkInfo' _ hml) (And.intro (hml.trans HZ.out.symm) hmo))))))
    have HMM := Lib.hid hM
    clear hr3 hs3 hb3 hml hmo hM H2 HG3 hg3
    go_wp2_with (first
      | (with_reducible show wpList _ _ _ (⟨some 17, _, _, _, _, _⟩ :: _) _ _; refine wpList_load_row rfl _ _ rfl w.heap.size rfl _ _ (0, 0) _ H3.out.1 Tryd.underlying51 rfl H3.out.2.2.2.1 ?_)
      | (with_reducible show wpList _ _ _ (⟨none, Op.store _ _ _, _, _, _, _⟩ :: _) _ _; refine wpList_store_whole rfl _ _ _ rfl (w.heap.size + 1) M rfl rfl z0 _ H3.out.2.1 H3.out.2.2.2.2.1 H3.out.2.2.2.2.2.1 H3.out.2.2.2.2.2.2 ?_; intro w9 HG9 hg9))
    refine bodyPost_ret (v := .agg M.toArray) ?_ ?_ ?_
    · exact results_cell_row Tryd.results22 _ _ (w.heap.size + 1) 51 _ (0, 0) _ rfl HG9.out Tryd.underlying51 rfl H3.out.2.2.2.1
    · rfl
    · exact ⟨by rw [HMM.out, HT.out], below_grow H3.out.2.2.1 hg9 (by omega) (Array.getElem?_eq_some_iff.1 H3.out.2.1).1⟩

theorem run_field_text (B : Array Value) (w : World) (hs : B.size = 138) : (Instr.field 51 (.agg B) 1).run Tryd.prog w = .ok (.agg (B.extract 64 137)) w := by
  simp [Instr.field, part, asAgg, Sem.run_bind, Tryd.runUnderlying51, Tryd.sizeOf38, Tryd.isAgg38, hs]
def markB (k T : List UInt8) : List UInt8 := Sha.sum (kx k 92 ++ Sha.sum T)
/-- What each operation hands on. -/
def mmF (A s1 s2 : Array Value) (o : List Value) (g2 g3 : Nat) : Nat → Value → World → Prop
  | 0, v, _ => v = .agg A
  | 1, v, _ => v = .agg s1
  | 2, v, _ => v = .slice (some ⟨g3, 0, none⟩) 32 32
  | 3, v, _ => v = .agg s2
  | 4, v, _ => v = .agg o.toArray
  | 5, _, w => w.heap[g2]? = some (.cells o.toArray 25 (0, 0))
  | _, _, _ => True

set_option maxHeartbeats 4000000 in
set_option maxRecDepth 100000 in
theorem MMark_any (k t : List UInt8) (any : Bool) (w : World) (hk : k.length = 64) (hl : t.length ≤ 576460752303423488) (hG : Tabs w) :
    Calls Tryd.prog 23 #[.agg (mkL k t any).toArray] w fun e w' => e = .returned (.agg (bv (markB k (bt k t any))).toArray) ∧ Below w.heap.size w w' := by
  have hz := (zero_of_info info32).1
  have hml := mkL_length k t any hk
  have hWr := fun w' hG' => MWrite_any k t [] any (.slice none 0 0) w' hk (by simp; omega) (Rd.nil w' 1) hG'
  obtain ⟨T, hT⟩ : ∃ T, T = bt k t any := ⟨_, rfl⟩
  have hTl : T.length ≤ t.length + 64 := by rw [hT]; cases any <;> simp [bt, kx_length, hk]
  rw [List.append_nil, ← hT] at hWr
  have hext := ext_text k T true hk
  have hsS := fun w' hG' => StSum_any T w' (by omega) hG'
  have hbeg := fun w' hG' => begun_any k t any 92 w' hk hG'
  have hol1 := sum_length T
  obtain ⟨hh, hhe⟩ : ∃ hh, hh = Sha.sum T := ⟨_, rfl⟩
  have hW2 := fun v w' hr hG' => Write_any (kx k 92) hh v w' (by rw [kx_length, hk, hhe, hol1]; omega) hr hG'
  have hS2 := fun w' hG' => StSum_any (kx k 92 ++ hh) w' (by rw [List.length_append, kx_length, hk, hhe, hol1]; omega) hG'
  rw [← hhe] at hsS hol1
  have hmk : markB k T = Sha.sum (kx k 92 ++ hh) := by rw [hhe]; rfl
  obtain ⟨o', ho'⟩ : ∃ o', o' = Sha.sum (kx k 92 ++ hh) := ⟨_, rfl⟩
  have ho'l : o'.length = 32 := by rw [ho']; exact sum_length _
  rw [← ho'] at hS2 hmk
  generalize stv (kx k 92 ++ hh) = s2 at *
  generalize stv (kx k 92) = s1 at *
  generalize stv T = sT at *
  obtain ⟨B1, hB1⟩ : ∃ B1, B1 = (mkL k T true).toArray := ⟨_, rfl⟩
  have hB1s : B1.size = 138 := by rw [hB1]; simpa using mkL_length k T true hk
  rw [← hB1] at hWr hext
  obtain ⟨A, hA⟩ : ∃ A, A = (mkL k t any).toArray := ⟨_, rfl⟩
  have hszA : (Tryd.prog.info? 51).map (·.size) = some A.size := by rw [hA]; exact mkInfo _ hml
  have hsz : A.size = 138 := by rw [hA]; simpa using hml
  rw [← hA] at hWr hbeg ⊢
  have HO0 := Lib.hid (And.intro hmk hT)
  clear hhe ho' hB1 hA hml hT hTl hmk
  have HWR := Lib.hid hWr
  have HSS := Lib.hid hsS
  have HBG := Lib.hid hbeg
  have HW2 := Lib.hid hW2
  have HS2 := Lib.hid hS2
  have HSZ := Lib.hid (And.intro hszA (And.intro hol1 ho'l))
  clear hWr hsS hbeg hW2 hS2 hszA hol1 ho'l
  go_enter Tryd.func23, Tryd.ntmps23
  go_upto_region 1 with fail
  obtain ⟨w1, hw1⟩ : ∃ y : World, y = (w.alloc (.cells A 51)).alloc (.cells (bv (zs 32)).toArray 25) := ⟨_, rfl⟩
  rw [← hw1]
  have hr1 : w1.heap[w.heap.size]? = some (.cells A 51 (0, 0)) := by
    rw [hw1]; exact (heap_alloc_old _ _ (by simp)).trans (heap_alloc_new _ _)
  have hs1 : w1.heap[w.heap.size + 1]? = some (.cells (bv (zs 32)).toArray 25 (0, 0)) := by
    rw [hw1]
    have h := heap_alloc_new (w.alloc (.cells A 51)) (.cells (bv (zs 32)).toArray 25)
    simpa using h
  have hb1 : Below w.heap.size w w1 := by rw [hw1]; exact ((Below.refl _ _).alloc (Nat.le_refl _) _).alloc (by simp) _
  have H1 := Lib.hid (And.intro hr1 (And.intro hs1 hb1))
  clear hw1 hr1 hs1 hb1
  go_wp2_with (with_reducible show wpList _ _ _ (⟨some 4, _, _, _, _, _⟩ :: _) _ _; refine wpList_load_row rfl _ _ rfl w.heap.size rfl _ _ (0, 0) _ H1.out.1 Tryd.underlying51 rfl HSZ.out.1 ?_)
  refine (HWR.out w1 (hG.keepB H1.out.2.2)).mono ?_
  rintro e w2 ⟨rfl, hb2⟩
  have hr2 := (hb2.block _ (Array.getElem?_eq_some_iff.1 H1.out.1).1).trans H1.out.1
  have hs2 := (hb2.block _ (Array.getElem?_eq_some_iff.1 H1.out.2.1).1).trans H1.out.2.1
  have hbw2 := H1.out.2.2.trans (hb2.mono H1.out.2.2.size)
  have H2 := Lib.hid (And.intro hr2 (And.intro hs2 hbw2))
  clear hr2 hs2 hbw2 hb2 HWR H1
  have hfld := run_field_text B1 w2 hB1s
  rw [hext] at hfld
  go_wp2_with fail
  refine (HSS.out w2 (hG.keepB H2.out.2.2)).mono ?_
  rintro e w3 ⟨rfl, hb3⟩
  have hr3 := (hb3.block _ (Array.getElem?_eq_some_iff.1 H2.out.1).1).trans H2.out.1
  have hs3 := (hb3.block _ (Array.getElem?_eq_some_iff.1 H2.out.2.1).1).trans H2.out.2.1
  have hbw3 := H2.out.2.2.trans (hb3.mono H2.out.2.2.size)
  have H3 := Lib.hid (And.intro hr3 (And.intro hs3 hbw3))
  clear hr3 hs3 hbw3 hb3 HSS H2 hfld
  go_upto_region 2 with (with_reducible show wpList _ _ _ (⟨none, Op.store _ _ _, _, _, _, _⟩ :: _) _ _; go_loud (refine wpList_store_whole rfl _ _ _ rfl w3.heap.size (bv hh) rfl rfl (bv (zs 32)) _ (heap_alloc_new _ _) (hInfo' _ HSZ.out.2.1) (by rw [bv_length, bv_length, HSZ.out.2.1]; simp [zs]) (bv_one _) ?_); intro wr HG4 hg4)
  simp only [Act.put]
  have hlt3 : w.heap.size + 1 < w3.heap.size := (Array.getElem?_eq_some_iff.1 H3.out.2.1).1
  have hrow1 : wr.heap[w.heap.size]? = some (.cells A 51 (0, 0)) := (hg4.block _ (by simp; omega) (by simp; omega)).trans ((heap_alloc_old _ _ (by omega)).trans H3.out.1)
  have hrow2 : wr.heap[w.heap.size + 1]? = some (.cells (bv (zs 32)).toArray 25 (0, 0)) := (hg4.block _ (by simp; omega) (by simp; omega)).trans ((heap_alloc_old _ _ hlt3).trans H3.out.2.1)
  have hbr : Below w.heap.size w wr := below_grow (H3.out.2.2.alloc H3.out.2.2.size _) hg4 H3.out.2.2.size (by simp)
  have hrd3 := rd_row HG4.out HSZ.out.2.1
  have hHB : ∀ w', Below wr.heap.size wr w' → _ := fun w' hb => HBG.out w' (hG.keepB (hbr.trans (hb.mono hbr.size)))
  have hHW : ∀ w', Below wr.heap.size wr w' → _ := fun w' hb => HW2.out _ w' (hrd3.keep hb) (hG.keepB (hbr.trans (hb.mono hbr.size)))
  have hHS : ∀ w', Below wr.heap.size wr w' → _ := fun w' hb => HS2.out w' (hG.keepB (hbr.trans (hb.mono hbr.size)))
  obtain ⟨o, ho⟩ : ∃ o, o = bv o' := ⟨_, rfl⟩
  have hosz := hInfo o' HSZ.out.2.2
  have hfit1 := hInfo' o' HSZ.out.2.2
  have hfit2 : (bv o').length = (bv (zs 32)).length := by rw [bv_length, bv_length, HSZ.out.2.2]; simp [zs]
  have hone : ∀ u ∈ bv o', u.oneCell' = true := bv_one _
  have hfin : Ending.returned (.agg (bv o').toArray) = Ending.returned (.agg (bv (markB k (bt k t any))).toArray) := by rw [← HO0.out.2, HO0.out.1]
  rw [← ho] at hHS hosz hfit1 hfit2 hone hfin
  have hszA := HSZ.out.1
  generalize w3.heap.size = g3 at *
  obtain ⟨B, hB⟩ : ∃ B, B = w.heap.size := ⟨_, rfl⟩
  have HBE := Lib.hid hB
  have HBW := Lib.hid hbr
  have hBr : B ≤ wr.heap.size := by rw [hB]; exact hbr.size
  obtain ⟨g2, hg2e⟩ : ∃ g2, g2 = w.heap.size + 1 := ⟨_, rfl⟩
  obtain ⟨g1, hg1e⟩ : ∃ g1, g1 = w.heap.size := ⟨_, rfl⟩
  have hB2 : B ≤ g2 := by omega
  rw [← hg2e] at hrow2 ⊢
  rw [← hg1e] at hrow1 ⊢
  have hlt1 := (Array.getElem?_eq_some_iff.1 hrow1).1
  have hlt2 := (Array.getElem?_eq_some_iff.1 hrow2).1
  have HB := Lib.hid hHB
  have HW := Lib.hid hHW
  have HS := Lib.hid hHS
  have HO := Lib.hid hfin
  clear hHB hHW hHS hfin hg2e hg1e hB hbr ho HG4 hg4 hrd3 hlt3 HBG HW2 HS2 H3 HO0
  refine wp_region_until [some 8, some 9, some 10, some 11, some 12, none] [] 5 (fun wx => Below wr.heap.size wr wx) [0, 1, 2, 3, 4, 5] (mmF A s1 s2 o g2 g3) (kOne 5 B) (fun wx => Below B wr wx) (by kernel_rfl) (by kernel_rfl) rfl (by kernel_rfl) (by kernel_rfl) (Below.refl _ _).drew (Below.refl _ _).drew ((fun _ hj _ _ k h => h.trans ((kOne_below hj k).mono h.size))) (fun _ _ => kOne_refl _ _ _ _) (fun _ _ _ h k => h.trans (kOne_base (Nat.le_trans hBr h.size) k)) ?hF ?hstep ?hend
  case hF =>
    exact ⟨fun _ _ _ _ _ _ h => h, ⟨fun _ _ _ _ _ _ h => h, ⟨fun _ _ _ _ _ _ h => h, ⟨fun _ _ _ _ _ _ h => h, ⟨fun _ _ _ _ _ _ h => h, ⟨fun j hg _ _ _ k h => ((kOne_below (fun e => by subst e; exact absurd hg (by rw [show goneB _ 5 5 = true by kernel_rfl]; simp)) k).block _ (Array.getElem?_eq_some_iff.1 h).1).trans h, trivial⟩⟩⟩⟩⟩⟩
  case hstep =>
    -- operation 0: Op.load 51 (tmp 1)
    refine ⟨fun r wx hG hs hq hf => ?_, ?_⟩
    · have hQ := hq rfl
      have e1 : r 1 = .pointer (some ⟨g1, 0, none⟩) := hs 1 rfl
      refine (if_pos rfl).symm ▸ ?_
      clear hs hq hf
      unfold gives
      refine gives_load_row 51 _ rfl g1 e1 51 A (0, 0) _ ((hQ.block _ hlt1).trans hrow1) Tryd.underlying51 rfl hszA ⟨kOne_refl _ _ _ _, rfl⟩
    -- operation 1: Op.call ( callee := Callee.value (func 30), args := #[tmp 8, const (Value.int IntKind.u8 92)], argTypes := #[51, 5] )
    refine ⟨fun r wx hG hs hq hf => ?_, ?_⟩
    · have hQ := hq rfl
      have h0 : r 8 = .agg A := hf.1
      refine (if_pos rfl).symm ▸ ?_
      clear hs hq hf
      unfold gives
      go_simp
      refine (HB.out wx hQ).mono ?_
      rintro e wy ⟨rfl, hb1⟩
      exact ⟨_, rfl, kOne_of rfl hb1, rfl⟩
    -- operation 2: Op.slice 25 (tmp 3) none none none
    refine ⟨fun r wx hG hs hq hf => ?_, ?_⟩
    · have hQ := hq rfl
      have e3 : r 3 = .pointer (some ⟨g3, 0, none⟩) := hs 3 rfl
      refine (if_pos rfl).symm ▸ ?_
      clear hs hq hf
      unfold gives
      go_simp
      exact ⟨kOne_refl _ _ _ _, rfl⟩
    -- operation 3: Op.call ( callee := Callee.value (func 17), args := #[tmp 9, tmp 10], argTypes := #[38, 22] )
    refine ⟨fun r wx hG hs hq hf => ?_, ?_⟩
    · have hQ := hq rfl
      have h1 : r 9 = .agg s1 := hf.1
      have h2 : r 10 = .slice (some ⟨g3, 0, none⟩) 32 32 := hf.2.1
      refine (if_pos rfl).symm ▸ ?_
      clear hs hq hf
      unfold gives
      go_simp
      refine (HW.out wx hQ).mono ?_
      rintro e wy ⟨rfl, hb1⟩
      exact ⟨_, rfl, kOne_of rfl hb1, rfl⟩
    -- operation 4: Op.call ( callee := Callee.value (func 18), args := #[tmp 11], argTypes := #[38] )
    refine ⟨fun r wx hG hs hq hf => ?_, ?_⟩
    · have hQ := hq rfl
      have h3 : r 11 = .agg s2 := hf.1
      refine (if_pos rfl).symm ▸ ?_
      clear hs hq hf
      unfold gives
      go_simp
      refine (HS.out wx hQ).mono ?_
      rintro e wy ⟨rfl, hb1⟩
      exact ⟨_, rfl, kOne_of rfl hb1, rfl⟩
    -- operation 5: Op.store 25 (tmp 2) (tmp 12)
    refine ⟨fun r wx hG hs hq hf => ?_, ?_⟩
    · have hQ := hq rfl
      have e2 : r 2 = .pointer (some ⟨g2, 0, none⟩) := hs 2 rfl
      have h4 : r 12 = .agg o.toArray := hf.1
      refine (if_pos rfl).symm ▸ ?_
      clear hs hq hf
      unfold gives
      refine gives_store_row 25 _ _ rfl g2 o e2 h4 (bv (zs 32)) 25 ((hQ.block _ hlt2).trans hrow2) hfit1 hfit2 hone ?_
      intro wy h1 h2
      exact ⟨by unfold kOne; rw [if_pos rfl]; exact below_grow (Below.refl _ _) h2 hB2 (Nat.lt_of_lt_of_le hlt2 hQ.size), h1⟩
    exact trivial
  case hend =>
    intro u wz hG hfin
    have z5 : wz.heap[g2]? = some (.cells o.toArray 25 (0, 0)) := hfin 5 (by decide) (by kernel_rfl)
    clear hfin
    simp only [fill]
    go_simp
    go_wp2_with fail
    refine bodyPost_ret (v := .agg o.toArray) ?_ ?_ ?_
    · exact results_cell_row Tryd.results23 _ _ g2 25 _ (0, 0) _ rfl z5 Tryd.underlying25 rfl hosz
    · rfl
    · exact ⟨HO.out, HBW.out.trans (by rw [← HBE.out]; exact hG)⟩
end Go.Proofs.YtkcnakijfmemlaaDoor
