/- Derive: the program's, the reference's. -/
import Derived.Test.YtkcnakijfmemlaaDoorRefMark
import Derived.Test.YtkcnakijfmemlaaDoorBinRef
namespace Go.Proofs.YtkcnakijfmemlaaDoor
open Go.ChangeShapes Go.WideShapes Go.ChangeAt Go.RowKit Sha

/-- An append that must grow, onto a row of which nothing but the reading is known. -/
theorem wpList_app_grow {P : Program} {w : World} {ops : Array Oper} {rest : List Oper} {o : Oper} {a : Act} {Q : Exit → Act → World → Prop} {t e : TypeId} {z : Value} {size bytes : Nat}
    (ht : P.underlying t = some (.slice e)) (hinfo : (P.info? e).map (fun i => (i.zero, i.size, i.bytes)) = some (some z, size, bytes)) (hzs : z.cells.size = size) (hsz : 0 < size)
    (hgd : o.guard = none) (s x : Operand) (ho : o.op = .call { callee := .builtin .append, args := #[s, x], argTypes := #[t, t] })
    {ad : Addr} {xv : Value} {n m cap : Nat} {xs news : List Value} (hs : a.eval s = .slice (some ad) n cap) (hx : a.eval x = xv) (hxl : xs.length = n * size) (holds : ∀ j u, xs[j]? = some u → w.cell? (ad.add j) = some u) (hr : Rd w size xv m news)
    (hcap : cap < n + m) (h63 : n + m ≤ 140737488355328) (hbytes : (n + m) * bytes ≤ 140737488355328) (hm : 0 < m)
    (h : ∀ v' w', w'.ownsRow w.heap.size e size v' (n + m) (xs ++ news) → Below w.heap.size w w' → wpList P ops Q rest (a.put o.dst v') w') : wpList P ops Q (o :: rest) a w := by
  refine wpList_plain hgd fun K hK => ?_
  obtain ⟨i, hi, hz, hsize, hby⟩ := info_parts hinfo
  obtain ⟨hl, h1, ⟨_, h0⟩ | ⟨ax, c, rfl, _, hnews⟩⟩ := hr
  · omega
  subst hsize
  subst hby
  have hlen : (xs ++ news).length = (n + m) * i.size := by rw [List.length_append, hxl, hl, Nat.add_mul]
  have hrun := run_append_grow (P := P) w t o.type e i z ht hi hz ad n cap xs hxl holds ax m c news hl hnews (by omega) (by omega) (growslice_fits (by omega) hbytes)
  have hge := grownCap_ge w (n + m) cap e
  have hcm : grownCap w (n + m) cap e ≤ maxLen := grownCap_le_maxLen w (n + m) cap e (by unfold maxLen; omega)
  unfold Oper.wp execOp
  simp only [ho, resolve, invoke, builtin, Sem.run_bind, Sem.run_pure, Result.andThen_ok, List.map_toArray, List.map_cons, List.map_nil, hs, hx, hrun]
  refine hK _ _ (h _ _ ⟨hlen, .inr ⟨w.heap.size, _, _, rfl, Nat.le_refl _, heap_alloc_new w.drew _, hge, hcm, ?_, ?_⟩⟩ (grown_below ⟨rfl, rfl, rfl, by simp, fun k hk _ => Below.heap_alloc w.drew _ k hk⟩))
  · simp only [Array.size_append, List.size_toArray, size_zeroCells, hzs, hxl, hl, ← Nat.add_mul]
    congr 1
    omega
  · simp only [Array.toList_append, List.append_assoc]
    rw [← List.append_assoc, ← hlen]
    exact List.take_left

/-- The text that a node's key is the mark of. -/
def nodeT (n : Nat) : List UInt8 := [110, 111, 100, 101] ++ numB n
theorem nodeT_length (n : Nat) (h : n < 18446744073709551616) : (nodeT n).length ≤ 13 ∧ 5 ≤ (nodeT n).length := by
  have := nk_le n h
  simp [nodeT, numB_length]; omega

set_option maxHeartbeats 4000000 in
set_option maxRecDepth 100000 in
theorem Derive_any (key : List UInt8) (n : Nat) (v : Value) (w : World) (hl : key.length ≤ 1152921504606846976) (hn : n < 18446744073709551616) (hr : Rd w 1 v key.length (bv key)) (hG : Tabs w) :
    Calls Tryd.prog 26 #[v, .int .u64 n] w fun e w' => e = .returned (.agg (bv (macB key (nodeT n))).toArray) ∧ Below w.heap.size w w' := by
  have hz := (zero_of_info info32).1
  have hnl := nodeT_length n hn
  have hkl : (pad64 (hkey key)).length = 64 := pad64_length _ (hkey_le key)
  have hN := fun w' hr' hG' => New_any key v w' hl hr' hG'
  obtain ⟨k, hk⟩ : ∃ k, k = pad64 (hkey key) := ⟨_, rfl⟩
  rw [← hk] at hkl
  simp only [← hk] at hN
  have hnb : (numB n).length ≤ 9 := by have := nk_le n hn; rw [numB_length]; omega
  have hW1 := fun v' w' hr' hG' => MWrite_any k [] [110, 111, 100, 101] false v' w' hkl (by simp) hr' hG'
  rw [show bt k [] false = kx k 54 from rfl] at hW1
  have hW2 := fun v' w' hr' hG' => MWrite_any k (kx k 54 ++ [110, 111, 100, 101]) (numB n) true v' w' hkl (by rw [List.length_append, kx_length, hkl]; simp; omega) hr' hG'
  rw [show bt k (kx k 54 ++ [110, 111, 100, 101]) true = kx k 54 ++ [110, 111, 100, 101] from rfl, List.append_assoc] at hW2
  have hM := fun w' hG' => MMark_any k (kx k 54 ++ ([110, 111, 100, 101] ++ numB n)) true w' hkl (by rw [List.length_append, kx_length, hkl, List.length_append]; simp; omega) hG'
  rw [show bt k (kx k 54 ++ ([110, 111, 100, 101] ++ numB n)) true = kx k 54 ++ ([110, 111, 100, 101] ++ numB n) from rfl] at hM
  obtain ⟨o, ho⟩ : ∃ o, o = markB k (kx k 54 ++ ([110, 111, 100, 101] ++ numB n)) := ⟨_, rfl⟩
  have hol : o.length = 32 := by rw [ho]; exact sum_length _
  have hmac : o = macB key (nodeT n) := by rw [ho, hk]; rfl
  rw [← ho] at hM
  generalize (mkL k [] false).toArray = A0 at *
  generalize (mkL k (kx k 54 ++ [110, 111, 100, 101]) true).toArray = A1 at *
  generalize (mkL k (kx k 54 ++ ([110, 111, 100, 101] ++ numB n)) true).toArray = A2 at *
  have HX := Lib.hid (And.intro hr (And.intro hol hmac))
  have HN := Lib.hid hN
  have HW1 := Lib.hid hW1
  have HW2 := Lib.hid hW2
  have HM := Lib.hid hM
  clear hr hol hmac hk ho hN hW1 hW2 hM hnl hnb hkl
  go_enter Tryd.func26, Tryd.ntmps26
  go_wp2_with fail
  have hb0 : Below w.heap.size w (w.alloc (.cells (bv (zs 32)).toArray 25)) := (Below.refl _ _).alloc (Nat.le_refl _) _
  refine (HN.out _ (HX.out.1.keep hb0) (hG.keepB hb0)).mono ?_
  rintro e w1 ⟨rfl, hb1⟩
  have hs1 : w1.heap[w.heap.size]? = some (.cells (bv (zs 32)).toArray 25 (0, 0)) := (hb1.block _ (by simp)).trans (heap_alloc_new _ _)
  have hbw1 := hb0.trans (hb1.mono (by simp))
  clear hb0 hb1
  have kc := Lib.run_convert_bytes_const (P := Tryd.prog) w1 22 5 #[Value.int .u8 110, .int .u8 111, .int .u8 100, .int .u8 101] 4 4 Tryd.underlying22 Tryd.underlying5
  go_wp2_with fail
  clear kc
  have hr1 := Rd.marked w1 5 [110, 111, 100, 101] (4, 5)
  have hbm := hbw1.alloc hbw1.size (.cells #[Value.int .u8 110, .int .u8 111, .int .u8 100, .int .u8 101] 5 (4, 5))
  refine (HW1.out _ _ hr1 (hG.keepB hbm)).mono ?_
  rintro e w2 ⟨rfl, hb2⟩
  have hlt1 := (Array.getElem?_eq_some_iff.1 hs1).1
  have hs2 := (hb2.block _ (by simp; omega)).trans ((heap_alloc_old _ _ hlt1).trans hs1)
  have hbw2 := hbm.trans (hb2.mono hbm.size)
  clear hb2 hs1 hbw1 hbm hr1 hlt1
  go_wp2_with fail
  refine (Num_any n w2 hn).mono ?_
  rintro e w3 ⟨vn, rfl, hrn, hb3⟩
  have hs3 := (hb3.block _ (Array.getElem?_eq_some_iff.1 hs2).1).trans hs2
  have hbw3 := hbw2.trans (hb3.mono hbw2.size)
  have HW2' := Lib.hid (HW2.out vn w3 hrn (hG.keepB hbw3))
  have H3 := Lib.hid (And.intro hs3 hbw3)
  clear hb3 hs2 hbw2 hs3 hbw3 hrn
  go_wp2_with fail
  refine HW2'.out.mono ?_
  rintro e w4 ⟨rfl, hb4⟩
  have hs4 := (hb4.block _ (Array.getElem?_eq_some_iff.1 H3.out.1).1).trans H3.out.1
  have hbw4 := H3.out.2.trans (hb4.mono H3.out.2.size)
  clear hb4 H3 HW2'
  go_wp2_with fail
  refine (HM.out _ (hG.keepB hbw4)).mono ?_
  rintro e w5 ⟨rfl, hb5⟩
  have hs5 := (hb5.block _ (Array.getElem?_eq_some_iff.1 hs4).1).trans hs4
  have hbw5 := hbw4.trans (hb5.mono hbw4.size)
  have H5 := Lib.hid (And.intro hs5 hbw5)
  clear hb5 hs4 hbw4 hs5 hbw5
  go_wp2_with (with_reducible show wpList _ _ _ (⟨none, Op.store _ _ _, _, _, _, _⟩ :: _) _ _; refine wpList_store_whole rfl _ _ _ rfl w.heap.size (bv o) rfl rfl (bv (zs 32)) _ H5.out.1 (hInfo' _ HX.out.2.1) (by rw [bv_length, bv_length, HX.out.2.1]; simp [zs]) (bv_one _) ?_; intro w9 HG9 hg9)
  refine bodyPost_ret (v := .agg (bv o).toArray) ?_ ?_ ?_
  · exact results_cell_row Tryd.results26 _ _ w.heap.size 25 _ (0, 0) _ rfl HG9.out Tryd.underlying25 rfl (hInfo _ HX.out.2.1)
  · rfl
  · exact ⟨by rw [HX.out.2.2], below_grow H5.out.2 hg9 (Nat.le_refl _) (Array.getElem?_eq_some_iff.1 H5.out.1).1⟩

set_option maxHeartbeats 4000000 in
set_option maxRecDepth 100000 in
theorem refDerive_any (key : List UInt8) (n : Nat) (v : Value) (w : World) (hl : key.length ≤ 140737488351232) (hn : n < 18446744073709551616) (hr : Rd w 1 v key.length (bv key)) (hG : TabsR w) :
    Calls Tryd.prog 27 #[v, .int .u64 n] w fun e w' => e = .returned (.agg (bv (macB key (nodeT n))).toArray) ∧ Below w.heap.size w w' := by
  obtain ⟨a0, c0, rfl⟩ := hr.form
  have hz := (zero_of_info info32).1
  have hnl := nodeT_length n hn
  have hM := fun v' w' hr1' hr' hG' => refMark_any key (nodeT n) (.slice a0 key.length c0) v' w' hl (by omega) hr1' hr' hG'
  have hol := macB_length key (nodeT n)
  have hnb : (numB n).length ≤ 9 ∧ 0 < (numB n).length := by have := nk_le n hn; rw [numB_length]; omega
  have hnt : bv (nodeT n) = [Value.int .u8 110, .int .u8 111, .int .u8 100, .int .u8 101] ++ bv (numB n) := by rw [nodeT, bv_append]; rfl
  have hntl : (nodeT n).length = 4 + (numB n).length := by simp [nodeT]; omega
  obtain ⟨o, ho⟩ : ∃ o, o = macB key (nodeT n) := ⟨_, rfl⟩
  rw [← ho] at hM hol
  have HX := Lib.hid (And.intro hr (And.intro hol (And.intro ho (And.intro hnt (And.intro hntl hnb)))))
  have HM := Lib.hid hM
  clear hr hol ho hM hnt hntl hnb hnl
  have kc := Lib.run_convert_bytes_const (P := Tryd.prog) (w.alloc (.cells (bv (zs 32)).toArray 25)) 22 5 #[Value.int .u8 110, .int .u8 111, .int .u8 100, .int .u8 101] 4 4 Tryd.underlying22 Tryd.underlying5
  have hsz1 : (w.alloc (.cells (bv (zs 32)).toArray 25)).heap.size = w.heap.size + 1 := by simp
  rw [hsz1] at kc
  go_enter Tryd.func27, Tryd.ntmps27
  go_wp2_with fail
  clear kc
  obtain ⟨wm, hwm⟩ : ∃ x : World, x = (w.alloc (.cells (bv (zs 32)).toArray 25)).alloc (.cells #[Value.int .u8 110, .int .u8 111, .int .u8 100, .int .u8 101] 5 (4, 5)) := ⟨_, rfl⟩
  rw [← hwm]
  have hsm : wm.heap[w.heap.size]? = some (.cells (bv (zs 32)).toArray 25 (0, 0)) := by
    rw [hwm]; exact (heap_alloc_old _ _ (by simp)).trans (heap_alloc_new _ _)
  have hcm : wm.heap[w.heap.size + 1]? = some (.cells (bv [110, 111, 100, 101]).toArray 5 (4, 5)) := by
    rw [hwm, ← hsz1]; exact heap_alloc_new _ _
  have hbm : Below w.heap.size w wm := by rw [hwm]; exact ((Below.refl _ _).alloc (Nat.le_refl _) _).alloc (by simp) _
  clear hwm hsz1
  refine (refNum_any n wm hn).mono ?_
  rintro e w3 ⟨vn, rfl, hon, hb3⟩
  have hs3 := (hb3.block _ (Array.getElem?_eq_some_iff.1 hsm).1).trans hsm
  have hc3 := (hb3.block _ (Array.getElem?_eq_some_iff.1 hcm).1).trans hcm
  have hbw3 := hbm.trans (hb3.mono hbm.size)
  have holds : ∀ j u, [Value.int .u8 110, .int .u8 111, .int .u8 100, .int .u8 101][j]? = some u → w3.cell? ((⟨w.heap.size + 1, 0, none⟩ : Addr).add j) = some u := fun j u hu => by
    rw [Addr.add_lit, Nat.zero_add, cell_of_row _ _ _ _ _ _ hc3, List.getElem?_toArray]
    exact hu
  have H3 := Lib.hid (And.intro hs3 (And.intro holds (And.intro hbw3 (own_rd hon (bv_one _)))))
  clear hs3 hc3 hbw3 holds hon hb3 hsm hcm hbm
  go_wp2_with (at_builtin; go_loud (refine wpList_app_grow Tryd.underlying22 infoU8s rfl (by decide) rfl _ _ rfl rfl rfl rfl H3.out.2.1 H3.out.2.2.2 (by have := HX.out.2.2.2.2.2.2; omega) (by have := HX.out.2.2.2.2.2.1; omega) (by have := HX.out.2.2.2.2.2.1; omega) HX.out.2.2.2.2.2.2 ?_))
  intro v4 w4 ho4 hb4
  have hs4 := (hb4.block _ (Array.getElem?_eq_some_iff.1 H3.out.1).1).trans H3.out.1
  have hbw4 := H3.out.2.2.1.trans (hb4.mono H3.out.2.2.1.size)
  have hr4 : Rd w4 1 v4 (nodeT n).length (bv (nodeT n)) := by
    refine own_rd (B := w3.heap.size) (e := 5) ?_ (bv_one _)
    rw [HX.out.2.2.2.2.1, HX.out.2.2.2.1]; exact ho4
  have HM' := Lib.hid (HM.out v4 w4 (HX.out.1.keep hbw4) hr4 (hG.keepB hbw4))
  have H4 := Lib.hid (And.intro hs4 hbw4)
  clear hs4 hbw4 hr4 ho4 hb4 H3
  go_wp2_with fail
  refine HM'.out.mono ?_
  rintro e w5 ⟨rfl, hb5⟩
  have hs5 := (hb5.block _ (Array.getElem?_eq_some_iff.1 H4.out.1).1).trans H4.out.1
  have hbw5 := H4.out.2.trans (hb5.mono H4.out.2.size)
  have H5 := Lib.hid (And.intro hs5 hbw5)
  clear hb5 hs5 hbw5 H4 HM'
  go_wp2_with (with_reducible show wpList _ _ _ (⟨none, Op.store _ _ _, _, _, _, _⟩ :: _) _ _; refine wpList_store_whole rfl _ _ _ rfl w.heap.size (bv o) rfl rfl (bv (zs 32)) _ H5.out.1 (hInfo' _ HX.out.2.1) (by rw [bv_length, bv_length, HX.out.2.1]; simp [zs]) (bv_one _) ?_; intro w9 HG9 hg9)
  refine bodyPost_ret (v := .agg (bv o).toArray) ?_ ?_ ?_
  · exact results_cell_row Tryd.results27 _ _ w.heap.size 25 _ (0, 0) _ rfl HG9.out Tryd.underlying25 rfl (hInfo _ HX.out.2.1)
  · rfl
  · exact ⟨by rw [HX.out.2.2.1], below_grow H5.out.2 hg9 (Nat.le_refl _) (Array.getElem?_eq_some_iff.1 H5.out.1).1⟩
end Go.Proofs.YtkcnakijfmemlaaDoor
