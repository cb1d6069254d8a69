/- The law LeafNarrow: the walk. (printed by gen/leafn.py) -/
import Derived.Test.YtaljjnncljbbfaaDoorLeafI
import Derived.Test.YtaljjnncljbbfaaDoorLeafL
namespace Go.Proofs.YtaljjnncljbbfaaDoor
open Go.RowKit Sha Root

theorem fold_seto (o : Nat) : ∀ (l : List Value) (n : Nat) (init : Array Value), o + n + l.length ≤ init.size →
    (l.zipIdx n).foldl (fun cs x => cs.setIfInBounds (o + x.2) x.1) init = (init.toList.take (o + n) ++ (l ++ init.toList.drop (o + n + l.length))).toArray
  | [], n, init, _ => by simp
  | c :: l, n, init, h => by
    simp only [List.length_cons] at h
    rw [List.zipIdx_cons, List.foldl_cons, fold_seto o l (n + 1) _ (by simp; omega)]
    congr 1
    simp only [Array.toList_setIfInBounds, List.length_cons]
    rw [← Nat.add_assoc, List.take_add_one, List.getElem?_set_self (by simp; omega), List.drop_set_of_lt (by omega), List.take_set_of_le (by omega)]
    simp [Nat.add_assoc, Nat.add_comm 1]
theorem fill_two (cs ds : List Value) (init : Array Value) (size : Nat) (h : init.size = 2 * size) (hc : cs.length = size) (hd : ds.length = size) :
    Instr.fill (fun i => some (i * size, size)) init [(0, .agg cs.toArray), (1, .agg ds.toArray)] = some (cs ++ ds).toArray := by
  have h1 := fold_seto 0 cs 0 init (by omega)
  have h2 := fold_seto size ds 0 (cs ++ List.drop size init.toList).toArray (by simp; omega)
  have e2 : (cs ++ List.drop size init.toList).toArray.toList.take (size + 0) ++ (ds ++ (cs ++ List.drop size init.toList).toArray.toList.drop (size + 0 + ds.length)) = cs ++ ds := by
    simp only [Nat.add_zero]
    rw [List.take_append_of_le_length (by omega), List.take_of_length_le (by omega), List.drop_of_length_le (by simp; omega), List.append_nil]
  rw [e2] at h2
  simp only [Nat.zero_add, List.take_zero, List.nil_append, hc] at h1
  simp [Instr.fill, Value.cells, hc, hd, h1]
  exact ⟨by omega, by omega, h2⟩
theorem wpList_build2 {P : Program} {ops : Array Oper} {rest : List Oper} {o : Oper} {a : Act} {w : World} {Q : Exit → Act → World → Prop} (hg : o.guard = none) (t e : TypeId) (x y : Operand) (ho : o.op = .buildSlice t 2 #[(0, x), (1, y)])
    (cs ds : List Value) (hx : a.eval x = .agg cs.toArray) (hy : a.eval y = .agg ds.toArray) (hu : P.underlying t = some (.slice e)) {z : Value} {size bytes : Nat} (hinfo : (P.info? e).map (fun i => (i.zero, i.size, i.bytes)) = some (some z, size, bytes)) (hc : cs.length = size) (hd : ds.length = size) (h0 : 0 < size) (h24 : 2 * size ≤ 16777216)
    (h : wpList P ops Q rest (a.put o.dst (.slice (some ⟨w.heap.size, 0, none⟩) 2 2)) (w.alloc (.cells (cs ++ ds).toArray e))) : wpList P ops Q (o :: rest) a w := by
  obtain ⟨i, hi, hz, hsize, _⟩ := info_parts hinfo
  refine wpList_buildSlice hg t e 2 _ ho (cs ++ ds).toArray i z hu hi hz (by rw [hsize]; omega) (by rw [hsize]; omega) ?_ h
  have e : (Array.map (fun x : Nat × Operand => match x with | (i, x) => (i, a.eval x)) #[(0, x), (1, y)]).toList = [(0, a.eval x), (1, a.eval y)] := by simp
  rw [e, hx, hy]
  exact fill_two cs ds _ _ (by simp) (by rw [hc, hsize]) (by rw [hd, hsize])

/-- What each operation hands on. -/
def lnF (n : Int) (ta xs ys rt wx0 wr0 ee we : List UInt8) (a1 : Option Addr) (c1 : Nat) : Nat → Value → World → Prop
  | 0, v, _ => v = .agg (bv xs).toArray
  | 1, v, _ => v = .slice a1 ta.length c1
  | 2, v, _ => v = .agg (bv wx0).toArray
  | 3, v, _ => v = .int .i64 n
  | 4, v, _ => v = .agg (bv xs).toArray
  | 5, v, _ => v = .bool true
  | 6, v, _ => v = .bool true
  | 7, v, _ => v = .agg (bv rt).toArray
  | 8, v, _ => v = .agg (bv rt).toArray
  | 9, v, _ => v = .int .i64 n
  | 10, v, _ => v = .agg (bv rt).toArray
  | 11, v, _ => v = .bool true
  | 12, v, _ => v = .bool true
  | 13, v, _ => v = .bool true
  | 14, v, _ => v = .agg (bv rt).toArray
  | 15, v, _ => v = .agg (bv xs).toArray
  | 16, v, _ => v = .agg (bv ys).toArray
  | 17, v, _ => v = .agg (bv wr0).toArray
  | 18, v, _ => v = .int .i64 n
  | 19, v, _ => v = .agg (bv rt).toArray
  | 20, v, _ => v = .bool true
  | 21, v, _ => v = .bool true
  | 22, v, _ => v = .bool true
  | 23, v, _ => v = .int .i64 n
  | 24, v, _ => v = .agg (bv ee).toArray
  | 25, v, _ => v = .agg (bv we).toArray
  | 26, v, _ => v = .int .i64 n
  | 27, v, _ => v = .agg (bv ee).toArray
  | 28, v, _ => v = .bool true
  | 29, v, _ => v = .bool true
  | 30, v, _ => v = .bool true
  | _, _, _ => True

set_option maxHeartbeats 8000000 in
set_option maxRecDepth 100000 in
theorem leafNarrow_walk (n : Int) (ta tb : List UInt8) (va vb : Value) (w : World) (hn : -9223372036854775808 ≤ n ∧ n ≤ 9223372036854775807) (hla : ta.length ≤ 140737488351232) (hlb : tb.length ≤ 140737488351232) (hra : Rd w 1 va ta.length (bv ta)) (hrb : Rd w 1 vb tb.length (bv tb)) (hT : Tabs w) (hD : TabD w) :
    Calls Tryd.prog 6 #[.int .i64 n, va, vb] w fun e w' => e = .returned (.bool true) ∧ Below w.heap.size w w' := by
  obtain ⟨a1, c1, rfl⟩ := hra.form
  obtain ⟨a2, c2, rfl⟩ := hrb.form
  have hz := (zero_of_info info32).1
  have HR := Lib.hid (And.intro hra hrb)
  have HT := Lib.hid (And.intro hT hD)
  have HN := Lib.hid hn
  clear hra hrb hT hD hn
  go_enter Tryd.func6, Tryd.ntmps6
  go_wp2_with fail
  refine (awake14_any w HT.out.1).mono ?_
  rintro e w1 ⟨rfl, hb1⟩
  have HB1 := Lib.hid hb1
  clear hb1
  go_wp2_with fail
  refine (Leaf_any n ta _ w1 HN.out (by omega) (HR.out.1.keep HB1.out) (HT.out.1.keepB HB1.out)).mono ?_
  rintro e w2 ⟨rfl, hb2⟩
  have hbw2 := HB1.out.trans (hb2.mono HB1.out.size)
  obtain ⟨xs, hxs⟩ : ∃ x, x = leafH n ta := ⟨_, rfl⟩
  rw [← hxs]
  have hxl : xs.length = 32 := by rw [hxs]; exact leafH_length n ta
  have HXS := Lib.hid (And.intro hxs hxl)
  have H7 := Lib.hid (heap_alloc_new w2 (.cells (bv (zs 32)).toArray 24))
  have HB2 := Lib.hid hbw2
  clear hbw2 hb2 hxs hxl
  go_upto_region 4 with (with_reducible show wpList _ _ _ (⟨none, Op.store _ _ _, _, _, _, _⟩ :: _) _ _; refine wpList_store_whole rfl _ _ _ rfl w2.heap.size (bv xs) rfl rfl (bv (zs 32)) _ H7.out (hInfo' _ HXS.out.2) (by rw [bv_length, bv_length, HXS.out.2]; simp [zs]) (bv_one _) ?_; intro w3 HG3 hg3)
  have k3 : Below w2.heap.size w2 w3 := below_grow ((Below.refl _ _).alloc (Nat.le_refl _) _) hg3 (Nat.le_refl _) (by simp)
  have hbw3 := HB2.out.trans (k3.mono HB2.out.size)
  obtain ⟨g7, hg7⟩ : ∃ g, g = w2.heap.size := ⟨_, rfl⟩
  rw [← hg7] at HG3 ⊢
  have H3 := Lib.hid (And.intro HG3.out hbw3)
  clear HG3 hg3 k3 hbw3 hg7 H7 HB2
  go_wp2_with fail
  refine (Leaf_any n tb _ w3 HN.out (by omega) (HR.out.2.keep H3.out.2) (HT.out.1.keepB H3.out.2)).mono ?_
  rintro e w4 ⟨rfl, hb4⟩
  have hrow7 := (hb4.block _ (Array.getElem?_eq_some_iff.1 H3.out.1).1).trans H3.out.1
  have hbw4 := H3.out.2.trans (hb4.mono H3.out.2.size)
  obtain ⟨ys, hys⟩ : ∃ x, x = leafH n tb := ⟨_, rfl⟩
  rw [← hys]
  have hyl : ys.length = 32 := by rw [hys]; exact leafH_length n tb
  have HYS := Lib.hid (And.intro hys hyl)
  have H8 := Lib.hid (heap_alloc_new w4 (.cells (bv (zs 32)).toArray 24))
  have HB4 := Lib.hid (And.intro hrow7 hbw4)
  clear hbw4 hb4 hys hyl hrow7 H3
  go_upto_region 5 with (with_reducible show wpList _ _ _ (⟨none, Op.store _ _ _, _, _, _, _⟩ :: _) _ _; refine wpList_store_whole rfl _ _ _ rfl w4.heap.size (bv ys) rfl rfl (bv (zs 32)) _ H8.out (hInfo' _ HYS.out.2) (by rw [bv_length, bv_length, HYS.out.2]; simp [zs]) (bv_one _) ?_; intro w5 HG5 hg5)
  have k5 : Below w4.heap.size w4 w5 := below_grow ((Below.refl _ _).alloc (Nat.le_refl _) _) hg5 (Nat.le_refl _) (by simp)
  have hrow75 := (k5.block _ (Array.getElem?_eq_some_iff.1 HB4.out.1).1).trans HB4.out.1
  have hbw5 := HB4.out.2.trans (k5.mono HB4.out.2.size)
  obtain ⟨g8, hg8⟩ : ∃ g, g = w4.heap.size := ⟨_, rfl⟩
  rw [← hg8] at HG5 ⊢
  have H5 := Lib.hid (And.intro hrow75 (And.intro HG5.out hbw5))
  clear HG5 hg5 k5 hrow75 hbw5 hg8 H8 HB4
  have hbl : (bv xs ++ bv ys).length = 2 * 32 := by rw [List.length_append, bv_length, bv_length, HXS.out.2, HYS.out.2]
  have HRT : Rd (w5.alloc (.cells (bv xs ++ bv ys).toArray 24)) 32 (.slice (some ⟨w5.heap.size, 0, none⟩) 2 2) ([xs, ys] : List (List UInt8)).length (([xs, ys] : List (List UInt8)).flatMap bv) := by
    have e : ([xs, ys] : List (List UInt8)).flatMap bv = bv xs ++ bv ys := by simp
    rw [e]
    exact own_rd (own_new w5 24 32 2 w5.heap.size (bv xs ++ bv ys) hbl (by omega) (Nat.le_refl _)) (fun q hq => (List.mem_append.1 hq).elim (fun h => bv_one _ _ h) (fun h => bv_one _ _ h))
  have HRR := Lib.hid HRT
  clear HRT hbl
  go_wp2_with (first
    | (with_reducible show wpList _ _ _ (⟨some 19, _, _, _, _, _⟩ :: _) _ _; refine wpList_load_row rfl _ _ rfl g7 rfl _ _ (0, 0) _ H5.out.1 Tryd.underlying24 rfl (hInfo _ HXS.out.2) ?_)
    | (with_reducible show wpList _ _ _ (⟨some 20, _, _, _, _, _⟩ :: _) _ _; refine wpList_load_row rfl _ _ rfl g8 rfl _ _ (0, 0) _ H5.out.2.1 Tryd.underlying24 rfl (hInfo _ HYS.out.2) ?_)
    | (with_reducible show wpList _ _ _ (⟨some 21, _, _, _, _, _⟩ :: _) _ _; refine wpList_build2 rfl 30 24 _ _ rfl (bv xs) (bv ys) rfl rfl Tryd.underlying30 infoHb (by rw [bv_length]; exact HXS.out.2) (by rw [bv_length]; exact HYS.out.2) (by decide) (by decide) ?_))
  have kA : Below w5.heap.size w5 (w5.alloc (.cells (bv xs ++ bv ys).toArray 24)) := (Below.refl _ _).alloc (Nat.le_refl _) _
  obtain ⟨w6, hw6⟩ : ∃ x : World, x = w5.alloc (.cells (bv xs ++ bv ys).toArray 24) := ⟨_, rfl⟩
  rw [← hw6] at kA HRR ⊢
  clear hw6
  have hbw6 := H5.out.2.2.trans (kA.mono H5.out.2.2.size)
  have h7' := (kA.block _ (Array.getElem?_eq_some_iff.1 H5.out.1).1).trans H5.out.1
  have h8' := (kA.block _ (Array.getElem?_eq_some_iff.1 H5.out.2.1).1).trans H5.out.2.1
  refine (Root_any n [xs, ys] _ w6 HN.out (by intro q hq; simp at hq; rcases hq with rfl | rfl; exact HXS.out.2; exact HYS.out.2) (by simp) HRR.out (HT.out.1.keepB hbw6) (HT.out.2.keepB hbw6)).mono ?_
  rintro e w7 ⟨rfl, hb7⟩
  have hbw7 := hbw6.trans (hb7.mono hbw6.size)
  have h7 := (hb7.block _ (Array.getElem?_eq_some_iff.1 h7').1).trans h7'
  have h8 := (hb7.block _ (Array.getElem?_eq_some_iff.1 h8').1).trans h8'
  have hroot : rootH n [xs, ys] = nodeH n xs ys := rfl
  rw [hroot]
  obtain ⟨rt, hrt⟩ : ∃ x, x = nodeH n xs ys := ⟨_, rfl⟩
  rw [← hrt]
  have hrl : rt.length = 32 := by rw [hrt]; exact nodeH_length n xs ys
  have HRS := Lib.hid (And.intro hrt hrl)
  have H9 := Lib.hid (heap_alloc_new w7 (.cells (bv (zs 32)).toArray 24))
  have HB7 := Lib.hid (And.intro h7 (And.intro h8 hbw7))
  clear hbw7 hb7 hrt hrl h7 h8 h7' h8' hbw6 kA H5 HRR hroot
  go_upto_region 6 with (with_reducible show wpList _ _ _ (⟨none, Op.store _ _ _, _, _, _, _⟩ :: _) _ _; refine wpList_store_whole rfl _ _ _ rfl w7.heap.size (bv rt) rfl rfl (bv (zs 32)) _ H9.out (hInfo' _ HRS.out.2) (by rw [bv_length, bv_length, HRS.out.2]; simp [zs]) (bv_one _) ?_; intro w9 HG9 hg9)
  have k9 : Below w7.heap.size w7 w9 := below_grow ((Below.refl _ _).alloc (Nat.le_refl _) _) hg9 (Nat.le_refl _) (by simp)
  have r7 := (k9.block _ (Array.getElem?_eq_some_iff.1 HB7.out.1).1).trans HB7.out.1
  have r8 := (k9.block _ (Array.getElem?_eq_some_iff.1 HB7.out.2.1).1).trans HB7.out.2.1
  have hbw9 := HB7.out.2.2.trans (k9.mono HB7.out.2.2.size)
  obtain ⟨g9, hg9'⟩ : ∃ g, g = w7.heap.size := ⟨_, rfl⟩
  rw [← hg9'] at HG9 ⊢
  have HRW := Lib.hid (And.intro r7 (And.intro r8 HG9.out))
  have HLN := Lib.hid (And.intro HXS.out.2 (And.intro HYS.out.2 HRS.out.2))
  have HBW := Lib.hid hbw9
  have hT9 := HT.out.1.keepB hbw9
  have hR9 := HR.out.1.keep hbw9
  clear HG9 hg9 k9 r7 r8 hbw9 hg9' H9 HB7
  have hc2 := fun wx (h : Below w9.heap.size w9 wx) => Leaf_any 256 ta _ wx n256 (by omega) (hR9.keep h) (hT9.keepB h)
  obtain ⟨wx0, hwx0⟩ : ∃ x, x = leafH 256 ta := ⟨_, rfl⟩
  rw [← hwx0] at hc2
  have hc4 := fun wx => Narrow_any wx0 n wx (by rw [hwx0]; exact leafH_length _ _) HN.out
  rw [show nar wx0 (clip n) = xs by rw [hwx0, HXS.out.1, show leafH 256 ta = Sha.sum (0 :: ta) from wide (0 :: ta)]; rfl] at hc4
  have hc10 := fun wx => Narrow_any rt n wx HRS.out.2 HN.out
  rw [show nar rt (clip n) = rt by rw [HRS.out.1]; unfold nodeH hw; rw [nar_twice, Nat.min_self]] at hc10
  have hc17 := fun wx (h : Below w9.heap.size w9 wx) => Node_any 256 xs ys wx HXS.out.2 HYS.out.2 n256 (hT9.keepB h)
  obtain ⟨wr0, hwr0⟩ : ∃ x, x = nodeH 256 xs ys := ⟨_, rfl⟩
  rw [← hwr0] at hc17
  have hc19 := fun wx => Narrow_any wr0 n wx (by rw [hwr0]; exact nodeH_length _ _ _) HN.out
  rw [show nar wr0 (clip n) = rt by rw [hwr0, HRS.out.1, show nodeH 256 xs ys = Sha.sum (1 :: (xs ++ ys)) from wide _]; rfl] at hc19
  have hc24 := fun wx (h : Below w9.heap.size w9 wx) => Empty_any n wx HN.out (hT9.keepB h)
  have hc25 := fun wx (h : Below w9.heap.size w9 wx) => Empty_any 999 wx (by omega) (hT9.keepB h)
  obtain ⟨we, hwe⟩ : ∃ x, x = emptyH 999 := ⟨_, rfl⟩
  rw [← hwe] at hc25
  have hc27 := fun wx => Narrow_any we n wx (by rw [hwe]; exact emptyH_length _) HN.out
  rw [show nar we (clip n) = emptyH n by rw [hwe]; unfold emptyH hw; rw [show clip 999 = 256 from rfl, nar_all _ (sum_length [])]] at hc27
  have hqx := fun w => eqIn_hash xs xs HXS.out.2 HXS.out.2 w
  have hqr := fun w => eqIn_hash rt rt HRS.out.2 HRS.out.2 w
  have hqe := fun w => eqIn_hash (emptyH n) (emptyH n) (emptyH_length n) (emptyH_length n) w
  simp only [beq_self_eq_true] at hqx hqr hqe
  obtain ⟨ee, hee⟩ : ∃ x, x = emptyH n := ⟨_, rfl⟩
  rw [← hee] at hc24 hc27 hqe
  have HC2 := Lib.hid hc2
  have HC4 := Lib.hid (fun wx (_ : Below w9.heap.size w9 wx) => hc4 wx)
  have HC10 := Lib.hid (fun wx (_ : Below w9.heap.size w9 wx) => hc10 wx)
  have HC17 := Lib.hid hc17
  have HC19 := Lib.hid (fun wx (_ : Below w9.heap.size w9 wx) => hc19 wx)
  have HC24 := Lib.hid hc24
  have HC25 := Lib.hid hc25
  have HC27 := Lib.hid (fun wx (_ : Below w9.heap.size w9 wx) => hc27 wx)
  have HQX := Lib.hid hqx
  have HQR := Lib.hid hqr
  have HQE := Lib.hid hqe
  clear hc2 hc4 hc10 hc17 hc19 hc24 hc25 hc27 hqx hqr hqe hee hwe hwr0 hwx0 hT9 hR9
  go_upto_region 6 with fail
  refine wp_region_steps [some 23, some 24, some 25, some 26, some 27, some 28, some 29, some 30, some 31, some 32, some 33, some 34, some 35, some 36, some 37, some 38, some 39, some 40, some 41, some 42, some 43, some 44, some 45, some 46, some 47, some 48, some 49, some 50, some 51, some 52, some 6] [] (lnF n ta xs ys rt wx0 wr0 ee we a1 c1) (fun _ wx wy => Below wx.heap.size wx wy) (fun wx => Below w9.heap.size w9 wx) (by kernel_rfl) (by kernel_rfl) rfl (by kernel_rfl) (Below.refl _ _).drew (fun _ wx => Below.refl _ _) (fun _ wx wy h k => h.trans (k.mono h.size)) ?hF ?hstep ?hend
  case hF =>
    exact ⟨fun _ _ _ _ _ _ h => h, ⟨fun _ _ _ _ _ _ h => h, ⟨fun _ _ _ _ _ _ h => h, ⟨fun _ _ _ _ _ _ h => h, ⟨fun _ _ _ _ _ _ h => h, ⟨fun _ _ _ _ _ _ h => h, ⟨fun _ _ _ _ _ _ h => h, ⟨fun _ _ _ _ _ _ h => h, ⟨fun _ _ _ _ _ _ h => h, ⟨fun _ _ _ _ _ _ h => h, ⟨fun _ _ _ _ _ _ h => h, ⟨fun _ _ _ _ _ _ h => h, ⟨fun _ _ _ _ _ _ h => h, ⟨fun _ _ _ _ _ _ h => h, ⟨fun _ _ _ _ _ _ h => h, ⟨fun _ _ _ _ _ _ h => h, ⟨fun _ _ _ _ _ _ h => h, ⟨fun _ _ _ _ _ _ h => h, ⟨fun _ _ _ _ _ _ h => h, ⟨fun _ _ _ _ _ _ h => h, ⟨fun _ _ _ _ _ _ h => h, ⟨fun _ _ _ _ _ _ h => h, ⟨fun _ _ _ _ _ _ h => h, ⟨fun _ _ _ _ _ _ h => h, ⟨fun _ _ _ _ _ _ h => h, ⟨fun _ _ _ _ _ _ h => h, ⟨fun _ _ _ _ _ _ h => h, ⟨fun _ _ _ _ _ _ h => h, ⟨fun _ _ _ _ _ _ h => h, ⟨fun _ _ _ _ _ _ h => h, ⟨fun _ _ _ _ _ _ h => h, trivial⟩⟩⟩⟩⟩⟩⟩⟩⟩⟩⟩⟩⟩⟩⟩⟩⟩⟩⟩⟩⟩⟩⟩⟩⟩⟩⟩⟩⟩⟩⟩
  case hstep =>
    -- operation 0: Op.load 24 (tmp 7)
    refine ⟨fun r wx hG hs hq hf => ?_, ?_⟩
    · have e7 : r 7 = .pointer (some ⟨g7, 0, none⟩) := hs 7 rfl
      refine (if_pos rfl).symm ▸ ?_
      clear hs hq hf
      unfold gives
      refine gives_load_row 24 _ rfl g7 e7 24 _ (0, 0) _ ((hG.block _ (Array.getElem?_eq_some_iff.1 (HRW.out.1)).1).trans (HRW.out.1)) Tryd.underlying24 rfl (hInfo _ HLN.out.1) ⟨Below.refl _ _, rfl⟩
    -- operation 1: Op.move (tmp 1)
    refine ⟨fun r wx hG hs hq hf => ?_, ?_⟩
    · have e1 : r 1 = .slice a1 ta.length c1 := hs 1 rfl
      refine (if_pos rfl).symm ▸ ?_
      clear hs hq hf
      unfold gives
      go_simp
      exact ⟨Below.refl _ _, rfl⟩
    -- operation 2: Op.call ( callee := Callee.value (func 12), args := #[const (Value.int IntKind.i64 256), tmp 24], argTypes := #[3, 22] )
    refine ⟨fun r wx hG hs hq hf => ?_, ?_⟩
    · have h1 : r 24 = .slice a1 ta.length c1 := hf.1
      refine (if_pos rfl).symm ▸ ?_
      clear hs hq hf
      unfold gives
      go_simp
      refine (HC2.out wx hG).mono ?_
      rintro e wy ⟨rfl, hb1⟩
      exact ⟨_, rfl, hb1, rfl⟩
    -- operation 3: Op.move (tmp 0)
    refine ⟨fun r wx hG hs hq hf => ?_, ?_⟩
    · have e0 : r 0 = .int .i64 n := hs 0 rfl
      refine (if_pos rfl).symm ▸ ?_
      clear hs hq hf
      unfold gives
      go_simp
      exact ⟨Below.refl _ _, rfl⟩
    -- operation 4: Op.call ( callee := Callee.value (func 19), args := #[tmp 25, tmp 26], argTypes := #[24, 3] )
    refine ⟨fun r wx hG hs hq hf => ?_, ?_⟩
    · have h2 : r 25 = .agg (bv wx0).toArray := hf.1
      have h3 : r 26 = .int .i64 n := hf.2.1
      refine (if_pos rfl).symm ▸ ?_
      clear hs hq hf
      unfold gives
      go_simp
      refine (HC4.out wx hG).mono ?_
      rintro e wy ⟨rfl, hb1⟩
      exact ⟨_, rfl, hb1, rfl⟩
    -- operation 5: Op.binOp BinOp.eql 24 (tmp 23) (tmp 27) 24
    refine ⟨fun r wx hG hs hq hf => ?_, ?_⟩
    · have h0 : r 23 = .agg (bv xs).toArray := hf.1
      have h4 : r 27 = .agg (bv xs).toArray := hf.2.1
      refine (if_pos rfl).symm ▸ ?_
      clear hs hq hf
      unfold gives
      have hgd := eq_guard
      have he := HQX.out wx
      go_simp
      exact ⟨Below.refl _ _, rfl⟩
    -- operation 6: Op.move (tmp 28)
    refine ⟨fun r wx hG hs hq hf => ?_, ?_⟩
    · have h5 : r 28 = .bool true := hf.1
      refine (if_pos rfl).symm ▸ ?_
      clear hs hq hf
      unfold gives
      go_simp
      exact ⟨Below.refl _ _, rfl⟩
    -- operation 7: Op.load 24 (tmp 9)
    refine ⟨fun r wx hG hs hq hf => ?_, ?_⟩
    · have e9 : r 9 = .pointer (some ⟨g9, 0, none⟩) := hs 9 rfl
      have h6 : r 29 = .bool true := hf.1
      have hy : ydD [some 23, some 24, some 25, some 26, some 27, some 28, some 29, some 30, some 31, some 32, some 33, some 34, some 35, some 36, some 37, some 38, some 39, some 40, some 41, some 42, some 43, some 44, some 45, some 46, some 47, some 48, some 49, some 50, some 51, some 52, some 6] r 6 = some true := by show (match r 29 with | .bool b => some b | _ => none) = some true; rw [h6]
      simp only [Region.wanted, hy, beq_self_eq_true, if_true]
      clear hs hq hf hy
      unfold gives
      refine gives_load_row 24 _ rfl g9 e9 24 _ (0, 0) _ ((hG.block _ (Array.getElem?_eq_some_iff.1 (HRW.out.2.2)).1).trans (HRW.out.2.2)) Tryd.underlying24 rfl (hInfo _ HLN.out.2.2) ⟨Below.refl _ _, rfl⟩
    -- operation 8: Op.load 24 (tmp 9)
    refine ⟨fun r wx hG hs hq hf => ?_, ?_⟩
    · have e9 : r 9 = .pointer (some ⟨g9, 0, none⟩) := hs 9 rfl
      have h6 : r 29 = .bool true := hf.1
      have hy : ydD [some 23, some 24, some 25, some 26, some 27, some 28, some 29, some 30, some 31, some 32, some 33, some 34, some 35, some 36, some 37, some 38, some 39, some 40, some 41, some 42, some 43, some 44, some 45, some 46, some 47, some 48, some 49, some 50, some 51, some 52, some 6] r 6 = some true := by show (match r 29 with | .bool b => some b | _ => none) = some true; rw [h6]
      simp only [Region.wanted, hy, beq_self_eq_true, if_true]
      clear hs hq hf hy
      unfold gives
      refine gives_load_row 24 _ rfl g9 e9 24 _ (0, 0) _ ((hG.block _ (Array.getElem?_eq_some_iff.1 (HRW.out.2.2)).1).trans (HRW.out.2.2)) Tryd.underlying24 rfl (hInfo _ HLN.out.2.2) ⟨Below.refl _ _, rfl⟩
    -- operation 9: Op.move (tmp 0)
    refine ⟨fun r wx hG hs hq hf => ?_, ?_⟩
    · have e0 : r 0 = .int .i64 n := hs 0 rfl
      have h6 : r 29 = .bool true := hf.1
      have hy : ydD [some 23, some 24, some 25, some 26, some 27, some 28, some 29, some 30, some 31, some 32, some 33, some 34, some 35, some 36, some 37, some 38, some 39, some 40, some 41, some 42, some 43, some 44, some 45, some 46, some 47, some 48, some 49, some 50, some 51, some 52, some 6] r 6 = some true := by show (match r 29 with | .bool b => some b | _ => none) = some true; rw [h6]
      simp only [Region.wanted, hy, beq_self_eq_true, if_true]
      clear hs hq hf hy
      unfold gives
      go_simp
      exact ⟨Below.refl _ _, rfl⟩
    -- operation 10: Op.call ( callee := Callee.value (func 19), args := #[tmp 31, tmp 32], argTypes := #[24, 3] )
    refine ⟨fun r wx hG hs hq hf => ?_, ?_⟩
    · have h8 : r 31 = .agg (bv rt).toArray := hf.1
      have h9 : r 32 = .int .i64 n := hf.2.1
      have h6 : r 29 = .bool true := hf.2.2.1
      have hy : ydD [some 23, some 24, some 25, some 26, some 27, some 28, some 29, some 30, some 31, some 32, some 33, some 34, some 35, some 36, some 37, some 38, some 39, some 40, some 41, some 42, some 43, some 44, some 45, some 46, some 47, some 48, some 49, some 50, some 51, some 52, some 6] r 6 = some true := by show (match r 29 with | .bool b => some b | _ => none) = some true; rw [h6]
      simp only [Region.wanted, hy, beq_self_eq_true, if_true]
      clear hs hq hf hy
      unfold gives
      go_simp
      refine (HC10.out wx hG).mono ?_
      rintro e wy ⟨rfl, hb1⟩
      exact ⟨_, rfl, hb1, rfl⟩
    -- operation 11: Op.binOp BinOp.eql 24 (tmp 30) (tmp 33) 24
    refine ⟨fun r wx hG hs hq hf => ?_, ?_⟩
    · have h7 : r 30 = .agg (bv rt).toArray := hf.1
      have h10 : r 33 = .agg (bv rt).toArray := hf.2.1
      have h6 : r 29 = .bool true := hf.2.2.1
      have hy : ydD [some 23, some 24, some 25, some 26, some 27, some 28, some 29, some 30, some 31, some 32, some 33, some 34, some 35, some 36, some 37, some 38, some 39, some 40, some 41, some 42, some 43, some 44, some 45, some 46, some 47, some 48, some 49, some 50, some 51, some 52, some 6] r 6 = some true := by show (match r 29 with | .bool b => some b | _ => none) = some true; rw [h6]
      simp only [Region.wanted, hy, beq_self_eq_true, if_true]
      clear hs hq hf hy
      unfold gives
      have hgd := eq_guard
      have he := HQR.out wx
      go_simp
      exact ⟨Below.refl _ _, rfl⟩
    -- operation 12: Op.pick (tmp 29) (tmp 34) (const (Value.bool false))
    refine ⟨fun r wx hG hs hq hf => ?_, ?_⟩
    · have h6 : r 29 = .bool true := hf.1
      have h11 : r 34 = .bool true := hf.2.1
      refine (if_pos rfl).symm ▸ ?_
      clear hs hq hf
      unfold gives
      go_simp
      exact ⟨Below.refl _ _, rfl⟩
    -- operation 13: Op.move (tmp 35)
    refine ⟨fun r wx hG hs hq hf => ?_, ?_⟩
    · have h12 : r 35 = .bool true := hf.1
      refine (if_pos rfl).symm ▸ ?_
      clear hs hq hf
      unfold gives
      go_simp
      exact ⟨Below.refl _ _, rfl⟩
    -- operation 14: Op.load 24 (tmp 9)
    refine ⟨fun r wx hG hs hq hf => ?_, ?_⟩
    · have e9 : r 9 = .pointer (some ⟨g9, 0, none⟩) := hs 9 rfl
      have h13 : r 36 = .bool true := hf.1
      have hy : ydD [some 23, some 24, some 25, some 26, some 27, some 28, some 29, some 30, some 31, some 32, some 33, some 34, some 35, some 36, some 37, some 38, some 39, some 40, some 41, some 42, some 43, some 44, some 45, some 46, some 47, some 48, some 49, some 50, some 51, some 52, some 6] r 13 = some true := by show (match r 36 with | .bool b => some b | _ => none) = some true; rw [h13]
      simp only [Region.wanted, hy, beq_self_eq_true, if_true]
      clear hs hq hf hy
      unfold gives
      refine gives_load_row 24 _ rfl g9 e9 24 _ (0, 0) _ ((hG.block _ (Array.getElem?_eq_some_iff.1 (HRW.out.2.2)).1).trans (HRW.out.2.2)) Tryd.underlying24 rfl (hInfo _ HLN.out.2.2) ⟨Below.refl _ _, rfl⟩
    -- operation 15: Op.load 24 (tmp 7)
    refine ⟨fun r wx hG hs hq hf => ?_, ?_⟩
    · have e7 : r 7 = .pointer (some ⟨g7, 0, none⟩) := hs 7 rfl
      have h13 : r 36 = .bool true := hf.1
      have hy : ydD [some 23, some 24, some 25, some 26, some 27, some 28, some 29, some 30, some 31, some 32, some 33, some 34, some 35, some 36, some 37, some 38, some 39, some 40, some 41, some 42, some 43, some 44, some 45, some 46, some 47, some 48, some 49, some 50, some 51, some 52, some 6] r 13 = some true := by show (match r 36 with | .bool b => some b | _ => none) = some true; rw [h13]
      simp only [Region.wanted, hy, beq_self_eq_true, if_true]
      clear hs hq hf hy
      unfold gives
      refine gives_load_row 24 _ rfl g7 e7 24 _ (0, 0) _ ((hG.block _ (Array.getElem?_eq_some_iff.1 (HRW.out.1)).1).trans (HRW.out.1)) Tryd.underlying24 rfl (hInfo _ HLN.out.1) ⟨Below.refl _ _, rfl⟩
    -- operation 16: Op.load 24 (tmp 8)
    refine ⟨fun r wx hG hs hq hf => ?_, ?_⟩
    · have e8 : r 8 = .pointer (some ⟨g8, 0, none⟩) := hs 8 rfl
      have h13 : r 36 = .bool true := hf.1
      have hy : ydD [some 23, some 24, some 25, some 26, some 27, some 28, some 29, some 30, some 31, some 32, some 33, some 34, some 35, some 36, some 37, some 38, some 39, some 40, some 41, some 42, some 43, some 44, some 45, some 46, some 47, some 48, some 49, some 50, some 51, some 52, some 6] r 13 = some true := by show (match r 36 with | .bool b => some b | _ => none) = some true; rw [h13]
      simp only [Region.wanted, hy, beq_self_eq_true, if_true]
      clear hs hq hf hy
      unfold gives
      refine gives_load_row 24 _ rfl g8 e8 24 _ (0, 0) _ ((hG.block _ (Array.getElem?_eq_some_iff.1 (HRW.out.2.1)).1).trans (HRW.out.2.1)) Tryd.underlying24 rfl (hInfo _ HLN.out.2.1) ⟨Below.refl _ _, rfl⟩
    -- operation 17: Op.call ( callee := Callee.value (func 14), args := #[const (Value.int IntKind.i64 256), tmp 38, tmp 39], argTypes := #[
    refine ⟨fun r wx hG hs hq hf => ?_, ?_⟩
    · have h15 : r 38 = .agg (bv xs).toArray := hf.1
      have h16 : r 39 = .agg (bv ys).toArray := hf.2.1
      have h13 : r 36 = .bool true := hf.2.2.1
      have hy : ydD [some 23, some 24, some 25, some 26, some 27, some 28, some 29, some 30, some 31, some 32, some 33, some 34, some 35, some 36, some 37, some 38, some 39, some 40, some 41, some 42, some 43, some 44, some 45, some 46, some 47, some 48, some 49, some 50, some 51, some 52, some 6] r 13 = some true := by show (match r 36 with | .bool b => some b | _ => none) = some true; rw [h13]
      simp only [Region.wanted, hy, beq_self_eq_true, if_true]
      clear hs hq hf hy
      unfold gives
      go_simp
      refine (HC17.out wx hG).mono ?_
      rintro e wy ⟨rfl, hb1⟩
      exact ⟨_, rfl, hb1, rfl⟩
    -- operation 18: Op.move (tmp 0)
    refine ⟨fun r wx hG hs hq hf => ?_, ?_⟩
    · have e0 : r 0 = .int .i64 n := hs 0 rfl
      have h13 : r 36 = .bool true := hf.1
      have hy : ydD [some 23, some 24, some 25, some 26, some 27, some 28, some 29, some 30, some 31, some 32, some 33, some 34, some 35, some 36, some 37, some 38, some 39, some 40, some 41, some 42, some 43, some 44, some 45, some 46, some 47, some 48, some 49, some 50, some 51, some 52, some 6] r 13 = some true := by show (match r 36 with | .bool b => some b | _ => none) = some true; rw [h13]
      simp only [Region.wanted, hy, beq_self_eq_true, if_true]
      clear hs hq hf hy
      unfold gives
      go_simp
      exact ⟨Below.refl _ _, rfl⟩
    -- operation 19: Op.call ( callee := Callee.value (func 19), args := #[tmp 40, tmp 41], argTypes := #[24, 3] )
    refine ⟨fun r wx hG hs hq hf => ?_, ?_⟩
    · have h17 : r 40 = .agg (bv wr0).toArray := hf.1
      have h18 : r 41 = .int .i64 n := hf.2.1
      have h13 : r 36 = .bool true := hf.2.2.2.1
      have hy : ydD [some 23, some 24, some 25, some 26, some 27, some 28, some 29, some 30, some 31, some 32, some 33, some 34, some 35, some 36, some 37, some 38, some 39, some 40, some 41, some 42, some 43, some 44, some 45, some 46, some 47, some 48, some 49, some 50, some 51, some 52, some 6] r 13 = some true := by show (match r 36 with | .bool b => some b | _ => none) = some true; rw [h13]
      simp only [Region.wanted, hy, beq_self_eq_true, if_true]
      clear hs hq hf hy
      unfold gives
      go_simp
      refine (HC19.out wx hG).mono ?_
      rintro e wy ⟨rfl, hb1⟩
      exact ⟨_, rfl, hb1, rfl⟩
    -- operation 20: Op.binOp BinOp.eql 24 (tmp 37) (tmp 42) 24
    refine ⟨fun r wx hG hs hq hf => ?_, ?_⟩
    · have h14 : r 37 = .agg (bv rt).toArray := hf.1
      have h19 : r 42 = .agg (bv rt).toArray := hf.2.1
      have h13 : r 36 = .bool true := hf.2.2.1
      have hy : ydD [some 23, some 24, some 25, some 26, some 27, some 28, some 29, some 30, some 31, some 32, some 33, some 34, some 35, some 36, some 37, some 38, some 39, some 40, some 41, some 42, some 43, some 44, some 45, some 46, some 47, some 48, some 49, some 50, some 51, some 52, some 6] r 13 = some true := by show (match r 36 with | .bool b => some b | _ => none) = some true; rw [h13]
      simp only [Region.wanted, hy, beq_self_eq_true, if_true]
      clear hs hq hf hy
      unfold gives
      have hgd := eq_guard
      have he := HQR.out wx
      go_simp
      exact ⟨Below.refl _ _, rfl⟩
    -- operation 21: Op.pick (tmp 36) (tmp 43) (const (Value.bool false))
    refine ⟨fun r wx hG hs hq hf => ?_, ?_⟩
    · have h13 : r 36 = .bool true := hf.1
      have h20 : r 43 = .bool true := hf.2.1
      refine (if_pos rfl).symm ▸ ?_
      clear hs hq hf
      unfold gives
      go_simp
      exact ⟨Below.refl _ _, rfl⟩
    -- operation 22: Op.move (tmp 44)
    refine ⟨fun r wx hG hs hq hf => ?_, ?_⟩
    · have h21 : r 44 = .bool true := hf.1
      refine (if_pos rfl).symm ▸ ?_
      clear hs hq hf
      unfold gives
      go_simp
      exact ⟨Below.refl _ _, rfl⟩
    -- operation 23: Op.move (tmp 0)
    refine ⟨fun r wx hG hs hq hf => ?_, ?_⟩
    · have e0 : r 0 = .int .i64 n := hs 0 rfl
      have h22 : r 45 = .bool true := hf.1
      have hy : ydD [some 23, some 24, some 25, some 26, some 27, some 28, some 29, some 30, some 31, some 32, some 33, some 34, some 35, some 36, some 37, some 38, some 39, some 40, some 41, some 42, some 43, some 44, some 45, some 46, some 47, some 48, some 49, some 50, some 51, some 52, some 6] r 22 = some true := by show (match r 45 with | .bool b => some b | _ => none) = some true; rw [h22]
      simp only [Region.wanted, hy, beq_self_eq_true, if_true]
      clear hs hq hf hy
      unfold gives
      go_simp
      exact ⟨Below.refl _ _, rfl⟩
    -- operation 24: Op.call ( callee := Callee.value (func 10), args := #[tmp 46], argTypes := #[3] )
    refine ⟨fun r wx hG hs hq hf => ?_, ?_⟩
    · have h23 : r 46 = .int .i64 n := hf.1
      have h22 : r 45 = .bool true := hf.2.1
      have hy : ydD [some 23, some 24, some 25, some 26, some 27, some 28, some 29, some 30, some 31, some 32, some 33, some 34, some 35, some 36, some 37, some 38, some 39, some 40, some 41, some 42, some 43, some 44, some 45, some 46, some 47, some 48, some 49, some 50, some 51, some 52, some 6] r 22 = some true := by show (match r 45 with | .bool b => some b | _ => none) = some true; rw [h22]
      simp only [Region.wanted, hy, beq_self_eq_true, if_true]
      clear hs hq hf hy
      unfold gives
      go_simp
      refine (HC24.out wx hG).mono ?_
      rintro e wy ⟨rfl, hb1⟩
      exact ⟨_, rfl, hb1, rfl⟩
    -- operation 25: Op.call ( callee := Callee.value (func 10), args := #[const (Value.int IntKind.i64 999)], argTypes := #[3] )
    refine ⟨fun r wx hG hs hq hf => ?_, ?_⟩
    · have h22 : r 45 = .bool true := hf.2.1
      have hy : ydD [some 23, some 24, some 25, some 26, some 27, some 28, some 29, some 30, some 31, some 32, some 33, some 34, some 35, some 36, some 37, some 38, some 39, some 40, some 41, some 42, some 43, some 44, some 45, some 46, some 47, some 48, some 49, some 50, some 51, some 52, some 6] r 22 = some true := by show (match r 45 with | .bool b => some b | _ => none) = some true; rw [h22]
      simp only [Region.wanted, hy, beq_self_eq_true, if_true]
      clear hs hq hf hy
      unfold gives
      go_simp
      refine (HC25.out wx hG).mono ?_
      rintro e wy ⟨rfl, hb1⟩
      exact ⟨_, rfl, hb1, rfl⟩
    -- operation 26: Op.move (tmp 0)
    refine ⟨fun r wx hG hs hq hf => ?_, ?_⟩
    · have e0 : r 0 = .int .i64 n := hs 0 rfl
      have h22 : r 45 = .bool true := hf.1
      have hy : ydD [some 23, some 24, some 25, some 26, some 27, some 28, some 29, some 30, some 31, some 32, some 33, some 34, some 35, some 36, some 37, some 38, some 39, some 40, some 41, some 42, some 43, some 44, some 45, some 46, some 47, some 48, some 49, some 50, some 51, some 52, some 6] r 22 = some true := by show (match r 45 with | .bool b => some b | _ => none) = some true; rw [h22]
      simp only [Region.wanted, hy, beq_self_eq_true, if_true]
      clear hs hq hf hy
      unfold gives
      go_simp
      exact ⟨Below.refl _ _, rfl⟩
    -- operation 27: Op.call ( callee := Callee.value (func 19), args := #[tmp 48, tmp 49], argTypes := #[24, 3] )
    refine ⟨fun r wx hG hs hq hf => ?_, ?_⟩
    · have h25 : r 48 = .agg (bv we).toArray := hf.1
      have h26 : r 49 = .int .i64 n := hf.2.1
      have h22 : r 45 = .bool true := hf.2.2.2.1
      have hy : ydD [some 23, some 24, some 25, some 26, some 27, some 28, some 29, some 30, some 31, some 32, some 33, some 34, some 35, some 36, some 37, some 38, some 39, some 40, some 41, some 42, some 43, some 44, some 45, some 46, some 47, some 48, some 49, some 50, some 51, some 52, some 6] r 22 = some true := by show (match r 45 with | .bool b => some b | _ => none) = some true; rw [h22]
      simp only [Region.wanted, hy, beq_self_eq_true, if_true]
      clear hs hq hf hy
      unfold gives
      go_simp
      refine (HC27.out wx hG).mono ?_
      rintro e wy ⟨rfl, hb1⟩
      exact ⟨_, rfl, hb1, rfl⟩
    -- operation 28: Op.binOp BinOp.eql 24 (tmp 47) (tmp 50) 24
    refine ⟨fun r wx hG hs hq hf => ?_, ?_⟩
    · have h24 : r 47 = .agg (bv ee).toArray := hf.1
      have h27 : r 50 = .agg (bv ee).toArray := hf.2.1
      have h22 : r 45 = .bool true := hf.2.2.1
      have hy : ydD [some 23, some 24, some 25, some 26, some 27, some 28, some 29, some 30, some 31, some 32, some 33, some 34, some 35, some 36, some 37, some 38, some 39, some 40, some 41, some 42, some 43, some 44, some 45, some 46, some 47, some 48, some 49, some 50, some 51, some 52, some 6] r 22 = some true := by show (match r 45 with | .bool b => some b | _ => none) = some true; rw [h22]
      simp only [Region.wanted, hy, beq_self_eq_true, if_true]
      clear hs hq hf hy
      unfold gives
      have hgd := eq_guard
      have he := HQE.out wx
      go_simp
      exact ⟨Below.refl _ _, rfl⟩
    -- operation 29: Op.pick (tmp 45) (tmp 51) (const (Value.bool false))
    refine ⟨fun r wx hG hs hq hf => ?_, ?_⟩
    · have h22 : r 45 = .bool true := hf.1
      have h28 : r 51 = .bool true := hf.2.1
      refine (if_pos rfl).symm ▸ ?_
      clear hs hq hf
      unfold gives
      go_simp
      exact ⟨Below.refl _ _, rfl⟩
    -- operation 30: Op.assign (tmp 52)
    refine ⟨fun r wx hG hs hq hf => ?_, ?_⟩
    · have h29 : r 52 = .bool true := hf.1
      refine (if_pos rfl).symm ▸ ?_
      clear hs hq hf
      unfold gives
      go_simp
      exact ⟨Below.refl _ _, rfl⟩
    exact trivial
  case hend =>
    intro u wz hG hfin
    have z30 : u 30 = .bool true := hfin 30 (by decide) (by kernel_rfl)
    clear hfin
    simp only [fill]
    go_simp
    go_wp2_with fail
    go_ret
    exact ⟨by simp, HBW.out.trans (hG.mono HBW.out.size)⟩

end Go.Proofs.YtaljjnncljbbfaaDoor
