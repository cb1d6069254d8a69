/- Leaves and nodes: plain words; the hashes of a zero byte and of nothing. · Contracts of leaf.Empty, Leaf and the reference's. (printed by gen/leaf1.py) · Contract of leaf.Leaf. -/
import Derived.Test.YtfibhmgjkooemaaDoorShaO
import Derived.Test.YtfibhmgjkooemaaDoorShaT
import Derived.Test.YtfibhmgjkooemaaDoorReg
import Derived.Test.YtfibhmgjkooemaaDoorTw
import Derived.Stop.BytesEq
namespace Go.Proofs.YtfibhmgjkooemaaDoor
open Go.RowKit Sha

/-- The hash of a text, n wide. -/
def hw (n : Int) (t : List UInt8) : List UInt8 := nar (Sha.sum t) (clip n)
theorem hw_length (n : Int) (t : List UInt8) : (hw n t).length = 32 := nar_length _ _
/-- A leaf; a node; nothing. -/
def leafH (n : Int) (l : List UInt8) : List UInt8 := hw n (0 :: l)
def nodeH (n : Int) (l r : List UInt8) : List UInt8 := hw n (1 :: (l ++ r))
def emptyH (n : Int) : List UInt8 := hw n []
theorem leafH_length (n : Int) (l : List UInt8) : (leafH n l).length = 32 := hw_length _ _
theorem nodeH_length (n : Int) (l r : List UInt8) : (nodeH n l r).length = 32 := hw_length _ _
theorem emptyH_length (n : Int) : (emptyH n).length = 32 := hw_length _ _

theorem wide (t : List UInt8) : hw 256 t = Sha.sum t := by
  unfold hw
  rw [show clip 256 = 256 from rfl, nar_all _ (sum_length t)]

theorem wpList_guard {P : Program} {ops : Array Oper} {rest : List Oper} {o : Oper} {a : Act} {w : World} {Q : Exit → Act → World → Prop} (hg : Region.wanted o (yielded ops a.tmps) = true)
    (h : wpList P ops Q ({ o with guard := none } :: rest) a w) : wpList P ops Q (o :: rest) a w := by
  unfold wpList at h ⊢
  rw [if_pos hg]
  exact h
set_option maxRecDepth 100000 in
/-- Two hashes are compared. -/
theorem eqIn_hash (xs ys : List UInt8) (hx : xs.length = 32) (hy : ys.length = 32) (w : World) :
    (Op.equalIn 10000 35 (.agg (bv xs).toArray) (.agg (bv ys).toArray)).run Tryd.prog w = .ok (xs == ys) w :=
  run_equalIn_bytes (P := Tryd.prog) w 9998 35 5 32 Tryd.underlying35 Tryd.underlying5 (fun _ => rfl) xs ys hx hy
theorem eq_guard : Tryd.prog.eqGuardType Tryd.prog.depth 35 = false := by kernel_rfl
theorem gives_store_row {P : Program} {r : Nat → Value} {o : Oper} {w : World} {R : Value → World → Prop} (ty : TypeId) (x y : Operand) (ho : o.op = .store ty x y)
    (g : Nat) (cs : List Value) (hx : rd r x = .pointer (some ⟨g, 0, none⟩)) (hy : rd r y = .agg cs.toArray)
    (cur : List Value) (t : TypeId) (hg : w.heap[g]? = some (.cells cur.toArray t (0, 0))) (hi : (P.info? ty).map (·.size) = some cs.length) (hfit : cs.length = cur.length) (h1 : ∀ v ∈ cs, v.oneCell' = true)
    (h : ∀ w', w'.heap[g]? = some (.cells cs.toArray t (0, 0)) → w.grownBy w' (some g) → R undef w') : gives P r o w R := by
  have hst := run_storeCells_at P g 0 t cs 0 cur.toArray w hg (by simp [hfit]) h1
  have hrun : (storeVar ty ⟨g, 0, none⟩ (.agg cs.toArray)).run P w = .ok () (w.setRow g cs.toArray) := by
    cases hq : P.info? ty with
    | none => simp [hq] at hi
    | some i =>
      have hs : cs.length = i.size := by simp [hq] at hi; omega
      have e : (cur.toArray.toList.take (0 + 0) ++ cs ++ cur.toArray.toList.drop (0 + 0 + cs.length)).toArray = cs.toArray := by simp [hfit]
      rw [e] at hst
      simp [storeVar, sizeOf, typeInfo, hq, Value.cells, hs, hst]
  unfold gives execOp
  simp only [ho, hx, hy, Instr.storeAt, Instr.sureAddr, Sem.run_bind, Sem.run_pure, Result.andThen_ok, hrun]
  exact h _ (setRow_heap w g _ _ t _ hg) (grown_setRow w g _)

theorem gives_load_row {P : Program} {r : Nat → Value} {o : Oper} {w : World} {R : Value → World → Prop} (ty : TypeId) (x : Operand) (ho : o.op = .load ty x)
    (g : Nat) (hx : rd r x = .pointer (some ⟨g, 0, none⟩)) (t : TypeId) (cs : Array Value) (fr : Nat × Nat) (d : TypeDesc) (hg : w.heap[g]? = some (.cells cs t fr))
    (hu : P.underlying ty = some d) (hd : (match d with | .struct _ | .array _ _ => true | _ => false) = true) (hi : (P.info? ty).map (·.size) = some cs.size)
    (h : R (.agg cs) w) : gives P r o w R := by
  unfold gives execOp
  simp only [ho, hx, Instr.loadAt, Instr.sureAddr, Sem.run_bind, Sem.run_pure, Result.andThen_ok, run_loadVar_row w g t ty cs fr d hg hu hd hi]
  exact h

theorem rd_row {w : World} {g n : Nat} {l : List UInt8} {T : TypeId} (h : w.heap[g]? = some (.cells (bv l).toArray T (0, 0))) (hn : l.length = n) : Rd w 1 (.slice (some ⟨g, 0, none⟩) n n) l.length (bv l) := by
  subst hn
  refine ⟨by rw [bv_length]; omega, bv_one _, .inr ⟨_, _, rfl, Nat.le_refl _, fun j u hu => ?_⟩⟩
  rw [Addr.add_lit, Nat.zero_add, cell_of_row _ _ _ _ _ _ h]
  simpa using hu
end Go.Proofs.YtfibhmgjkooemaaDoor
namespace Go.Proofs.YtfibhmgjkooemaaDoor
open Go.RowKit Sha

set_option maxHeartbeats 4000000 in
set_option maxRecDepth 100000 in
theorem Empty_any (n : Int) (w : World) (hn : -9223372036854775808 ≤ n ∧ n ≤ 9223372036854775807) (hG : Tabs w) :
    Calls Tryd.prog 60 #[.int .i64 n] w fun e w' => e = .returned (.agg (bv (emptyH n)).toArray) ∧ Below w.heap.size w w' := by
  have hz := (zero_of_info info32).1
  have hol : (emptyH n).length = 32 := emptyH_length n
  have H0 := Lib.hid (fun w' (hb : Below w.heap.size w w') => shaSum_any [] (.slice none 0 0) w' (by simp) (Rd.nil _ _) (hG.keepB hb))
  have H1 := Lib.hid (fun w' => Narrow_any (Sha.sum []) n w' (sum_length []) hn)
  rw [show nar (Sha.sum []) (clip n) = emptyH n from rfl] at H1
  generalize emptyH n = out at *
  generalize Sha.sum [] = s0 at *
  go_enter Tryd.func60, Tryd.ntmps60
  go_upto_region 1 with fail
  obtain ⟨w0, hw0⟩ : ∃ x : World, x = w.alloc (.cells (bv (zs 32)).toArray 35) := ⟨_, rfl⟩
  have hres0 : w0.heap[w.heap.size]? = some (.cells (bv (zs 32)).toArray 35 (0, 0)) := by rw [hw0]; exact heap_alloc_new _ _
  have hbw0 : Below w.heap.size w w0 := by rw [hw0]; exact (Below.refl _ _).alloc (Nat.le_refl _) _
  rw [← hw0]
  clear hw0
  have HX0 := Lib.hid (And.intro hres0 hbw0)
  clear hres0 hbw0
  go_wp2_with fail
  have hres0 := HX0.out.1
  have hbw0 := HX0.out.2
  refine (H0.out _ hbw0).mono ?_
  rintro e w1 ⟨rfl, hb1⟩
  have hres1 : w1.heap[w.heap.size]? = some (.cells (bv (zs 32)).toArray 35 (0, 0)) := (hb1.block _ (Array.getElem?_eq_some_iff.1 hres0).1).trans hres0
  have hbw1 := hbw0.trans (hb1.mono hbw0.size)
  clear hb1 hres0 hbw0 HX0
  have HX1 := Lib.hid (And.intro hres1 hbw1)
  clear hres1 hbw1
  go_wp2_with fail
  have hres1 := HX1.out.1
  have hbw1 := HX1.out.2
  refine (H1.out _).mono ?_
  rintro e w2 ⟨rfl, hb2⟩
  have hres2 : w2.heap[w.heap.size]? = some (.cells (bv (zs 32)).toArray 35 (0, 0)) := (hb2.block _ (Array.getElem?_eq_some_iff.1 hres1).1).trans hres1
  have hbw2 := hbw1.trans (hb2.mono hbw1.size)
  clear hb2 hres1 hbw1 HX1
  have HX := Lib.hid (And.intro hres2 (And.intro hbw2 hol))
  clear hres2 hbw2 hol
  go_wp2_with (with_reducible show wpList _ _ _ (⟨none, Op.store _ _ _, _, _, _, _⟩ :: _) _ _; refine wpList_store_whole rfl _ _ _ rfl w.heap.size _ rfl rfl _ _ HX.out.1 (hInfo' _ HX.out.2.2) (by rw [bv_length, bv_length, HX.out.2.2]; simp [zs]) (bv_one _) ?_; intro w9 HG9 hg9)
  refine bodyPost_ret (v := .agg (bv out).toArray) ?_ ?_ ?_
  · exact results_cell_row Tryd.results60 _ _ w.heap.size 35 _ (0, 0) _ rfl HG9.out Tryd.underlying35 rfl (hInfo _ HX.out.2.2)
  · rfl
  · exact ⟨rfl, below_grow HX.out.2.1 hg9 (Nat.le_refl _) (Array.getElem?_eq_some_iff.1 HX.out.1).1⟩

set_option maxHeartbeats 4000000 in
set_option maxRecDepth 100000 in
theorem refHash_any (n : Int) (t : List UInt8) (v : Value) (w : World) (hn : -9223372036854775808 ≤ n ∧ n ≤ 9223372036854775807) (hl : t.length ≤ 140737488355000) (hr : Rd w 1 v t.length (bv t)) (hG : TabsR w) :
    Calls Tryd.prog 70 #[.int .i64 n, v] w fun e w' => e = .returned (.agg (bv (hw n t)).toArray) ∧ Below w.heap.size w w' := by
  have hz := (zero_of_info info32).1
  have hol : (hw n t).length = 32 := hw_length n t
  obtain ⟨a, c, rfl⟩ := hr.form
  have H0 := Lib.hid (fun w' (hb : Below w.heap.size w w') => refSumSha_any t _ w' hl (hr.keep hb) (hG.keepB hb))
  have H1 := Lib.hid (fun w' => refNarrow_any (Sha.sum t) n w' (sum_length t) hn)
  rw [show nar (Sha.sum t) (clip n) = hw n t from rfl] at H1
  generalize hw n t = out at *
  generalize Sha.sum t = s0 at *
  clear hr
  go_enter Tryd.func70, Tryd.ntmps70
  go_upto_region 1 with fail
  obtain ⟨w0, hw0⟩ : ∃ x : World, x = w.alloc (.cells (bv (zs 32)).toArray 35) := ⟨_, rfl⟩
  have hres0 : w0.heap[w.heap.size]? = some (.cells (bv (zs 32)).toArray 35 (0, 0)) := by rw [hw0]; exact heap_alloc_new _ _
  have hbw0 : Below w.heap.size w w0 := by rw [hw0]; exact (Below.refl _ _).alloc (Nat.le_refl _) _
  rw [← hw0]
  clear hw0
  have HX0 := Lib.hid (And.intro hres0 hbw0)
  clear hres0 hbw0
  go_wp2_with fail
  have hres0 := HX0.out.1
  have hbw0 := HX0.out.2
  refine (H0.out _ hbw0).mono ?_
  rintro e w1 ⟨rfl, hb1⟩
  have hres1 : w1.heap[w.heap.size]? = some (.cells (bv (zs 32)).toArray 35 (0, 0)) := (hb1.block _ (Array.getElem?_eq_some_iff.1 hres0).1).trans hres0
  have hbw1 := hbw0.trans (hb1.mono hbw0.size)
  clear hb1 hres0 hbw0 HX0
  have HX1 := Lib.hid (And.intro hres1 hbw1)
  clear hres1 hbw1
  go_wp2_with fail
  have hres1 := HX1.out.1
  have hbw1 := HX1.out.2
  refine (H1.out _).mono ?_
  rintro e w2 ⟨rfl, hb2⟩
  have hres2 : w2.heap[w.heap.size]? = some (.cells (bv (zs 32)).toArray 35 (0, 0)) := (hb2.block _ (Array.getElem?_eq_some_iff.1 hres1).1).trans hres1
  have hbw2 := hbw1.trans (hb2.mono hbw1.size)
  clear hb2 hres1 hbw1 HX1
  have HX := Lib.hid (And.intro hres2 (And.intro hbw2 hol))
  clear hres2 hbw2 hol
  go_wp2_with (with_reducible show wpList _ _ _ (⟨none, Op.store _ _ _, _, _, _, _⟩ :: _) _ _; refine wpList_store_whole rfl _ _ _ rfl w.heap.size _ rfl rfl _ _ HX.out.1 (hInfo' _ HX.out.2.2) (by rw [bv_length, bv_length, HX.out.2.2]; simp [zs]) (bv_one _) ?_; intro w9 HG9 hg9)
  refine bodyPost_ret (v := .agg (bv out).toArray) ?_ ?_ ?_
  · exact results_cell_row Tryd.results70 _ _ w.heap.size 35 _ (0, 0) _ rfl HG9.out Tryd.underlying35 rfl (hInfo _ HX.out.2.2)
  · rfl
  · exact ⟨rfl, below_grow HX.out.2.1 hg9 (Nat.le_refl _) (Array.getElem?_eq_some_iff.1 HX.out.1).1⟩

theorem infoU8w : (Tryd.prog.info? 5).map (fun i => (i.zero, i.size, i.bytes)) = some (some (.int .u8 0), 1, 1) := by kernel_rfl
/-- What each operation hands on. -/
def nodeF (z0 s1 s2 s3 so : Array Value) (out : List UInt8) (g : Nat) (n : Int) : Nat → Value → World → Prop
  | 0, v, _ => v = .agg z0
  | 1, v, w => Rd w 1 v 1 (bv [1])
  | 2, v, _ => v = .agg s1
  | 3, v, _ => v = .slice (some ⟨g, 0, none⟩) 32 32
  | 4, v, _ => v = .agg s2
  | 5, v, _ => v = .slice (some ⟨g + 1, 0, none⟩) 32 32
  | 6, v, _ => v = .agg s3
  | 7, v, _ => v = .agg so
  | 8, v, _ => v = .int .i64 n
  | 9, v, _ => v = .agg (bv out).toArray
  | 10, _, w => w.heap[g + 1 + 1]? = some (.cells (bv out).toArray 35 (0, 0))
  | _, _, _ => True
set_option maxHeartbeats 4000000 in
set_option maxRecDepth 100000 in
theorem Node_any (n : Int) (l r : List UInt8) (w : World) (hl : l.length = 32) (hr : r.length = 32) (hn : -9223372036854775808 ≤ n ∧ n ≤ 9223372036854775807) (hT : Tabs w) :
    Calls Tryd.prog 45 #[.int .i64 n, .agg (bv l).toArray, .agg (bv r).toArray] w fun e w' => e = .returned (.agg (bv (nodeH n l r)).toArray) ∧ Below w.heap.size w w' := by
  have hz := (zero_of_info info32).1
  have hzs := (zero_of_info infoSt).1
  have hol : (nodeH n l r).length = 32 := nodeH_length n l r
  obtain ⟨g, hg⟩ : ∃ g, g = w.heap.size := ⟨_, rfl⟩
  obtain ⟨w0, hw0⟩ : ∃ x : World, x = ((w.alloc (.cells (bv l).toArray 35)).alloc (.cells (bv r).toArray 35)).alloc (.cells (bv (zs 32)).toArray 35) := ⟨_, rfl⟩
  have hgs : g + 1 + 1 ≤ w0.heap.size := by rw [hw0, hg]; simp
  have hrow0 : w0.heap[g + 1 + 1]? = some (.cells (bv (zs 32)).toArray 35 (0, 0)) := by
    rw [hw0, hg]
    have := heap_alloc_new ((w.alloc (.cells (bv l).toArray 35)).alloc (.cells (bv r).toArray 35)) (.cells (bv (zs 32)).toArray 35)
    simpa using this
  have hrow1 : w0.heap[g]? = some (.cells (bv l).toArray 35 (0, 0)) := by
    rw [hw0, hg, heap_alloc_old _ _ (by simp; omega), heap_alloc_old _ _ (by simp)]
    exact heap_alloc_new _ _
  have hrow2 : w0.heap[g + 1]? = some (.cells (bv r).toArray 35 (0, 0)) := by
    rw [hw0, hg, heap_alloc_old _ _ (by simp)]
    have := heap_alloc_new (w.alloc (.cells (bv l).toArray 35)) (.cells (bv r).toArray 35)
    simpa using this
  have hbw0 : Below w.heap.size w w0 := by rw [hw0]; exact (((Below.refl _ _).alloc (Nat.le_refl _) _).alloc (by simp) _).alloc (by simp; omega) _
  have hg3 : max 0 4 + 1 ≤ g := by rw [hg]; exact hT.size
  have hTx : ∀ wx, Below (g + 1 + 1) w0 wx → Tabs wx := fun wx h => (hT.keepB hbw0).keep (r := some (g + 1 + 1)) ⟨h.os, h.tape, h.output, h.size, fun k hk hne => by
    by_cases e : k < g + 1 + 1
    · exact h.block k e
    · exfalso
      have : w0.heap.size = g + 1 + 1 + 1 := by rw [hw0, hg]; simp
      have : k = g + 1 + 1 := by omega
      exact hne (by rw [this])⟩ (fun q hq => by simp at hq; omega)
  have H0 := Lib.hid (fun (v' : Value) w' (h1 : Rd w' 1 v' 1 (bv [1])) (hb : Below (g + 1 + 1) w0 w') => Write_any [] [1] v' w' (by simp) h1 (hTx w' hb))
  have H1 := Lib.hid (fun w' (hb : Below (g + 1 + 1) w0 w') => Write_any [1] l (.slice (some ⟨g, 0, none⟩) 32 32) w' (by simp; omega) (rd_row ((hb.block g (by omega)).trans hrow1) hl) (hTx w' hb))
  have H2 := Lib.hid (fun w' (hb : Below (g + 1 + 1) w0 w') => Write_any ([1] ++ l) r (.slice (some ⟨g + 1, 0, none⟩) 32 32) w' (by simp; omega) (rd_row ((hb.block (g + 1) (by omega)).trans hrow2) hr) (hTx w' hb))
  have H3 := Lib.hid (fun w' (hb : Below (g + 1 + 1) w0 w') => StSum_any ([1] ++ l ++ r) w' (by simp; omega) (hTx w' hb))
  have H4 := Lib.hid (fun w' => Narrow_any (Sha.sum ([1] ++ l ++ r)) n w' (sum_length _) hn)
  rw [← stv_nil, List.nil_append] at H0
  rw [show nar (Sha.sum ([1] ++ l ++ r)) (clip n) = nodeH n l r from rfl] at H4
  have HW0 := Lib.hid (show Below g w w0 by rw [hg]; exact hbw0)
  have HOL := Lib.hid hol
  obtain ⟨z0, hz0⟩ : ∃ z0, z0 = (rowL begin0 (zs 64) 0).toArray := ⟨_, rfl⟩
  rw [← hz0] at hzs H0
  generalize nodeH n l r = out at *
  generalize Sha.sum ([1] ++ l ++ r) = so' at *
  obtain ⟨so, hso⟩ : ∃ so, so = (bv so').toArray := ⟨_, rfl⟩
  rw [← hso] at H3 H4
  generalize stv ([1] ++ l ++ r) = s3 at *
  generalize stv ([1] ++ l) = s2 at *
  generalize stv [1] = s1 at *
  clear hz0 hso hol hbw0 hTx hrow1 hrow2
  have HW1 := Lib.hid hw0
  have HG1 := Lib.hid hg
  clear hw0
  go_enter Tryd.func45, Tryd.ntmps45
  go_upto_region 1 with fail
  rw [← hg, show ((w.alloc (.cells (bv l).toArray 35)).alloc (.cells (bv r).toArray 35)).alloc (.cells (bv (zs 32)).toArray 35) = w0 from HW1.out.symm]
  clear hg
  refine wp_region_until [some 7, some 8, some 9, some 10, some 11, some 12, some 13, some 14, some 15, some 16, none] [] 10 (fun wx => wx.heap[g + 1 + 1]? = some (.cells (bv (zs 32)).toArray 35 (0, 0))) [0, 1, 2, 3, 4, 5, 6, 7, 8, 9, 10] (nodeF z0 s1 s2 s3 so out g n) (kOne 10 (g + 1 + 1)) (fun wx => Below (g + 1 + 1) w0 wx) (by kernel_rfl) (by kernel_rfl) rfl (by kernel_rfl) (by kernel_rfl) (Below.refl _ _).drew hrow0 ((fun _ hj _ _ k h => ((kOne_below hj k).block _ (Array.getElem?_eq_some_iff.1 h).1).trans h)) (fun _ _ => kOne_refl _ _ _ _) (fun _ _ _ h k => h.trans (kOne_base (Nat.le_trans hgs h.size) k)) ?hF ?hstep ?hend
  case hF =>
    exact ⟨fun _ _ _ _ _ _ h => h, ⟨fun j hg _ _ _ k h => Rd.keep h (kOne_below (fun e => by subst e; exact absurd hg (by rw [show goneB _ 1 10 = true by kernel_rfl]; simp)) k), ⟨fun _ _ _ _ _ _ h => h, ⟨fun _ _ _ _ _ _ h => h, ⟨fun _ _ _ _ _ _ h => h, ⟨fun _ _ _ _ _ _ h => h, ⟨fun _ _ _ _ _ _ h => h, ⟨fun _ _ _ _ _ _ h => h, ⟨fun _ _ _ _ _ _ h => h, ⟨fun _ _ _ _ _ _ h => h, ⟨fun j hg _ _ _ k h => ((kOne_below (fun e => by subst e; exact absurd hg (by rw [show goneB _ 10 10 = true by kernel_rfl]; simp)) k).block _ (Array.getElem?_eq_some_iff.1 h).1).trans h, trivial⟩⟩⟩⟩⟩⟩⟩⟩⟩⟩⟩
  case hstep =>
    refine ⟨fun r wx hG hs hq hf => ?_, ?_⟩
    · have hQ := hq rfl
      refine (if_pos rfl).symm ▸ ?_
      clear hs hq hf
      unfold gives
      have hzq := hzs
      go_simp
      exact ⟨kOne_refl _ _ _ _, rfl⟩
    refine ⟨fun r wx hG hs hq hf => ?_, ?_⟩
    · have hQ := hq rfl
      refine (if_pos rfl).symm ▸ ?_
      clear hs hq hf
      unfold gives
      go_simp
      exact ⟨kOne_of rfl ((Below.refl _ _).alloc (Nat.le_refl _) _), Rd.one _ _ _ rfl⟩
    refine ⟨fun r wx hG hs hq hf => ?_, ?_⟩
    · have hQ := hq rfl
      have h0 : r 7 = .agg z0 := hf.1
      have h1 : Rd wx 1 (r 8) 1 (bv [1]) := hf.2.1
      refine (if_pos rfl).symm ▸ ?_
      clear hs hq hf
      unfold gives
      go_simp
      refine (H0.out _ _ h1 hG).mono ?_
      rintro e wy ⟨rfl, hb1⟩
      exact ⟨_, rfl, kOne_of rfl hb1, rfl⟩
    refine ⟨fun r wx hG hs hq hf => ?_, ?_⟩
    · have hQ := hq rfl
      have e4 : r 4 = .pointer (some ⟨g, 0, none⟩) := hs 4 rfl
      refine (if_pos rfl).symm ▸ ?_
      clear hs hq hf
      unfold gives
      go_simp
      exact ⟨kOne_refl _ _ _ _, rfl⟩
    refine ⟨fun r wx hG hs hq hf => ?_, ?_⟩
    · have hQ := hq rfl
      have h2 : r 9 = .agg s1 := hf.1
      have h3 : r 10 = .slice (some ⟨g, 0, none⟩) 32 32 := hf.2.1
      refine (if_pos rfl).symm ▸ ?_
      clear hs hq hf
      unfold gives
      go_simp
      refine (H1.out wx hG).mono ?_
      rintro e wy ⟨rfl, hb1⟩
      exact ⟨_, rfl, kOne_of rfl hb1, rfl⟩
    refine ⟨fun r wx hG hs hq hf => ?_, ?_⟩
    · have hQ := hq rfl
      have e5 : r 5 = .pointer (some ⟨g + 1, 0, none⟩) := hs 5 rfl
      refine (if_pos rfl).symm ▸ ?_
      clear hs hq hf
      unfold gives
      go_simp
      exact ⟨kOne_refl _ _ _ _, rfl⟩
    refine ⟨fun r wx hG hs hq hf => ?_, ?_⟩
    · have hQ := hq rfl
      have h4 : r 11 = .agg s2 := hf.1
      have h5 : r 12 = .slice (some ⟨g + 1, 0, none⟩) 32 32 := hf.2.1
      refine (if_pos rfl).symm ▸ ?_
      clear hs hq hf
      unfold gives
      go_simp
      refine (H2.out wx hG).mono ?_
      rintro e wy ⟨rfl, hb1⟩
      exact ⟨_, rfl, kOne_of rfl hb1, rfl⟩
    refine ⟨fun r wx hG hs hq hf => ?_, ?_⟩
    · have hQ := hq rfl
      have h6 : r 13 = .agg s3 := hf.1
      refine (if_pos rfl).symm ▸ ?_
      clear hs hq hf
      unfold gives
      go_simp
      refine (H3.out wx hG).mono ?_
      rintro e wy ⟨rfl, hb1⟩
      exact ⟨_, rfl, kOne_of rfl hb1, rfl⟩
    refine ⟨fun r wx hG hs hq hf => ?_, ?_⟩
    · have hQ := hq rfl
      have e0 : r 0 = .int .i64 n := hs 0 rfl
      refine (if_pos rfl).symm ▸ ?_
      clear hs hq hf
      unfold gives
      go_simp
      exact ⟨kOne_refl _ _ _ _, rfl⟩
    refine ⟨fun r wx hG hs hq hf => ?_, ?_⟩
    · have hQ := hq rfl
      have h7 : r 14 = .agg so := hf.1
      have h8 : r 15 = .int .i64 n := hf.2.1
      refine (if_pos rfl).symm ▸ ?_
      clear hs hq hf
      unfold gives
      go_simp
      refine (H4.out wx).mono ?_
      rintro e wy ⟨rfl, hb1⟩
      exact ⟨_, rfl, kOne_of rfl hb1, rfl⟩
    refine ⟨fun r wx hG hs hq hf => ?_, ?_⟩
    · have hQ := hq rfl
      have e6 : r 6 = .pointer (some ⟨g + 1 + 1, 0, none⟩) := hs 6 rfl
      have h9 : r 16 = .agg (bv out).toArray := hf.1
      refine (if_pos rfl).symm ▸ ?_
      clear hs hq hf
      unfold gives
      refine gives_store_row 35 _ _ rfl (g + 1 + 1) (bv out) e6 h9 (bv (zs 32)) 35 hQ (hInfo' _ HOL.out) (by rw [bv_length, bv_length, HOL.out]; simp [zs]) (bv_one _) ?_
      intro wy h1 h2
      exact ⟨kOne_at (below_grow (Below.refl _ _) h2 (Nat.le_refl _) (Array.getElem?_eq_some_iff.1 hQ).1), h1⟩
    exact trivial
  case hend =>
    intro u wz hG hfin
    have z10 : wz.heap[g + 1 + 1]? = some (.cells (bv out).toArray 35 (0, 0)) := hfin 10 (by decide) (by kernel_rfl)
    clear hfin
    simp only [fill]
    go_simp
    go_wp2_with fail
    refine bodyPost_ret (v := .agg (bv out).toArray) ?_ ?_ ?_
    · exact results_cell_row Tryd.results45 _ _ (g + 1 + 1) 35 _ (0, 0) _ rfl z10 Tryd.underlying35 rfl (hInfo _ HOL.out)
    · rfl
    · exact ⟨rfl, (HW0.out.trans (hG.mono (by omega))).mono (by rw [HG1.out]; exact Nat.le_refl _)⟩

end Go.Proofs.YtfibhmgjkooemaaDoor
namespace Go.Proofs.YtfibhmgjkooemaaDoor
open Go.RowKit Sha

set_option maxHeartbeats 4000000 in
set_option maxRecDepth 100000 in
theorem Leaf_any (n : Int) (t : List UInt8) (v : Value) (w : World) (hn : -9223372036854775808 ≤ n ∧ n ≤ 9223372036854775807) (hl : t.length ≤ 140737488355000) (hr : Rd w 1 v t.length (bv t)) (hG : Tabs w) :
    Calls Tryd.prog 22 #[.int .i64 n, v] w fun e w' => e = .returned (.agg (bv (leafH n t)).toArray) ∧ Below w.heap.size w w' := by
  have hz := (zero_of_info info32).1
  have hol : (leafH n t).length = 32 := leafH_length n t
  obtain ⟨a, c, rfl⟩ := hr.form
  have hzs := (zero_of_info infoSt).1
  have H0 := Lib.hid (fun (v' : Value) w' (h1 : Rd w' 1 v' 1 (bv [0])) (hb : Below w.heap.size w w') => Write_any [] [0] v' w' (by simp) h1 (hG.keepB hb))
  have H1 := Lib.hid (fun w' (hb : Below w.heap.size w w') => Write_any [0] t _ w' (by simp; omega) (hr.keep hb) (hG.keepB hb))
  have H2 := Lib.hid (fun w' (hb : Below w.heap.size w w') => StSum_any ([0] ++ t) w' (by simp; omega) (hG.keepB hb))
  have H3 := Lib.hid (fun w' => Narrow_any (Sha.sum ([0] ++ t)) n w' (sum_length _) hn)
  rw [← stv_nil, List.nil_append] at H0
  rw [show nar (Sha.sum ([0] ++ t)) (clip n) = leafH n t from rfl] at H3
  generalize leafH n t = out at *
  generalize Sha.sum ([0] ++ t) = s0 at *
  generalize stv ([0] ++ t) = s1 at *
  generalize stv [0] = s2 at *
  clear hr
  go_enter Tryd.func22, Tryd.ntmps22
  go_upto_region 1 with fail
  obtain ⟨w0, hw0⟩ : ∃ x : World, x = w.alloc (.cells (bv (zs 32)).toArray 35) := ⟨_, rfl⟩
  have hres0 : w0.heap[w.heap.size]? = some (.cells (bv (zs 32)).toArray 35 (0, 0)) := by rw [hw0]; exact heap_alloc_new _ _
  have hbw0 : Below w.heap.size w w0 := by rw [hw0]; exact (Below.refl _ _).alloc (Nat.le_refl _) _
  rw [← hw0]
  clear hw0
  have k0 : Below w.heap.size w (w0.alloc (.cells #[.int .u8 0] 5)) := hbw0.alloc hbw0.size _
  have K0 := Lib.hid k0
  clear k0
  have HX0 := Lib.hid (And.intro hres0 hbw0)
  clear hres0 hbw0
  go_wp2_with fail
  have hres0 := HX0.out.1
  have hbw0 := HX0.out.2
  clear hbw0 hres0; have hres0 : (w0.alloc (.cells #[.int .u8 0] 5)).heap[w.heap.size]? = some (.cells (bv (zs 32)).toArray 35 (0, 0)) := (heap_alloc_old _ _ (Array.getElem?_eq_some_iff.1 HX0.out.1).1).trans HX0.out.1; have hbw0 := K0.out; refine (H0.out _ _ (Rd.one w0 (.int .u8 0) 5 rfl) K0.out).mono ?_
  rintro e w1 ⟨rfl, hb1⟩
  have hres1 : w1.heap[w.heap.size]? = some (.cells (bv (zs 32)).toArray 35 (0, 0)) := (hb1.block _ (Array.getElem?_eq_some_iff.1 hres0).1).trans hres0
  have hbw1 := hbw0.trans (hb1.mono hbw0.size)
  clear hb1 hres0 hbw0 HX0
  have HX1 := Lib.hid (And.intro hres1 hbw1)
  clear hres1 hbw1
  go_wp2_with fail
  have hres1 := HX1.out.1
  have hbw1 := HX1.out.2
  refine (H1.out _ hbw1).mono ?_
  rintro e w2 ⟨rfl, hb2⟩
  have hres2 : w2.heap[w.heap.size]? = some (.cells (bv (zs 32)).toArray 35 (0, 0)) := (hb2.block _ (Array.getElem?_eq_some_iff.1 hres1).1).trans hres1
  have hbw2 := hbw1.trans (hb2.mono hbw1.size)
  clear hb2 hres1 hbw1 HX1
  have HX2 := Lib.hid (And.intro hres2 hbw2)
  clear hres2 hbw2
  go_wp2_with fail
  have hres2 := HX2.out.1
  have hbw2 := HX2.out.2
  refine (H2.out _ hbw2).mono ?_
  rintro e w3 ⟨rfl, hb3⟩
  have hres3 : w3.heap[w.heap.size]? = some (.cells (bv (zs 32)).toArray 35 (0, 0)) := (hb3.block _ (Array.getElem?_eq_some_iff.1 hres2).1).trans hres2
  have hbw3 := hbw2.trans (hb3.mono hbw2.size)
  clear hb3 hres2 hbw2 HX2
  have HX3 := Lib.hid (And.intro hres3 hbw3)
  clear hres3 hbw3
  go_wp2_with fail
  have hres3 := HX3.out.1
  have hbw3 := HX3.out.2
  refine (H3.out _).mono ?_
  rintro e w4 ⟨rfl, hb4⟩
  have hres4 : w4.heap[w.heap.size]? = some (.cells (bv (zs 32)).toArray 35 (0, 0)) := (hb4.block _ (Array.getElem?_eq_some_iff.1 hres3).1).trans hres3
  have hbw4 := hbw3.trans (hb4.mono hbw3.size)
  clear hb4 hres3 hbw3 HX3
  have HX := Lib.hid (And.intro hres4 (And.intro hbw4 hol))
  clear hres4 hbw4 hol
  go_wp2_with (with_reducible show wpList _ _ _ (⟨none, Op.store _ _ _, _, _, _, _⟩ :: _) _ _; refine wpList_store_whole rfl _ _ _ rfl w.heap.size _ rfl rfl _ _ HX.out.1 (hInfo' _ HX.out.2.2) (by rw [bv_length, bv_length, HX.out.2.2]; simp [zs]) (bv_one _) ?_; intro w9 HG9 hg9)
  refine bodyPost_ret (v := .agg (bv out).toArray) ?_ ?_ ?_
  · exact results_cell_row Tryd.results22 _ _ w.heap.size 35 _ (0, 0) _ rfl HG9.out Tryd.underlying35 rfl (hInfo _ HX.out.2.2)
  · rfl
  · exact ⟨rfl, below_grow HX.out.2.1 hg9 (Nat.le_refl _) (Array.getElem?_eq_some_iff.1 HX.out.1).1⟩
end Go.Proofs.YtfibhmgjkooemaaDoor
