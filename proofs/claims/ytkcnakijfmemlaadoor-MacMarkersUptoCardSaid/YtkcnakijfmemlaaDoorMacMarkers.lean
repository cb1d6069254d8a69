/- The law MacMarkers. (printed by gen/macmarkers.py) -/
import Derived.Test.YtkcnakijfmemlaaDoorShaStates
import Derived.Test.YtkcnakijfmemlaaDoorRefMark
namespace Go.Proofs.YtkcnakijfmemlaaDoor
open Go.ChangeShapes Go.WideShapes Go.ChangeAt Go.RowKit Sha

theorem infoMk3 : (Tryd.prog.info? 51).map (fun i => (i.zero, i.size, i.bytes)) = some (some (.agg (mkL (zs 64) [] false).toArray), 138, 176) := by kernel_rfl
/-- A marker behind a text: begun or not. -/
def mkE (k : List UInt8) (m : List UInt8 × Bool) : List Value := mkL k (if m.2 then kx k 54 ++ m.1 else []) m.2
theorem mkE_length (k : List UInt8) (hk : k.length = 64) (m : List UInt8 × Bool) : (mkE k m).length = 138 := mkL_length _ _ _ hk
theorem mkE_one (k : List UInt8) (l : List (List UInt8 × Bool)) : ∀ u ∈ l.flatMap (mkE k), u.oneCell' = true := by
  intro u hu
  obtain ⟨t, _, h⟩ := List.mem_flatMap.1 hu
  exact mkL_one _ _ _ u h
theorem bt_mk (k : List UInt8) (m : List UInt8 × Bool) (h : m.2 = false → m.1 = []) : bt k (if m.2 then kx k 54 ++ m.1 else []) m.2 = kx k 54 ++ m.1 := by
  obtain ⟨t, b⟩ := m
  cases b with
  | true => rfl
  | false => simp [bt]; exact h rfl
theorem gives_build1 {P : Program} {r : Nat → Value} {o : Oper} {w : World} {R : Value → World → Prop} (t e : TypeId) (x : Operand) (ho : o.op = .buildSlice t 1 #[(0, x)])
    (cs : List Value) (hx : rd r x = .agg cs.toArray) (hu : P.underlying t = some (.slice e)) {z : Value} {bytes : Nat} (hinfo : (P.info? e).map (fun i => (i.zero, i.size, i.bytes)) = some (some z, cs.length, bytes)) (h0 : 0 < cs.length) (h24 : cs.length ≤ 16777216)
    (h : R (.slice (some ⟨w.heap.size, 0, none⟩) 1 1) (w.alloc (.cells cs.toArray e))) : gives P r o w R := by
  obtain ⟨i, hi, hz, hsize, _⟩ := info_parts hinfo
  have e1 : (Array.map (fun x : Nat × Operand => match x with | (i, x) => (i, rd r x)) #[(0, x)]).toList = [(0, rd r x)] := by simp
  have hf := fill_one cs ((Array.range (1 * i.size)).map (z.cells[· % z.cells.size]!)) (by simp [hsize]) _ hsize
  have hrun := run_buildSlice w t e 1 (Array.map (fun x : Nat × Operand => match x with | (i, x) => (i, rd r x)) #[(0, x)]) cs.toArray i z hu hi hz (by rw [hsize]; omega) (by rw [hsize]; omega) (by rw [e1, hx]; exact hf)
  unfold gives execOp
  simp only [ho, Sem.run_bind, hrun, Result.andThen_ok]
  exact h

theorem wpList_eqlh {ops : Array Oper} {rest : List Oper} {o : Oper} {a : Act} {w : World} {Q : Exit → Act → World → Prop} (hg : o.guard = none) (x y : Operand) (u : TypeId) (ho : o.op = .binOp .eql 25 x y u) (A : Array Value) (hx : a.eval x = .agg A) (hy : a.eval y = .agg A)
    (he : ∀ w, (Op.equalIn 10000 25 (.agg A) (.agg A)).run Tryd.prog w = .ok true w) (h : wpList Tryd.prog ops Q rest (a.put o.dst (.bool true)) w) : wpList Tryd.prog ops Q (o :: rest) a w :=
  wpList_plain hg fun _ hK => by
    unfold Oper.wp execOp
    simp only [ho, hx, hy, Sem.run_bind, run_eqGuard_agg _ _ _ _ _ _ _ eq_guard, run_eql_struct, he, Result.andThen_ok]
    exact hK _ _ h
/-- The world between two steps. -/
structure MS (w wr : World) (B : Nat) (k : List UInt8) (s6 s8 : Value) (ms : List (List UInt8 × Bool)) : Prop where
  ow : wr.ownsRow B 51 138 s6 ms.length (ms.flatMap (mkE k))
  tx : wr.ownsRow B 9 1 s8 ms.length (ms.map fun m => strv m.1)
  ap : ∀ j, s6.ownBlock = some j → s8.ownBlock ≠ some j
  bl : Below w.heap.size w wr
  bB : w.heap.size ≤ B
  Bl : B ≤ wr.heap.size
theorem MS.keep {w wx wy : World} {B : Nat} {k : List UInt8} {s6 s8 : Value} {ms : List (List UInt8 × Bool)} (h : MS w wx B k s6 s8 ms) (q : Below wx.heap.size wx wy) : MS w wy B k s6 s8 ms :=
  ⟨own_keep h.ow q, own_keep h.tx q, h.ap, h.bl.trans (q.mono h.bl.size), h.bB, Nat.le_trans h.Bl q.size⟩
theorem own_range {wx : World} {B g n cap : Nat} {k : List UInt8} (hk : k.length = 64) {ms : List (List UInt8 × Bool)} (h : wx.ownsRow B 51 138 (.slice (some ⟨g, 0, none⟩) n cap) ms.length (ms.flatMap (mkE k))) {i : Nat} {m : List UInt8 × Bool} (hm : ms[i]? = some m) : wx.rangeAt g (i * 138) (mkE k m) := fun j x hx => by
  have hj : j < 138 := by have := (List.getElem?_eq_some_iff.1 hx).1; rwa [mkE_length k hk] at this
  have hi := (List.getElem?_eq_some_iff.1 hm).1
  obtain ⟨g', c, hv, _⟩ := own_at h (by omega)
  simp only [Value.slice.injEq] at hv
  have hn := hv.2.1
  subst hn
  rw [h.cellAt _ (by omega), flat_at (mkE k) 138 (mkE_length k hk) ms i j m hm hj]
  exact hx
theorem own_text {wx : World} {B g n cap : Nat} {ms : List (List UInt8 × Bool)} (h : wx.ownsRow B 9 1 (.slice (some ⟨g, 0, none⟩) n cap) ms.length (ms.map fun m => strv m.1)) {i : Nat} {m : List UInt8 × Bool} (hm : ms[i]? = some m) : wx.cell? ⟨g, i, none⟩ = some (.string ⟨m.1.toArray⟩) := by
  have hi := (List.getElem?_eq_some_iff.1 hm).1
  obtain ⟨g', c, hv, _⟩ := own_at h (by omega)
  simp only [Value.slice.injEq] at hv
  have hn := hv.2.1
  subst hn
  rw [h.cellAt i (by omega), List.getElem?_map, hm]; rfl
theorem ms_ow {w wx : World} {B n c : Nat} {k : List UInt8} {a : Option Addr} {s8 : Value} {ms : List (List UInt8 × Bool)} (h : MS w wx B k (.slice a n c) s8 ms) : wx.ownsRow B 51 138 (.slice a n c) ms.length (ms.flatMap (mkE k)) := h.ow
theorem ms_tx {w wx : World} {B n c : Nat} {k : List UInt8} {a : Option Addr} {s6 : Value} {ms : List (List UInt8 × Bool)} (h : MS w wx B k s6 (.slice a n c) ms) : wx.ownsRow B 9 1 (.slice a n c) ms.length (ms.map fun m => strv m.1) := h.tx
theorem mac_nil (text : List UInt8) : macB [] text = markB (zs 64) (kx (zs 64) 54 ++ text) := by
  have h : hkey [] = [] := by unfold hkey; simp
  rw [macB, h]; rfl
/-- One operation appends in place, onto block g. -/
def kQ (q g : Nat) (j : Nat) (wx wy : World) : Prop := if j = q then wx.grownBy wy (some g) else Below wx.heap.size wx wy
theorem kQ_refl (q g j : Nat) (w : World) : kQ q g j w w := by
  unfold kQ; split
  · exact World.grownBy.refl _ _
  · exact Below.refl _ _
theorem kQ_of {q g j : Nat} {wx wy : World} (hj : j ≠ q) (h : Below wx.heap.size wx wy) : kQ q g j wx wy := by unfold kQ; rw [if_neg hj]; exact h
theorem kQ_app {q g : Nat} {wx wy : World} (h : wx.grownBy wy (some g)) : kQ q g q wx wy := by unfold kQ; rw [if_pos rfl]; exact h
theorem kQ_below {q g j : Nat} {wx wy : World} (hj : j ≠ q) (h : kQ q g j wx wy) : Below wx.heap.size wx wy := by unfold kQ at h; rw [if_neg hj] at h; exact h
/-- What stands while another row grows. -/
structure GQ (w wx : World) (B : Nat) (e : TypeId) (size : Nat) (v : Value) (n : Nat) (X : List Value) (g : Nat) : Prop where
  ow : wx.ownsRow B e size v n X
  bl : Below w.heap.size w wx
  lt : g < wx.heap.size
theorem GQ.drew {w wx : World} {B : Nat} {e : TypeId} {size : Nat} {v : Value} {n : Nat} {X : List Value} {g : Nat} (h : GQ w wx B e size v n X g) : GQ w wx.drew B e size v n X g := ⟨h.ow, h.bl.drew, h.lt⟩
theorem gq_step {w wx wy : World} {B : Nat} {e : TypeId} {size : Nat} {v : Value} {n : Nat} {X : List Value} {g q j : Nat} (hv : ∀ j, v.ownBlock = some j → j ≠ g) (hg : w.heap.size ≤ g) (h : GQ w wx B e size v n X g) (k : kQ q g j wx wy) : GQ w wy B e size v n X g := by
  unfold kQ at k
  split at k
  · exact ⟨own_other h.ow k hv, below_grow h.bl k hg h.lt, Nat.lt_of_lt_of_le h.lt k.size⟩
  · exact ⟨own_keep h.ow k, h.bl.trans (k.mono h.bl.size), Nat.lt_of_lt_of_le h.lt k.size⟩
/-- What each operation hands on. -/
def mk14F (g6 i cap6 q : Nat) (k : List UInt8) (m : List UInt8 × Bool) (ms : List (List UInt8 × Bool)) (T : List UInt8) (bb off scl c1 : Nat) (ab : Option Addr) (cb B W5 : Nat) : Nat → Value → World → Prop
  | 0, v, _ => v = .slice (some ⟨g6, 0, none⟩) (i + 1) cap6
  | 1, v, _ => v = .slice (some ⟨g6, 0, none⟩) (i + 1) cap6
  | 2, v, _ => v = .int .i64 (q : Nat)
  | 3, v, _ => v = .pointer (some ⟨g6, q * 138, none⟩)
  | 4, v, _ => v = .agg (mkE k m).toArray
  | 5, v, _ => v = .slice (some ⟨bb, off, none⟩) scl c1
  | 6, v, _ => v = .int .i64 (i : Nat)
  | 7, v, _ => v = .pointer (some ⟨bb, off + i * 2, none⟩)
  | 8, v, _ => v = .pointer (some ⟨bb, off + i * 2 + 1, none⟩)
  | 9, v, _ => v = .slice ab T.length cb
  | 10, v, _ => v = .agg (mkE k (m.1 ++ T, true)).toArray
  | 11, v, w => Rd w 138 v 1 (mkE k (m.1 ++ T, true))
  | 12, v, w => w.ownsRow B 51 138 v (i + 1 + 1) (ms.flatMap (mkE k) ++ mkE k (m.1 ++ T, true)) ∧ ∀ j, v.ownBlock = some j → j = g6 ∨ W5 ≤ j
  | 13, v, w => w.ownsRow B 51 138 v (i + 1 + 1) (ms.flatMap (mkE k) ++ mkE k (m.1 ++ T, true)) ∧ ∀ j, v.ownBlock = some j → j = g6 ∨ W5 ≤ j
  | _, _, _ => True
/-- What each operation hands on. -/
def mk15gF (g8 i cap8 q : Nat) (m : List UInt8 × Bool) (ms : List (List UInt8 × Bool)) (T : List UInt8) (bb off scl c1 : Nat) (ab : Option Addr) (cb B W5 : Nat) : Nat → Value → World → Prop
  | 0, v, _ => v = .slice (some ⟨g8, 0, none⟩) (i + 1) cap8
  | 1, v, _ => v = .slice (some ⟨g8, 0, none⟩) (i + 1) cap8
  | 2, v, _ => v = .int .i64 (q : Nat)
  | 3, v, _ => v = .pointer (some ⟨g8, q, none⟩)
  | 4, v, _ => v = .string ⟨m.1.toArray⟩
  | 5, v, _ => v = .slice (some ⟨bb, off, none⟩) scl c1
  | 6, v, _ => v = .int .i64 (i : Nat)
  | 7, v, _ => v = .pointer (some ⟨bb, off + i * 2, none⟩)
  | 8, v, _ => v = .pointer (some ⟨bb, off + i * 2 + 1, none⟩)
  | 9, v, _ => v = .slice ab T.length cb
  | 10, v, _ => v = .string ⟨T.toArray⟩
  | 11, v, _ => v = strv (m.1 ++ T)
  | 12, v, w => Rd w 1 v 1 [strv (m.1 ++ T)]
  | 13, v, w => w.ownsRow B 9 1 v (i + 1 + 1) ((ms.map fun m => strv m.1) ++ [strv (m.1 ++ T)]) ∧ ∀ j, v.ownBlock = some j → j = g8 ∨ W5 ≤ j
  | 14, v, w => w.ownsRow B 9 1 v (i + 1 + 1) ((ms.map fun m => strv m.1) ++ [strv (m.1 ++ T)]) ∧ ∀ j, v.ownBlock = some j → j = g8 ∨ W5 ≤ j
  | _, _, _ => True
/-- What each operation hands on. -/
def mk19F (g6 g8 tn cap6 cap8 jj : Nat) (k : List UInt8) (m : List UInt8 × Bool) (o : Array Value) (key : List UInt8) (a0 : Option Addr) (c0 : Nat) : Nat → Value → World → Prop
  | 0, v, _ => v = .slice (some ⟨g6, 0, none⟩) tn cap6
  | 1, v, _ => v = .int .i64 (jj : Nat)
  | 2, v, _ => v = .pointer (some ⟨g6, jj * 138, none⟩)
  | 3, v, _ => v = .agg (mkE k m).toArray
  | 4, v, _ => v = .agg o
  | 5, v, _ => v = .slice a0 key.length c0
  | 6, v, _ => v = .slice (some ⟨g8, 0, none⟩) tn cap8
  | 7, v, _ => v = .int .i64 (jj : Nat)
  | 8, v, _ => v = .pointer (some ⟨g8, jj, none⟩)
  | 9, v, _ => v = .string ⟨m.1.toArray⟩
  | 10, v, w => Rd w 1 v m.1.length (bv m.1)
  | 11, v, _ => v = .agg o
  | 12, v, _ => v = .bool false
  | _, _, _ => True

set_option maxHeartbeats 4000000 in
set_option maxRecDepth 100000 in
theorem macMarkers_walk (key : List UInt8) (sc : List OpE) (v v1 : Value) (w : World) (hkl : key.length ≤ 1048576) (hl : sc.length ≤ 1048576) (hr : Rd w 1 v key.length (bv key)) (hr1 : Rd w 2 v1 sc.length (sc.flatMap OpE.cells)) (hok : ∀ o ∈ sc, o.ok w) (hT : TabsR w) :
    Calls Tryd.prog 8 #[v, v1] w fun e w' => e = .returned (.bool true) ∧ Below w.heap.size w w' := by
  obtain ⟨a0, c0, rfl⟩ := hr.form
  obtain ⟨a1, c1, rfl⟩ := hr1.form
  have hz51 := (zero_of_info infoMk).1
  have HR := Lib.hid (And.intro hr (And.intro hr1 hok))
  clear hr hr1 hok
  obtain ⟨k, hk⟩ : ∃ k, k = pad64 (hkey key) := ⟨_, rfl⟩
  have hk64 : k.length = 64 := by rw [hk]; exact pad64_length _ (hkey_le key)
  have HK := Lib.hid (And.intro hk hk64)
  clear hk
  go_enter Tryd.func8, Tryd.ntmps8
  go_wp2_with fail
  refine (awake04_any w hT.toTabs).mono ?_
  rintro e w1 ⟨rfl, hb1⟩
  have hown0 := own_new w1 5 1 0 w1.heap.size [] rfl (by omega) (Nat.le_refl _)
  have HA := Lib.hid (And.intro hown0 (And.intro ((HR.out.1.keep hb1).alloc (.cells #[] 5)) hb1))
  clear hown0 hb1
  go_wp2_with (at_builtin; go_loud (refine wpList_app Tryd.underlying22 infoU8s rfl (by decide) rfl _ _ rfl rfl rfl HA.out.1 HA.out.2.1 (by omega) (by omega) (by simp) ?_))
  intro v5 w2 ho2 hg2 _
  have hb2 : Below w1.heap.size w1 w2 := ((Below.refl _ _).alloc (Nat.le_refl _) _).trans (hg2.below (by simp) (own_block HA.out.1))
  have ho2 : w2.ownsRow w1.heap.size 5 1 v5 key.length (bv key) := by simpa using ho2
  have hbw2 := HA.out.2.2.trans (hb2.mono HA.out.2.2.size)
  obtain ⟨a5, c5, hs5⟩ := (own_rd ho2 (bv_one _)).form
  subst hs5
  have hN := New_any key (.slice a5 key.length c5) w2 (by omega) (own_rd ho2 (bv_one _)) (hT.toTabs.keepB hbw2)
  rw [← HK.out.1] at hN
  have HN := Lib.hid hN
  have H2 := Lib.hid (And.intro ho2 (And.intro hbw2 HA.out.2.2.size))
  clear hN ho2 hbw2 hb2 hg2 HA
  go_wp2_with fail
  refine HN.out.mono ?_
  rintro e w3 ⟨rfl, hb3⟩
  have ho3 := own_keep H2.out.1 hb3
  have hbw3 := H2.out.2.1.trans (hb3.mono H2.out.2.1.size)
  have H3 := Lib.hid (And.intro ho3 (And.intro hbw3 H2.out.2.2))
  clear ho3 hbw3 hb3 HN H2
  go_upto_region 5 with (with_reducible show wpList _ _ _ (⟨some 20, _, _, _, _, _⟩ :: _) _ _; go_loud (refine wpList_build1 rfl 53 51 _ rfl (mkL k [] false) rfl Tryd.underlying53 (by rw [mkL_length _ _ _ HK.out.2]; exact infoMk3) (by rw [mkL_length _ _ _ HK.out.2]; decide) (by rw [mkL_length _ _ _ HK.out.2]; decide) ?_))
  obtain ⟨w4, hw4⟩ : ∃ x : World, x = w3.alloc (.cells (mkL k [] false).toArray 51) := ⟨_, rfl⟩
  rw [← hw4]
  have hmk4 : w4.ownsRow w3.heap.size 51 138 (.slice (some ⟨w3.heap.size, 0, none⟩) 1 1) 1 (mkL k [] false) := by
    rw [hw4]; exact own_new w3 51 138 1 w3.heap.size (mkL k [] false) (mkL_length _ _ _ HK.out.2) (by omega) (Nat.le_refl _)
  have hob4 : w4.ownsRow w1.heap.size 5 1 (.slice a5 key.length c5) key.length (bv key) := by rw [hw4]; exact H3.out.1.alloc _
  have hbl4 : Below w.heap.size w w4 := by rw [hw4]; exact H3.out.2.1.alloc H3.out.2.1.size _
  have hbk : ∀ j, (Value.slice a5 key.length c5).ownBlock = some j → j < w3.heap.size := fun j hj => (H3.out.1.lt j hj).2
  have hwB := H3.out.2.1.size
  have hw1 := H3.out.2.2
  obtain ⟨B, hB⟩ : ∃ B, B = w3.heap.size := ⟨_, rfl⟩
  rw [← hB] at hmk4 hbk hwB ⊢
  obtain ⟨B1, hB1⟩ : ∃ B1, B1 = w1.heap.size := ⟨_, rfl⟩
  rw [← hB1] at hob4 hw1 ⊢
  have H4 := Lib.hid (And.intro hmk4 (And.intro hob4 (And.intro hbl4 (And.intro hbk (And.intro hwB hw1)))))
  clear hmk4 hob4 hbl4 hbk hwB hw1 hw4 hB hB1 H3
  go_wp2_with fail
  go_loopw [7] (fun s7 wy => ∃ (jj : Nat) (cs : List UInt8), jj ≤ key.length ∧ s7 = .int .i64 jj ∧ RowKit.Hid (cs.length = key.length ∧ wy.ownsRow B 51 138 (.slice (some ⟨B, 0, none⟩) 1 1) 1 (mkL k [] false) ∧ wy.ownsRow B1 5 1 (.slice a5 key.length c5) key.length (bv cs) ∧ Below w.heap.size w wy)) (fun s7 _ => key.length - (intOf s7).toNat)
  case atStart => exact ⟨0, key, by omega, rfl, show _ ∧ _ from ⟨rfl, H4.out.1, H4.out.2.1, H4.out.2.2.1⟩⟩
  case round =>
    obtain ⟨jj, cs, hj, rfl, HJ⟩ := hrel
    by_cases hjl : jj < key.length
    · have hjz : (jj : Int) < (key.length : Int) := by omega
      have hj0 : (0 : Int) ≤ (jj : Int) := by omega
      obtain ⟨g7, cap7, hv, hB7, _, _, _⟩ := own_at HJ.out.2.2.1 (by omega)
      simp only [Value.slice.injEq, true_and] at hv
      obtain ⟨rfl, rfl⟩ := hv
      obtain ⟨y, hy⟩ : ∃ y, cs[jj]? = some y := ⟨_, List.getElem?_eq_getElem (by have := HJ.out.1; omega)⟩
      have hc : wr.cell? ⟨g7, jj, none⟩ = some (.int .u8 y.toNat) := by
        rw [HJ.out.2.2.1.cellAt jj (by omega)]; simp [bv, hy]
      have hf := HJ.out.2.2.1.frozenAt jj
      obtain ⟨x, hx⟩ : ∃ x, x = UInt8.ofNat ((y.toNat + 1) % 256) := ⟨_, rfl⟩
      have hxx : ((y.toNat : Int) + 1) % 256 = (x.toNat : Int) := by rw [hx, u8_int]; omega
      have hbw7 : w.heap.size ≤ g7 := Nat.le_trans H4.out.2.2.2.2.2 hB7
      have hg7B := H4.out.2.2.2.1 g7 rfl
      have HY := Lib.hid (And.intro hbw7 hg7B)
      clear hx hbw7 hy hg7B hB7
      go_wp2_with fail
      go_roundw
      case rel =>
        obtain ⟨hs1, hs2⟩ := HJ.out.2.2.1.stored jj (.int .u8 x.toNat)
        rw [show (bv cs).set jj (.int .u8 x.toNat) = bv (cs.set jj x) by simp [bv, List.map_set]] at hs1
        exact ⟨jj + 1, cs.set jj x, by omega, by go_num, show _ ∧ _ from ⟨by rw [List.length_set]; exact HJ.out.1, own_other HJ.out.2.1 hs2 (fun j h e => by simp [Value.ownBlock] at h; have := HY.out.2; omega), hs1, HJ.out.2.2.2.setCell (p := ⟨g7, jj, none⟩) HY.out.1 _⟩⟩
      case measure => simp [intOf]; omega
    · have hjz : ¬ (jj : Int) < (key.length : Int) := by omega
      go_upto_region 10 with fail
      obtain ⟨w5, hw5⟩ : ∃ x : World, x = wr.alloc (.cells #[Value.string { data := #[] }] 9) := ⟨_, rfl⟩
      rw [← hw5]
      have hwrB : B < wr.heap.size := by
        obtain ⟨g, c, hv, _, _, _, h2⟩ := own_at HJ.out.2.1 (by omega)
        simp only [Value.slice.injEq, Option.some.injEq, Addr.mk.injEq, and_true] at hv
        omega
      have hMS : MS w w5 B k (.slice (some ⟨B, 0, none⟩) 1 1) (.slice (some ⟨wr.heap.size, 0, none⟩) 1 1) [([], false)] := by
        have h2 := own_new wr 9 1 1 B [strv []] rfl (by omega) (by omega)
        refine ⟨?_, ?_, ?_, ?_, H4.out.2.2.2.2.1, ?_⟩
        · rw [hw5]; simpa [mkE] using HJ.out.2.1.alloc _
        · rw [hw5]; exact h2
        · intro j h1 h2
          simp [Value.ownBlock] at h1 h2
          omega
        · rw [hw5]; exact HJ.out.2.2.2.alloc HJ.out.2.2.2.size _
        · rw [hw5]; simp; omega
      obtain ⟨B8, hB8⟩ : ∃ B8, B8 = wr.heap.size := ⟨_, rfl⟩
      rw [← hB8] at hMS ⊢
      have H5 := Lib.hid hMS
      clear hMS hw5 hwrB hB8 H4 HJ hjz hjl hj
      go_wp2_with fail
      go_loopw [9, 6, 8] (fun s9 s6 s8 wr => ∃ (i : Nat) (ms : List (List UInt8 × Bool)), s9 = .int .i64 i ∧ i ≤ 30 ∧ i ≤ sc.length ∧ ms.length = i + 1 ∧ (∀ m ∈ ms, m.1.length ≤ i * 1048576) ∧ (∀ m ∈ ms, m.2 = false → m.1 = []) ∧ RowKit.Hid (MS w wr B k s6 s8 ms)) (fun s9 _ _ _ => 30 - (intOf s9).toNat)
      case atStart => exact ⟨0, [([], false)], rfl, by omega, by omega, rfl, by simp, by simp, H5⟩
      case round =>
        clear H5
        obtain ⟨i, ms, rfl, hi30, hin, htl, htb, hfb, HS⟩ := hrel
        obtain ⟨g6, cap6, hs6, hg6B, hn6, hc6, hg6⟩ := own_at HS.out.ow (by omega)
        obtain ⟨g8, cap8, hs8, hg8B, hn8, hc8, hg8⟩ := own_at HS.out.tx (by omega)
        subst hs6 hs8
        by_cases hgo : i < sc.length ∧ i < 30
        · obtain ⟨hi1, hi2⟩ := hgo
          have hi3 : (i : Int) < (sc.length : Int) := by omega
          have hi4 : (i : Int) < 30 := by omega
          have hi0 : (0 : Int) ≤ (i : Int) := by omega
          obtain ⟨bb, off, c', hv, hcp, hcell⟩ := HR.out.2.1.atN (by omega) (by omega)
          simp only [Value.slice.injEq, true_and] at hv
          obtain ⟨rfl, rfl⟩ := hv
          obtain ⟨o, ho⟩ : ∃ o, sc[i]? = some o := ⟨_, List.getElem?_eq_getElem (by omega)⟩
          have hO := HR.out.2.2 o (List.mem_of_getElem? ho)
          have hcf0 := hcell (i * 2 + 0) (.int .i64 o.frm) (by rw [flat_at OpE.cells 2 (fun _ => rfl) sc i 0 o ho (by omega)]; rfl)
          have hcb := hcell (i * 2 + 1) o.val (by rw [flat_at OpE.cells 2 (fun _ => rfl) sc i 1 o ho (by omega)]; rfl)
          obtain ⟨ab, cb, hov⟩ := hO.rd.form
          rw [hov] at hcb
          rw [Nat.add_zero] at hcf0
          rw [← Nat.add_assoc] at hcb
          have hrb := hO.rd
          rw [hov] at hrb
          have hbl := hO.len
          obtain ⟨T, hT2⟩ : ∃ T, T = o.txt := ⟨_, rfl⟩
          rw [← hT2] at hrb hcb hbl
          obtain ⟨z, hz⟩ : ∃ z, z = o.frm := ⟨_, rfl⟩
          rw [← hz] at hcf0
          have hcf := (HS.out.bl.cell (p := ⟨bb, off + i * 2, none⟩) (block_lt_of_cell hcf0)).trans hcf0
          have hzb : -9223372036854775808 ≤ z ∧ z ≤ 9223372036854775807 := by rw [hz]; exact ⟨hO.lo, hO.hi⟩
          obtain ⟨q, hq, hqt⟩ : ∃ q : Nat, (IntKind.u64.wrap z).tmod ((i : Int) + 1) = (q : Int) ∧ q < i + 1 := by
            have h0 : 0 ≤ IntKind.u64.wrap z := by
              rw [show IntKind.u64.wrap z = z % 18446744073709551616 from rfl]; omega
            have h1 := Int.emod_lt_of_pos (IntKind.u64.wrap z) (show 0 < (i : Int) + 1 by omega)
            have h2 := Int.emod_nonneg (IntKind.u64.wrap z) (show (i : Int) + 1 ≠ 0 by omega)
            refine ⟨((IntKind.u64.wrap z).tmod ((i : Int) + 1)).toNat, ?_, ?_⟩
            · rw [Int.tmod_eq_emod_of_nonneg h0]; omega
            · rw [Int.tmod_eq_emod_of_nonneg h0]; omega
          have hd0 : ¬ (i : Int) + 1 = 0 := by omega
          have hq40 : q < 31 := by omega
          have HC := Lib.hid (And.intro hcb (block_lt_of_cell hcb))
          have HT := Lib.hid hrb
          clear hcell hrb hO ho hov hT2 hz hcf0 hcb
          have HN := Lib.hid (And.intro hn6 (And.intro hn8 (And.intro hc6 (And.intro hc8 (And.intro hg6 (And.intro hg8 (And.intro hg6B (And.intro hg8B (And.intro htb hfb)))))))))
          clear hn6 hn8 hc6 hc8 hg6 hg8 hg6B hg8B htb hfb
          obtain ⟨scl, hscl⟩ : ∃ scl, scl = sc.length := ⟨_, rfl⟩
          rw [← hscl] at hi3 ⊢
          have HSCL := Lib.hid hscl
          clear hscl
          go_upto_region 14 with fail
          rw [htl]
          have hiscl : i < scl := by rw [HSCL.out]; exact hi1
          clear hq hd0 hcf hzb hi3
          obtain ⟨m, hm⟩ : ∃ m, ms[q]? = some m := ⟨_, List.getElem?_eq_getElem (by omega)⟩
          have hmm := List.mem_of_getElem? hm
          have HML := Lib.hid (Nat.le_trans (HN.out.2.2.2.2.2.2.2.2.1 m hmm) (Nat.mul_le_mul_right 1048576 hi30))
          have hst : m.2 = false → m.1 = [] := HN.out.2.2.2.2.2.2.2.2.2 m hmm
          have hszm : (Tryd.prog.info? 51).map (·.size) = some (mkE k m).length := mkInfo' _ (mkE_length k HK.out.2 m)
          have hW : ∀ w', Below w.heap.size w w' → _ := fun w' hb => MWrite_any k (if m.2 then kx k 54 ++ m.1 else []) T m.2 (.slice ab T.length cb) w' HK.out.2 (by
            have := HML.out
            have h64 := HK.out.2
            split
            · rw [List.length_append, kx_length, h64]; omega
            · simp; omega) (HT.out.keep hb) (hT.toTabs.keepB hb)
          rw [bt_mk k m hst, show mkL k (if m.2 then kx k 54 ++ m.1 else []) m.2 = mkE k m from rfl, show mkL k (kx k 54 ++ m.1 ++ T) true = mkE k (m.1 ++ T, true) by simp [mkE]] at hW
          have HW := Lib.hid hW
          have hmk : wr.ownsRow B 51 138 (.slice (some ⟨g6, 0, none⟩) (i + 1) cap6) ms.length (ms.flatMap (mkE k)) := by rw [← htl]; exact HS.out.ow
          have hmk2 : wr.ownsRow B 51 138 (.slice (some ⟨g6, 0, none⟩) (i + 1) cap6) (i + 1) (ms.flatMap (mkE k)) := by have h := hmk; rw [htl] at h; exact h
          have htx2 : wr.ownsRow B 9 1 (.slice (some ⟨g8, 0, none⟩) (i + 1) cap8) (i + 1) (ms.map fun m => strv m.1) := by have h := HS.out.tx; rw [htl] at h; exact h
          have hne : g6 ≠ g8 := fun e => HS.out.ap g6 (by simp [Value.ownBlock]) (by simp [Value.ownBlock, e])
          have hap8 : ∀ j, (Value.slice (some ⟨g8, 0, none⟩) (i + 1) cap8).ownBlock = some j → j ≠ g6 := fun j hj => by
            simp [Value.ownBlock] at hj; omega
          have hg6w : w.heap.size ≤ g6 := Nat.le_trans HS.out.bB HN.out.2.2.2.2.2.2.1
          have hG14 : GQ w wr B 9 1 (.slice (some ⟨g8, 0, none⟩) (i + 1) cap8) (i + 1) (ms.map fun m => strv m.1) g6 := ⟨htx2, HS.out.bl, HN.out.2.2.2.2.1⟩
          obtain ⟨W5, hW5⟩ : ∃ W5, W5 = wr.heap.size := ⟨_, rfl⟩
          have HM := Lib.hid (And.intro hmk hmk2)
          have HB := Lib.hid HS.out.Bl
          have HBB := Lib.hid (And.intro HS.out.bB hne)
          have HW5 := Lib.hid hW5
          clear hW hmk hmk2 htx2 hW5 hmm hst hne
          have hq0 : (0 : Int) ≤ (q : Int) ∧ (q : Int) < (i : Int) + 1 := by omega
          refine wp_region_until [some 55, some 56, some 57, some 58, some 59, some 60, some 61, some 62, some 63, some 64, some 65, some 66, some 67, some 6] [(0, 6), (1, 6)] 12 (fun wx => Below wr.heap.size wr wx) [0, 1, 2, 3, 4, 5, 6, 7, 8, 9, 10, 11, 12] (mk14F g6 i cap6 q k m ms T bb off scl c1 ab cb B W5) (kQ 12 g6) (fun wx => GQ w wx B 9 1 (.slice (some ⟨g8, 0, none⟩) (i + 1) cap8) (i + 1) (ms.map fun m => strv m.1) g6) (by kernel_rfl) (by kernel_rfl) rfl (by kernel_rfl) (by kernel_rfl) hG14.drew (Below.refl _ _).drew ((fun _ hj _ _ k h => h.trans ((kQ_below hj k).mono h.size))) (fun _ _ => kQ_refl _ _ _ _) (fun _ _ _ h k => gq_step hap8 hg6w h k) ?hF ?hstep ?hend
          case hF =>
            exact ⟨fun _ _ _ _ _ _ h => h, ⟨fun _ _ _ _ _ _ h => h, ⟨fun _ _ _ _ _ _ h => h, ⟨fun _ _ _ _ _ _ h => h, ⟨fun _ _ _ _ _ _ h => h, ⟨fun _ _ _ _ _ _ h => h, ⟨fun _ _ _ _ _ _ h => h, ⟨fun _ _ _ _ _ _ h => h, ⟨fun _ _ _ _ _ _ h => h, ⟨fun _ _ _ _ _ _ h => h, ⟨fun _ _ _ _ _ _ h => h, ⟨fun j hg _ _ _ k h => Rd.keep h (kQ_below (fun e => by subst e; exact absurd hg (by rw [show goneB _ 11 12 = true by kernel_rfl]; simp)) k), ⟨fun j hg _ _ _ k h => ⟨own_keep h.1 (kQ_below (fun e => by subst e; exact absurd hg (by rw [show goneB _ 12 12 = true by kernel_rfl]; simp)) k), h.2⟩, ⟨fun j hg _ _ _ k h => ⟨own_keep h.1 (kQ_below (fun e => by subst e; exact absurd hg (by rw [show goneB _ 13 12 = true by kernel_rfl]; simp)) k), h.2⟩, trivial⟩⟩⟩⟩⟩⟩⟩⟩⟩⟩⟩⟩⟩⟩
          case hstep =>
            -- operation 0: Op.move (tmp 6)
            refine ⟨fun r wx hG hs hq hf => ?_, ?_⟩
            · have hQ := hq rfl
              have e6 : r 6 = .slice (some ⟨g6, 0, none⟩) (i + 1) cap6 := hs 6 rfl
              refine (if_pos rfl).symm ▸ ?_
              clear hs hq hf
              unfold gives
              go_simp
              exact ⟨kQ_refl _ _ _ _, rfl⟩
            -- operation 1: Op.move (tmp 6)
            refine ⟨fun r wx hG hs hq hf => ?_, ?_⟩
            · have hQ := hq rfl
              have e6 : r 6 = .slice (some ⟨g6, 0, none⟩) (i + 1) cap6 := hs 6 rfl
              refine (if_pos rfl).symm ▸ ?_
              clear hs hq hf
              unfold gives
              go_simp
              exact ⟨kQ_refl _ _ _ _, rfl⟩
            -- operation 2: Op.move (tmp 10)
            refine ⟨fun r wx hG hs hq hf => ?_, ?_⟩
            · have hQ := hq rfl
              have e10 : r 10 = .int .i64 q := hs 10 rfl
              refine (if_pos rfl).symm ▸ ?_
              clear hs hq hf
              unfold gives
              go_simp
              exact ⟨kQ_refl _ _ _ _, rfl⟩
            -- operation 3: Op.indexAddr 53 (tmp 56) (tmp 57)
            refine ⟨fun r wx hG hs hq hf => ?_, ?_⟩
            · have hQ := hq rfl
              have h1 : r 56 = .slice (some ⟨g6, 0, none⟩) (i + 1) cap6 := hf.1
              have h2 : r 57 = .int .i64 (q : Nat) := hf.2.1
              refine (if_pos rfl).symm ▸ ?_
              clear hs hq hf
              unfold gives
              go_simp
              exact ⟨kQ_refl _ _ _ _, rfl⟩
            -- operation 4: Op.load 51 (tmp 58)
            refine ⟨fun r wx hG hs hq hf => ?_, ?_⟩
            · have hQ := hq rfl
              have h3 : r 58 = .pointer (some ⟨g6, q * 138, none⟩) := hf.1
              refine (if_pos rfl).symm ▸ ?_
              clear hs hq hf
              unfold gives
              refine gives_load_mid 51 _ rfl g6 (q * 138) h3 (mkE k m) _ (own_range HK.out.2 (own_keep HM.out.1 hQ) hm) Tryd.underlying51 rfl hszm ⟨kQ_refl _ _ _ _, rfl⟩
            -- operation 5: Op.move (tmp 1)
            refine ⟨fun r wx hG hs hq hf => ?_, ?_⟩
            · have hQ := hq rfl
              have e1 : r 1 = .slice (some ⟨bb, off, none⟩) scl c1 := hs 1 rfl
              refine (if_pos rfl).symm ▸ ?_
              clear hs hq hf
              unfold gives
              go_simp
              exact ⟨kQ_refl _ _ _ _, rfl⟩
            -- operation 6: Op.move (tmp 9)
            refine ⟨fun r wx hG hs hq hf => ?_, ?_⟩
            · have hQ := hq rfl
              have e9 : r 9 = .int .i64 i := hs 9 rfl
              refine (if_pos rfl).symm ▸ ?_
              clear hs hq hf
              unfold gives
              go_simp
              exact ⟨kQ_refl _ _ _ _, rfl⟩
            -- operation 7: Op.indexAddr 49 (tmp 60) (tmp 61)
            refine ⟨fun r wx hG hs hq hf => ?_, ?_⟩
            · have hQ := hq rfl
              have h5 : r 60 = .slice (some ⟨bb, off, none⟩) scl c1 := hf.1
              have h6 : r 61 = .int .i64 (i : Nat) := hf.2.1
              refine (if_pos rfl).symm ▸ ?_
              clear hs hq hf
              unfold gives
              go_simp
              exact ⟨kQ_refl _ _ _ _, rfl⟩
            -- operation 8: Op.fieldAddr 54 (tmp 62) 1
            refine ⟨fun r wx hG hs hq hf => ?_, ?_⟩
            · have hQ := hq rfl
              have h7 : r 62 = .pointer (some ⟨bb, off + i * 2, none⟩) := hf.1
              refine (if_pos rfl).symm ▸ ?_
              clear hs hq hf
              unfold gives
              go_simp
              exact ⟨kQ_refl _ _ _ _, rfl⟩
            -- operation 9: Op.load 22 (tmp 63)
            refine ⟨fun r wx hG hs hq hf => ?_, ?_⟩
            · have hQ := hq rfl
              have h8 : r 63 = .pointer (some ⟨bb, off + i * 2 + 1, none⟩) := hf.1
              refine (if_pos rfl).symm ▸ ?_
              clear hs hq hf
              unfold gives
              have hcl := (hG.bl.cell (p := ⟨bb, off + i * 2 + 1, none⟩) HC.out.2).trans HC.out.1
              go_simp
              exact ⟨kQ_refl _ _ _ _, rfl⟩
            -- operation 10: Op.call ( callee := Callee.value (func 22), args := #[tmp 59, tmp 64], argTypes := #[51, 22] )
            refine ⟨fun r wx hG hs hq hf => ?_, ?_⟩
            · have hQ := hq rfl
              have h4 : r 59 = .agg (mkE k m).toArray := hf.1
              have h9 : r 64 = .slice ab T.length cb := hf.2.1
              refine (if_pos rfl).symm ▸ ?_
              clear hs hq hf
              unfold gives
              go_simp
              refine (HW.out wx hG.bl).mono ?_
              rintro e wy ⟨rfl, hb1⟩
              exact ⟨_, rfl, kQ_of (by decide) hb1, rfl⟩
            -- operation 11: Op.buildSlice 53 1 #[(0, tmp 65)]
            refine ⟨fun r wx hG hs hq hf => ?_, ?_⟩
            · have hQ := hq rfl
              have h10 : r 65 = .agg (mkE k (m.1 ++ T, true)).toArray := hf.1
              refine (if_pos rfl).symm ▸ ?_
              clear hs hq hf
              unfold gives
              refine gives_build1 53 51 _ rfl (mkE k (m.1 ++ T, true)) h10 Tryd.underlying53 (by rw [mkE_length k HK.out.2]; exact infoMk3) (by rw [mkE_length k HK.out.2]; decide) (by rw [mkE_length k HK.out.2]; decide) ⟨kQ_of (by decide) ((Below.refl _ _).alloc (Nat.le_refl _) _), own_rd (own_new wx 51 138 1 wx.heap.size _ (mkE_length k HK.out.2 _) (by omega) (Nat.le_refl _)) (mkL_one _ _ _)⟩
            -- operation 12: Op.call ( callee := Callee.builtin Builtin.append, args := #[tmp 55, tmp 66], argTypes := #[53, 53] )
            refine ⟨fun r wx hG hs hq hf => ?_, ?_⟩
            · have hQ := hq rfl
              have h0 : r 55 = .slice (some ⟨g6, 0, none⟩) (i + 1) cap6 := hf.1
              have h11 : Rd wx 138 (r 66) 1 (mkE k (m.1 ++ T, true)) := hf.2.1
              refine (if_pos rfl).symm ▸ ?_
              clear hs hq hf
              unfold gives
              refine gives_app Tryd.underlying53 infoMk3 (by simp [Value.cells, mkL_length (zs 64) [] false (by simp [zs])]) (by decide) _ _ rfl h0 rfl (own_keep HM.out.2 hQ) h11 (by omega) (by omega) (Nat.le_trans HB.out hQ.size) ?_
              intro v' wy ho hg _
              refine ⟨kQ_app (by have h := hg.grown; exact h), ho, fun j hj => ?_⟩
              rcases hg.blk j hj with h | h
              · simp [Value.ownBlock] at h; exact .inl h.symm
              · exact .inr (Nat.le_trans (by rw [HW5.out]; exact hQ.size) h)
            -- operation 13: Op.assign (tmp 67)
            refine ⟨fun r wx hG hs hq hf => ?_, ?_⟩
            · have h12 : wx.ownsRow B 51 138 (r 67) (i + 1 + 1) (ms.flatMap (mkE k) ++ mkE k (m.1 ++ T, true)) ∧ ∀ j, (r 67).ownBlock = some j → j = g6 ∨ W5 ≤ j := hf.1
              refine (if_pos rfl).symm ▸ ?_
              clear hs hq hf
              unfold gives
              go_simp
              exact ⟨kQ_refl _ _ _ _, h12⟩
            exact trivial
          case hend =>
            intro u wz hG hfin
            have z13 : wz.ownsRow B 51 138 (u 13) (i + 1 + 1) (ms.flatMap (mkE k) ++ mkE k (m.1 ++ T, true)) ∧ ∀ j, (u 13).ownBlock = some j → j = g6 ∨ W5 ≤ j := hfin 13 (by decide) (by kernel_rfl)
            clear hfin
            simp only [fill]
            go_simp
            obtain ⟨v6', hv6⟩ : ∃ v6', v6' = u 13 := ⟨_, rfl⟩
            rw [← hv6] at z13 ⊢
            have hfm : (ms ++ [(m.1 ++ T, true)]).flatMap (mkE k) = ms.flatMap (mkE k) ++ mkE k (m.1 ++ T, true) := by simp
            have hmk' : wz.ownsRow B 51 138 v6' (i + 1 + 1) ((ms ++ [(m.1 ++ T, true)]).flatMap (mkE k)) := by rw [hfm]; exact z13.1
            have hap6 : ∀ j, v6'.ownBlock = some j → j ≠ g8 := fun j hj e => by
              rcases z13.2 j hj with h | h
              · exact HBB.out.2 (h.symm.trans e)
              · have h1 := HN.out.2.2.2.2.2.1
                have h2 := HW5.out
                omega
            have hg8w : w.heap.size ≤ g8 := Nat.le_trans HBB.out.1 HN.out.2.2.2.2.2.2.2.1
            have hg8l : g8 < wz.heap.size := (hG.ow.lt g8 rfl).2
            have htx1 : wz.ownsRow B 9 1 (.slice (some ⟨g8, 0, none⟩) (i + 1) cap8) ms.length (ms.map fun m => strv m.1) := by rw [htl]; exact hG.ow
            have HM8 := Lib.hid (And.intro htx1 hG.ow)
            have hG15 : GQ w wz B 51 138 v6' (i + 1 + 1) ((ms ++ [(m.1 ++ T, true)]).flatMap (mkE k)) g8 := ⟨hmk', hG.bl, hg8l⟩
            have hBz : B ≤ wz.heap.size := by
              obtain ⟨g, cap, _, h1, _, _, h2⟩ := own_at hmk' (by omega)
              omega
            have hx6 : ∀ j, v6'.ownBlock = some j → j < wz.heap.size := fun j hj => (hmk'.lt j hj).2
            clear hfm hmk' hg8l htx1 z13 hG hv6 hG14 hap8 hg6w HW HM
            generalize wz = w6 at *
            obtain ⟨W5, hW5⟩ : ∃ W5, W5 = w6.heap.size := ⟨_, rfl⟩
            have HW5 := Lib.hid hW5
            have HB := Lib.hid hBz
            have HX6 := Lib.hid hx6
            clear hW5 hBz hx6
            go_upto_region 15 with fail
            refine wp_region_until [some 68, some 69, some 70, some 71, some 72, some 73, some 74, some 75, some 76, some 77, some 78, some 79, some 80, some 81, some 8] [(0, 8), (1, 8)] 13 (fun wx => Below w6.heap.size w6 wx) [0, 1, 2, 3, 4, 5, 6, 7, 8, 9, 10, 11, 12, 13] (mk15gF g8 i cap8 q m ms T bb off scl c1 ab cb B W5) (kQ 13 g8) (fun wx => GQ w wx B 51 138 v6' (i + 1 + 1) ((ms ++ [(m.1 ++ T, true)]).flatMap (mkE k)) g8) (by kernel_rfl) (by kernel_rfl) rfl (by kernel_rfl) (by kernel_rfl) hG15.drew (Below.refl _ _).drew ((fun _ hj _ _ k h => h.trans ((kQ_below hj k).mono h.size))) (fun _ _ => kQ_refl _ _ _ _) (fun _ _ _ h k => gq_step hap6 hg8w h k) ?hF ?hstep ?hend
            case hF =>
              exact ⟨fun _ _ _ _ _ _ h => h, ⟨fun _ _ _ _ _ _ h => h, ⟨fun _ _ _ _ _ _ h => h, ⟨fun _ _ _ _ _ _ h => h, ⟨fun _ _ _ _ _ _ h => h, ⟨fun _ _ _ _ _ _ h => h, ⟨fun _ _ _ _ _ _ h => h, ⟨fun _ _ _ _ _ _ h => h, ⟨fun _ _ _ _ _ _ h => h, ⟨fun _ _ _ _ _ _ h => h, ⟨fun _ _ _ _ _ _ h => h, ⟨fun _ _ _ _ _ _ h => h, ⟨fun j hg _ _ _ k h => Rd.keep h (kQ_below (fun e => by subst e; exact absurd hg (by rw [show goneB _ 12 13 = true by kernel_rfl]; simp)) k), ⟨fun j hg _ _ _ k h => ⟨own_keep h.1 (kQ_below (fun e => by subst e; exact absurd hg (by rw [show goneB _ 13 13 = true by kernel_rfl]; simp)) k), h.2⟩, ⟨fun j hg _ _ _ k h => ⟨own_keep h.1 (kQ_below (fun e => by subst e; exact absurd hg (by rw [show goneB _ 14 13 = true by kernel_rfl]; simp)) k), h.2⟩, trivial⟩⟩⟩⟩⟩⟩⟩⟩⟩⟩⟩⟩⟩⟩⟩
            case hstep =>
              -- operation 0: Op.move (tmp 8)
              refine ⟨fun r wx hG hs hq hf => ?_, ?_⟩
              · have hQ := hq rfl
                have e8 : r 8 = .slice (some ⟨g8, 0, none⟩) (i + 1) cap8 := hs 8 rfl
                refine (if_pos rfl).symm ▸ ?_
                clear hs hq hf
                unfold gives
                go_simp
                exact ⟨kQ_refl _ _ _ _, rfl⟩
              -- operation 1: Op.move (tmp 8)
              refine ⟨fun r wx hG hs hq hf => ?_, ?_⟩
              · have hQ := hq rfl
                have e8 : r 8 = .slice (some ⟨g8, 0, none⟩) (i + 1) cap8 := hs 8 rfl
                refine (if_pos rfl).symm ▸ ?_
                clear hs hq hf
                unfold gives
                go_simp
                exact ⟨kQ_refl _ _ _ _, rfl⟩
              -- operation 2: Op.move (tmp 10)
              refine ⟨fun r wx hG hs hq hf => ?_, ?_⟩
              · have hQ := hq rfl
                have e10 : r 10 = .int .i64 q := hs 10 rfl
                refine (if_pos rfl).symm ▸ ?_
                clear hs hq hf
                unfold gives
                go_simp
                exact ⟨kQ_refl _ _ _ _, rfl⟩
              -- operation 3: Op.indexAddr 40 (tmp 69) (tmp 70)
              refine ⟨fun r wx hG hs hq hf => ?_, ?_⟩
              · have hQ := hq rfl
                have h1 : r 69 = .slice (some ⟨g8, 0, none⟩) (i + 1) cap8 := hf.1
                have h2 : r 70 = .int .i64 (q : Nat) := hf.2.1
                refine (if_pos rfl).symm ▸ ?_
                clear hs hq hf
                unfold gives
                go_simp
                exact ⟨kQ_refl _ _ _ _, rfl⟩
              -- operation 4: Op.load 9 (tmp 71)
              refine ⟨fun r wx hG hs hq hf => ?_, ?_⟩
              · have hQ := hq rfl
                have h3 : r 71 = .pointer (some ⟨g8, q, none⟩) := hf.1
                refine (if_pos rfl).symm ▸ ?_
                clear hs hq hf
                unfold gives
                have hcl := own_text (own_keep HM8.out.1 hQ) hm
                go_simp
                exact ⟨kQ_refl _ _ _ _, rfl⟩
              -- operation 5: Op.move (tmp 1)
              refine ⟨fun r wx hG hs hq hf => ?_, ?_⟩
              · have hQ := hq rfl
                have e1 : r 1 = .slice (some ⟨bb, off, none⟩) scl c1 := hs 1 rfl
                refine (if_pos rfl).symm ▸ ?_
                clear hs hq hf
                unfold gives
                go_simp
                exact ⟨kQ_refl _ _ _ _, rfl⟩
              -- operation 6: Op.move (tmp 9)
              refine ⟨fun r wx hG hs hq hf => ?_, ?_⟩
              · have hQ := hq rfl
                have e9 : r 9 = .int .i64 i := hs 9 rfl
                refine (if_pos rfl).symm ▸ ?_
                clear hs hq hf
                unfold gives
                go_simp
                exact ⟨kQ_refl _ _ _ _, rfl⟩
              -- operation 7: Op.indexAddr 49 (tmp 73) (tmp 74)
              refine ⟨fun r wx hG hs hq hf => ?_, ?_⟩
              · have hQ := hq rfl
                have h5 : r 73 = .slice (some ⟨bb, off, none⟩) scl c1 := hf.1
                have h6 : r 74 = .int .i64 (i : Nat) := hf.2.1
                refine (if_pos rfl).symm ▸ ?_
                clear hs hq hf
                unfold gives
                go_simp
                exact ⟨kQ_refl _ _ _ _, rfl⟩
              -- operation 8: Op.fieldAddr 54 (tmp 75) 1
              refine ⟨fun r wx hG hs hq hf => ?_, ?_⟩
              · have hQ := hq rfl
                have h7 : r 75 = .pointer (some ⟨bb, off + i * 2, none⟩) := hf.1
                refine (if_pos rfl).symm ▸ ?_
                clear hs hq hf
                unfold gives
                go_simp
                exact ⟨kQ_refl _ _ _ _, rfl⟩
              -- operation 9: Op.load 22 (tmp 76)
              refine ⟨fun r wx hG hs hq hf => ?_, ?_⟩
              · have hQ := hq rfl
                have h8 : r 76 = .pointer (some ⟨bb, off + i * 2 + 1, none⟩) := hf.1
                refine (if_pos rfl).symm ▸ ?_
                clear hs hq hf
                unfold gives
                have hcl := (hG.bl.cell (p := ⟨bb, off + i * 2 + 1, none⟩) HC.out.2).trans HC.out.1
                go_simp
                exact ⟨kQ_refl _ _ _ _, rfl⟩
              -- operation 10: Op.convert 22 9 (tmp 77)
              refine ⟨fun r wx hG hs hq hf => ?_, ?_⟩
              · have hQ := hq rfl
                have h9 : r 77 = .slice ab T.length cb := hf.1
                refine (if_pos rfl).symm ▸ ?_
                clear hs hq hf
                unfold gives
                have hcv := string_of_bytes (P := Tryd.prog) Tryd.underlying22 Tryd.underlying5 Tryd.underlying9 (HT.out.keep hG.bl)
                go_simp
                exact ⟨kQ_refl _ _ _ _, rfl⟩
              -- operation 11: Op.binOp BinOp.add 9 (tmp 72) (tmp 78) 9
              refine ⟨fun r wx hG hs hq hf => ?_, ?_⟩
              · have hQ := hq rfl
                have h4 : r 72 = .string ⟨m.1.toArray⟩ := hf.1
                have h10 : r 78 = .string ⟨T.toArray⟩ := hf.2.1
                refine (if_pos rfl).symm ▸ ?_
                clear hs hq hf
                unfold gives
                have hlim : ¬ 9223372036854775807 < m.1.length + T.length := by have := HML.out; omega
                go_simp
                exact ⟨kQ_refl _ _ _ _, strv_app m.1 T⟩
              -- operation 12: Op.buildSlice 40 1 #[(0, tmp 79)]
              refine ⟨fun r wx hG hs hq hf => ?_, ?_⟩
              · have hQ := hq rfl
                have h11 : r 79 = strv (m.1 ++ T) := hf.1
                refine (if_pos rfl).symm ▸ ?_
                clear hs hq hf
                unfold gives
                go_simp
                exact ⟨kQ_of (by decide) ((Below.refl _ _).alloc (Nat.le_refl _) _), Rd.one _ _ _ rfl⟩
              -- operation 13: Op.call ( callee := Callee.builtin Builtin.append, args := #[tmp 68, tmp 80], argTypes := #[40, 40] )
              refine ⟨fun r wx hG hs hq hf => ?_, ?_⟩
              · have hQ := hq rfl
                have h0 : r 68 = .slice (some ⟨g8, 0, none⟩) (i + 1) cap8 := hf.1
                have h12 : Rd wx 1 (r 80) 1 [strv (m.1 ++ T)] := hf.2.1
                refine (if_pos rfl).symm ▸ ?_
                clear hs hq hf
                unfold gives
                refine gives_app Tryd.underlying40 infoStr rfl (by decide) _ _ rfl h0 rfl (own_keep HM8.out.2 hQ) h12 (by omega) (by omega) (Nat.le_trans HB.out hQ.size) ?_
                intro v' wy ho hg _
                refine ⟨kQ_app (by have h := hg.grown; exact h), ho, fun j hj => ?_⟩
                rcases hg.blk j hj with h | h
                · simp [Value.ownBlock] at h; exact .inl h.symm
                · exact .inr (Nat.le_trans (by rw [HW5.out]; exact hQ.size) h)
              -- operation 14: Op.assign (tmp 81)
              refine ⟨fun r wx hG hs hq hf => ?_, ?_⟩
              · have h13 : wx.ownsRow B 9 1 (r 81) (i + 1 + 1) ((ms.map fun m => strv m.1) ++ [strv (m.1 ++ T)]) ∧ ∀ j, (r 81).ownBlock = some j → j = g8 ∨ W5 ≤ j := hf.1
                refine (if_pos rfl).symm ▸ ?_
                clear hs hq hf
                unfold gives
                go_simp
                exact ⟨kQ_refl _ _ _ _, h13⟩
              exact trivial
            case hend =>
              intro u wz hG hfin
              have z14 : wz.ownsRow B 9 1 (u 14) (i + 1 + 1) ((ms.map fun m => strv m.1) ++ [strv (m.1 ++ T)]) ∧ ∀ j, (u 14).ownBlock = some j → j = g8 ∨ W5 ≤ j := hfin 14 (by decide) (by kernel_rfl)
              clear hfin
              simp only [fill]
              go_simp
              obtain ⟨v8', hv8⟩ : ∃ v8', v8' = u 14 := ⟨_, rfl⟩
              rw [← hv8] at z14 ⊢
              have hlen2 : (ms ++ [(m.1 ++ T, true)]).length = i + 1 + 1 := by rw [List.length_append, htl]; rfl
              have hBz : B ≤ wz.heap.size := by
                obtain ⟨g, cap, _, h1, _, _, h2⟩ := own_at hG.ow (by omega)
                omega
              have hmp : (ms ++ [(m.1 ++ T, true)]).map (fun m => strv m.1) = (ms.map fun m => strv m.1) ++ [strv (m.1 ++ T)] := by simp
              have hMS : MS w wz B k v6' v8' (ms ++ [(m.1 ++ T, true)]) := ⟨by rw [hlen2]; exact hG.ow, by rw [hlen2, hmp]; exact z14.1, fun j h6 h8 => by
                have h1 := HX6.out j h6
                have h2 := hap6 j h6
                have h3 := HW5.out
                rcases z14.2 j h8 with h | h
                · exact h2 h
                · omega, hG.bl, HBB.out.1, hBz⟩
              have hbig : ∀ x ∈ ms ++ [(m.1 ++ T, true)], x.1.length ≤ (i + 1) * 1048576 := fun x hx => by
                rcases List.mem_append.1 hx with h | h
                · exact Nat.le_trans (HN.out.2.2.2.2.2.2.2.2.1 x h) (Nat.mul_le_mul_right _ (Nat.le_succ i))
                · have h2 := List.mem_singleton.1 h
                  rw [h2]
                  simp only [List.length_append]
                  rw [Nat.add_mul, Nat.one_mul]
                  exact Nat.add_le_add (HN.out.2.2.2.2.2.2.2.2.1 m (List.mem_of_getElem? hm)) hbl
              have hfb : ∀ x ∈ ms ++ [(m.1 ++ T, true)], x.2 = false → x.1 = [] := fun x hx => by
                rcases List.mem_append.1 hx with h | h
                · exact HN.out.2.2.2.2.2.2.2.2.2 x h
                · have h2 := List.mem_singleton.1 h
                  rw [h2]; intro h3; cases h3
              have H9 := Lib.hid (And.intro hMS (And.intro hbig hfb))
              clear hlen2 hBz hmp hMS hbig hfb z14 hG hv8 hG15 hap6 hg8w
              go_wp2_with fail
              go_roundw
              case rel => exact ⟨i + 1, ms ++ [(m.1 ++ T, true)], by go_num, by omega, by omega, by rw [List.length_append, htl]; rfl, H9.out.2.1, H9.out.2.2, H9.out.1⟩
              case measure => simp [intOf]; omega



        · have htb : ∀ m ∈ ms, m.1.length ≤ 31457280 := fun m hm => Nat.le_trans (htb m hm) (by omega)
          obtain ⟨tn, htn⟩ : ∃ tn, tn = ms.length := ⟨_, rfl⟩
          rw [← htn] at HS ⊢
          have HTN := Lib.hid htn
          have htn41 : tn ≤ 31 := by omega
          by_cases hi1 : i < sc.length
          · have hi3 : (i : Int) < (sc.length : Int) := by omega
            have hi4 : ¬ (i : Int) < 30 := by omega
            clear htl htn hgo hn6 hn8 hc6 hc8 hg6 hg8 hg6B hg8B
            iterate 1
              have HS3 := HS
              go_wp2_with fail
              go_loopw [11] (fun s11 wr => ∃ jj : Nat, jj ≤ tn ∧ s11 = .int .i64 jj ∧ RowKit.Hid (MS w wr B k (.slice (some ⟨g6, 0, none⟩) tn cap6) (.slice (some ⟨g8, 0, none⟩) tn cap8) ms)) (fun s11 _ => tn - (intOf s11).toNat)
              case atStart => exact ⟨0, by omega, rfl, HS3⟩
              case round =>
                clear HS HS3
                obtain ⟨jj, hj, rfl, HJ⟩ := hrel
                by_cases hjl : jj < tn
                · have hjz : (jj : Int) < (tn : Int) := by omega
                  have hj0 : (0 : Int) ≤ (jj : Int) := by omega
                  obtain ⟨m, hm⟩ : ∃ m, ms[jj]? = some m := ⟨_, List.getElem?_eq_getElem (by rw [← HTN.out]; exact hjl)⟩
                  have hmm := List.mem_of_getElem? hm
                  have hml := htb m hmm
                  have hst : m.2 = false → m.1 = [] := hfb m hmm
                  have hszm : (Tryd.prog.info? 51).map (·.size) = some (mkE k m).length := mkInfo' _ (mkE_length k HK.out.2 m)
                  have h1 : ∀ w', MS w w' B k (.slice (some ⟨g6, 0, none⟩) tn cap6) (.slice (some ⟨g8, 0, none⟩) tn cap8) ms → _ := fun w' h => MMark_any k (if m.2 then kx k 54 ++ m.1 else []) m.2 w' HK.out.2 (by
                    have h64 := HK.out.2
                    split
                    · rw [List.length_append, kx_length, h64]; omega
                    · simp) (hT.toTabs.keepB h.bl)
                  have hmac : macB key m.1 = markB k (kx k 54 ++ m.1) := by rw [macB, ← HK.out.1]
                  rw [bt_mk k m hst, show mkL k (if m.2 then kx k 54 ++ m.1 else []) m.2 = mkE k m from rfl, ← hmac] at h1
                  have h2 : ∀ v w', MS w w' B k (.slice (some ⟨g6, 0, none⟩) tn cap6) (.slice (some ⟨g8, 0, none⟩) tn cap8) ms → Rd w' 1 v m.1.length (bv m.1) → _ := fun v w' h hr => refMark_any key m.1 (.slice a0 key.length c0) v w' (by omega) (by omega) (HR.out.1.keep h.bl) hr (hT.keepB h.bl)
                  have hee := fun w => eqIn_hash (macB key m.1) (macB key m.1) (macB_length _ _) (macB_length _ _) w
                  simp only [BEq.rfl] at hee
                  generalize (bv (macB key m.1)).toArray = o at *
                  have HS1 := Lib.hid h1
                  have HS2 := Lib.hid h2
                  have HE := Lib.hid hee
                  clear h1 h2 hee hmac hst hmm
                  go_upto_region 19 with fail
                  refine wp_region_steps [some 88, some 89, some 90, some 91, some 92, some 93, some 94, some 95, some 96, some 97, some 98, some 99, some 100] [] (mk19F g6 g8 tn cap6 cap8 jj k m o key a0 c0) (fun _ wx wy => Below wx.heap.size wx wy) (fun wx => MS w wx B k (.slice (some ⟨g6, 0, none⟩) tn cap6) (.slice (some ⟨g8, 0, none⟩) tn cap8) ms) (by kernel_rfl) (by kernel_rfl) rfl (by kernel_rfl) (HJ.out.keep (Below.refl _ _).drew) (fun _ wx => Below.refl _ _) (fun _ _ _ h k => h.keep k) ?hF ?hstep ?hend
                  case hF =>
                    exact ⟨fun _ _ _ _ _ _ h => h, ⟨fun _ _ _ _ _ _ h => h, ⟨fun _ _ _ _ _ _ h => h, ⟨fun _ _ _ _ _ _ h => h, ⟨fun _ _ _ _ _ _ h => h, ⟨fun _ _ _ _ _ _ h => h, ⟨fun _ _ _ _ _ _ h => h, ⟨fun _ _ _ _ _ _ h => h, ⟨fun _ _ _ _ _ _ h => h, ⟨fun _ _ _ _ _ _ h => h, ⟨fun _ _ _ _ _ k h => Rd.keep h k, ⟨fun _ _ _ _ _ _ h => h, ⟨fun _ _ _ _ _ _ h => h, trivial⟩⟩⟩⟩⟩⟩⟩⟩⟩⟩⟩⟩⟩
                  case hstep =>
                    -- operation 0: Op.move (tmp 6)
                    refine ⟨fun r wx hG hs hq hf => ?_, ?_⟩
                    · have e6 : r 6 = .slice (some ⟨g6, 0, none⟩) tn cap6 := hs 6 rfl
                      refine (if_pos rfl).symm ▸ ?_
                      clear hs hq hf
                      unfold gives
                      go_simp
                      exact ⟨Below.refl _ _, rfl⟩
                    -- operation 1: Op.move (tmp 11)
                    refine ⟨fun r wx hG hs hq hf => ?_, ?_⟩
                    · have e11 : r 11 = .int .i64 jj := hs 11 rfl
                      refine (if_pos rfl).symm ▸ ?_
                      clear hs hq hf
                      unfold gives
                      go_simp
                      exact ⟨Below.refl _ _, rfl⟩
                    -- operation 2: Op.indexAddr 53 (tmp 88) (tmp 89)
                    refine ⟨fun r wx hG hs hq hf => ?_, ?_⟩
                    · have h0 : r 88 = .slice (some ⟨g6, 0, none⟩) tn cap6 := hf.1
                      have h1 : r 89 = .int .i64 (jj : Nat) := hf.2.1
                      refine (if_pos rfl).symm ▸ ?_
                      clear hs hq hf
                      unfold gives
                      go_simp
                      exact ⟨Below.refl _ _, rfl⟩
                    -- operation 3: Op.load 51 (tmp 90)
                    refine ⟨fun r wx hG hs hq hf => ?_, ?_⟩
                    · have h2 : r 90 = .pointer (some ⟨g6, jj * 138, none⟩) := hf.1
                      refine (if_pos rfl).symm ▸ ?_
                      clear hs hq hf
                      unfold gives
                      refine gives_load_mid 51 _ rfl g6 (jj * 138) h2 (mkE k m) _ (own_range HK.out.2 (ms_ow hG) hm) Tryd.underlying51 rfl hszm ⟨Below.refl _ _, rfl⟩
                    -- operation 4: Op.call ( callee := Callee.value (func 23), args := #[tmp 91], argTypes := #[51] )
                    refine ⟨fun r wx hG hs hq hf => ?_, ?_⟩
                    · have h3 : r 91 = .agg (mkE k m).toArray := hf.1
                      refine (if_pos rfl).symm ▸ ?_
                      clear hs hq hf
                      unfold gives
                      go_simp
                      refine (HS1.out wx hG).mono ?_
                      rintro e wy ⟨rfl, hb1⟩
                      exact ⟨_, rfl, hb1, rfl⟩
                    -- operation 5: Op.move (tmp 0)
                    refine ⟨fun r wx hG hs hq hf => ?_, ?_⟩
                    · have e0 : r 0 = .slice a0 key.length c0 := hs 0 rfl
                      refine (if_pos rfl).symm ▸ ?_
                      clear hs hq hf
                      unfold gives
                      go_simp
                      exact ⟨Below.refl _ _, rfl⟩
                    -- operation 6: Op.move (tmp 8)
                    refine ⟨fun r wx hG hs hq hf => ?_, ?_⟩
                    · have e8 : r 8 = .slice (some ⟨g8, 0, none⟩) tn cap8 := hs 8 rfl
                      refine (if_pos rfl).symm ▸ ?_
                      clear hs hq hf
                      unfold gives
                      go_simp
                      exact ⟨Below.refl _ _, rfl⟩
                    -- operation 7: Op.move (tmp 11)
                    refine ⟨fun r wx hG hs hq hf => ?_, ?_⟩
                    · have e11 : r 11 = .int .i64 jj := hs 11 rfl
                      refine (if_pos rfl).symm ▸ ?_
                      clear hs hq hf
                      unfold gives
                      go_simp
                      exact ⟨Below.refl _ _, rfl⟩
                    -- operation 8: Op.indexAddr 40 (tmp 94) (tmp 95)
                    refine ⟨fun r wx hG hs hq hf => ?_, ?_⟩
                    · have h6 : r 94 = .slice (some ⟨g8, 0, none⟩) tn cap8 := hf.1
                      have h7 : r 95 = .int .i64 (jj : Nat) := hf.2.1
                      refine (if_pos rfl).symm ▸ ?_
                      clear hs hq hf
                      unfold gives
                      go_simp
                      exact ⟨Below.refl _ _, rfl⟩
                    -- operation 9: Op.load 9 (tmp 96)
                    refine ⟨fun r wx hG hs hq hf => ?_, ?_⟩
                    · have h8 : r 96 = .pointer (some ⟨g8, jj, none⟩) := hf.1
                      refine (if_pos rfl).symm ▸ ?_
                      clear hs hq hf
                      unfold gives
                      have hcl := own_text (ms_tx hG) hm
                      go_simp
                      exact ⟨Below.refl _ _, rfl⟩
                    -- operation 10: Op.convert 9 22 (tmp 97)
                    refine ⟨fun r wx hG hs hq hf => ?_, ?_⟩
                    · have h9 : r 97 = .string ⟨m.1.toArray⟩ := hf.1
                      refine (if_pos rfl).symm ▸ ?_
                      clear hs hq hf
                      unfold gives
                      have hcv := Lib.run_convert_string_bytes (P := Tryd.prog) wx 9 22 5 ⟨m.1.toArray⟩ Tryd.underlying9 Tryd.underlying22 Tryd.underlying5
                      go_simp
                      exact ⟨bytesWorld_below _ _ _, by simpa [mk19F] using bytesWorld_rd wx _ m.1 _ (grownCap_ge wx m.1.length 0 _)⟩
                    -- operation 11: Op.call ( callee := Callee.value (func 24), args := #[tmp 93, tmp 98], argTypes := #[22, 22] )
                    refine ⟨fun r wx hG hs hq hf => ?_, ?_⟩
                    · have h5 : r 93 = .slice a0 key.length c0 := hf.1
                      have h10 : Rd wx 1 (r 98) m.1.length (bv m.1) := hf.2.1
                      refine (if_pos rfl).symm ▸ ?_
                      clear hs hq hf
                      unfold gives
                      go_simp
                      refine (HS2.out _ wx hG h10).mono ?_
                      rintro e wy ⟨rfl, hb1⟩
                      exact ⟨_, rfl, hb1, rfl⟩
                    -- operation 12: Op.binOp BinOp.neq 25 (tmp 92) (tmp 99) 25
                    refine ⟨fun r wx hG hs hq hf => ?_, ?_⟩
                    · have h4 : r 92 = .agg o := hf.1
                      have h11 : r 99 = .agg o := hf.2.1
                      refine (if_pos rfl).symm ▸ ?_
                      clear hs hq hf
                      unfold gives
                      have hgd := eq_guard
                      have he := HE.out wx
                      go_simp
                      exact ⟨Below.refl _ _, rfl⟩
                    exact trivial
                  case hend =>
                    intro u wz hG hfin
                    have z12 : u 12 = .bool false := hfin 12 (by decide) (by kernel_rfl)
                    clear hfin
                    simp only [fill]
                    go_simp
                    go_wp2_with fail
                    go_roundw
                    case rel => exact ⟨jj + 1, by omega, by go_num, hG⟩
                    case measure => simp [intOf]; omega
                · have hjz : ¬ (jj : Int) < (tn : Int) := by omega
                  go_upto_region 22 with fail
                  obtain ⟨A0, hA0⟩ : ∃ A0, A0 = (mkL (zs 64) [] false).toArray := ⟨_, rfl⟩
                  have hszA : (Tryd.prog.info? 51).map (·.size) = some A0.size := by rw [hA0]; exact mkInfo _ (mkL_length _ _ _ (by simp [zs]))
                  have hM1 := fun w' hG' => MMark_any (zs 64) [] false w' (by simp [zs]) (by simp) hG'
                  have hM2 := fun w' hG' => MMark_any (zs 64) (kx (zs 64) 54 ++ key) true w' (by simp [zs]) (by rw [List.length_append, kx_length]; simp [zs]; omega) hG'
                  have hW1 := fun w' hr' hG' => MWrite_any (zs 64) [] key false (.slice a0 key.length c0) w' (by simp [zs]) (by simp; omega) hr' hG'
                  have hm1 : markB (zs 64) (bt (zs 64) [] false) = macB [] [] := by rw [mac_nil, List.append_nil]; rfl
                  have hm2 : markB (zs 64) (bt (zs 64) (kx (zs 64) 54 ++ key) true) = macB [] key := by rw [mac_nil]; rfl
                  rw [hm1, ← hA0] at hM1
                  rw [hm2] at hM2
                  rw [show bt (zs 64) [] false = kx (zs 64) 54 from rfl, ← hA0] at hW1
                  have hR1 := fun w' hG' => refMark_any [] [] (.slice none 0 0) (.slice none 0 0) w' (by simp) (by simp) (Rd.nil w' 1) (Rd.nil w' 1) hG'
                  have hR2 := fun w' hr' hG' => refMark_any [] key (.slice none 0 0) (.slice a0 key.length c0) w' (by simp) (by omega) (Rd.nil w' 1) hr' hG'
                  have he1 := fun w => eqIn_hash (macB [] []) (macB [] []) (macB_length _ _) (macB_length _ _) w
                  have he2 := fun w => eqIn_hash (macB [] key) (macB [] key) (macB_length _ _) (macB_length _ _) w
                  simp only [BEq.rfl] at he1 he2
                  generalize (mkL (zs 64) (kx (zs 64) 54 ++ key) true).toArray = A1 at *
                  generalize (bv (macB [] [])).toArray = o1 at *
                  generalize (bv (macB [] key)).toArray = o2 at *
                  rw [← hA0]
                  obtain ⟨w5, hw5⟩ : ∃ x : World, x = wr.alloc (.cells A0 51) := ⟨_, rfl⟩
                  rw [← hw5]
                  have hrow : w5.heap[wr.heap.size]? = some (.cells A0 51 (0, 0)) := by rw [hw5]; exact heap_alloc_new _ _
                  have hb5 : Below w.heap.size w w5 := by rw [hw5]; exact HJ.out.bl.alloc HJ.out.bl.size _
                  generalize wr.heap.size = g12 at *
                  have HM1 := Lib.hid hM1
                  have HM2 := Lib.hid hM2
                  have HW1 := Lib.hid hW1
                  have HR1 := Lib.hid hR1
                  have HR2 := Lib.hid hR2
                  have HE1 := Lib.hid he1
                  have HE2 := Lib.hid he2
                  have H5 := Lib.hid (And.intro hrow (And.intro hb5 hszA))
                  clear hM1 hM2 hW1 hR1 hR2 he1 he2 hrow hb5 hszA hw5 hA0 hm1 hm2 HJ
                  go_wp2_with (with_reducible show wpList _ _ _ (⟨some 101, _, _, _, _, _⟩ :: _) _ _; refine wpList_load_row rfl _ _ rfl g12 rfl _ _ (0, 0) _ H5.out.1 Tryd.underlying51 rfl H5.out.2.2 ?_)
                  refine (HM1.out w5 (hT.toTabs.keepB H5.out.2.1)).mono ?_
                  rintro e w6 ⟨rfl, hb6⟩
                  have hr6 := (hb6.block _ (Array.getElem?_eq_some_iff.1 H5.out.1).1).trans H5.out.1
                  have hbw6 := H5.out.2.1.trans (hb6.mono H5.out.2.1.size)
                  go_wp2_with fail
                  refine (HR1.out w6 (hT.keepB hbw6)).mono ?_
                  rintro e w7 ⟨rfl, hb7⟩
                  have hr7 := (hb7.block _ (Array.getElem?_eq_some_iff.1 hr6).1).trans hr6
                  have hbw7 := hbw6.trans (hb7.mono hbw6.size)
                  have H7 := Lib.hid (And.intro hr7 (And.intro hbw7 H5.out.2.2))
                  clear hr6 hbw6 hb6 hr7 hbw7 hb7 H5
                  go_wp2_with (first | (with_reducible show wpList _ _ _ (⟨some 104, _, _, _, _, _⟩ :: _) _ _; refine wpList_eqlh rfl _ _ _ rfl o1 rfl rfl HE1.out ?_) | (with_reducible show wpList _ _ _ (⟨some 106, _, _, _, _, _⟩ :: _) _ _; refine wpList_guard rfl ?_; refine wpList_load_row rfl _ _ rfl g12 rfl _ _ (0, 0) _ H7.out.1 Tryd.underlying51 rfl H7.out.2.2 ?_))
                  refine (HW1.out w7 (HR.out.1.keep H7.out.2.1) (hT.toTabs.keepB H7.out.2.1)).mono ?_
                  rintro e w8 ⟨rfl, hb8⟩
                  have hbw8 := H7.out.2.1.trans (hb8.mono H7.out.2.1.size)
                  go_wp2_with fail
                  refine (HM2.out w8 (hT.toTabs.keepB hbw8)).mono ?_
                  rintro e w9 ⟨rfl, hb9⟩
                  have hbw9 := hbw8.trans (hb9.mono hbw8.size)
                  go_wp2_with fail
                  refine (HR2.out w9 (HR.out.1.keep hbw9) (hT.keepB hbw9)).mono ?_
                  rintro e w10 ⟨rfl, hb10⟩
                  have hbw10 := hbw9.trans (hb10.mono hbw9.size)
                  clear hb8 hb9 hb10 hbw8 hbw9
                  go_wp2_with (with_reducible show wpList _ _ _ (⟨some 112, _, _, _, _, _⟩ :: _) _ _; refine wpList_guard rfl ?_; refine wpList_eqlh rfl _ _ _ rfl o2 rfl rfl HE2.out ?_)
                  go_ret
                  exact ⟨by simp, hbw10⟩
          · have hi3 : ¬ (i : Int) < (sc.length : Int) := by omega
            clear htl htn hgo hn6 hn8 hc6 hc8 hg6 hg8 hg6B hg8B
            iterate 1
              have HS3 := HS
              go_wp2_with fail
              go_loopw [11] (fun s11 wr => ∃ jj : Nat, jj ≤ tn ∧ s11 = .int .i64 jj ∧ RowKit.Hid (MS w wr B k (.slice (some ⟨g6, 0, none⟩) tn cap6) (.slice (some ⟨g8, 0, none⟩) tn cap8) ms)) (fun s11 _ => tn - (intOf s11).toNat)
              case atStart => exact ⟨0, by omega, rfl, HS3⟩
              case round =>
                clear HS HS3
                obtain ⟨jj, hj, rfl, HJ⟩ := hrel
                by_cases hjl : jj < tn
                · have hjz : (jj : Int) < (tn : Int) := by omega
                  have hj0 : (0 : Int) ≤ (jj : Int) := by omega
                  obtain ⟨m, hm⟩ : ∃ m, ms[jj]? = some m := ⟨_, List.getElem?_eq_getElem (by rw [← HTN.out]; exact hjl)⟩
                  have hmm := List.mem_of_getElem? hm
                  have hml := htb m hmm
                  have hst : m.2 = false → m.1 = [] := hfb m hmm
                  have hszm : (Tryd.prog.info? 51).map (·.size) = some (mkE k m).length := mkInfo' _ (mkE_length k HK.out.2 m)
                  have h1 : ∀ w', MS w w' B k (.slice (some ⟨g6, 0, none⟩) tn cap6) (.slice (some ⟨g8, 0, none⟩) tn cap8) ms → _ := fun w' h => MMark_any k (if m.2 then kx k 54 ++ m.1 else []) m.2 w' HK.out.2 (by
                    have h64 := HK.out.2
                    split
                    · rw [List.length_append, kx_length, h64]; omega
                    · simp) (hT.toTabs.keepB h.bl)
                  have hmac : macB key m.1 = markB k (kx k 54 ++ m.1) := by rw [macB, ← HK.out.1]
                  rw [bt_mk k m hst, show mkL k (if m.2 then kx k 54 ++ m.1 else []) m.2 = mkE k m from rfl, ← hmac] at h1
                  have h2 : ∀ v w', MS w w' B k (.slice (some ⟨g6, 0, none⟩) tn cap6) (.slice (some ⟨g8, 0, none⟩) tn cap8) ms → Rd w' 1 v m.1.length (bv m.1) → _ := fun v w' h hr => refMark_any key m.1 (.slice a0 key.length c0) v w' (by omega) (by omega) (HR.out.1.keep h.bl) hr (hT.keepB h.bl)
                  have hee := fun w => eqIn_hash (macB key m.1) (macB key m.1) (macB_length _ _) (macB_length _ _) w
                  simp only [BEq.rfl] at hee
                  generalize (bv (macB key m.1)).toArray = o at *
                  have HS1 := Lib.hid h1
                  have HS2 := Lib.hid h2
                  have HE := Lib.hid hee
                  clear h1 h2 hee hmac hst hmm
                  go_upto_region 19 with fail
                  refine wp_region_steps [some 88, some 89, some 90, some 91, some 92, some 93, some 94, some 95, some 96, some 97, some 98, some 99, some 100] [] (mk19F g6 g8 tn cap6 cap8 jj k m o key a0 c0) (fun _ wx wy => Below wx.heap.size wx wy) (fun wx => MS w wx B k (.slice (some ⟨g6, 0, none⟩) tn cap6) (.slice (some ⟨g8, 0, none⟩) tn cap8) ms) (by kernel_rfl) (by kernel_rfl) rfl (by kernel_rfl) (HJ.out.keep (Below.refl _ _).drew) (fun _ wx => Below.refl _ _) (fun _ _ _ h k => h.keep k) ?hF ?hstep ?hend
                  case hF =>
                    exact ⟨fun _ _ _ _ _ _ h => h, ⟨fun _ _ _ _ _ _ h => h, ⟨fun _ _ _ _ _ _ h => h, ⟨fun _ _ _ _ _ _ h => h, ⟨fun _ _ _ _ _ _ h => h, ⟨fun _ _ _ _ _ _ h => h, ⟨fun _ _ _ _ _ _ h => h, ⟨fun _ _ _ _ _ _ h => h, ⟨fun _ _ _ _ _ _ h => h, ⟨fun _ _ _ _ _ _ h => h, ⟨fun _ _ _ _ _ k h => Rd.keep h k, ⟨fun _ _ _ _ _ _ h => h, ⟨fun _ _ _ _ _ _ h => h, trivial⟩⟩⟩⟩⟩⟩⟩⟩⟩⟩⟩⟩⟩
                  case hstep =>
                    -- operation 0: Op.move (tmp 6)
                    refine ⟨fun r wx hG hs hq hf => ?_, ?_⟩
                    · have e6 : r 6 = .slice (some ⟨g6, 0, none⟩) tn cap6 := hs 6 rfl
                      refine (if_pos rfl).symm ▸ ?_
                      clear hs hq hf
                      unfold gives
                      go_simp
                      exact ⟨Below.refl _ _, rfl⟩
                    -- operation 1: Op.move (tmp 11)
                    refine ⟨fun r wx hG hs hq hf => ?_, ?_⟩
                    · have e11 : r 11 = .int .i64 jj := hs 11 rfl
                      refine (if_pos rfl).symm ▸ ?_
                      clear hs hq hf
                      unfold gives
                      go_simp
                      exact ⟨Below.refl _ _, rfl⟩
                    -- operation 2: Op.indexAddr 53 (tmp 88) (tmp 89)
                    refine ⟨fun r wx hG hs hq hf => ?_, ?_⟩
                    · have h0 : r 88 = .slice (some ⟨g6, 0, none⟩) tn cap6 := hf.1
                      have h1 : r 89 = .int .i64 (jj : Nat) := hf.2.1
                      refine (if_pos rfl).symm ▸ ?_
                      clear hs hq hf
                      unfold gives
                      go_simp
                      exact ⟨Below.refl _ _, rfl⟩
                    -- operation 3: Op.load 51 (tmp 90)
                    refine ⟨fun r wx hG hs hq hf => ?_, ?_⟩
                    · have h2 : r 90 = .pointer (some ⟨g6, jj * 138, none⟩) := hf.1
                      refine (if_pos rfl).symm ▸ ?_
                      clear hs hq hf
                      unfold gives
                      refine gives_load_mid 51 _ rfl g6 (jj * 138) h2 (mkE k m) _ (own_range HK.out.2 (ms_ow hG) hm) Tryd.underlying51 rfl hszm ⟨Below.refl _ _, rfl⟩
                    -- operation 4: Op.call ( callee := Callee.value (func 23), args := #[tmp 91], argTypes := #[51] )
                    refine ⟨fun r wx hG hs hq hf => ?_, ?_⟩
                    · have h3 : r 91 = .agg (mkE k m).toArray := hf.1
                      refine (if_pos rfl).symm ▸ ?_
                      clear hs hq hf
                      unfold gives
                      go_simp
                      refine (HS1.out wx hG).mono ?_
                      rintro e wy ⟨rfl, hb1⟩
                      exact ⟨_, rfl, hb1, rfl⟩
                    -- operation 5: Op.move (tmp 0)
                    refine ⟨fun r wx hG hs hq hf => ?_, ?_⟩
                    · have e0 : r 0 = .slice a0 key.length c0 := hs 0 rfl
                      refine (if_pos rfl).symm ▸ ?_
                      clear hs hq hf
                      unfold gives
                      go_simp
                      exact ⟨Below.refl _ _, rfl⟩
                    -- operation 6: Op.move (tmp 8)
                    refine ⟨fun r wx hG hs hq hf => ?_, ?_⟩
                    · have e8 : r 8 = .slice (some ⟨g8, 0, none⟩) tn cap8 := hs 8 rfl
                      refine (if_pos rfl).symm ▸ ?_
                      clear hs hq hf
                      unfold gives
                      go_simp
                      exact ⟨Below.refl _ _, rfl⟩
                    -- operation 7: Op.move (tmp 11)
                    refine ⟨fun r wx hG hs hq hf => ?_, ?_⟩
                    · have e11 : r 11 = .int .i64 jj := hs 11 rfl
                      refine (if_pos rfl).symm ▸ ?_
                      clear hs hq hf
                      unfold gives
                      go_simp
                      exact ⟨Below.refl _ _, rfl⟩
                    -- operation 8: Op.indexAddr 40 (tmp 94) (tmp 95)
                    refine ⟨fun r wx hG hs hq hf => ?_, ?_⟩
                    · have h6 : r 94 = .slice (some ⟨g8, 0, none⟩) tn cap8 := hf.1
                      have h7 : r 95 = .int .i64 (jj : Nat) := hf.2.1
                      refine (if_pos rfl).symm ▸ ?_
                      clear hs hq hf
                      unfold gives
                      go_simp
                      exact ⟨Below.refl _ _, rfl⟩
                    -- operation 9: Op.load 9 (tmp 96)
                    refine ⟨fun r wx hG hs hq hf => ?_, ?_⟩
                    · have h8 : r 96 = .pointer (some ⟨g8, jj, none⟩) := hf.1
                      refine (if_pos rfl).symm ▸ ?_
                      clear hs hq hf
                      unfold gives
                      have hcl := own_text (ms_tx hG) hm
                      go_simp
                      exact ⟨Below.refl _ _, rfl⟩
                    -- operation 10: Op.convert 9 22 (tmp 97)
                    refine ⟨fun r wx hG hs hq hf => ?_, ?_⟩
                    · have h9 : r 97 = .string ⟨m.1.toArray⟩ := hf.1
                      refine (if_pos rfl).symm ▸ ?_
                      clear hs hq hf
                      unfold gives
                      have hcv := Lib.run_convert_string_bytes (P := Tryd.prog) wx 9 22 5 ⟨m.1.toArray⟩ Tryd.underlying9 Tryd.underlying22 Tryd.underlying5
                      go_simp
                      exact ⟨bytesWorld_below _ _ _, by simpa [mk19F] using bytesWorld_rd wx _ m.1 _ (grownCap_ge wx m.1.length 0 _)⟩
                    -- operation 11: Op.call ( callee := Callee.value (func 24), args := #[tmp 93, tmp 98], argTypes := #[22, 22] )
                    refine ⟨fun r wx hG hs hq hf => ?_, ?_⟩
                    · have h5 : r 93 = .slice a0 key.length c0 := hf.1
                      have h10 : Rd wx 1 (r 98) m.1.length (bv m.1) := hf.2.1
                      refine (if_pos rfl).symm ▸ ?_
                      clear hs hq hf
                      unfold gives
                      go_simp
                      refine (HS2.out _ wx hG h10).mono ?_
                      rintro e wy ⟨rfl, hb1⟩
                      exact ⟨_, rfl, hb1, rfl⟩
                    -- operation 12: Op.binOp BinOp.neq 25 (tmp 92) (tmp 99) 25
                    refine ⟨fun r wx hG hs hq hf => ?_, ?_⟩
                    · have h4 : r 92 = .agg o := hf.1
                      have h11 : r 99 = .agg o := hf.2.1
                      refine (if_pos rfl).symm ▸ ?_
                      clear hs hq hf
                      unfold gives
                      have hgd := eq_guard
                      have he := HE.out wx
                      go_simp
                      exact ⟨Below.refl _ _, rfl⟩
                    exact trivial
                  case hend =>
                    intro u wz hG hfin
                    have z12 : u 12 = .bool false := hfin 12 (by decide) (by kernel_rfl)
                    clear hfin
                    simp only [fill]
                    go_simp
                    go_wp2_with fail
                    go_roundw
                    case rel => exact ⟨jj + 1, by omega, by go_num, hG⟩
                    case measure => simp [intOf]; omega
                · have hjz : ¬ (jj : Int) < (tn : Int) := by omega
                  go_upto_region 22 with fail
                  obtain ⟨A0, hA0⟩ : ∃ A0, A0 = (mkL (zs 64) [] false).toArray := ⟨_, rfl⟩
                  have hszA : (Tryd.prog.info? 51).map (·.size) = some A0.size := by rw [hA0]; exact mkInfo _ (mkL_length _ _ _ (by simp [zs]))
                  have hM1 := fun w' hG' => MMark_any (zs 64) [] false w' (by simp [zs]) (by simp) hG'
                  have hM2 := fun w' hG' => MMark_any (zs 64) (kx (zs 64) 54 ++ key) true w' (by simp [zs]) (by rw [List.length_append, kx_length]; simp [zs]; omega) hG'
                  have hW1 := fun w' hr' hG' => MWrite_any (zs 64) [] key false (.slice a0 key.length c0) w' (by simp [zs]) (by simp; omega) hr' hG'
                  have hm1 : markB (zs 64) (bt (zs 64) [] false) = macB [] [] := by rw [mac_nil, List.append_nil]; rfl
                  have hm2 : markB (zs 64) (bt (zs 64) (kx (zs 64) 54 ++ key) true) = macB [] key := by rw [mac_nil]; rfl
                  rw [hm1, ← hA0] at hM1
                  rw [hm2] at hM2
                  rw [show bt (zs 64) [] false = kx (zs 64) 54 from rfl, ← hA0] at hW1
                  have hR1 := fun w' hG' => refMark_any [] [] (.slice none 0 0) (.slice none 0 0) w' (by simp) (by simp) (Rd.nil w' 1) (Rd.nil w' 1) hG'
                  have hR2 := fun w' hr' hG' => refMark_any [] key (.slice none 0 0) (.slice a0 key.length c0) w' (by simp) (by omega) (Rd.nil w' 1) hr' hG'
                  have he1 := fun w => eqIn_hash (macB [] []) (macB [] []) (macB_length _ _) (macB_length _ _) w
                  have he2 := fun w => eqIn_hash (macB [] key) (macB [] key) (macB_length _ _) (macB_length _ _) w
                  simp only [BEq.rfl] at he1 he2
                  generalize (mkL (zs 64) (kx (zs 64) 54 ++ key) true).toArray = A1 at *
                  generalize (bv (macB [] [])).toArray = o1 at *
                  generalize (bv (macB [] key)).toArray = o2 at *
                  rw [← hA0]
                  obtain ⟨w5, hw5⟩ : ∃ x : World, x = wr.alloc (.cells A0 51) := ⟨_, rfl⟩
                  rw [← hw5]
                  have hrow : w5.heap[wr.heap.size]? = some (.cells A0 51 (0, 0)) := by rw [hw5]; exact heap_alloc_new _ _
                  have hb5 : Below w.heap.size w w5 := by rw [hw5]; exact HJ.out.bl.alloc HJ.out.bl.size _
                  generalize wr.heap.size = g12 at *
                  have HM1 := Lib.hid hM1
                  have HM2 := Lib.hid hM2
                  have HW1 := Lib.hid hW1
                  have HR1 := Lib.hid hR1
                  have HR2 := Lib.hid hR2
                  have HE1 := Lib.hid he1
                  have HE2 := Lib.hid he2
                  have H5 := Lib.hid (And.intro hrow (And.intro hb5 hszA))
                  clear hM1 hM2 hW1 hR1 hR2 he1 he2 hrow hb5 hszA hw5 hA0 hm1 hm2 HJ
                  go_wp2_with (with_reducible show wpList _ _ _ (⟨some 101, _, _, _, _, _⟩ :: _) _ _; refine wpList_load_row rfl _ _ rfl g12 rfl _ _ (0, 0) _ H5.out.1 Tryd.underlying51 rfl H5.out.2.2 ?_)
                  refine (HM1.out w5 (hT.toTabs.keepB H5.out.2.1)).mono ?_
                  rintro e w6 ⟨rfl, hb6⟩
                  have hr6 := (hb6.block _ (Array.getElem?_eq_some_iff.1 H5.out.1).1).trans H5.out.1
                  have hbw6 := H5.out.2.1.trans (hb6.mono H5.out.2.1.size)
                  go_wp2_with fail
                  refine (HR1.out w6 (hT.keepB hbw6)).mono ?_
                  rintro e w7 ⟨rfl, hb7⟩
                  have hr7 := (hb7.block _ (Array.getElem?_eq_some_iff.1 hr6).1).trans hr6
                  have hbw7 := hbw6.trans (hb7.mono hbw6.size)
                  have H7 := Lib.hid (And.intro hr7 (And.intro hbw7 H5.out.2.2))
                  clear hr6 hbw6 hb6 hr7 hbw7 hb7 H5
                  go_wp2_with (first | (with_reducible show wpList _ _ _ (⟨some 104, _, _, _, _, _⟩ :: _) _ _; refine wpList_eqlh rfl _ _ _ rfl o1 rfl rfl HE1.out ?_) | (with_reducible show wpList _ _ _ (⟨some 106, _, _, _, _, _⟩ :: _) _ _; refine wpList_guard rfl ?_; refine wpList_load_row rfl _ _ rfl g12 rfl _ _ (0, 0) _ H7.out.1 Tryd.underlying51 rfl H7.out.2.2 ?_))
                  refine (HW1.out w7 (HR.out.1.keep H7.out.2.1) (hT.toTabs.keepB H7.out.2.1)).mono ?_
                  rintro e w8 ⟨rfl, hb8⟩
                  have hbw8 := H7.out.2.1.trans (hb8.mono H7.out.2.1.size)
                  go_wp2_with fail
                  refine (HM2.out w8 (hT.toTabs.keepB hbw8)).mono ?_
                  rintro e w9 ⟨rfl, hb9⟩
                  have hbw9 := hbw8.trans (hb9.mono hbw8.size)
                  go_wp2_with fail
                  refine (HR2.out w9 (HR.out.1.keep hbw9) (hT.keepB hbw9)).mono ?_
                  rintro e w10 ⟨rfl, hb10⟩
                  have hbw10 := hbw9.trans (hb10.mono hbw9.size)
                  clear hb8 hb9 hb10 hbw8 hbw9
                  go_wp2_with (with_reducible show wpList _ _ _ (⟨some 112, _, _, _, _, _⟩ :: _) _ _; refine wpList_guard rfl ?_; refine wpList_eqlh rfl _ _ _ rfl o2 rfl rfl HE2.out ?_)
                  go_ret
                  exact ⟨by simp, hbw10⟩
end Go.Proofs.YtkcnakijfmemlaaDoor
