/- GaugeRuns: the walk. (printed by gen/garuns.py) -/
import Derived.Test.YtdociiogddihfaaGaKa
import Derived.Test.YtdociiogddihfaaTw
import Derived.Laws.Tables
namespace Go.Proofs.Ytdociiogddihfaa
open Go.ChangeShapes Go.WideShapes Go.ChangeAt Go.RowKit

/-- A spread's value. -/
def SpV (v : Value) (N s : Nat) : Prop := ∃ r, v = .float .f64 r ∧ r < 18446744073709551616 ∧ (if N = 0 then r = 9221120237041090561 else ∃ q, FR .quo s (floatOfInt .f64 N) q ∧ SR q r)
theorem SpV_same {N s s' r r' : Nat} (h : if N = 0 then r = 9221120237041090561 else ∃ q, FR .quo s (floatOfInt .f64 N) q ∧ SR q r) (h' : if N = 0 then r' = 9221120237041090561 else ∃ q, FR .quo s' (floatOfInt .f64 N) q ∧ SR q r') (hs : canB s = canB s') : canB r = canB r' := by
  by_cases hN : N = 0
  · rw [if_pos hN] at h h'; rw [h, h']
  · rw [if_neg hN] at h h'
    obtain ⟨q, h1, h2⟩ := h
    obtain ⟨q', h3, h4⟩ := h'
    exact h2.same h4 (h1.same (by simp) h3 hs rfl)
/-- Alike numbers. -/
def Ali (x y : Nat) : Prop := x < 18446744073709551616 ∧ y < 18446744073709551616 ∧ canB x = canB y
theorem AddM.same {N m s x m1 s1 m' s' m1' s1' : Nat} (h : AddM N m s x m1 s1) (h' : AddM N m' s' x m1' s1') (hm : canB m = canB m') (hs : canB s = canB s') : canB m1 = canB m1' ∧ canB s1 = canB s1' := by
  unfold AddM at h h'
  by_cases hN : N = 0
  · rw [if_pos hN] at h h'
    obtain ⟨rfl, rfl⟩ := h
    obtain ⟨rfl, rfl⟩ := h'
    exact ⟨rfl, rfl⟩
  · rw [if_neg hN] at h h'
    obtain ⟨d, q, f, p, h1, h2, h3, h4, h5, h6⟩ := h
    obtain ⟨d', q', f', p', h1', h2', h3', h4', h5', h6'⟩ := h'
    have e1 := h1.same (by simp) h1' rfl hm
    have e2 := h2.same (by simp) h2' e1 rfl
    have e3 := h3.same (by simp) h3' hm e2
    have e4 := h4.same (by simp) h4' rfl e3
    have e5 := h5.same (by simp) h5' e1 e4
    exact ⟨e3, h6.same (by simp) h6' hs e5⟩
/-- The numbers so far. -/
def kn (L : List Nat) (k : Nat) : List Nat := (L.take k).filter fun x => !fnan x
theorem kn_len (L : List Nat) (k : Nat) : (kn L k).length ≤ k := by
  have h1 := List.length_filter_le (fun x => !fnan x) (L.take k)
  have h2 : (L.take k).length ≤ k := by rw [List.length_take]; omega
  unfold kn; omega
theorem kn_fl (L : List Nat) (k : Nat) (h : ∀ x ∈ L, x < 18446744073709551616) : Fl (kn L k) := fun x hx => h x (List.mem_of_mem_take (List.mem_filter.1 hx).1)
theorem kn_nan (L : List Nat) (k x : Nat) (h : L[k]? = some x) (hn : fnan x = true) : kn L (k + 1) = kn L k := by
  unfold kn; rw [List.take_add_one, h]; simp [hn]
theorem kn_num (L : List Nat) (k x : Nat) (h : L[k]? = some x) (hn : fnan x = false) : kn L (k + 1) = kn L k ++ [x] := by
  unfold kn; rw [List.take_add_one, h]; simp [hn]
/-- On the way. -/
structure GRun (w : World) (g3 g4 : Nat) (K : List Nat) (m s m' s' lo hi : Nat) (wr : World) (s5 : Value) : Prop where
  own : wr.ownsRow (g4 + 1) 25 1 s5 K.length (fv K)
  r3 : wr.heap[g3]? = some (.cells #[.int .u64 K.length, .float .f64 m, .float .f64 s, .float .f64 lo, .float .f64 hi] 27 (0, 0))
  r4 : wr.heap[g4]? = some (.cells #[.int .u64 K.length, .float .f64 m', .float .f64 s', .float .f64 lo, .float .f64 hi] 27 (0, 0))
  am : Ali m m'
  al : Ali s s'
  ends : Ends lo hi K
  below : Below w.heap.size w wr
  le3 : w.heap.size ≤ g3
  lt34 : g3 < g4
theorem own_other5 {w w' : World} {B : Nat} {e : TypeId} {size : Nat} {v : Value} {n : Nat} {xs : List Value} {g : Nat} (h : w.ownsRow B e size v n xs) (hg : w.grownBy w' (some g)) (hv : v.ownBlock = none ∨ v.ownBlock ≠ some g) : w'.ownsRow B e size v n xs :=
  h.kept hg hv
/-- What each operation hands on. -/
def garF (N m s m' s' lo hi g3 co : Nat) (ao : Option Addr) (_K : List Nat) : Nat → Value → World → Prop
  | 0, v, _ => v = Gv N m s lo hi
  | 1, v, _ => v = Gv N m' s' lo hi
  | 2, v, _ => v = .bool true
  | 3, v, _ => v = .bool true
  | 4, v, _ => v = Gv N m s lo hi
  | 5, v, _ => SpV v N s
  | 6, v, _ => v = Gv N m' s' lo hi
  | 7, v, _ => SpV v N s'
  | 8, v, _ => v = .bool true
  | 9, v, _ => v = .bool true
  | 10, v, _ => v = .bool true
  | 11, v, _ => v = .pointer (some ⟨g3, 0, none⟩)
  | 12, v, _ => v = .int .u64 N
  | 13, v, _ => v = .slice ao N co
  | 14, v, _ => v = .int .i64 N
  | 15, v, _ => v = .int .u64 N
  | 16, v, _ => v = .bool true
  | 17, v, _ => v = .bool true
  | 18, v, _ => v = .bool true
  | 19, v, _ => v = .pointer (some ⟨g3, 3, none⟩)
  | 20, v, _ => v = .float .f64 lo
  | 21, v, _ => v = .slice ao N co
  | 22, v, _ => v = .float .f64 lo
  | 23, v, _ => v = .bool true
  | 24, v, _ => v = .bool true
  | 25, v, _ => v = .bool true
  | 26, v, _ => v = .pointer (some ⟨g3, 4, none⟩)
  | 27, v, _ => v = .float .f64 hi
  | 28, v, _ => v = .slice ao N co
  | 29, v, _ => v = .float .f64 hi
  | 30, v, _ => v = .bool true
  | 31, v, _ => v = .bool true
  | 32, v, _ => v = .bool true
  | _, _, _ => True
set_option maxHeartbeats 8000000 in
set_option maxRecDepth 100000 in
theorem gaugeRuns_walk (v : Value) (L : List Nat) (w : World) (hf : ∀ x ∈ L, x < 18446744073709551616) (hl : L.length * 8 ≤ 140737488351232) (hr : Rd w 1 v L.length (uv L)) :
    Calls Try.prog 3 #[v] w fun e w' => e = .returned (.bool true) ∧ Below w.heap.size w w' := by
  have hfrom := run_frombits
  obtain ⟨a, c, rfl⟩ := hr.form
  go_enter Try.func3, Try.ntmps3
  go_wp2_with fail
  refine (awake06_any _).mono ?_
  rintro e w1 ⟨rfl, hb1⟩
  go_wp2_with fail
  refine (GNew_any _).mono ?_
  rintro e w2 ⟨rfl, hb2⟩
  rw [gv_eq]
  have hb2' := hb1.trans (hb2.mono hb1.size)
  obtain ⟨g3, hg3⟩ : ∃ g, g = w2.heap.size := ⟨_, rfl⟩
  have hnew3 := heap_alloc_new w2 (.cells #[.int .u64 0, .float .f64 9221120237041090561, .float .f64 0, .float .f64 9218868437227405312, .float .f64 18442240474082181120] 27)
  have hba3 : Below w.heap.size w (w2.alloc (.cells #[.int .u64 0, .float .f64 9221120237041090561, .float .f64 0, .float .f64 9218868437227405312, .float .f64 18442240474082181120] 27)) := hb2'.alloc hb2'.size _
  rw [← hg3] at hnew3
  have HG30 := Lib.hid hg3
  have HB3 := Lib.hid (And.intro hba3 (And.intro hnew3 (show w.heap.size ≤ g3 by rw [hg3]; exact hb2'.size)))
  clear hb1 hb2 hb2' hnew3 hba3 hg3
  go_wp2_with fail
  refine (RGNew_any _).mono ?_
  rintro e w4 ⟨rfl, hb4⟩
  have hr34 := (hb4.block _ (Array.getElem?_eq_some_iff.1 HB3.out.2.1).1).trans HB3.out.2.1
  have hb4' := HB3.out.1.trans (hb4.mono HB3.out.1.size)
  obtain ⟨g4, hg4⟩ : ∃ g, g = w4.heap.size := ⟨_, rfl⟩
  have hlt34 := (Array.getElem?_eq_some_iff.1 hr34).1
  have hnew4 := heap_alloc_new w4 (.cells #[.int .u64 0, .float .f64 9221120237041090561, .float .f64 0, .float .f64 9218868437227405312, .float .f64 18442240474082181120] 27)
  have hba4 : Below w.heap.size w (w4.alloc (.cells #[.int .u64 0, .float .f64 9221120237041090561, .float .f64 0, .float .f64 9218868437227405312, .float .f64 18442240474082181120] 27)) := hb4'.alloc hb4'.size _
  have hr35 := (heap_alloc_old w4 (.cells #[.int .u64 0, .float .f64 9221120237041090561, .float .f64 0, .float .f64 9218868437227405312, .float .f64 18442240474082181120] 27) hlt34).trans hr34
  rw [← hg4] at hnew4 hlt34
  have HG40 := Lib.hid hg4
  have H0 : GRun w g3 g4 (kn L 0) 9221120237041090561 0 9221120237041090561 0 9218868437227405312 18442240474082181120 (w4.alloc (.cells #[.int .u64 0, .float .f64 9221120237041090561, .float .f64 0, .float .f64 9218868437227405312, .float .f64 18442240474082181120] 27)) (.slice none 0 0) := ⟨World.ownsRow_nil _ _ _ _, hr35, hnew4, ⟨by omega, by omega, rfl⟩, ⟨by omega, by omega, rfl⟩, ends_nil, hba4, HB3.out.2.2, hlt34⟩
  have H0' := Lib.hid H0
  clear hr35 H0 HB3 hb4 hr34 hb4' hg4 hlt34 hnew4 hba4
  go_wp2_with fail
  rw [← HG30.out, ← HG40.out]
  clear HG30 HG40
  go_loopw [5, 6] (fun s5 s6 wr => ∃ k : Nat, k ≤ L.length ∧ k ≤ 300 ∧ s6 = .int .i64 k ∧ ∃ m s m' s' lo hi, GRun w g3 g4 (kn L k) m s m' s' lo hi wr s5) (fun _ i _ => L.length - (intOf i).toNat)
  case atStart => exact ⟨0, Nat.zero_le _, by omega, rfl, _, _, _, _, _, _, H0'.out⟩
  case round =>
    clear H0'
    obtain ⟨k, hk, hk3, rfl, m, s, m', s', lo, hi, hrun⟩ := hrel
    have HRUN := Lib.hid hrun
    clear hrun
    have hkn := kn_len L k
    by_cases hlt : k < L.length ∧ k < 300
    · obtain ⟨hlt, hlt3⟩ := hlt
      have hkz : (k : Int) < (L.length : Int) := by omega
      have hkz3 : (k : Int) < 300 := by omega
      have hk0 : (0 : Int) ≤ (k : Int) := by omega
      obtain ⟨q, o, c', hv, _, hcell⟩ := (hr.keep HRUN.out.below).at (by omega)
      simp only [Value.slice.injEq, true_and] at hv
      obtain ⟨rfl, rfl⟩ := hv
      obtain ⟨x, hx⟩ : ∃ y, L[k]? = some y := ⟨L[k], List.getElem?_eq_getElem hlt⟩
      have hc := hcell k (.int .u64 x) (by simp [uv, hx])
      have hx64 := hf x (List.mem_of_getElem? hx)
      have heq := eq_order x hx64
      have hkn1 := kn_nan L k x hx
      have hkn2 := kn_num L k x hx
      obtain ⟨KK, hKK⟩ : ∃ K, K = kn L k := ⟨_, rfl⟩
      rw [← hKK] at HRUN hkn hkn1 hkn2
      have HN1 := Lib.hid hkn1
      have HN2 := Lib.hid hkn2
      clear hcell hx hKK hkn1 hkn2
      obtain ⟨n, hn⟩ : ∃ n, n = KK.length := ⟨_, rfl⟩
      have hr3 := HRUN.out.r3
      have hr4 := HRUN.out.r4
      rw [← hn] at hr3 hr4 hkn
      have HRR := Lib.hid (And.intro hr3 hr4)
      have HNN := Lib.hid hn
      clear hr3 hr4 hn
      have hnb : n ≤ 1000000 := by omega
      cases hnan : fnan x with
      | true =>
        rw [hnan] at heq
        have heq' : (FloatKind.f64.format.order x x == some .eq) = false := heq
        clear heq
        go_wp2_with (with_reducible show wpList _ _ _ (⟨some 27, _, _, _, _, _⟩ :: _) _ _; refine wpList_load_row rfl _ _ rfl g3 rfl _ _ (0, 0) _ HRR.out.1 Try.underlying27 rfl (gI _ _ _ _ _) ?_)
        refine (GAdd_nan n m s lo hi x _ hx64 hnan).mono ?_
        rintro e w6 ⟨rfl, hb6⟩
        have h63 := (hb6.block _ (Array.getElem?_eq_some_iff.1 HRR.out.1).1).trans HRR.out.1
        have h64 := (hb6.block _ (Array.getElem?_eq_some_iff.1 HRR.out.2).1).trans HRR.out.2
        have H6 := Lib.hid (And.intro h63 (And.intro h64 hb6))
        clear h63 h64 hb6
        go_upto_region 11 with (with_reducible show wpList _ _ _ (⟨none, Op.store _ _ _, _, _, _, _⟩ :: _) _ _; go_loud (refine wpList_store_gauge rfl _ _ _ rfl g3 n m s lo hi rfl rfl _ _ H6.out.1 gI' rfl ?_); intro w7 HR7 hg7)
        have h74 := (hg7.block _ (Array.getElem?_eq_some_iff.1 H6.out.2.1).1 (by intro e; simp only [Option.some.injEq] at e; have := HRUN.out.lt34; omega)).trans H6.out.2.1
        have H7 := Lib.hid (And.intro HR7.out (And.intro h74 hg7))
        clear h74 hg7 HR7
        go_wp2_with (with_reducible show wpList _ _ _ (⟨some 30, _, _, _, _, _⟩ :: _) _ _; refine wpList_load_row rfl _ _ rfl g4 rfl _ _ (0, 0) _ H7.out.2.1 Try.underlying27 rfl (gI _ _ _ _ _) ?_)
        refine (RGAdd_nan n m' s' lo hi x _ hx64 hnan).mono ?_
        rintro e w8 ⟨rfl, hb8⟩
        have h83 := (hb8.block _ (Array.getElem?_eq_some_iff.1 H7.out.1).1).trans H7.out.1
        have h84 := (hb8.block _ (Array.getElem?_eq_some_iff.1 H7.out.2.1).1).trans H7.out.2.1
        have H8 := Lib.hid (And.intro h83 (And.intro h84 hb8))
        clear h83 h84 hb8
        go_wp2_with (with_reducible show wpList _ _ _ (⟨none, Op.store _ _ _, _, _, _, _⟩ :: _) _ _; go_loud (refine wpList_store_gauge rfl _ _ _ rfl g4 n m' s' lo hi rfl rfl _ _ H8.out.2.1 gI' rfl ?_); intro w9 HR9 hg9)
        go_roundw
        case rel =>
          have hh := HRUN.out
          have hk1 := HN1.out hnan
          have a1 := hh.below.trans (H6.out.2.2.mono hh.below.size)
          have a2 := grow_below a1 H7.out.2.2 hh.le3 a1.size
          have a3 := a2.trans (H8.out.2.2.mono a2.size)
          have a4 := grow_below a3 hg9 (by have := hh.le3; have := hh.lt34; omega) a3.size
          have o1 := own_keep hh.own H6.out.2.2
          have hne : ∀ g, g ≤ g4 → u5.ownBlock = none ∨ u5.ownBlock ≠ some g := fun g hg => by
            cases hob : u5.ownBlock with
            | none => exact .inl rfl
            | some j => right; intro e; have := own_block o1 j hob; simp only [Option.some.injEq] at e; omega
          have o2 := own_other5 o1 H7.out.2.2 (hne g3 (by have := hh.lt34; omega))
          have o3 := own_keep o2 H8.out.2.2
          have o4 := own_other5 o3 hg9 (hne g4 (Nat.le_refl _))
          have r3 := (hg9.block _ (Array.getElem?_eq_some_iff.1 H8.out.1).1 (by intro e; simp only [Option.some.injEq] at e; have := hh.lt34; omega)).trans H8.out.1
          exact ⟨k + 1, by omega, by omega, by go_num, m, s, m', s', lo, hi, by rw [hk1]; exact ⟨o4, by rw [← HNN.out]; exact r3, by rw [← HNN.out]; exact HR9.out, hh.am, hh.al, hh.ends, a4, hh.le3, hh.lt34⟩⟩
        case measure => simp [intOf]; omega
      | false =>
        rw [hnan] at heq
        have heq' : (FloatKind.f64.format.order x x == some .eq) = true := heq
        clear heq
        have hends := HRUN.out.ends
        obtain ⟨E1, E2, E3⟩ := hends.snoc hx64 hnan
        have hlo := hends.1
        have hhi := hends.2.1
        obtain ⟨lo2, hlo2⟩ : ∃ y, y = (if ordQ x lo < 0 then x else lo) := ⟨_, rfl⟩
        obtain ⟨hi2, hhi2⟩ : ∃ y, y = (if ordQ x hi > 0 then x else hi) := ⟨_, rfl⟩
        have kA := fun wx => GAdd_any n m s lo hi x wx hx64 hlo hhi hnb hnan
        have kB := fun wx => RGAdd_any n m' s' lo hi x wx hx64 hlo hhi hnb hnan
        rw [E1, E2, ← hlo2, ← hhi2] at kA
        rw [← hlo2, ← hhi2] at kB E3
        have KA := Lib.hid kA
        have KB := Lib.hid kB
        have HE3 := Lib.hid E3
        clear E1 E2 E3 kA kB hends hlo hhi hlo2 hhi2
        go_wp2_with (with_reducible show wpList _ _ _ (⟨some 27, _, _, _, _, _⟩ :: _) _ _; refine wpList_load_row rfl _ _ rfl g3 rfl _ _ (0, 0) _ HRR.out.1 Try.underlying27 rfl (gI _ _ _ _ _) ?_)
        refine (KA.out _).mono ?_
        rintro e w6 ⟨m1, s1, rfl, hA1, hm1, hs1, hb6⟩
        have h63 := (hb6.block _ (Array.getElem?_eq_some_iff.1 HRR.out.1).1).trans HRR.out.1
        have h64 := (hb6.block _ (Array.getElem?_eq_some_iff.1 HRR.out.2).1).trans HRR.out.2
        have H6 := Lib.hid (And.intro h63 (And.intro h64 hb6))
        have HA1 := Lib.hid (And.intro hA1 (And.intro hm1 hs1))
        clear h63 h64 hb6 hA1 hm1 hs1
        go_upto_region 11 with (with_reducible show wpList _ _ _ (⟨none, Op.store _ _ _, _, _, _, _⟩ :: _) _ _; go_loud (refine wpList_store_gauge rfl _ _ _ rfl g3 (n + 1) m1 s1 lo2 hi2 rfl rfl _ _ H6.out.1 gI' rfl ?_); intro w7 HR7 hg7)
        have h74 := (hg7.block _ (Array.getElem?_eq_some_iff.1 H6.out.2.1).1 (by intro e; simp only [Option.some.injEq] at e; have := HRUN.out.lt34; omega)).trans H6.out.2.1
        have H7 := Lib.hid (And.intro HR7.out (And.intro h74 hg7))
        clear h74 hg7 HR7
        go_wp2_with (with_reducible show wpList _ _ _ (⟨some 30, _, _, _, _, _⟩ :: _) _ _; refine wpList_load_row rfl _ _ rfl g4 rfl _ _ (0, 0) _ H7.out.2.1 Try.underlying27 rfl (gI _ _ _ _ _) ?_)
        refine (KB.out _).mono ?_
        rintro e w8 ⟨m2, s2, rfl, hA2, hm2, hs2, hb8⟩
        have h83 := (hb8.block _ (Array.getElem?_eq_some_iff.1 H7.out.1).1).trans H7.out.1
        have h84 := (hb8.block _ (Array.getElem?_eq_some_iff.1 H7.out.2.1).1).trans H7.out.2.1
        have H8 := Lib.hid (And.intro h83 (And.intro h84 hb8))
        have HA2 := Lib.hid (And.intro hA2 (And.intro hm2 hs2))
        clear h83 h84 hb8 hA2 hm2 hs2
        have o1 := own_keep HRUN.out.own H6.out.2.2
        have hne : ∀ g, g ≤ g4 → u5.ownBlock = none ∨ u5.ownBlock ≠ some g := fun g hg => by
          cases hob : u5.ownBlock with
          | none => exact .inl rfl
          | some j => right; intro e; have := own_block o1 j hob; simp only [Option.some.injEq] at e; omega
        have o2 := own_other5 o1 H7.out.2.2 (hne g3 (by have := HRUN.out.lt34; omega))
        have o3 := own_keep o2 H8.out.2.2
        have HO := Lib.hid (And.intro o3 (hne g4 (Nat.le_refl _)))
        clear o1 o2 o3 hne
        have hg4l : g4 + 1 ≤ w8.heap.size := (Array.getElem?_eq_some_iff.1 H8.out.2.1).1
        go_wp2_with (first
          | (with_reducible show wpList _ _ _ (⟨none, Op.store _ _ _, _, _, _, _⟩ :: _) _ _; go_loud (refine wpList_store_gauge rfl _ _ _ rfl g4 (n + 1) m2 s2 lo2 hi2 rfl rfl _ _ H8.out.2.1 gI' rfl ?_); intro w9 HR9 hg9)
          | (at_builtin; refine wpList_app Try.underlying29 infoFloat rfl (by decide) rfl _ _ rfl rfl rfl ((own_other5 HO.out.1 hg9 HO.out.2).alloc _) (Rd.one _ _ _ rfl) (by have := HNN.out; omega) (by have := HNN.out; omega) (by have := hg9.size; simp; omega) ?_))
        intro v2 wa hown2 hga _
        have HOA := Lib.hid (And.intro hown2 hga)
        clear hown2 hga
        go_wp2_with fail
        go_roundw
        case rel =>
          have hh := HRUN.out
          have hk1 := HN2.out hnan
          have a1 := hh.below.trans (H6.out.2.2.mono hh.below.size)
          have a2 := grow_below a1 H7.out.2.2 hh.le3 a1.size
          have a3 := a2.trans (H8.out.2.2.mono a2.size)
          have hle4 : w.heap.size ≤ g4 := by have := hh.le3; have := hh.lt34; omega
          have a4 := grow_below a3 hg9 hle4 a3.size
          have hgb : Below (g4 + 1) w9 wa := (HOA.out.2.alloc).below (by have := hg9.size; omega) (own_block HO.out.1)
          have a5 := a4.trans (hgb.mono (by omega))
          have r3 := (hg9.block _ (Array.getElem?_eq_some_iff.1 H8.out.1).1 (by intro e; simp only [Option.some.injEq] at e; have := hh.lt34; omega)).trans H8.out.1
          have r3' := (hgb.block g3 (by have := hh.lt34; omega)).trans r3
          have r4' := (hgb.block g4 (by omega)).trans HR9.out
          have hsm := HA1.out.1.same HA2.out.1 hh.am.2.2 hh.al.2.2
          have hlen : (KK ++ [x]).length = n + 1 := by rw [List.length_append, ← HNN.out]; rfl
          exact ⟨k + 1, by omega, by omega, by go_num, m1, s1, m2, s2, lo2, hi2, by rw [hk1]; exact ⟨by rw [hlen, show fv (KK ++ [x]) = fv KK ++ [.float .f64 x] by simp [fv], HNN.out]; exact HOA.out.1, by rw [hlen]; exact r3', by rw [hlen]; exact r4', ⟨HA1.out.2.1, HA2.out.2.1, hsm.1⟩, ⟨HA1.out.2.2, HA2.out.2.2, hsm.2⟩, HE3.out, a5, hh.le3, hh.lt34⟩⟩
        case measure => simp [intOf]; omega
    · obtain ⟨K, hK⟩ : ∃ K, K = kn L k := ⟨_, rfl⟩
      have hfl := kn_fl L k hf
      rw [← hK] at HRUN hkn hfl
      clear hK
      have hh := HRUN.out
      have hrd := own_rd hh.own (fv_one _)
      obtain ⟨ao, co, rfl⟩ := own_form hh.own
      obtain ⟨N, hN⟩ : ∃ N, N = K.length := ⟨_, rfl⟩
      have hr3 := hh.r3
      have hr4 := hh.r4
      rw [← hN] at hr3 hr4 hrd hkn ⊢
      have hmn := mnR_bounds K
      have hmx := mxR_bounds K
      have e1 : lo = atP (mnR K) := by rw [← hh.ends.2.2.2.2.1]; exact (at_num lo hh.ends.1 hh.ends.2.2.1).symm
      have e2 : hi = atP (mxR K) := by rw [← hh.ends.2.2.2.2.2]; exact (at_num hi hh.ends.2.1 hh.ends.2.2.2.1).symm
      have HE := Lib.hid (And.intro hh.ends.1 (And.intro hh.ends.2.1 (And.intro (atP_lt (mnR K) (by omega)) (And.intro (atP_lt (mxR K) (by omega)) (And.intro e1 e2)))))
      have HS := Lib.hid (And.intro hh.am (And.intro hh.al (And.intro (show lo < 18446744073709551616 ∧ lo < 18446744073709551616 ∧ canB lo = canB lo from ⟨hh.ends.1, hh.ends.1, rfl⟩) (And.intro (show hi < 18446744073709551616 ∧ hi < 18446744073709551616 ∧ canB hi = canB hi from ⟨hh.ends.2.1, hh.ends.2.1, rfl⟩) (show N < 18446744073709551616 by omega)))))
      have HL := Lib.hid (And.intro (Array.getElem?_eq_some_iff.1 hr3).1 (Array.getElem?_eq_some_iff.1 hr4).1)
      have HR := Lib.hid (And.intro hr3 hr4)
      have HB := Lib.hid hh.below
      have HN : Hid (IntKind.u64.wrap (N : Int) = (N : Int)) := Lib.hid (IntWalk.u64_in _ (by omega))
      have HK := Lib.hid (And.intro hfl (And.intro (show K.length ≤ 140737488355328 by omega) (And.intro hrd hN)))
      clear hh hr3 hr4 hrd hfl HRUN hmn hmx e1 e2 hN
      rcases Nat.lt_or_ge k L.length with hlt1 | hge1
      · have hkz : (k : Int) < (L.length : Int) := by omega
        have hkz3 : ¬ (k : Int) < 300 := by omega
        clear hlt hkn hk hk3
        go_upto_region 14 with fail
        refine wp_region_steps [some 40, some 41, some 42, some 43, some 44, some 45, some 46, some 47, some 48, some 49, some 50, some 51, some 52, some 53, some 54, some 55, some 56, some 57, some 58, some 59, some 60, some 61, some 62, some 63, some 64, some 65, some 66, some 67, some 68, some 69, some 70, some 71, some 2] [] (garF N m s m' s' lo hi g3 co ao K) (fun _ wx wy => Below wx.heap.size wx wy) (fun wx => Below wr.heap.size wr wx) (by kernel_rfl) (by kernel_rfl) rfl (by kernel_rfl) (Below.refl _ _).drew (fun _ wx => Below.refl _ _) (fun _ wx wy h k => h.trans (k.mono h.size)) ?hF ?hstep ?hend
        case hF =>
          exact ⟨fun _ _ _ _ _ _ h => h, ⟨fun _ _ _ _ _ _ h => h, ⟨fun _ _ _ _ _ _ h => h, ⟨fun _ _ _ _ _ _ h => h, ⟨fun _ _ _ _ _ _ h => h, ⟨fun _ _ _ _ _ _ h => h, ⟨fun _ _ _ _ _ _ h => h, ⟨fun _ _ _ _ _ _ h => h, ⟨fun _ _ _ _ _ _ h => h, ⟨fun _ _ _ _ _ _ h => h, ⟨fun _ _ _ _ _ _ h => h, ⟨fun _ _ _ _ _ _ h => h, ⟨fun _ _ _ _ _ _ h => h, ⟨fun _ _ _ _ _ _ h => h, ⟨fun _ _ _ _ _ _ h => h, ⟨fun _ _ _ _ _ _ h => h, ⟨fun _ _ _ _ _ _ h => h, ⟨fun _ _ _ _ _ _ h => h, ⟨fun _ _ _ _ _ _ h => h, ⟨fun _ _ _ _ _ _ h => h, ⟨fun _ _ _ _ _ _ h => h, ⟨fun _ _ _ _ _ _ h => h, ⟨fun _ _ _ _ _ _ h => h, ⟨fun _ _ _ _ _ _ h => h, ⟨fun _ _ _ _ _ _ h => h, ⟨fun _ _ _ _ _ _ h => h, ⟨fun _ _ _ _ _ _ h => h, ⟨fun _ _ _ _ _ _ h => h, ⟨fun _ _ _ _ _ _ h => h, ⟨fun _ _ _ _ _ _ h => h, ⟨fun _ _ _ _ _ _ h => h, ⟨fun _ _ _ _ _ _ h => h, ⟨fun _ _ _ _ _ _ h => h, trivial⟩⟩⟩⟩⟩⟩⟩⟩⟩⟩⟩⟩⟩⟩⟩⟩⟩⟩⟩⟩⟩⟩⟩⟩⟩⟩⟩⟩⟩⟩⟩⟩⟩
        case hstep =>
          refine ⟨fun r wx hG hs hq hf => ?_, ?_⟩
          · have e3 : r 3 = .pointer (some ⟨g3, 0, none⟩) := hs 3 rfl
            refine (if_pos rfl).symm ▸ ?_
            clear hs hq hf
            unfold gives
            refine gives_load_row 27 _ rfl g3 e3 27 _ (0, 0) _ ((hG.block _ HL.out.1).trans HR.out.1) Try.underlying27 rfl (gI _ _ _ _ _) ?_
            exact ⟨Below.refl _ _, rfl⟩
          refine ⟨fun r wx hG hs hq hf => ?_, ?_⟩
          · have e4 : r 4 = .pointer (some ⟨g4, 0, none⟩) := hs 4 rfl
            refine (if_pos rfl).symm ▸ ?_
            clear hs hq hf
            unfold gives
            refine gives_load_row 27 _ rfl g4 e4 27 _ (0, 0) _ ((hG.block _ HL.out.2).trans HR.out.2) Try.underlying27 rfl (gI _ _ _ _ _) ?_
            exact ⟨Below.refl _ _, rfl⟩
          refine ⟨fun r wx hG hs hq hf => ?_, ?_⟩
          · have h0 : r 40 = Gv N m s lo hi := hf.1
            have h1 : r 41 = Gv N m' s' lo hi := hf.2.1
            refine (if_pos rfl).symm ▸ ?_
            clear hs hq hf
            unfold gives
            have hk := RGSame_any N m s lo hi m' s' lo hi wx HS.out.1 HS.out.2.1 HS.out.2.2.1 HS.out.2.2.2.1
            go_simp
            refine hk.mono ?_
            rintro e wy ⟨rfl, hb1⟩
            exact ⟨_, rfl, hb1, rfl⟩
          refine ⟨fun r wx hG hs hq hf => ?_, ?_⟩
          · have h2 : r 42 = .bool true := hf.1
            refine (if_pos rfl).symm ▸ ?_
            clear hs hq hf
            unfold gives
            go_simp
            exact ⟨Below.refl _ _, rfl⟩
          refine ⟨fun r wx hG hs hq hf => ?_, ?_⟩
          · have e3 : r 3 = .pointer (some ⟨g3, 0, none⟩) := hs 3 rfl
            have h3 : r 43 = .bool true := hf.1
            have hy : ydD [some 40, some 41, some 42, some 43, some 44, some 45, some 46, some 47, some 48, some 49, some 50, some 51, some 52, some 53, some 54, some 55, some 56, some 57, some 58, some 59, some 60, some 61, some 62, some 63, some 64, some 65, some 66, some 67, some 68, some 69, some 70, some 71, some 2] r 3 = some true := by show (match r 43 with | .bool b => some b | _ => none) = some true; rw [h3]
            simp only [Region.wanted, hy, beq_self_eq_true, if_true]
            clear hs hq hf hy
            unfold gives
            refine gives_load_row 27 _ rfl g3 e3 27 _ (0, 0) _ ((hG.block _ HL.out.1).trans HR.out.1) Try.underlying27 rfl (gI _ _ _ _ _) ?_
            exact ⟨Below.refl _ _, rfl⟩
          refine ⟨fun r wx hG hs hq hf => ?_, ?_⟩
          · have h4 : r 44 = Gv N m s lo hi := hf.1
            have h3 : r 43 = .bool true := hf.2.1
            have hy : ydD [some 40, some 41, some 42, some 43, some 44, some 45, some 46, some 47, some 48, some 49, some 50, some 51, some 52, some 53, some 54, some 55, some 56, some 57, some 58, some 59, some 60, some 61, some 62, some 63, some 64, some 65, some 66, some 67, some 68, some 69, some 70, some 71, some 2] r 3 = some true := by show (match r 43 with | .bool b => some b | _ => none) = some true; rw [h3]
            simp only [Region.wanted, hy, beq_self_eq_true, if_true]
            clear hs hq hf hy
            unfold gives
            have hk := Spread_any N m s lo hi wx HS.out.2.2.2.2
            go_simp
            refine hk.mono ?_
            rintro e wy ⟨q, rfl, hb1, hq1, hq2⟩
            exact ⟨_, rfl, hb1, q, rfl, hq1, hq2⟩
          refine ⟨fun r wx hG hs hq hf => ?_, ?_⟩
          · have e4 : r 4 = .pointer (some ⟨g4, 0, none⟩) := hs 4 rfl
            have h3 : r 43 = .bool true := hf.1
            have hy : ydD [some 40, some 41, some 42, some 43, some 44, some 45, some 46, some 47, some 48, some 49, some 50, some 51, some 52, some 53, some 54, some 55, some 56, some 57, some 58, some 59, some 60, some 61, some 62, some 63, some 64, some 65, some 66, some 67, some 68, some 69, some 70, some 71, some 2] r 3 = some true := by show (match r 43 with | .bool b => some b | _ => none) = some true; rw [h3]
            simp only [Region.wanted, hy, beq_self_eq_true, if_true]
            clear hs hq hf hy
            unfold gives
            refine gives_load_row 27 _ rfl g4 e4 27 _ (0, 0) _ ((hG.block _ HL.out.2).trans HR.out.2) Try.underlying27 rfl (gI _ _ _ _ _) ?_
            exact ⟨Below.refl _ _, rfl⟩
          refine ⟨fun r wx hG hs hq hf => ?_, ?_⟩
          · have h6 : r 46 = Gv N m' s' lo hi := hf.1
            have h5 : SpV (r 45) N s := hf.2.1
            have h3 : r 43 = .bool true := hf.2.2.1
            have hy : ydD [some 40, some 41, some 42, some 43, some 44, some 45, some 46, some 47, some 48, some 49, some 50, some 51, some 52, some 53, some 54, some 55, some 56, some 57, some 58, some 59, some 60, some 61, some 62, some 63, some 64, some 65, some 66, some 67, some 68, some 69, some 70, some 71, some 2] r 3 = some true := by show (match r 43 with | .bool b => some b | _ => none) = some true; rw [h3]
            simp only [Region.wanted, hy, beq_self_eq_true, if_true]
            clear hs hq hf hy
            unfold gives
            have hk := RSpread_any N m' s' lo hi wx HS.out.2.2.2.2
            go_simp
            refine hk.mono ?_
            rintro e wy ⟨q, rfl, hb1, hq1, hq2⟩
            exact ⟨_, rfl, hb1, q, rfl, hq1, hq2⟩
          refine ⟨fun r wx hG hs hq hf => ?_, ?_⟩
          · have h5 : SpV (r 45) N s := hf.1
            have h7 : SpV (r 47) N s' := hf.2.1
            have h3 : r 43 = .bool true := hf.2.2.2.1
            have hy : ydD [some 40, some 41, some 42, some 43, some 44, some 45, some 46, some 47, some 48, some 49, some 50, some 51, some 52, some 53, some 54, some 55, some 56, some 57, some 58, some 59, some 60, some 61, some 62, some 63, some 64, some 65, some 66, some 67, some 68, some 69, some 70, some 71, some 2] r 3 = some true := by show (match r 43 with | .bool b => some b | _ => none) = some true; rw [h3]
            simp only [Region.wanted, hy, beq_self_eq_true, if_true]
            clear hs hq hf hy
            unfold gives
            obtain ⟨q1, hv1, hq1, hq2⟩ := h5
            obtain ⟨q2, hv2, hq3, hq4⟩ := h7
            have hk := Same_any q1 q2 wx hq1 hq3
            rw [SpV_same hq2 hq4 HS.out.2.1.2.2] at hk
            simp only [beq_self_eq_true] at hk
            clear hq1 hq2 hq3 hq4
            go_simp
            refine hk.mono ?_
            rintro e wy ⟨rfl, rfl⟩
            exact ⟨_, rfl, Below.refl _ _, rfl⟩
          refine ⟨fun r wx hG hs hq hf => ?_, ?_⟩
          · have h3 : r 43 = .bool true := hf.1
            have h8 : r 48 = .bool true := hf.2.1
            refine (if_pos rfl).symm ▸ ?_
            clear hs hq hf
            unfold gives
            go_simp
            exact ⟨Below.refl _ _, rfl⟩
          refine ⟨fun r wx hG hs hq hf => ?_, ?_⟩
          · have h9 : r 49 = .bool true := hf.1
            refine (if_pos rfl).symm ▸ ?_
            clear hs hq hf
            unfold gives
            go_simp
            exact ⟨Below.refl _ _, rfl⟩
          refine ⟨fun r wx hG hs hq hf => ?_, ?_⟩
          · have e3 : r 3 = .pointer (some ⟨g3, 0, none⟩) := hs 3 rfl
            have h10 : r 50 = .bool true := hf.1
            have hy : ydD [some 40, some 41, some 42, some 43, some 44, some 45, some 46, some 47, some 48, some 49, some 50, some 51, some 52, some 53, some 54, some 55, some 56, some 57, some 58, some 59, some 60, some 61, some 62, some 63, some 64, some 65, some 66, some 67, some 68, some 69, some 70, some 71, some 2] r 10 = some true := by show (match r 50 with | .bool b => some b | _ => none) = some true; rw [h10]
            simp only [Region.wanted, hy, beq_self_eq_true, if_true]
            clear hs hq hf hy
            unfold gives
            go_simp
            exact ⟨Below.refl _ _, rfl⟩
          refine ⟨fun r wx hG hs hq hf => ?_, ?_⟩
          · have h11 : r 51 = .pointer (some ⟨g3, 0, none⟩) := hf.1
            have h10 : r 50 = .bool true := hf.2.1
            have hy : ydD [some 40, some 41, some 42, some 43, some 44, some 45, some 46, some 47, some 48, some 49, some 50, some 51, some 52, some 53, some 54, some 55, some 56, some 57, some 58, some 59, some 60, some 61, some 62, some 63, some 64, some 65, some 66, some 67, some 68, some 69, some 70, some 71, some 2] r 10 = some true := by show (match r 50 with | .bool b => some b | _ => none) = some true; rw [h10]
            simp only [Region.wanted, hy, beq_self_eq_true, if_true]
            clear hs hq hf hy
            unfold gives
            have hc := cell_rowG (v := .int .u64 N) (i := 0) ((hG.block _ HL.out.1).trans HR.out.1) rfl
            go_simp
            exact ⟨Below.refl _ _, rfl⟩
          refine ⟨fun r wx hG hs hq hf => ?_, ?_⟩
          · have e5 : r 5 = .slice ao N co := hs 5 rfl
            have h10 : r 50 = .bool true := hf.1
            have hy : ydD [some 40, some 41, some 42, some 43, some 44, some 45, some 46, some 47, some 48, some 49, some 50, some 51, some 52, some 53, some 54, some 55, some 56, some 57, some 58, some 59, some 60, some 61, some 62, some 63, some 64, some 65, some 66, some 67, some 68, some 69, some 70, some 71, some 2] r 10 = some true := by show (match r 50 with | .bool b => some b | _ => none) = some true; rw [h10]
            simp only [Region.wanted, hy, beq_self_eq_true, if_true]
            clear hs hq hf hy
            unfold gives
            go_simp
            exact ⟨Below.refl _ _, rfl⟩
          refine ⟨fun r wx hG hs hq hf => ?_, ?_⟩
          · have h13 : r 53 = .slice ao N co := hf.1
            have h10 : r 50 = .bool true := hf.2.1
            have hy : ydD [some 40, some 41, some 42, some 43, some 44, some 45, some 46, some 47, some 48, some 49, some 50, some 51, some 52, some 53, some 54, some 55, some 56, some 57, some 58, some 59, some 60, some 61, some 62, some 63, some 64, some 65, some 66, some 67, some 68, some 69, some 70, some 71, some 2] r 10 = some true := by show (match r 50 with | .bool b => some b | _ => none) = some true; rw [h10]
            simp only [Region.wanted, hy, beq_self_eq_true, if_true]
            clear hs hq hf hy
            unfold gives
            go_simp
            exact ⟨Below.refl _ _, rfl⟩
          refine ⟨fun r wx hG hs hq hf => ?_, ?_⟩
          · have h14 : r 54 = .int .i64 N := hf.1
            have h10 : r 50 = .bool true := hf.2.1
            have hy : ydD [some 40, some 41, some 42, some 43, some 44, some 45, some 46, some 47, some 48, some 49, some 50, some 51, some 52, some 53, some 54, some 55, some 56, some 57, some 58, some 59, some 60, some 61, some 62, some 63, some 64, some 65, some 66, some 67, some 68, some 69, some 70, some 71, some 2] r 10 = some true := by show (match r 50 with | .bool b => some b | _ => none) = some true; rw [h10]
            simp only [Region.wanted, hy, beq_self_eq_true, if_true]
            clear hs hq hf hy
            unfold gives
            have hw : IntKind.u64.wrap (N : Int) = (N : Int) := HN.out
            go_simp
            exact ⟨Below.refl _ _, rfl⟩
          refine ⟨fun r wx hG hs hq hf => ?_, ?_⟩
          · have h12 : r 52 = .int .u64 N := hf.1
            have h15 : r 55 = .int .u64 N := hf.2.1
            have h10 : r 50 = .bool true := hf.2.2.1
            have hy : ydD [some 40, some 41, some 42, some 43, some 44, some 45, some 46, some 47, some 48, some 49, some 50, some 51, some 52, some 53, some 54, some 55, some 56, some 57, some 58, some 59, some 60, some 61, some 62, some 63, some 64, some 65, some 66, some 67, some 68, some 69, some 70, some 71, some 2] r 10 = some true := by show (match r 50 with | .bool b => some b | _ => none) = some true; rw [h10]
            simp only [Region.wanted, hy, beq_self_eq_true, if_true]
            clear hs hq hf hy
            unfold gives
            go_simp
            exact ⟨Below.refl _ _, rfl⟩
          refine ⟨fun r wx hG hs hq hf => ?_, ?_⟩
          · have h10 : r 50 = .bool true := hf.1
            have h16 : r 56 = .bool true := hf.2.1
            refine (if_pos rfl).symm ▸ ?_
            clear hs hq hf
            unfold gives
            go_simp
            exact ⟨Below.refl _ _, rfl⟩
          refine ⟨fun r wx hG hs hq hf => ?_, ?_⟩
          · have h17 : r 57 = .bool true := hf.1
            refine (if_pos rfl).symm ▸ ?_
            clear hs hq hf
            unfold gives
            go_simp
            exact ⟨Below.refl _ _, rfl⟩
          refine ⟨fun r wx hG hs hq hf => ?_, ?_⟩
          · have e3 : r 3 = .pointer (some ⟨g3, 0, none⟩) := hs 3 rfl
            have h18 : r 58 = .bool true := hf.1
            have hy : ydD [some 40, some 41, some 42, some 43, some 44, some 45, some 46, some 47, some 48, some 49, some 50, some 51, some 52, some 53, some 54, some 55, some 56, some 57, some 58, some 59, some 60, some 61, some 62, some 63, some 64, some 65, some 66, some 67, some 68, some 69, some 70, some 71, some 2] r 18 = some true := by show (match r 58 with | .bool b => some b | _ => none) = some true; rw [h18]
            simp only [Region.wanted, hy, beq_self_eq_true, if_true]
            clear hs hq hf hy
            unfold gives
            go_simp
            exact ⟨Below.refl _ _, rfl⟩
          refine ⟨fun r wx hG hs hq hf => ?_, ?_⟩
          · have h19 : r 59 = .pointer (some ⟨g3, 3, none⟩) := hf.1
            have h18 : r 58 = .bool true := hf.2.1
            have hy : ydD [some 40, some 41, some 42, some 43, some 44, some 45, some 46, some 47, some 48, some 49, some 50, some 51, some 52, some 53, some 54, some 55, some 56, some 57, some 58, some 59, some 60, some 61, some 62, some 63, some 64, some 65, some 66, some 67, some 68, some 69, some 70, some 71, some 2] r 18 = some true := by show (match r 58 with | .bool b => some b | _ => none) = some true; rw [h18]
            simp only [Region.wanted, hy, beq_self_eq_true, if_true]
            clear hs hq hf hy
            unfold gives
            have hc := cell_rowG (v := .float .f64 lo) (i := 3) ((hG.block _ HL.out.1).trans HR.out.1) rfl
            go_simp
            exact ⟨Below.refl _ _, rfl⟩
          refine ⟨fun r wx hG hs hq hf => ?_, ?_⟩
          · have e5 : r 5 = .slice ao N co := hs 5 rfl
            have h18 : r 58 = .bool true := hf.1
            have hy : ydD [some 40, some 41, some 42, some 43, some 44, some 45, some 46, some 47, some 48, some 49, some 50, some 51, some 52, some 53, some 54, some 55, some 56, some 57, some 58, some 59, some 60, some 61, some 62, some 63, some 64, some 65, some 66, some 67, some 68, some 69, some 70, some 71, some 2] r 18 = some true := by show (match r 58 with | .bool b => some b | _ => none) = some true; rw [h18]
            simp only [Region.wanted, hy, beq_self_eq_true, if_true]
            clear hs hq hf hy
            unfold gives
            go_simp
            exact ⟨Below.refl _ _, rfl⟩
          refine ⟨fun r wx hG hs hq hf => ?_, ?_⟩
          · have h21 : r 61 = .slice ao N co := hf.1
            have h18 : r 58 = .bool true := hf.2.1
            have hy : ydD [some 40, some 41, some 42, some 43, some 44, some 45, some 46, some 47, some 48, some 49, some 50, some 51, some 52, some 53, some 54, some 55, some 56, some 57, some 58, some 59, some 60, some 61, some 62, some 63, some 64, some 65, some 66, some 67, some 68, some 69, some 70, some 71, some 2] r 18 = some true := by show (match r 58 with | .bool b => some b | _ => none) = some true; rw [h18]
            simp only [Region.wanted, hy, beq_self_eq_true, if_true]
            clear hs hq hf hy
            unfold gives
            have hk := Least_any (.slice ao N co) K wx HK.out.1 HK.out.2.1 (by have := HK.out.2.2.1.keep hG; rw [HK.out.2.2.2] at this ⊢; exact this)
            rw [← HE.out.2.2.2.2.1] at hk
            go_simp
            refine hk.mono ?_
            rintro e wy ⟨rfl, rfl⟩
            exact ⟨_, rfl, Below.refl _ _, rfl⟩
          refine ⟨fun r wx hG hs hq hf => ?_, ?_⟩
          · have h20 : r 60 = .float .f64 lo := hf.1
            have h22 : r 62 = .float .f64 lo := hf.2.1
            have h18 : r 58 = .bool true := hf.2.2.2.1
            have hy : ydD [some 40, some 41, some 42, some 43, some 44, some 45, some 46, some 47, some 48, some 49, some 50, some 51, some 52, some 53, some 54, some 55, some 56, some 57, some 58, some 59, some 60, some 61, some 62, some 63, some 64, some 65, some 66, some 67, some 68, some 69, some 70, some 71, some 2] r 18 = some true := by show (match r 58 with | .bool b => some b | _ => none) = some true; rw [h18]
            simp only [Region.wanted, hy, beq_self_eq_true, if_true]
            clear hs hq hf hy
            unfold gives
            have hk := Same_any lo lo wx HE.out.1 HE.out.1
            simp only [beq_self_eq_true] at hk
            go_simp
            refine hk.mono ?_
            rintro e wy ⟨rfl, rfl⟩
            exact ⟨_, rfl, Below.refl _ _, rfl⟩
          refine ⟨fun r wx hG hs hq hf => ?_, ?_⟩
          · have h18 : r 58 = .bool true := hf.1
            have h23 : r 63 = .bool true := hf.2.1
            refine (if_pos rfl).symm ▸ ?_
            clear hs hq hf
            unfold gives
            go_simp
            exact ⟨Below.refl _ _, rfl⟩
          refine ⟨fun r wx hG hs hq hf => ?_, ?_⟩
          · have h24 : r 64 = .bool true := hf.1
            refine (if_pos rfl).symm ▸ ?_
            clear hs hq hf
            unfold gives
            go_simp
            exact ⟨Below.refl _ _, rfl⟩
          refine ⟨fun r wx hG hs hq hf => ?_, ?_⟩
          · have e3 : r 3 = .pointer (some ⟨g3, 0, none⟩) := hs 3 rfl
            have h25 : r 65 = .bool true := hf.1
            have hy : ydD [some 40, some 41, some 42, some 43, some 44, some 45, some 46, some 47, some 48, some 49, some 50, some 51, some 52, some 53, some 54, some 55, some 56, some 57, some 58, some 59, some 60, some 61, some 62, some 63, some 64, some 65, some 66, some 67, some 68, some 69, some 70, some 71, some 2] r 25 = some true := by show (match r 65 with | .bool b => some b | _ => none) = some true; rw [h25]
            simp only [Region.wanted, hy, beq_self_eq_true, if_true]
            clear hs hq hf hy
            unfold gives
            go_simp
            exact ⟨Below.refl _ _, rfl⟩
          refine ⟨fun r wx hG hs hq hf => ?_, ?_⟩
          · have h26 : r 66 = .pointer (some ⟨g3, 4, none⟩) := hf.1
            have h25 : r 65 = .bool true := hf.2.1
            have hy : ydD [some 40, some 41, some 42, some 43, some 44, some 45, some 46, some 47, some 48, some 49, some 50, some 51, some 52, some 53, some 54, some 55, some 56, some 57, some 58, some 59, some 60, some 61, some 62, some 63, some 64, some 65, some 66, some 67, some 68, some 69, some 70, some 71, some 2] r 25 = some true := by show (match r 65 with | .bool b => some b | _ => none) = some true; rw [h25]
            simp only [Region.wanted, hy, beq_self_eq_true, if_true]
            clear hs hq hf hy
            unfold gives
            have hc := cell_rowG (v := .float .f64 hi) (i := 4) ((hG.block _ HL.out.1).trans HR.out.1) rfl
            go_simp
            exact ⟨Below.refl _ _, rfl⟩
          refine ⟨fun r wx hG hs hq hf => ?_, ?_⟩
          · have e5 : r 5 = .slice ao N co := hs 5 rfl
            have h25 : r 65 = .bool true := hf.1
            have hy : ydD [some 40, some 41, some 42, some 43, some 44, some 45, some 46, some 47, some 48, some 49, some 50, some 51, some 52, some 53, some 54, some 55, some 56, some 57, some 58, some 59, some 60, some 61, some 62, some 63, some 64, some 65, some 66, some 67, some 68, some 69, some 70, some 71, some 2] r 25 = some true := by show (match r 65 with | .bool b => some b | _ => none) = some true; rw [h25]
            simp only [Region.wanted, hy, beq_self_eq_true, if_true]
            clear hs hq hf hy
            unfold gives
            go_simp
            exact ⟨Below.refl _ _, rfl⟩
          refine ⟨fun r wx hG hs hq hf => ?_, ?_⟩
          · have h28 : r 68 = .slice ao N co := hf.1
            have h25 : r 65 = .bool true := hf.2.1
            have hy : ydD [some 40, some 41, some 42, some 43, some 44, some 45, some 46, some 47, some 48, some 49, some 50, some 51, some 52, some 53, some 54, some 55, some 56, some 57, some 58, some 59, some 60, some 61, some 62, some 63, some 64, some 65, some 66, some 67, some 68, some 69, some 70, some 71, some 2] r 25 = some true := by show (match r 65 with | .bool b => some b | _ => none) = some true; rw [h25]
            simp only [Region.wanted, hy, beq_self_eq_true, if_true]
            clear hs hq hf hy
            unfold gives
            have hk := Most_any (.slice ao N co) K wx HK.out.1 HK.out.2.1 (by have := HK.out.2.2.1.keep hG; rw [HK.out.2.2.2] at this ⊢; exact this)
            rw [← HE.out.2.2.2.2.2] at hk
            go_simp
            refine hk.mono ?_
            rintro e wy ⟨rfl, rfl⟩
            exact ⟨_, rfl, Below.refl _ _, rfl⟩
          refine ⟨fun r wx hG hs hq hf => ?_, ?_⟩
          · have h27 : r 67 = .float .f64 hi := hf.1
            have h29 : r 69 = .float .f64 hi := hf.2.1
            have h25 : r 65 = .bool true := hf.2.2.2.1
            have hy : ydD [some 40, some 41, some 42, some 43, some 44, some 45, some 46, some 47, some 48, some 49, some 50, some 51, some 52, some 53, some 54, some 55, some 56, some 57, some 58, some 59, some 60, some 61, some 62, some 63, some 64, some 65, some 66, some 67, some 68, some 69, some 70, some 71, some 2] r 25 = some true := by show (match r 65 with | .bool b => some b | _ => none) = some true; rw [h25]
            simp only [Region.wanted, hy, beq_self_eq_true, if_true]
            clear hs hq hf hy
            unfold gives
            have hk := Same_any hi hi wx HE.out.2.1 HE.out.2.1
            simp only [beq_self_eq_true] at hk
            go_simp
            refine hk.mono ?_
            rintro e wy ⟨rfl, rfl⟩
            exact ⟨_, rfl, Below.refl _ _, rfl⟩
          refine ⟨fun r wx hG hs hq hf => ?_, ?_⟩
          · have h25 : r 65 = .bool true := hf.1
            have h30 : r 70 = .bool true := hf.2.1
            refine (if_pos rfl).symm ▸ ?_
            clear hs hq hf
            unfold gives
            go_simp
            exact ⟨Below.refl _ _, rfl⟩
          refine ⟨fun r wx hG hs hq hf => ?_, ?_⟩
          · have h31 : r 71 = .bool true := hf.1
            refine (if_pos rfl).symm ▸ ?_
            clear hs hq hf
            unfold gives
            go_simp
            exact ⟨Below.refl _ _, rfl⟩
          exact trivial
        case hend =>
          intro u wz hG hfin
          have z32 : u 32 = .bool true := hfin 32 (by decide) (by kernel_rfl)
          clear hfin
          simp only [fill]
          go_simp
          go_wp2_with fail
          go_ret
          exact ⟨rfl, HB.out.trans (hG.mono HB.out.size)⟩
      · have hkz : ¬ (k : Int) < (L.length : Int) := by omega
        clear hlt hkn hk hk3
        go_upto_region 14 with fail
        refine wp_region_steps [some 40, some 41, some 42, some 43, some 44, some 45, some 46, some 47, some 48, some 49, some 50, some 51, some 52, some 53, some 54, some 55, some 56, some 57, some 58, some 59, some 60, some 61, some 62, some 63, some 64, some 65, some 66, some 67, some 68, some 69, some 70, some 71, some 2] [] (garF N m s m' s' lo hi g3 co ao K) (fun _ wx wy => Below wx.heap.size wx wy) (fun wx => Below wr.heap.size wr wx) (by kernel_rfl) (by kernel_rfl) rfl (by kernel_rfl) (Below.refl _ _).drew (fun _ wx => Below.refl _ _) (fun _ wx wy h k => h.trans (k.mono h.size)) ?hF ?hstep ?hend
        case hF =>
          exact ⟨fun _ _ _ _ _ _ h => h, ⟨fun _ _ _ _ _ _ h => h, ⟨fun _ _ _ _ _ _ h => h, ⟨fun _ _ _ _ _ _ h => h, ⟨fun _ _ _ _ _ _ h => h, ⟨fun _ _ _ _ _ _ h => h, ⟨fun _ _ _ _ _ _ h => h, ⟨fun _ _ _ _ _ _ h => h, ⟨fun _ _ _ _ _ _ h => h, ⟨fun _ _ _ _ _ _ h => h, ⟨fun _ _ _ _ _ _ h => h, ⟨fun _ _ _ _ _ _ h => h, ⟨fun _ _ _ _ _ _ h => h, ⟨fun _ _ _ _ _ _ h => h, ⟨fun _ _ _ _ _ _ h => h, ⟨fun _ _ _ _ _ _ h => h, ⟨fun _ _ _ _ _ _ h => h, ⟨fun _ _ _ _ _ _ h => h, ⟨fun _ _ _ _ _ _ h => h, ⟨fun _ _ _ _ _ _ h => h, ⟨fun _ _ _ _ _ _ h => h, ⟨fun _ _ _ _ _ _ h => h, ⟨fun _ _ _ _ _ _ h => h, ⟨fun _ _ _ _ _ _ h => h, ⟨fun _ _ _ _ _ _ h => h, ⟨fun _ _ _ _ _ _ h => h, ⟨fun _ _ _ _ _ _ h => h, ⟨fun _ _ _ _ _ _ h => h, ⟨fun _ _ _ _ _ _ h => h, ⟨fun _ _ _ _ _ _ h => h, ⟨fun _ _ _ _ _ _ h => h, ⟨fun _ _ _ _ _ _ h => h, ⟨fun _ _ _ _ _ _ h => h, trivial⟩⟩⟩⟩⟩⟩⟩⟩⟩⟩⟩⟩⟩⟩⟩⟩⟩⟩⟩⟩⟩⟩⟩⟩⟩⟩⟩⟩⟩⟩⟩⟩⟩
        case hstep =>
          refine ⟨fun r wx hG hs hq hf => ?_, ?_⟩
          · have e3 : r 3 = .pointer (some ⟨g3, 0, none⟩) := hs 3 rfl
            refine (if_pos rfl).symm ▸ ?_
            clear hs hq hf
            unfold gives
            refine gives_load_row 27 _ rfl g3 e3 27 _ (0, 0) _ ((hG.block _ HL.out.1).trans HR.out.1) Try.underlying27 rfl (gI _ _ _ _ _) ?_
            exact ⟨Below.refl _ _, rfl⟩
          refine ⟨fun r wx hG hs hq hf => ?_, ?_⟩
          · have e4 : r 4 = .pointer (some ⟨g4, 0, none⟩) := hs 4 rfl
            refine (if_pos rfl).symm ▸ ?_
            clear hs hq hf
            unfold gives
            refine gives_load_row 27 _ rfl g4 e4 27 _ (0, 0) _ ((hG.block _ HL.out.2).trans HR.out.2) Try.underlying27 rfl (gI _ _ _ _ _) ?_
            exact ⟨Below.refl _ _, rfl⟩
          refine ⟨fun r wx hG hs hq hf => ?_, ?_⟩
          · have h0 : r 40 = Gv N m s lo hi := hf.1
            have h1 : r 41 = Gv N m' s' lo hi := hf.2.1
            refine (if_pos rfl).symm ▸ ?_
            clear hs hq hf
            unfold gives
            have hk := RGSame_any N m s lo hi m' s' lo hi wx HS.out.1 HS.out.2.1 HS.out.2.2.1 HS.out.2.2.2.1
            go_simp
            refine hk.mono ?_
            rintro e wy ⟨rfl, hb1⟩
            exact ⟨_, rfl, hb1, rfl⟩
          refine ⟨fun r wx hG hs hq hf => ?_, ?_⟩
          · have h2 : r 42 = .bool true := hf.1
            refine (if_pos rfl).symm ▸ ?_
            clear hs hq hf
            unfold gives
            go_simp
            exact ⟨Below.refl _ _, rfl⟩
          refine ⟨fun r wx hG hs hq hf => ?_, ?_⟩
          · have e3 : r 3 = .pointer (some ⟨g3, 0, none⟩) := hs 3 rfl
            have h3 : r 43 = .bool true := hf.1
            have hy : ydD [some 40, some 41, some 42, some 43, some 44, some 45, some 46, some 47, some 48, some 49, some 50, some 51, some 52, some 53, some 54, some 55, some 56, some 57, some 58, some 59, some 60, some 61, some 62, some 63, some 64, some 65, some 66, some 67, some 68, some 69, some 70, some 71, some 2] r 3 = some true := by show (match r 43 with | .bool b => some b | _ => none) = some true; rw [h3]
            simp only [Region.wanted, hy, beq_self_eq_true, if_true]
            clear hs hq hf hy
            unfold gives
            refine gives_load_row 27 _ rfl g3 e3 27 _ (0, 0) _ ((hG.block _ HL.out.1).trans HR.out.1) Try.underlying27 rfl (gI _ _ _ _ _) ?_
            exact ⟨Below.refl _ _, rfl⟩
          refine ⟨fun r wx hG hs hq hf => ?_, ?_⟩
          · have h4 : r 44 = Gv N m s lo hi := hf.1
            have h3 : r 43 = .bool true := hf.2.1
            have hy : ydD [some 40, some 41, some 42, some 43, some 44, some 45, some 46, some 47, some 48, some 49, some 50, some 51, some 52, some 53, some 54, some 55, some 56, some 57, some 58, some 59, some 60, some 61, some 62, some 63, some 64, some 65, some 66, some 67, some 68, some 69, some 70, some 71, some 2] r 3 = some true := by show (match r 43 with | .bool b => some b | _ => none) = some true; rw [h3]
            simp only [Region.wanted, hy, beq_self_eq_true, if_true]
            clear hs hq hf hy
            unfold gives
            have hk := Spread_any N m s lo hi wx HS.out.2.2.2.2
            go_simp
            refine hk.mono ?_
            rintro e wy ⟨q, rfl, hb1, hq1, hq2⟩
            exact ⟨_, rfl, hb1, q, rfl, hq1, hq2⟩
          refine ⟨fun r wx hG hs hq hf => ?_, ?_⟩
          · have e4 : r 4 = .pointer (some ⟨g4, 0, none⟩) := hs 4 rfl
            have h3 : r 43 = .bool true := hf.1
            have hy : ydD [some 40, some 41, some 42, some 43, some 44, some 45, some 46, some 47, some 48, some 49, some 50, some 51, some 52, some 53, some 54, some 55, some 56, some 57, some 58, some 59, some 60, some 61, some 62, some 63, some 64, some 65, some 66, some 67, some 68, some 69, some 70, some 71, some 2] r 3 = some true := by show (match r 43 with | .bool b => some b | _ => none) = some true; rw [h3]
            simp only [Region.wanted, hy, beq_self_eq_true, if_true]
            clear hs hq hf hy
            unfold gives
            refine gives_load_row 27 _ rfl g4 e4 27 _ (0, 0) _ ((hG.block _ HL.out.2).trans HR.out.2) Try.underlying27 rfl (gI _ _ _ _ _) ?_
            exact ⟨Below.refl _ _, rfl⟩
          refine ⟨fun r wx hG hs hq hf => ?_, ?_⟩
          · have h6 : r 46 = Gv N m' s' lo hi := hf.1
            have h5 : SpV (r 45) N s := hf.2.1
            have h3 : r 43 = .bool true := hf.2.2.1
            have hy : ydD [some 40, some 41, some 42, some 43, some 44, some 45, some 46, some 47, some 48, some 49, some 50, some 51, some 52, some 53, some 54, some 55, some 56, some 57, some 58, some 59, some 60, some 61, some 62, some 63, some 64, some 65, some 66, some 67, some 68, some 69, some 70, some 71, some 2] r 3 = some true := by show (match r 43 with | .bool b => some b | _ => none) = some true; rw [h3]
            simp only [Region.wanted, hy, beq_self_eq_true, if_true]
            clear hs hq hf hy
            unfold gives
            have hk := RSpread_any N m' s' lo hi wx HS.out.2.2.2.2
            go_simp
            refine hk.mono ?_
            rintro e wy ⟨q, rfl, hb1, hq1, hq2⟩
            exact ⟨_, rfl, hb1, q, rfl, hq1, hq2⟩
          refine ⟨fun r wx hG hs hq hf => ?_, ?_⟩
          · have h5 : SpV (r 45) N s := hf.1
            have h7 : SpV (r 47) N s' := hf.2.1
            have h3 : r 43 = .bool true := hf.2.2.2.1
            have hy : ydD [some 40, some 41, some 42, some 43, some 44, some 45, some 46, some 47, some 48, some 49, some 50, some 51, some 52, some 53, some 54, some 55, some 56, some 57, some 58, some 59, some 60, some 61, some 62, some 63, some 64, some 65, some 66, some 67, some 68, some 69, some 70, some 71, some 2] r 3 = some true := by show (match r 43 with | .bool b => some b | _ => none) = some true; rw [h3]
            simp only [Region.wanted, hy, beq_self_eq_true, if_true]
            clear hs hq hf hy
            unfold gives
            obtain ⟨q1, hv1, hq1, hq2⟩ := h5
            obtain ⟨q2, hv2, hq3, hq4⟩ := h7
            have hk := Same_any q1 q2 wx hq1 hq3
            rw [SpV_same hq2 hq4 HS.out.2.1.2.2] at hk
            simp only [beq_self_eq_true] at hk
            clear hq1 hq2 hq3 hq4
            go_simp
            refine hk.mono ?_
            rintro e wy ⟨rfl, rfl⟩
            exact ⟨_, rfl, Below.refl _ _, rfl⟩
          refine ⟨fun r wx hG hs hq hf => ?_, ?_⟩
          · have h3 : r 43 = .bool true := hf.1
            have h8 : r 48 = .bool true := hf.2.1
            refine (if_pos rfl).symm ▸ ?_
            clear hs hq hf
            unfold gives
            go_simp
            exact ⟨Below.refl _ _, rfl⟩
          refine ⟨fun r wx hG hs hq hf => ?_, ?_⟩
          · have h9 : r 49 = .bool true := hf.1
            refine (if_pos rfl).symm ▸ ?_
            clear hs hq hf
            unfold gives
            go_simp
            exact ⟨Below.refl _ _, rfl⟩
          refine ⟨fun r wx hG hs hq hf => ?_, ?_⟩
          · have e3 : r 3 = .pointer (some ⟨g3, 0, none⟩) := hs 3 rfl
            have h10 : r 50 = .bool true := hf.1
            have hy : ydD [some 40, some 41, some 42, some 43, some 44, some 45, some 46, some 47, some 48, some 49, some 50, some 51, some 52, some 53, some 54, some 55, some 56, some 57, some 58, some 59, some 60, some 61, some 62, some 63, some 64, some 65, some 66, some 67, some 68, some 69, some 70, some 71, some 2] r 10 = some true := by show (match r 50 with | .bool b => some b | _ => none) = some true; rw [h10]
            simp only [Region.wanted, hy, beq_self_eq_true, if_true]
            clear hs hq hf hy
            unfold gives
            go_simp
            exact ⟨Below.refl _ _, rfl⟩
          refine ⟨fun r wx hG hs hq hf => ?_, ?_⟩
          · have h11 : r 51 = .pointer (some ⟨g3, 0, none⟩) := hf.1
            have h10 : r 50 = .bool true := hf.2.1
            have hy : ydD [some 40, some 41, some 42, some 43, some 44, some 45, some 46, some 47, some 48, some 49, some 50, some 51, some 52, some 53, some 54, some 55, some 56, some 57, some 58, some 59, some 60, some 61, some 62, some 63, some 64, some 65, some 66, some 67, some 68, some 69, some 70, some 71, some 2] r 10 = some true := by show (match r 50 with | .bool b => some b | _ => none) = some true; rw [h10]
            simp only [Region.wanted, hy, beq_self_eq_true, if_true]
            clear hs hq hf hy
            unfold gives
            have hc := cell_rowG (v := .int .u64 N) (i := 0) ((hG.block _ HL.out.1).trans HR.out.1) rfl
            go_simp
            exact ⟨Below.refl _ _, rfl⟩
          refine ⟨fun r wx hG hs hq hf => ?_, ?_⟩
          · have e5 : r 5 = .slice ao N co := hs 5 rfl
            have h10 : r 50 = .bool true := hf.1
            have hy : ydD [some 40, some 41, some 42, some 43, some 44, some 45, some 46, some 47, some 48, some 49, some 50, some 51, some 52, some 53, some 54, some 55, some 56, some 57, some 58, some 59, some 60, some 61, some 62, some 63, some 64, some 65, some 66, some 67, some 68, some 69, some 70, some 71, some 2] r 10 = some true := by show (match r 50 with | .bool b => some b | _ => none) = some true; rw [h10]
            simp only [Region.wanted, hy, beq_self_eq_true, if_true]
            clear hs hq hf hy
            unfold gives
            go_simp
            exact ⟨Below.refl _ _, rfl⟩
          refine ⟨fun r wx hG hs hq hf => ?_, ?_⟩
          · have h13 : r 53 = .slice ao N co := hf.1
            have h10 : r 50 = .bool true := hf.2.1
            have hy : ydD [some 40, some 41, some 42, some 43, some 44, some 45, some 46, some 47, some 48, some 49, some 50, some 51, some 52, some 53, some 54, some 55, some 56, some 57, some 58, some 59, some 60, some 61, some 62, some 63, some 64, some 65, some 66, some 67, some 68, some 69, some 70, some 71, some 2] r 10 = some true := by show (match r 50 with | .bool b => some b | _ => none) = some true; rw [h10]
            simp only [Region.wanted, hy, beq_self_eq_true, if_true]
            clear hs hq hf hy
            unfold gives
            go_simp
            exact ⟨Below.refl _ _, rfl⟩
          refine ⟨fun r wx hG hs hq hf => ?_, ?_⟩
          · have h14 : r 54 = .int .i64 N := hf.1
            have h10 : r 50 = .bool true := hf.2.1
            have hy : ydD [some 40, some 41, some 42, some 43, some 44, some 45, some 46, some 47, some 48, some 49, some 50, some 51, some 52, some 53, some 54, some 55, some 56, some 57, some 58, some 59, some 60, some 61, some 62, some 63, some 64, some 65, some 66, some 67, some 68, some 69, some 70, some 71, some 2] r 10 = some true := by show (match r 50 with | .bool b => some b | _ => none) = some true; rw [h10]
            simp only [Region.wanted, hy, beq_self_eq_true, if_true]
            clear hs hq hf hy
            unfold gives
            have hw : IntKind.u64.wrap (N : Int) = (N : Int) := HN.out
            go_simp
            exact ⟨Below.refl _ _, rfl⟩
          refine ⟨fun r wx hG hs hq hf => ?_, ?_⟩
          · have h12 : r 52 = .int .u64 N := hf.1
            have h15 : r 55 = .int .u64 N := hf.2.1
            have h10 : r 50 = .bool true := hf.2.2.1
            have hy : ydD [some 40, some 41, some 42, some 43, some 44, some 45, some 46, some 47, some 48, some 49, some 50, some 51, some 52, some 53, some 54, some 55, some 56, some 57, some 58, some 59, some 60, some 61, some 62, some 63, some 64, some 65, some 66, some 67, some 68, some 69, some 70, some 71, some 2] r 10 = some true := by show (match r 50 with | .bool b => some b | _ => none) = some true; rw [h10]
            simp only [Region.wanted, hy, beq_self_eq_true, if_true]
            clear hs hq hf hy
            unfold gives
            go_simp
            exact ⟨Below.refl _ _, rfl⟩
          refine ⟨fun r wx hG hs hq hf => ?_, ?_⟩
          · have h10 : r 50 = .bool true := hf.1
            have h16 : r 56 = .bool true := hf.2.1
            refine (if_pos rfl).symm ▸ ?_
            clear hs hq hf
            unfold gives
            go_simp
            exact ⟨Below.refl _ _, rfl⟩
          refine ⟨fun r wx hG hs hq hf => ?_, ?_⟩
          · have h17 : r 57 = .bool true := hf.1
            refine (if_pos rfl).symm ▸ ?_
            clear hs hq hf
            unfold gives
            go_simp
            exact ⟨Below.refl _ _, rfl⟩
          refine ⟨fun r wx hG hs hq hf => ?_, ?_⟩
          · have e3 : r 3 = .pointer (some ⟨g3, 0, none⟩) := hs 3 rfl
            have h18 : r 58 = .bool true := hf.1
            have hy : ydD [some 40, some 41, some 42, some 43, some 44, some 45, some 46, some 47, some 48, some 49, some 50, some 51, some 52, some 53, some 54, some 55, some 56, some 57, some 58, some 59, some 60, some 61, some 62, some 63, some 64, some 65, some 66, some 67, some 68, some 69, some 70, some 71, some 2] r 18 = some true := by show (match r 58 with | .bool b => some b | _ => none) = some true; rw [h18]
            simp only [Region.wanted, hy, beq_self_eq_true, if_true]
            clear hs hq hf hy
            unfold gives
            go_simp
            exact ⟨Below.refl _ _, rfl⟩
          refine ⟨fun r wx hG hs hq hf => ?_, ?_⟩
          · have h19 : r 59 = .pointer (some ⟨g3, 3, none⟩) := hf.1
            have h18 : r 58 = .bool true := hf.2.1
            have hy : ydD [some 40, some 41, some 42, some 43, some 44, some 45, some 46, some 47, some 48, some 49, some 50, some 51, some 52, some 53, some 54, some 55, some 56, some 57, some 58, some 59, some 60, some 61, some 62, some 63, some 64, some 65, some 66, some 67, some 68, some 69, some 70, some 71, some 2] r 18 = some true := by show (match r 58 with | .bool b => some b | _ => none) = some true; rw [h18]
            simp only [Region.wanted, hy, beq_self_eq_true, if_true]
            clear hs hq hf hy
            unfold gives
            have hc := cell_rowG (v := .float .f64 lo) (i := 3) ((hG.block _ HL.out.1).trans HR.out.1) rfl
            go_simp
            exact ⟨Below.refl _ _, rfl⟩
          refine ⟨fun r wx hG hs hq hf => ?_, ?_⟩
          · have e5 : r 5 = .slice ao N co := hs 5 rfl
            have h18 : r 58 = .bool true := hf.1
            have hy : ydD [some 40, some 41, some 42, some 43, some 44, some 45, some 46, some 47, some 48, some 49, some 50, some 51, some 52, some 53, some 54, some 55, some 56, some 57, some 58, some 59, some 60, some 61, some 62, some 63, some 64, some 65, some 66, some 67, some 68, some 69, some 70, some 71, some 2] r 18 = some true := by show (match r 58 with | .bool b => some b | _ => none) = some true; rw [h18]
            simp only [Region.wanted, hy, beq_self_eq_true, if_true]
            clear hs hq hf hy
            unfold gives
            go_simp
            exact ⟨Below.refl _ _, rfl⟩
          refine ⟨fun r wx hG hs hq hf => ?_, ?_⟩
          · have h21 : r 61 = .slice ao N co := hf.1
            have h18 : r 58 = .bool true := hf.2.1
            have hy : ydD [some 40, some 41, some 42, some 43, some 44, some 45, some 46, some 47, some 48, some 49, some 50, some 51, some 52, some 53, some 54, some 55, some 56, some 57, some 58, some 59, some 60, some 61, some 62, some 63, some 64, some 65, some 66, some 67, some 68, some 69, some 70, some 71, some 2] r 18 = some true := by show (match r 58 with | .bool b => some b | _ => none) = some true; rw [h18]
            simp only [Region.wanted, hy, beq_self_eq_true, if_true]
            clear hs hq hf hy
            unfold gives
            have hk := Least_any (.slice ao N co) K wx HK.out.1 HK.out.2.1 (by have := HK.out.2.2.1.keep hG; rw [HK.out.2.2.2] at this ⊢; exact this)
            rw [← HE.out.2.2.2.2.1] at hk
            go_simp
            refine hk.mono ?_
            rintro e wy ⟨rfl, rfl⟩
            exact ⟨_, rfl, Below.refl _ _, rfl⟩
          refine ⟨fun r wx hG hs hq hf => ?_, ?_⟩
          · have h20 : r 60 = .float .f64 lo := hf.1
            have h22 : r 62 = .float .f64 lo := hf.2.1
            have h18 : r 58 = .bool true := hf.2.2.2.1
            have hy : ydD [some 40, some 41, some 42, some 43, some 44, some 45, some 46, some 47, some 48, some 49, some 50, some 51, some 52, some 53, some 54, some 55, some 56, some 57, some 58, some 59, some 60, some 61, some 62, some 63, some 64, some 65, some 66, some 67, some 68, some 69, some 70, some 71, some 2] r 18 = some true := by show (match r 58 with | .bool b => some b | _ => none) = some true; rw [h18]
            simp only [Region.wanted, hy, beq_self_eq_true, if_true]
            clear hs hq hf hy
            unfold gives
            have hk := Same_any lo lo wx HE.out.1 HE.out.1
            simp only [beq_self_eq_true] at hk
            go_simp
            refine hk.mono ?_
            rintro e wy ⟨rfl, rfl⟩
            exact ⟨_, rfl, Below.refl _ _, rfl⟩
          refine ⟨fun r wx hG hs hq hf => ?_, ?_⟩
          · have h18 : r 58 = .bool true := hf.1
            have h23 : r 63 = .bool true := hf.2.1
            refine (if_pos rfl).symm ▸ ?_
            clear hs hq hf
            unfold gives
            go_simp
            exact ⟨Below.refl _ _, rfl⟩
          refine ⟨fun r wx hG hs hq hf => ?_, ?_⟩
          · have h24 : r 64 = .bool true := hf.1
            refine (if_pos rfl).symm ▸ ?_
            clear hs hq hf
            unfold gives
            go_simp
            exact ⟨Below.refl _ _, rfl⟩
          refine ⟨fun r wx hG hs hq hf => ?_, ?_⟩
          · have e3 : r 3 = .pointer (some ⟨g3, 0, none⟩) := hs 3 rfl
            have h25 : r 65 = .bool true := hf.1
            have hy : ydD [some 40, some 41, some 42, some 43, some 44, some 45, some 46, some 47, some 48, some 49, some 50, some 51, some 52, some 53, some 54, some 55, some 56, some 57, some 58, some 59, some 60, some 61, some 62, some 63, some 64, some 65, some 66, some 67, some 68, some 69, some 70, some 71, some 2] r 25 = some true := by show (match r 65 with | .bool b => some b | _ => none) = some true; rw [h25]
            simp only [Region.wanted, hy, beq_self_eq_true, if_true]
            clear hs hq hf hy
            unfold gives
            go_simp
            exact ⟨Below.refl _ _, rfl⟩
          refine ⟨fun r wx hG hs hq hf => ?_, ?_⟩
          · have h26 : r 66 = .pointer (some ⟨g3, 4, none⟩) := hf.1
            have h25 : r 65 = .bool true := hf.2.1
            have hy : ydD [some 40, some 41, some 42, some 43, some 44, some 45, some 46, some 47, some 48, some 49, some 50, some 51, some 52, some 53, some 54, some 55, some 56, some 57, some 58, some 59, some 60, some 61, some 62, some 63, some 64, some 65, some 66, some 67, some 68, some 69, some 70, some 71, some 2] r 25 = some true := by show (match r 65 with | .bool b => some b | _ => none) = some true; rw [h25]
            simp only [Region.wanted, hy, beq_self_eq_true, if_true]
            clear hs hq hf hy
            unfold gives
            have hc := cell_rowG (v := .float .f64 hi) (i := 4) ((hG.block _ HL.out.1).trans HR.out.1) rfl
            go_simp
            exact ⟨Below.refl _ _, rfl⟩
          refine ⟨fun r wx hG hs hq hf => ?_, ?_⟩
          · have e5 : r 5 = .slice ao N co := hs 5 rfl
            have h25 : r 65 = .bool true := hf.1
            have hy : ydD [some 40, some 41, some 42, some 43, some 44, some 45, some 46, some 47, some 48, some 49, some 50, some 51, some 52, some 53, some 54, some 55, some 56, some 57, some 58, some 59, some 60, some 61, some 62, some 63, some 64, some 65, some 66, some 67, some 68, some 69, some 70, some 71, some 2] r 25 = some true := by show (match r 65 with | .bool b => some b | _ => none) = some true; rw [h25]
            simp only [Region.wanted, hy, beq_self_eq_true, if_true]
            clear hs hq hf hy
            unfold gives
            go_simp
            exact ⟨Below.refl _ _, rfl⟩
          refine ⟨fun r wx hG hs hq hf => ?_, ?_⟩
          · have h28 : r 68 = .slice ao N co := hf.1
            have h25 : r 65 = .bool true := hf.2.1
            have hy : ydD [some 40, some 41, some 42, some 43, some 44, some 45, some 46, some 47, some 48, some 49, some 50, some 51, some 52, some 53, some 54, some 55, some 56, some 57, some 58, some 59, some 60, some 61, some 62, some 63, some 64, some 65, some 66, some 67, some 68, some 69, some 70, some 71, some 2] r 25 = some true := by show (match r 65 with | .bool b => some b | _ => none) = some true; rw [h25]
            simp only [Region.wanted, hy, beq_self_eq_true, if_true]
            clear hs hq hf hy
            unfold gives
            have hk := Most_any (.slice ao N co) K wx HK.out.1 HK.out.2.1 (by have := HK.out.2.2.1.keep hG; rw [HK.out.2.2.2] at this ⊢; exact this)
            rw [← HE.out.2.2.2.2.2] at hk
            go_simp
            refine hk.mono ?_
            rintro e wy ⟨rfl, rfl⟩
            exact ⟨_, rfl, Below.refl _ _, rfl⟩
          refine ⟨fun r wx hG hs hq hf => ?_, ?_⟩
          · have h27 : r 67 = .float .f64 hi := hf.1
            have h29 : r 69 = .float .f64 hi := hf.2.1
            have h25 : r 65 = .bool true := hf.2.2.2.1
            have hy : ydD [some 40, some 41, some 42, some 43, some 44, some 45, some 46, some 47, some 48, some 49, some 50, some 51, some 52, some 53, some 54, some 55, some 56, some 57, some 58, some 59, some 60, some 61, some 62, some 63, some 64, some 65, some 66, some 67, some 68, some 69, some 70, some 71, some 2] r 25 = some true := by show (match r 65 with | .bool b => some b | _ => none) = some true; rw [h25]
            simp only [Region.wanted, hy, beq_self_eq_true, if_true]
            clear hs hq hf hy
            unfold gives
            have hk := Same_any hi hi wx HE.out.2.1 HE.out.2.1
            simp only [beq_self_eq_true] at hk
            go_simp
            refine hk.mono ?_
            rintro e wy ⟨rfl, rfl⟩
            exact ⟨_, rfl, Below.refl _ _, rfl⟩
          refine ⟨fun r wx hG hs hq hf => ?_, ?_⟩
          · have h25 : r 65 = .bool true := hf.1
            have h30 : r 70 = .bool true := hf.2.1
            refine (if_pos rfl).symm ▸ ?_
            clear hs hq hf
            unfold gives
            go_simp
            exact ⟨Below.refl _ _, rfl⟩
          refine ⟨fun r wx hG hs hq hf => ?_, ?_⟩
          · have h31 : r 71 = .bool true := hf.1
            refine (if_pos rfl).symm ▸ ?_
            clear hs hq hf
            unfold gives
            go_simp
            exact ⟨Below.refl _ _, rfl⟩
          exact trivial
        case hend =>
          intro u wz hG hfin
          have z32 : u 32 = .bool true := hfin 32 (by decide) (by kernel_rfl)
          clear hfin
          simp only [fill]
          go_simp
          go_wp2_with fail
          go_ret
          exact ⟨rfl, HB.out.trans (hG.mono HB.out.size)⟩
theorem gaugeRuns.law (H : Type) (enc : TypeId × Value → H) (W : World) (base : Nat)
    (v0 : Value) (d0 : DataW H) (p0 : List MemPlace) (g0 : Value.okWide Try.prog W .any base 22 v0) (h0 : DataW.Trod enc Try.prog W 0 (fun _ => true) true 22 v0 d0 p0)
    {ts : List TypeId} {es : List (DataW H)} (hsz : (DataW.weightsEach Try.prog ([22] ++ ts) ([d0] ++ es)).all (· ≤ reachBytes) = true) :
    Calls Try.prog 3 #[v0] W fun e W' => e = .returned (.bool true) ∧ Below W.heap.size W W' := by
  obtain ⟨l, hrl, hfl, hdl⟩ := Go.Proofs.Ytdociiogddihfaa.open_words Try.underlying22 Try.underlying24 (by kernel_rfl) (okWide_slice Try.underlying22 g0) h0
  have hll := words_reach hsz (j := 0) (t := 22) rfl Try.underlying22 (by kernel_rfl) (l := l) (hdl.imp (fun h => ⟨congrArg some h.1, h.2⟩) (fun ⟨s, h⟩ => ⟨s, congrArg some h⟩))
  exact gaugeRuns_walk v0 l W hfl hll hrl
end Go.Proofs.Ytdociiogddihfaa
