/- leaf.over: the root over peaks. -/
import Derived.Test.YtfibhmgjkooemaaDoorLeafB
namespace Go.Proofs.YtfibhmgjkooemaaDoor
open Go.RowKit Go.Shelf Sha

attribute [local go_sem] Oper.semAt_some

theorem row_own {β : Type} (g : Nat) (f : β → Obj) (hf : ∀ s, (f s).isCells = true) : Own (fun (s : β) W => W.heap[g]? = some (f s)) := fun s A B row hs hg hr => by
  refine (hg.block g (Array.getElem?_eq_some_iff.1 hs).1 (fun e => ?_)).trans hs
  obtain ⟨o, ho, hc⟩ := hr g e.symm
  rw [hs] at ho
  obtain rfl := Option.some.inj ho
  rw [hf s] at hc; cases hc
/-- Hashes that lie one behind the other. -/
theorem hashes_of {w : World} {a : Option Addr} {c : Nat} (qs : List H32) (h0 : H32) (hr : Rd w 32 (.slice a (qs.length + 1) c) (qs.length + 1) ((qs.map (·.1) ++ [h0.1]).flatMap bv)) :
    ∃ b off, a = some ⟨b, off, none⟩ ∧ b < w.heap.size ∧ qs.length + 1 ≤ c ∧ w.rangeAt b (off + qs.length * 32) (bv h0.1) ∧ Hashes w.heap.size w (.slice a qs.length c) qs := by
  have h32 : ∀ p ∈ qs.map (·.1) ++ [h0.1], p.length = 32 := by
    intro p hp
    rcases List.mem_append.1 hp with hp | hp
    · obtain ⟨q, _, rfl⟩ := List.mem_map.1 hp; exact q.2
    · simp at hp; subst hp; exact h0.2
  obtain ⟨b, off, c', hv, hc, hcell⟩ := hr.atN (by omega) (by omega)
  simp only [Value.slice.injEq, true_and] at hv
  obtain ⟨rfl, rfl⟩ := hv
  have hrg : ∀ (j : Nat) (x : List UInt8), (qs.map (·.1) ++ [h0.1])[j]? = some x → w.rangeAt b (off + j * 32) (bv x) := fun j x hx i u hu => by
    have hx32 := h32 x (List.mem_of_getElem? hx)
    have hi : i < 32 := by have := (List.getElem?_eq_some_iff.1 hu).1; rwa [bv_length, hx32] at this
    have := hcell (j * 32 + i) u (by rw [flat_at32 _ j i x h32 hx hi]; exact hu)
    rwa [← Nat.add_assoc] at this
  have hlast : (qs.map (·.1) ++ [h0.1])[qs.length]? = some h0.1 := by rw [List.getElem?_append_right (by simp)]; simp
  have hl32 := h0.2
  have hb : b < w.heap.size := World.block_lt_of_cell? w _ (hrg qs.length h0.1 hlast 0 _ (List.getElem?_eq_getElem (by rw [bv_length, hl32]; omega)))
  refine ⟨b, off, rfl, hb, hc, hrg _ _ hlast, _, _, rfl, .inr ⟨b, off, rfl, hb, fun j x hx => hrg j x.1 ?_⟩⟩
  have hj := (List.getElem?_eq_some_iff.1 hx).1
  rw [List.getElem?_append_left (by simp; omega), List.getElem?_map, hx]; rfl

set_option maxRecDepth 100000 in
set_option maxHeartbeats 4000000 in
theorem over_nil (n : Int) (a : Option Addr) (c : Nat) (w : World) (hn : -9223372036854775808 ≤ n ∧ n ≤ 9223372036854775807) (hT : Tabs w) :
    Calls Tryd.prog 56 #[.int .i64 n, .slice a 0 c] w fun e w' => e = .returned (.agg (bv (emptyH n)).toArray) ∧ Below w.heap.size w w' := by
  refine (callsIn_wide (n := 3)).1 ?_
  refine callsIn_of_wp_marks Tryd.func56 rfl trivial ?_ rfl
  simp only [Tryd.ntmps56, List.size_toArray, List.length_cons, List.length_nil, Nat.reduceAdd, Nat.reduceSub, Array.replicate_succ, Array.replicate_zero, List.push_toArray, List.append_toArray, List.nil_append, List.cons_append]
  have hz := (zero_of_info info32).1
  gi_wp2_with fail
  have hb0 : Below w.heap.size w ((w.alloc (.cells #[.int .i64 n] 3)).alloc (.cells (bv (zs 32)).toArray 35)) := ((Below.refl _ _).alloc (Nat.le_refl _) _).alloc (by simp) _
  have hrow0 : ((w.alloc (.cells #[.int .i64 n] 3)).alloc (.cells (bv (zs 32)).toArray 35)).heap[w.heap.size + 1]? = some (.cells (bv (zs 32)).toArray 35 (0, 0)) := by
    have := heap_alloc_new (w.alloc (.cells #[.int .i64 n] 3)) (.cells (bv (zs 32)).toArray 35)
    simpa using this
  refine ⟨trivial, ?_⟩
  refine (callsIn_wide.2 (Empty_any n _ hn (hT.keepB hb0))).mono ?_
  rintro e w1 ⟨rfl, hb1⟩
  have hrow1 := (hb1.block _ (Array.getElem?_eq_some_iff.1 hrow0).1).trans hrow0
  have hbw1 := hb0.trans (hb1.mono hb0.size)
  have hol := emptyH_length n
  obtain ⟨out, hout⟩ : ∃ o, o = emptyH n := ⟨_, rfl⟩
  rw [← hout] at hol ⊢
  have HO := Lib.hid hout
  have H1 := Lib.hid (And.intro hrow1 (And.intro hbw1 hol))
  clear hrow0 hrow1 hb0 hb1 hbw1 hol hout
  gi_wp2_with (with_reducible show wpListIn _ _ _ _ _ (⟨none, Op.store _ _ _, _, _, _, _⟩ :: _) _ _; refine wpListIn_store_row rfl _ _ _ rfl (w.heap.size + 1) (bv out) rfl rfl (bv (zs 32)) _ H1.out.1 (hInfo' _ H1.out.2.2) (by rw [bv_length, bv_length, H1.out.2.2]; simp [zs]) (bv_one _) ?_; intro w9 HG9 hg9 _)
  refine ⟨.agg (bv out).toArray, results_cell_row Tryd.results56 _ _ (w.heap.size + 1) 35 _ (0, 0) _ rfl HG9 Tryd.underlying35 rfl (hInfo _ H1.out.2.2), by rw [HO.out], ?_⟩
  exact below_grow H1.out.2.1 hg9 (by omega) (Array.getElem?_eq_some_iff.1 H1.out.1).1

set_option maxRecDepth 100000 in
set_option maxHeartbeats 8000000 in
theorem over_cons (n : Int) (qs : List H32) (h0 : H32) (a : Option Addr) (c : Nat) (w : World) (hn : -9223372036854775808 ≤ n ∧ n ≤ 9223372036854775807) (hl : qs.length + 1 ≤ 140737488355328)
    (hr : Rd w 32 (.slice a (qs.length + 1) c) (qs.length + 1) ((qs.map (·.1) ++ [h0.1]).flatMap bv)) (hT : Tabs w) :
    Calls Tryd.prog 56 #[.int .i64 n, .slice a (qs.length + 1) c] w fun e w' => e = .returned (.agg (bv (overH n (qs.map (·.1) ++ [h0.1]))).toArray) ∧ Below w.heap.size w w' := by
  refine (callsIn_wide (n := 3)).1 ?_
  refine callsIn_of_wp_marks Tryd.func56 rfl trivial ?_ rfl
  simp only [Tryd.ntmps56, List.size_toArray, List.length_cons, List.length_nil, Nat.reduceAdd, Nat.reduceSub, Array.replicate_succ, Array.replicate_zero, List.push_toArray, List.append_toArray, List.nil_append, List.cons_append]
  have hz := (zero_of_info info32).1
  obtain ⟨b, off, rfl, hbw, hcc, hcell, hHs⟩ := hashes_of qs h0 hr
  have h032 := h0.2
  have HH := Lib.hid hHs
  have HR := Lib.hid (And.intro hcell h032)
  have hov := overH_snoc n h0.1 qs
  obtain ⟨OUT, hOUT⟩ : ∃ o, o = overH n (qs.map (·.1) ++ [h0.1]) := ⟨_, rfl⟩
  rw [← hOUT] at hov ⊢
  have HOV := Lib.hid hov
  obtain ⟨hb0', h0l⟩ := h0
  simp only at HR HOV hcell
  have hh0 : ∃ x : List UInt8, x = hb0' := ⟨_, rfl⟩
  clear hr hcell h032 hHs hov hOUT hh0
  have hk0 : ¬ (qs.length : Int) < 0 := by omega
  have hk1 : (0 : Int) ≤ (qs.length : Int) := by omega
  have hk2 : (qs.length : Int) < (qs.length : Int) + 1 := by omega
  have hk3 : IntKind.i64.wrap ((qs.length : Int) + 1 - 1) = (qs.length : Int) := by rw [IntWalk.i64_in _ (by omega)]; omega
  have hk4 : (qs.length : Int) ≤ (c : Int) := by omega
  obtain ⟨w0, hw0⟩ : ∃ x : World, x = (w.alloc (.cells #[.int .i64 n] 3)).alloc (.cells (bv (zs 32)).toArray 35) := ⟨_, rfl⟩
  have hb0 : Below w.heap.size w w0 := by rw [hw0]; exact ((Below.refl _ _).alloc (Nat.le_refl _) _).alloc (by simp) _
  have hs0 : w0.heap.size = w.heap.size + 2 := by rw [hw0]; simp
  have hrow4 : w0.heap[w.heap.size + 1]? = some (.cells (bv (zs 32)).toArray 35 (0, 0)) := by
    rw [hw0]
    have := heap_alloc_new (w.alloc (.cells #[.int .i64 n] 3)) (.cells (bv (zs 32)).toArray 35)
    simpa using this
  have hrow2 : w0.heap[w.heap.size]? = some (.cells #[.int .i64 n] 3 (0, 0)) := by
    rw [hw0, heap_alloc_old _ _ (by simp)]
    exact heap_alloc_new _ _
  have hrg0 : w0.rangeAt b (off + qs.length * 32) (bv hb0') := fun j u hu => (hb0.cell (p := ⟨b, off + qs.length * 32 + j, none⟩) hbw).trans (HR.out.1 j u hu)
  have hrow6 : (w0.alloc (.cells (bv (zs 32)).toArray 35)).heap[w.heap.size + 2]? = some (.cells (bv (zs 32)).toArray 35 (0, 0)) := by
    have := heap_alloc_new w0 (.cells (bv (zs 32)).toArray 35)
    rwa [hs0] at this
  have H6 := Lib.hid hrow6
  clear hrow6
  have H0 := Lib.hid (And.intro hb0 (And.intro hrow2 (And.intro hrow4 hrg0)))
  have HW0 := Lib.hid hw0
  clear hb0 hrow2 hrow4 hrg0 hw0
  gi_wp2_with (first
    | (with_reducible show wpListIn _ _ _ _ _ (⟨some 19, _, _, _, _, _⟩ :: _) _ _; rw [show (w.alloc (.cells #[.int .i64 n] 3)).alloc (.cells (bv (zs 32)).toArray 35) = w0 from HW0.out.symm]; refine wpListIn_load_mid rfl _ _ rfl b (off + qs.length * 32) rfl (bv hb0') _ H0.out.2.2.2 Tryd.underlying35 rfl (hInfo' _ HR.out.2) ?_)
    | (with_reducible show wpListIn _ _ _ _ _ (⟨none, Op.store _ _ _, _, _, _, _⟩ :: _) _ _; refine wpListIn_store_row rfl _ _ _ rfl (w.heap.size + 2) (bv hb0') rfl rfl (bv (zs 32)) _ H6.out (hInfo' _ HR.out.2) (by rw [bv_length, bv_length, HR.out.2]; simp [zs]) (bv_one _) ?_; intro w3 HG3 hg3 hz3))
  refine ⟨trivial, ?_⟩
  refine (backward_in Fence.wide 2 trivial rfl _ _ _ _).mono ?_
  rintro e w4 ⟨rfl, hw4⟩
  have hs3 : w3.heap.size = w.heap.size + 3 := by rw [hz3]; simp; omega
  have hb3 : Below w.heap.size w w3 := below_grow (H0.out.1.alloc H0.out.1.size _) hg3 (by omega) (by simp; omega)
  have k3 : ∀ g, g < w.heap.size + 2 → w3.heap[g]? = w0.heap[g]? := fun g hg => (hg3.block g (by simp; omega) (by simp; omega)).trans (Below.heap_alloc _ _ _ (by omega))
  have k4 : Below w3.heap.size w3 w4 := by rw [hw4]; exact (Below.refl _ _).alloc (Nat.le_refl _) _
  have hs4 : w4.heap.size = w.heap.size + 4 := by rw [hw4]; simp; omega
  have hr2 : w4.heap[w.heap.size]? = some (.cells #[.int .i64 n] 3 (0, 0)) := (k4.block _ (by omega)).trans ((k3 _ (by omega)).trans H0.out.2.1)
  have hr4 : w4.heap[w.heap.size + 1]? = some (.cells (bv (zs 32)).toArray 35 (0, 0)) := (k4.block _ (by omega)).trans ((k3 _ (by omega)).trans H0.out.2.2.1)
  have hr6 : w4.heap[w.heap.size + 2]? = some (.cells (bv hb0').toArray 35 (0, 0)) := (k4.block _ (by omega)).trans HG3
  have hcB : w4.cell? ⟨w.heap.size + 3, 0, none⟩ = some (.slice (some ⟨b, off, none⟩) qs.length c) := by
    rw [hw4, ← hs3]; simp [go_sem]
  have hb4 : Below w.heap.size w w4 := hb3.trans (k4.mono (by omega))
  have hHq := HH.out.below hb4
  have hol : ∀ pre, (acc n hb0' pre).length = 32 := fun pre => acc_length n pre hb0' h0l
  clear hw4 HG3 hg3 k3 k4 hb3 H0 H6 HW0 hz3
  gi_wp2
  refine wpIn_rangeFunc_ownH rfl (by omega) (gf := 85) (lb := #[.pointer (some ⟨w.heap.size + 3, 0, none⟩)]) rfl trivial (enters_of Tryd.func85 (by kernel_rfl) rfl)
    (back_stops Fence.wide 2 trivial rfl (by omega) (w.heap.size + 3) w.heap.size _ qs (by omega) w4 (by omega) (by omega) hcB hHq) Kp2.trans
    (fun W l o o' hle ho hc1 hc2 => ⟨belowK_b (w := w4) (by omega) W l o o' hle ho hc1 hc2, (grownBy_putObj' W l o').block _ (by have := (Array.getElem?_eq_some_iff.1 ho).1; omega) (fun e => by simp at e; omega)⟩) (Below.refl _ _) (fun _ => rfl)
    (fun pre W => ((W.heap[w.heap.size + 2]? = some (.cells (bv (acc n hb0' pre)).toArray 35 (0, 0)) ∧ W.heap[w.heap.size + 1]? = some (.cells (bv (zs 32)).toArray 35 (0, 0))) ∧ W.heap[w.heap.size]? = some (.cells #[.int .i64 n] 3 (0, 0))) ∧ (Below w.heap.size w W ∧ w4.heap.size ≤ W.heap.size))
    (fun _ _ _ => False)
    (OwnFrom.and (OwnFrom.and (OwnFrom.and (Own.from (row_own _ (fun pre => .cells (bv (acc n hb0' pre)).toArray 35 (0, 0)) (fun _ => rfl)) _) (Own.from (row_own _ _ (fun _ => rfl)) _)) (Own.from (row_own _ _ (fun _ => rfl)) _)) (OwnFrom.and (ownFrom_below (Nat.le_refl _) (by omega)) (fun _ X Y row hs hg hr => Nat.le_trans hs hg.size)))
    (fun _ _ _ _ _ hs _ _ => hs)
    ⟨⟨⟨hr6, hr4⟩, hr2⟩, hb4, Nat.le_refl _⟩
    (fun x a' W => ∃ Bx, w4.heap.size ≤ Bx ∧ W.heap[Bx]? = some (.cells (bv x.2.1).toArray 35 (0, 0)) ∧ a' = { tmps := #[.int .i64 n, .slice (some ⟨b, off, none⟩) (qs.length + 1) c, .pointer (some ⟨w.heap.size, 0, none⟩), undef, .pointer (some ⟨w.heap.size + 1, 0, none⟩), .int .i64 qs.length, .pointer (some ⟨w.heap.size + 2, 0, none⟩), undef, .pointer (some ⟨Bx, 0, none⟩), .slice (some ⟨b, off, none⟩) (qs.length + 1) c, .int .i64 ((qs.length : Int) + 1), .int .i64 qs.length, .int .i64 qs.length, .bool false, undef, undef, .slice (some ⟨b, off, none⟩) (qs.length + 1) c, .int .i64 qs.length, .pointer (some ⟨b, off + qs.length * 32, none⟩), .agg (bv hb0').toArray, .slice (some ⟨b, off, none⟩) (qs.length + 1) c, .int .i64 qs.length, .slice (some ⟨b, off, none⟩) qs.length c, .func (.func 85) #[] #[.pointer (some ⟨w.heap.size + 3, 0, none⟩)], .int .i64 x.1, .agg (bv x.2.1).toArray, undef, undef, undef, undef, undef], defers := [] })
    (fun x a' _ X Y row hs hg hr => by
      obtain ⟨Bx, h1, h2, h3⟩ := hs
      exact ⟨Bx, h1, row_own Bx (fun (_ : Unit) => Obj.cells (bv x.2.1).toArray 35 (0, 0)) (fun _ => rfl) () X Y row h2 hg (fun r e => (hr r e).2), h3⟩)
    ?assign ?body ?done ?stop
  case assign =>
    rintro l pre x W K ⟨⟨⟨h6, h4⟩, h2⟩, hB, hsz⟩ hK
    have hx32 := x.2.2
    have HX := Lib.hid hx32
    have HI := Lib.hid (And.intro h6 (And.intro h4 (And.intro h2 (And.intro hB hsz))))
    have H7 := Lib.hid (heap_alloc_new W (.cells (bv (zs 32)).toArray 35))
    clear hx32 h6 h4 h2 hB hsz
    gi_wp2_with (with_reducible show wpListIn _ _ _ _ _ (⟨none, Op.store _ _ _, _, _, _, _⟩ :: _) _ _; refine wpListIn_store_row rfl _ _ _ rfl W.heap.size (bv x.2.1) rfl rfl (bv (zs 32)) _ H7.out (hInfo' _ HX.out) (by rw [bv_length, bv_length, HX.out]; simp [zs]) (bv_one _) ?_; intro W9 HG9 hg9 hz9)
    have k1 : Below W.heap.size W W9 := below_grow ((Below.refl _ _).alloc (Nat.le_refl _) _) hg9 (Nat.le_refl _) (by simp)
    obtain ⟨h6, h4, h2, hB, hsz⟩ := HI.out
    have hg' : W.grownBy W9 none := below_grown k1 none
    exact hK _ _ (KeepsFrom.of_grownBy hg' (fun j e => by cases e)) ⟨k1.mono hB.size, k1.block _ (by omega)⟩ ⟨⟨⟨(k1.block _ (Array.getElem?_eq_some_iff.1 h6).1).trans h6, (k1.block _ (Array.getElem?_eq_some_iff.1 h4).1).trans h4⟩, (k1.block _ (Array.getElem?_eq_some_iff.1 h2).1).trans h2⟩, hB.trans (k1.mono hB.size), Nat.le_trans hsz k1.size⟩ ⟨W.heap.size, hsz, HG9, rfl⟩
  case body =>
    rintro l pre x a' W hl ⟨r, hr⟩ ⟨⟨⟨h6, h4⟩, h2⟩, hB, hsz⟩ ⟨Bx, hBx, bX, rfl⟩ hlt
    have hx32 := x.2.2
    have c2 : W.cell? ⟨w.heap.size, 0, none⟩ = some (.int .i64 n) := by rw [cell_of_row _ _ _ _ _ _ h2]; rfl
    have HX := Lib.hid (And.intro hx32 (hol pre))
    have HI := Lib.hid (And.intro h6 (And.intro h4 (And.intro h2 (And.intro hB bX))))
    have hN := Node_any n x.2.1 (acc n hb0' pre) W hx32 (hol pre) hn (hT.keepB hB)
    have e1 := acc_snoc n hb0' pre x
    have e2 := nodeH_length n x.2.1 (acc n hb0' pre)
    rw [← e1] at hN e2
    obtain ⟨nx, hnx⟩ : ∃ nx, nx = acc n hb0' (pre ++ [x]) := ⟨_, rfl⟩
    rw [← hnx] at hN e2
    have HN := Lib.hid hN
    have HE := Lib.hid e2
    have HNX := Lib.hid hnx
    clear hx32 h6 h4 h2 hB bX hN e1 e2 hr hnx
    gi_wp2_with (first
      | (with_reducible show wpListIn _ _ _ _ _ (⟨some 27, _, _, _, _, _⟩ :: _) _ _; refine wpListIn_load_row rfl _ _ rfl Bx rfl _ _ (0, 0) _ HI.out.2.2.2.2 Tryd.underlying35 rfl (hInfo _ HX.out.1) ?_)
      | (with_reducible show wpListIn _ _ _ _ _ (⟨some 28, _, _, _, _, _⟩ :: _) _ _; refine wpListIn_load_row rfl _ _ rfl (w.heap.size + 2) rfl _ _ (0, 0) _ HI.out.1 Tryd.underlying35 rfl (hInfo _ HX.out.2) ?_))
    refine ⟨trivial, ?_⟩
    refine (CallsIn.inRound l (callsIn_wide.2 HN.out)).mono ?_
    rintro e W1 ⟨rfl, hb1⟩
    have h61 := (hb1.block _ (Array.getElem?_eq_some_iff.1 HI.out.1).1).trans HI.out.1
    have H61 := Lib.hid (And.intro h61 hb1)
    clear h61 hb1 c2
    gi_wp2_with (with_reducible show wpListIn _ _ _ _ _ (⟨none, Op.store _ _ _, _, _, _, _⟩ :: _) _ _; refine wpListIn_store_row rfl _ _ _ rfl (w.heap.size + 2) (bv nx) rfl rfl (bv (acc n hb0' pre)) _ H61.out.1 (hInfo' _ HE.out) (by rw [bv_length, bv_length, HE.out, HX.out.2]) (bv_one _) ?_; intro W9 HG9 hg9 hz9)
    obtain ⟨h6, h4, h2, hB, _⟩ := HI.out
    have hb1 := H61.out.2
    have k9 : ∀ g, g < W.heap.size → g ≠ w.heap.size + 2 → W9.heap[g]? = W.heap[g]? := fun g hg hne => (hg9.block g (Nat.lt_of_lt_of_le hg hb1.size) (fun e => hne (by simpa using e))).trans (hb1.block g hg)
    have kB : Below w.heap.size W W9 := ⟨hg9.os.trans hb1.os, hg9.tape.trans hb1.tape, hg9.output.trans hb1.output, Nat.le_trans hb1.size hg9.size, fun g hg => k9 g (by omega) (by omega)⟩
    refine ⟨(KeepsFrom.of_grownBy (below_grown hb1 none) (fun j e => by cases e)).trans (KeepsFrom.of_grownBy hg9 (fun j e => by simp at e; omega)), ⟨kB, k9 _ (by omega) (by omega)⟩, ⟨⟨⟨by rw [← HNX.out]; exact HG9, (k9 _ (by omega) (by omega)).trans h4⟩, (k9 _ (by omega) (by omega)).trans h2⟩, hB.trans kB, Nat.le_trans hsz (Nat.le_trans hb1.size hg9.size)⟩⟩
  case done =>
    rintro D ys W hD rfl ⟨⟨⟨h6, h4⟩, h2⟩, hB, hsz⟩ hK
    have hacc := acc_upto n hb0' qs qs.length (Nat.le_refl _)
    rw [Nat.sub_self, List.drop_zero, ← HOV.out] at hacc
    rw [hacc] at h6
    have hol2 := hol (upto (backF qs) qs.length)
    rw [hacc] at hol2
    have HI := Lib.hid (And.intro h6 (And.intro h4 (And.intro hK (And.intro hB hol2))))
    clear h6 h4 h2 hK hB hacc hol2
    gi_wp2_with (first
      | (with_reducible show wpListIn _ _ _ _ _ (⟨some 30, _, _, _, _, _⟩ :: _) _ _; refine wpListIn_load_row rfl _ _ rfl (w.heap.size + 2) rfl _ _ (0, 0) _ HI.out.1 Tryd.underlying35 rfl (hInfo _ HI.out.2.2.2.2) ?_)
      | (with_reducible show wpListIn _ _ _ _ _ (⟨none, Op.store _ _ _, _, _, _, _⟩ :: _) _ _; refine wpListIn_store_row rfl _ _ _ rfl (w.heap.size + 1) (bv OUT) rfl rfl (bv (zs 32)) _ HI.out.2.1 (hInfo' _ HI.out.2.2.2.2) (by rw [bv_length, bv_length, HI.out.2.2.2.2]; simp [zs]) (bv_one _) ?_; intro W9 HG9 hg9 hz9))
    obtain ⟨h6, h4, hK, hB, hol2⟩ := HI.out
    have hK9 := (hg9.block D (Array.getElem?_eq_some_iff.1 hK).1 (fun e => by simp at e; omega)).trans hK
    refine ⟨by simp, .inl ⟨_, _, rfl, run_takeDeferred hK9, ?_⟩⟩
    have hrow9 : (W9.putObj D (.deferred none)).heap[w.heap.size + 1]? = some (.cells (bv OUT).toArray 35 (0, 0)) := ((grownBy_putObj' W9 D _).block _ (Array.getElem?_eq_some_iff.1 HG9).1 (fun e => by simp at e; omega)).trans HG9
    refine ⟨.agg (bv OUT).toArray, results_cell_row Tryd.results56 _ _ (w.heap.size + 1) 35 _ (0, 0) _ rfl hrow9 Tryd.underlying35 rfl (hInfo _ hol2), rfl, ?_⟩
    exact (below_grow hB hg9 (by omega) (Array.getElem?_eq_some_iff.1 h4).1).trans (belowK_b (w := w) (Nat.le_refl _) W9 D _ _ (by omega) hK9 rfl rfl)
  case stop =>
    rintro D c pre W _ _ h _
    exact h.elim

theorem over_any (n : Int) (ps : List (List UInt8)) (v : Value) (w : World) (hn : -9223372036854775808 ≤ n ∧ n ≤ 9223372036854775807) (h32 : ∀ p ∈ ps, p.length = 32) (hl : ps.length ≤ 140737488355328) (hr : Rd w 32 v ps.length (ps.flatMap bv)) (hT : Tabs w) :
    Calls Tryd.prog 56 #[.int .i64 n, v] w fun e w' => e = .returned (.agg (bv (overH n ps)).toArray) ∧ Below w.heap.size w w' := by
  obtain ⟨a, c, rfl⟩ := hr.form
  by_cases h0 : ps.length = 0
  · have : ps = [] := List.eq_nil_of_length_eq_zero h0
    subst this
    exact over_nil n a c w hn hT
  · obtain ⟨qs, h1, hps⟩ : ∃ (qs : List H32) (h1 : H32), ps = qs.map (·.1) ++ [h1.1] := by
      have hne : ps ≠ [] := fun e => h0 (by rw [e]; rfl)
      refine ⟨ps.dropLast.attachWith (fun l => l.length = 32) (fun p hp => h32 p (by rw [List.dropLast_eq_take] at hp; exact List.mem_of_mem_take hp)), ⟨ps.getLast hne, h32 _ (List.getLast_mem hne)⟩, ?_⟩
      rw [show (ps.dropLast.attachWith (fun l => l.length = 32) _).map (fun x => x.1) = ps.dropLast from List.attachWith_map_subtype_val _]
      exact (List.dropLast_concat_getLast hne).symm
    have hln : ps.length = qs.length + 1 := by rw [hps]; simp
    rw [hln] at hr hl ⊢
    rw [hps] at hr ⊢
    exact over_cons n qs h1 a c w hn hl hr hT
end Go.Proofs.YtfibhmgjkooemaaDoor
