/- The reference's block function. -/
import Derived.Test.YtfibhmgjkooemaaDoorShaC
import Derived.Deep.DeepCutAuto
import Derived.Deep.CutBlock
import Derived.LoopN
namespace Go.Proofs.YtfibhmgjkooemaaDoor
open Go.RowKit Sha

/-- Eight words as a value's cells. -/
def A8 (v : W8) : Array Value := #[.int .u32 v.a.toNat, .int .u32 v.b.toNat, .int .u32 v.c.toNat, .int .u32 v.d.toNat, .int .u32 v.e.toNat, .int .u32 v.f.toNat, .int .u32 v.g.toNat, .int .u32 v.h.toNat]
theorem A8_ws (v : W8) : A8 v = ws (fun j => v.l.getD j 0) 8 := by
  apply Array.ext_getElem?
  intro i
  by_cases hi : i < 8
  · rw [ws_get _ _ _ hi]; exact l_get v i hi
  · rw [Array.getElem?_eq_none (by simp [A8]; omega), Array.getElem?_eq_none (by rw [ws_size]; omega)]
theorem r_eq (x y w7 w16 : UInt32) :
    (bits .xor .u32 (bits .xor .u32 ((rr y 17).toNat : Int) ((rr y 19).toNat : Int)) ((y.toNat : Int) / 1024) + (w7.toNat : Int) + bits .xor .u32 (bits .xor .u32 ((rr x 7).toNat : Int) ((rr x 18).toNat : Int)) ((x.toNat : Int) / 8) + (w16.toNat : Int)) % 4294967296 = ((w16 + sml0 x + w7 + sml1 y).toNat : Int) := by
  have e8 : ((x.toNat : Int) / 8) = ((sh x 3).toNat : Int) := by rw [sh_nat, Int.natCast_ediv]; rfl
  have e10 : ((y.toNat : Int) / 1024) = ((sh y 10).toNat : Int) := by rw [sh_nat, Int.natCast_ediv]; rfl
  rw [e8, e10]
  simp only [i_xor, sml0, sml1, UInt32.toNat_add]
  omega

theorem one_r (h e f g k x : UInt32) :
    ((h.toNat : Int) + bits .xor .u32 (bits .xor .u32 ((rr e 6).toNat : Int) ((rr e 11).toNat : Int)) ((rr e 25).toNat : Int) + bits .xor .u32 (bits .and .u32 (e.toNat : Int) (f.toNat : Int)) (bits .and .u32 (bits .xor .u32 IntKind.u32.max (e.toNat : Int)) (g.toNat : Int)) + (k.toNat : Int) + (x.toNat : Int)) % 4294967296 = ((h + big1 e + ch e f g + k + x).toNat : Int) := by
  simp only [i_not, i_xor, i_and, big1, ch, UInt32.toNat_add]
  omega
theorem two_r (a b c : UInt32) :
    (bits .xor .u32 (bits .xor .u32 ((rr a 2).toNat : Int) ((rr a 13).toNat : Int)) ((rr a 22).toNat : Int) + bits .xor .u32 (bits .xor .u32 (bits .and .u32 (a.toNat : Int) (b.toNat : Int)) (bits .and .u32 (a.toNat : Int) (c.toNat : Int))) (bits .and .u32 (b.toNat : Int) (c.toNat : Int))) % 4294967296 = ((big0 a + maj a b c).toNat : Int) := by
  simp only [i_xor, i_and, big0, maj, UInt32.toNat_add]
  omega
/-- The world within the reference's function: the words before, the answer's cells, the schedule. -/
structure RI (w wr : World) (s : W8) (f : Nat → UInt32) : Prop where
  rs : wr.heap[w.heap.size]? = some (.cells (A8 s) 86 (0, 0))
  ro : wr.heap[w.heap.size + 1]? = some (.cells (ws (fun _ => 0) 8) 86 (0, 0))
  rt : wr.heap[w.heap.size + 1 + 1]? = some (.cells (ws f 64) 109 (0, 0))
  sz : w.heap.size + 3 ≤ wr.heap.size
  bl : Below w.heap.size w wr

theorem RI.drew {w wr : World} {s : W8} {f : Nat → UInt32} (h : RI w wr s f) : RI w wr.drew s f := ⟨h.rs, h.ro, h.rt, h.sz, h.bl.drew⟩
theorem RI.drewN {w wr : World} {s : W8} {f : Nat → UInt32} (h : RI w wr s f) (n : Nat) : RI w (wr.drewN n) s f := ⟨h.rs, h.ro, h.rt, h.sz, h.bl.trans ((below_drewN wr n).mono h.bl.size)⟩
theorem RI.set {w wr : World} {s : W8} {f : Nat → UInt32} (h : RI w wr s f) (t : Nat) (x : UInt32) (g : Nat → UInt32) (hk : g t = x) (hg : ∀ j, j < 64 → j ≠ t → g j = f j) :
    RI w (wr.setCell ⟨w.heap.size + 1 + 1, t, none⟩ (u x)) s g where
  rs := (heap_setCell_other _ _ _ _ (show w.heap.size ≠ w.heap.size + 1 + 1 by omega)).trans h.rs
  ro := (heap_setCell_other _ _ _ _ (show w.heap.size + 1 ≠ w.heap.size + 1 + 1 by omega)).trans h.ro
  rt := by rw [heap_setCell_same _ _ _ _ _ _ h.rt, ws_set f g 64 t x hk hg]
  sz := by have := h.sz; simpa [World.setCell] using this
  bl := h.bl.setCell (p := ⟨_, _, none⟩) (show w.heap.size ≤ w.heap.size + 1 + 1 by omega) _

theorem RI.setv {w wr : World} {s : W8} {f : Nat → UInt32} (h : RI w wr s f) {g : Nat} (hg : w.heap.size + 3 ≤ g) (i : Nat) (x : Value) : RI w (wr.setCell ⟨g, i, none⟩ x) s f where
  rs := (heap_setCell_other _ _ _ _ (show w.heap.size ≠ g by omega)).trans h.rs
  ro := (heap_setCell_other _ _ _ _ (show w.heap.size + 1 ≠ g by omega)).trans h.ro
  rt := (heap_setCell_other _ _ _ _ (show w.heap.size + 1 + 1 ≠ g by omega)).trans h.rt
  sz := by have := h.sz; simpa [World.setCell] using this
  bl := h.bl.setCell (p := ⟨_, _, none⟩) (show w.heap.size ≤ g by omega) _
theorem RI.alloc {w wr : World} {s : W8} {f : Nat → UInt32} (h : RI w wr s f) (o : Obj) : RI w (wr.alloc o) s f where
  rs := (heap_alloc_old _ _ (by have := h.sz; omega)).trans h.rs
  ro := (heap_alloc_old _ _ (by have := h.sz; omega)).trans h.ro
  rt := (heap_alloc_old _ _ (by have := h.sz; omega)).trans h.rt
  sz := by have := h.sz; simp; omega
  bl := h.bl.alloc (by have := h.sz; omega) _
theorem RI.start (w : World) (s : W8) (T : Array Value) (hT : T = ws (fun _ => 0) 64) (Z : Array Value) (hZ : Z = ws (fun _ => 0) 8) (A : Array Value) (hA : A = A8 s) :
    RI w (((w.alloc (.cells A 86 (0, 0))).alloc (.cells Z 86 (0, 0))).alloc (.cells T 109 (0, 0))) s (fun _ => 0) := by
  subst hT hZ hA
  refine ⟨?_, ?_, ?_, by simp, (((Below.refl _ _).alloc (Nat.le_refl _) _).alloc (by simp) _).alloc (by simp; omega) _⟩
  · rw [heap_alloc_old _ _ (by simp; omega), heap_alloc_old _ _ (by simp), heap_alloc_new]
  · have h := heap_alloc_new (w.alloc (.cells (A8 s) 86 (0, 0))) (.cells (ws (fun _ => 0) 8) 86 (0, 0))
    rw [heap_alloc_old _ _ (by simp)]
    simpa using h
  · have h := heap_alloc_new ((w.alloc (.cells (A8 s) 86 (0, 0))).alloc (.cells (ws (fun _ => 0) 8) 86 (0, 0))) (.cells (ws (fun _ => 0) 64) 109 (0, 0))
    simpa using h
/-- The words turn one place on. -/
theorem shift_row (w5 : World) (g : Nat) (v : W8) (T : TypeId) (a e : UInt32) (h : w5.heap[g]? = some (.cells (A8 v) T (0, 0))) :
    (((((((((w5.setCell ⟨g, 7, none⟩ (.int .u32 v.g.toNat)).setCell ⟨g, 6, none⟩ (.int .u32 v.f.toNat)).setCell ⟨g, 5, none⟩ (.int .u32 v.e.toNat)).setCell ⟨g, 4, none⟩ (.int .u32 v.d.toNat)).setCell ⟨g, 3, none⟩ (.int .u32 v.c.toNat)).setCell ⟨g, 2, none⟩ (.int .u32 v.b.toNat)).setCell ⟨g, 1, none⟩ (.int .u32 v.a.toNat)).setCell ⟨g, 4, none⟩ (.int .u32 e.toNat)).setCell ⟨g, 0, none⟩ (.int .u32 a.toNat)).heap[g]? =
      some (.cells (A8 ⟨a, v.a, v.b, v.c, e, v.e, v.f, v.g⟩) T (0, 0)) := by
  have h1 := heap_setCell_same _ g 7 _ T (.int .u32 v.g.toNat) h
  have h2 := heap_setCell_same _ g 6 _ T (.int .u32 v.f.toNat) h1
  have h3 := heap_setCell_same _ g 5 _ T (.int .u32 v.e.toNat) h2
  have h4 := heap_setCell_same _ g 4 _ T (.int .u32 v.d.toNat) h3
  have h5 := heap_setCell_same _ g 3 _ T (.int .u32 v.c.toNat) h4
  have h6 := heap_setCell_same _ g 2 _ T (.int .u32 v.b.toNat) h5
  have h7 := heap_setCell_same _ g 1 _ T (.int .u32 v.a.toNat) h6
  have h8 := heap_setCell_same _ g 4 _ T (.int .u32 e.toNat) h7
  have h9 := heap_setCell_same _ g 0 _ T (.int .u32 a.toNat) h8
  refine h9.trans (congrArg (fun x => some (Obj.cells x T (0, 0))) ?_)
  simp [A8]

/-- Eight cells are filled. -/
theorem fill_row (w5 : World) (g : Nat) (v : W8) (T : TypeId) (h : w5.heap[g]? = some (.cells (ws (fun _ => 0) 8) T (0, 0))) :
    ((((((((w5.setCell ⟨g, 0, none⟩ (.int .u32 v.a.toNat)).setCell ⟨g, 1, none⟩ (.int .u32 v.b.toNat)).setCell ⟨g, 2, none⟩ (.int .u32 v.c.toNat)).setCell ⟨g, 3, none⟩ (.int .u32 v.d.toNat)).setCell ⟨g, 4, none⟩ (.int .u32 v.e.toNat)).setCell ⟨g, 5, none⟩ (.int .u32 v.f.toNat)).setCell ⟨g, 6, none⟩ (.int .u32 v.g.toNat)).setCell ⟨g, 7, none⟩ (.int .u32 v.h.toNat)).heap[g]? =
      some (.cells (A8 v) T (0, 0)) := by
  have h1 := heap_setCell_same _ g 0 _ T (.int .u32 v.a.toNat) h
  have h2 := heap_setCell_same _ g 1 _ T (.int .u32 v.b.toNat) h1
  have h3 := heap_setCell_same _ g 2 _ T (.int .u32 v.c.toNat) h2
  have h4 := heap_setCell_same _ g 3 _ T (.int .u32 v.d.toNat) h3
  have h5 := heap_setCell_same _ g 4 _ T (.int .u32 v.e.toNat) h4
  have h6 := heap_setCell_same _ g 5 _ T (.int .u32 v.f.toNat) h5
  have h7 := heap_setCell_same _ g 6 _ T (.int .u32 v.g.toNat) h6
  have h8 := heap_setCell_same _ g 7 _ T (.int .u32 v.h.toNat) h7
  refine h8.trans (congrArg (fun x => some (Obj.cells x T (0, 0))) ?_)
  rw [show ws (fun _ => 0) 8 = #[.int .u32 0, .int .u32 0, .int .u32 0, .int .u32 0, .int .u32 0, .int .u32 0, .int .u32 0, .int .u32 0] from rfl]
  simp [A8]

set_option maxHeartbeats 4000000 in
set_option maxRecDepth 100000 in
theorem block_any (b off n c : Nat) (s : W8) (ys : List UInt8) (w : World)
    (hy : ys.length = 64) (hn : 64 ≤ n) (hc : n ≤ 140737488355328)
    (hrd : ∀ j x, ys[j]? = some x → w.cell? ⟨b, off + j, none⟩ = some (.int .u8 (UInt8.toNat x)))
    (hG : TabsR w) :
    Calls Tryd.prog 74 #[.agg (A8 s), .slice (some ⟨b, off, none⟩) n c] w fun e w' =>
      e = .returned (.agg (A8 (blk s ys))) ∧ Below w.heap.size w w' := by
  unfold A8
  go_enter Tryd.func74, Tryd.ntmps74
  go_wp2_with fail
  go_loopw [6] (fun s6 wr => ∃ t : Nat, t ≤ 16 ∧ s6 = .int .i64 t ∧ RI w wr s (fun j => if j < t then wt (words ys) j else 0)) (fun i _ => 16 - (intOf i).toNat)
  case atStart =>
    exact ⟨0, by omega, rfl, RI.start w s _ (by kernel_rfl) _ (by kernel_rfl) _ rfl⟩
  case round =>
    obtain ⟨t, ht, rfl, hI⟩ := hrel
    by_cases hlt : t < 16
    · have htz : (t : Int) < 16 := by omega
      have ht0 : (0 : Int) ≤ (t : Int) := by omega
      have htz64 : (t : Int) < 64 := by omega
      have h4 : IntKind.i64.wrap (4 * (t : Int)) = 4 * (t : Int) := IntWalk.i64_in _ (by omega)
      have h41 : IntKind.i64.wrap (4 * (t : Int) + 1) = 4 * (t : Int) + 1 := IntWalk.i64_in _ (by omega)
      have h42 : IntKind.i64.wrap (4 * (t : Int) + 2) = 4 * (t : Int) + 2 := IntWalk.i64_in _ (by omega)
      have h43 : IntKind.i64.wrap (4 * (t : Int) + 3) = 4 * (t : Int) + 3 := IntWalk.i64_in _ (by omega)
      have l0 : (0 : Int) ≤ 4 * (t : Int) ∧ 4 * (t : Int) < (n : Int) := by omega
      have l1 : (0 : Int) ≤ 4 * (t : Int) + 1 ∧ 4 * (t : Int) + 1 < (n : Int) := by omega
      have l2 : (0 : Int) ≤ 4 * (t : Int) + 2 ∧ 4 * (t : Int) + 2 < (n : Int) := by omega
      have l3 : (0 : Int) ≤ 4 * (t : Int) + 3 ∧ 4 * (t : Int) + 3 < (n : Int) := by omega
      obtain ⟨x0, hx0⟩ : ∃ x, ys[4 * t]? = some x := ⟨_, List.getElem?_eq_getElem (by omega)⟩
      obtain ⟨x1, hx1⟩ : ∃ x, ys[4 * t + 1]? = some x := ⟨_, List.getElem?_eq_getElem (by omega)⟩
      obtain ⟨x2, hx2⟩ : ∃ x, ys[4 * t + 2]? = some x := ⟨_, List.getElem?_eq_getElem (by omega)⟩
      obtain ⟨x3, hx3⟩ : ∃ x, ys[4 * t + 3]? = some x := ⟨_, List.getElem?_eq_getElem (by omega)⟩
      have hword : wt (words ys) t = UInt32.ofNat (x0.toNat * 16777216 + x1.toNat * 65536 + x2.toNat * 256 + x3.toNat) := by
        rw [wt_low _ (words_length ys) _ hlt, words_get _ _ hlt]
        unfold word; simp only [List.getD_eq_getElem?_getD, hx0, hx1, hx2, hx3, Option.getD_some]
      have rd : ∀ j x, ys[j]? = some x → wr.cell? ⟨b, off + j, none⟩ = some (.int .u8 (UInt8.toNat x)) := fun j x h => by
        have h1 := hrd j x h
        rw [← h1]; exact hI.bl.cell (World.block_lt_of_cell? w _ h1)
      have c0 := rd _ _ hx0
      have c1 := rd _ _ hx1
      have c2 := rd _ _ hx2
      have c3 := rd _ _ hx3
      have e0 : (4 * (t : Int)).toNat = 4 * t := by omega
      have e1 : (4 * (t : Int) + 1).toNat = 4 * t + 1 := by omega
      have e2 : (4 * (t : Int) + 2).toNat = 4 * t + 2 := by omega
      have e3 : (4 * (t : Int) + 3).toNat = 4 * t + 3 := by omega
      have y0 := x0.toNat_lt
      have y1 := x1.toNat_lt
      have y2 := x2.toNat_lt
      have y3 := x3.toNat_lt
      have z0 : IntKind.u32.wrap (x0.toNat : Int) = x0.toNat := by rw [IntKind.wrap_u32']; omega
      have z1 : IntKind.u32.wrap (x1.toNat : Int) = x1.toNat := by rw [IntKind.wrap_u32']; omega
      have z2 : IntKind.u32.wrap (x2.toNat : Int) = x2.toNat := by rw [IntKind.wrap_u32']; omega
      have z3 : IntKind.u32.wrap (x3.toNat : Int) = x3.toNat := by rw [IntKind.wrap_u32']; omega
      have v0 : IntKind.u32.wrap ((x0.toNat : Int) * 16777216) = (x0.toNat : Int) * 16777216 := by rw [IntKind.wrap_u32']; omega
      have v1 : IntKind.u32.wrap ((x1.toNat : Int) * 65536) = (x1.toNat : Int) * 65536 := by rw [IntKind.wrap_u32']; omega
      have v2 : IntKind.u32.wrap ((x2.toNat : Int) * 256) = (x2.toNat : Int) * 256 := by rw [IntKind.wrap_u32']; omega
      have o4 := or4 x0.toNat x1.toNat x2.toNat x3.toNat y0 y1 y2 y3
      rw [← hword] at o4
      have hcell : wr.cell? ⟨w.heap.size + 1 + 1, t, none⟩ = some (.int .u32 (0 : Nat)) := by rw [cell_of_row _ _ _ _ _ _ hI.rt, ws_get _ _ _ (by omega), if_neg (by omega)]; rfl
      have hfr := frozen_of_row _ _ t _ _ hI.rt
      have HI := Lib.hid hI
      clear hword hx0 hx1 hx2 hx3 rd hI hrd
      go_wp2_with fail
      go_still_tail 35, (by kernel_rfl)
      change wpList _ _ _ _ _ wr.drew
      have hcell' : wr.drew.cell? ⟨w.heap.size + 1 + 1, t, none⟩ = some (.int .u32 (0 : Nat)) := hcell
      have hfr' : wr.drew.frozen? ⟨w.heap.size + 1 + 1, t, none⟩ = false := hfr
      have HI' := Lib.hid HI.out.drew
      clear hcell hfr HI
      generalize wr.drew = w4 at *
      clear o4
      go_wp2_with fail
      go_roundw
      case rel =>
        refine ⟨t + 1, by omega, by go_num, HI'.out.set t (wt (words ys) t) _ (by simp) (fun j hj hjt => ?_)⟩
        by_cases h1 : j < t
        · simp [h1, show j < t + 1 by omega]
        · simp [h1, show ¬ j < t + 1 by omega]
      case measure => simp [intOf]; omega
    · have htz : ¬ (t : Int) < 16 := by omega
      obtain rfl : t = 16 := by omega
      clear hrd
      have HI := Lib.hid hI
      obtain ⟨wa, hwa⟩ : ∃ x : World, x = wr := ⟨_, rfl⟩
      subst hwa
      clear hI
      go_wp2_with fail
      go_loopw [7] (fun s7 wr => ∃ t : Nat, 16 ≤ t ∧ t ≤ 64 ∧ s7 = .int .i64 t ∧ RI w wr s (fun j => if j < t then wt (words ys) j else 0)) (fun i _ => 64 - (intOf i).toNat)
      case atStart => exact ⟨16, by omega, by omega, rfl, HI.out⟩
      case round =>
        clear HI
        obtain ⟨t, ht16, ht, rfl, hI⟩ := hrel
        by_cases hlt : t < 64
        · have htz : (t : Int) < 64 := by omega
          have ht0 : (0 : Int) ≤ (t : Int) := by omega
          obtain ⟨r, hr⟩ : ∃ r, r = t - 16 := ⟨_, rfl⟩
          obtain ⟨p15, hp15⟩ : ∃ r, r = t - 15 := ⟨_, rfl⟩
          obtain ⟨p2, hp2⟩ : ∃ r, r = t - 2 := ⟨_, rfl⟩
          obtain ⟨p7, hp7⟩ : ∃ r, r = t - 7 := ⟨_, rfl⟩
          have w15 : IntKind.i64.wrap ((t : Int) - 15) = (p15 : Int) := (IntWalk.i64_in _ (by omega)).trans (by omega)
          have w2 : IntKind.i64.wrap ((t : Int) - 2) = (p2 : Int) := (IntWalk.i64_in _ (by omega)).trans (by omega)
          have w7 : IntKind.i64.wrap ((t : Int) - 7) = (p7 : Int) := (IntWalk.i64_in _ (by omega)).trans (by omega)
          have w16 : IntKind.i64.wrap ((t : Int) - 16) = (r : Int) := (IntWalk.i64_in _ (by omega)).trans (by omega)
          have q15 : (0 : Int) ≤ (p15 : Int) ∧ (p15 : Int) < 64 := by omega
          have q2 : (0 : Int) ≤ (p2 : Int) ∧ (p2 : Int) < 64 := by omega
          have q7 : (0 : Int) ≤ (p7 : Int) ∧ (p7 : Int) < 64 := by omega
          have q16 : (0 : Int) ≤ (r : Int) ∧ (r : Int) < 64 := by omega
          have cell (j : Nat) (h : j < t) : wr.cell? ⟨w.heap.size + 1 + 1, j, none⟩ = some (u (wt (words ys) j)) := by
            rw [cell_of_row _ _ _ _ _ _ hI.rt, ws_get _ _ _ (by omega), if_pos h]
          have c15 := cell p15 (by omega)
          have c2 := cell p2 (by omega)
          have c7 := cell p7 (by omega)
          have c16 := cell r (by omega)
          have hcell : wr.cell? ⟨w.heap.size + 1 + 1, t, none⟩ = some (.int .u32 (0 : Nat)) := by rw [cell_of_row _ _ _ _ _ _ hI.rt, ws_get _ _ _ (by omega), if_neg (by omega)]; rfl
          have hfr := frozen_of_row _ _ t _ _ hI.rt
          have hnx : wt (words ys) t = wt (words ys) r + sml0 (wt (words ys) p15) + wt (words ys) p7 + sml1 (wt (words ys) p2) := by
            have := wt_next (words ys) (words_length ys) r
            rw [show r + 16 = t by omega, show r + 1 = p15 by omega, show r + 9 = p7 by omega, show r + 14 = p2 by omega] at this
            exact this
          clear cell hr hp15 hp2 hp7
          unfold u at c15 c2 c7 c16
          generalize wt (words ys) p15 = x15 at *
          generalize wt (words ys) p2 = x2 at *
          generalize wt (words ys) p7 = x7 at *
          generalize wt (words ys) r = x16 at *
          have HN := Lib.hid hnx
          have HI := Lib.hid hI
          clear hnx hI
          go_wp2_with fail
          go_still_tail 29, (by kernel_rfl)
          iterate 4 (still_call (rot_z _ _ _ (by decide)); repeat still_step)
          try refine wpStill_nil ?_
          change wpList _ _ _ _ _ wr.drew
          have hcell' : wr.drew.cell? ⟨w.heap.size + 1 + 1, t, none⟩ = some (.int .u32 (0 : Nat)) := hcell
          have hfr' : wr.drew.frozen? ⟨w.heap.size + 1 + 1, t, none⟩ = false := hfr
          have HI' := Lib.hid HI.out.drew
          clear hcell hfr HI
          generalize wr.drew = w4 at *
          go_wp2_with fail
          go_roundw
          case rel =>
            rw [r_eq, ← HN.out]
            refine ⟨t + 1, by omega, by omega, by go_num, HI'.out.set t (wt (words ys) t) _ (by simp) (fun j hj hjt => ?_)⟩
            by_cases h1 : j < t
            · simp [h1, show j < t + 1 by omega]
            · simp [h1, show ¬ j < t + 1 by omega]
          case measure => simp [intOf]; omega
        · have htz : ¬ (t : Int) < 64 := by omega
          obtain rfl : t = 64 := by omega
          have hI2 : RI w wr s (wt (words ys)) := ⟨hI.rs, hI.ro, by rw [hI.rt, ws_congr _ (wt (words ys)) 64 (fun j hj => by rw [if_pos hj])], hI.sz, hI.bl⟩
          have rs (j : Nat) (x : Value) (h : (A8 s)[j]? = some x) : wr.cell? ⟨w.heap.size, j, none⟩ = some x := (cell_of_row _ _ _ _ _ _ hI.rs).trans h
          have s0 := rs 0 (.int .u32 s.a.toNat) rfl
          have s1 := rs 1 (.int .u32 s.b.toNat) rfl
          have s2 := rs 2 (.int .u32 s.c.toNat) rfl
          have s3 := rs 3 (.int .u32 s.d.toNat) rfl
          have s4 := rs 4 (.int .u32 s.e.toNat) rfl
          have s5 := rs 5 (.int .u32 s.f.toNat) rfl
          have s6 := rs 6 (.int .u32 s.g.toNat) rfl
          have s7 := rs 7 (.int .u32 s.h.toNat) rfl
          have HI := Lib.hid hI2
          obtain ⟨wb, hwb⟩ : ∃ x : World, x = wr := ⟨_, rfl⟩
          subst hwb
          clear hI hI2 rs
          go_wp2_with fail
          obtain ⟨wc, hwc⟩ : ∃ x : World, x = wb.alloc (.cells (A8 s) 86 (0, 0)) := ⟨_, rfl⟩
          obtain ⟨g, hg⟩ : ∃ g, g = wb.heap.size := ⟨_, rfl⟩
          have hIc : RI w wc s (wt (words ys)) := by rw [hwc]; exact HI.out.alloc _
          have hvc : wc.heap[g]? = some (.cells (A8 s) 86 (0, 0)) := by rw [hwc, hg]; exact heap_alloc_new _ _
          have hgs : w.heap.size + 3 ≤ g := by rw [hg]; exact HI.out.sz
          unfold A8 at hwc
          rw [← hwc, ← hg]
          clear s0 s1 s2 s3 s4 s5 s6 s7 HI hwc hg
          go_loopw [11] (fun s11 wr => ∃ (t : Nat) (v : W8), t ≤ 64 ∧ v = comp (words ys) s t ∧ s11 = .int .i64 t ∧ RI w wr s (wt (words ys)) ∧ wr.heap[g]? = some (.cells (A8 v) 86 (0, 0))) (fun i _ => 64 - (intOf i).toNat)
          case atStart => exact ⟨0, s, by omega, rfl, rfl, hIc, hvc⟩
          case round =>
            clear hIc hvc
            obtain ⟨t, v, ht, hv, rfl, hI, hr⟩ := hrel
            have cv (j : Nat) (x : Value) (h : (A8 v)[j]? = some x) : wr.cell? ⟨g, j, none⟩ = some x := (cell_of_row _ _ _ _ _ _ hr).trans h
            have v0 := cv 0 (.int .u32 v.a.toNat) rfl
            have v1 := cv 1 (.int .u32 v.b.toNat) rfl
            have v2 := cv 2 (.int .u32 v.c.toNat) rfl
            have v3 := cv 3 (.int .u32 v.d.toNat) rfl
            have v4 := cv 4 (.int .u32 v.e.toNat) rfl
            have v5 := cv 5 (.int .u32 v.f.toNat) rfl
            have v6 := cv 6 (.int .u32 v.g.toNat) rfl
            have v7 := cv 7 (.int .u32 v.h.toNat) rfl
            have f0 := frozen_of_row _ _ 0 _ _ hr
            have f1 := frozen_of_row _ _ 1 _ _ hr
            have f2 := frozen_of_row _ _ 2 _ _ hr
            have f3 := frozen_of_row _ _ 3 _ _ hr
            have f4 := frozen_of_row _ _ 4 _ _ hr
            have f5 := frozen_of_row _ _ 5 _ _ hr
            have f6 := frozen_of_row _ _ 6 _ _ hr
            have f7 := frozen_of_row _ _ 7 _ _ hr
            clear cv
            by_cases hlt : t < 64
            · have htz : (t : Int) < 64 := by omega
              have ht0 : (0 : Int) ≤ (t : Int) := by omega
              have hcw : wr.cell? ⟨w.heap.size + 1 + 1, t, none⟩ = some (.int .u32 (wt (words ys) t).toNat) := (cell_of_row _ _ _ _ _ _ hI.rt).trans (ws_get _ _ _ hlt)
              have hck : wr.cell? ⟨1, t, none⟩ = some (.int .u32 (kk t).toNat) := (hG.keepB hI.bl).cons t hlt
              have HS := Lib.hid (show comp (words ys) s (t + 1) = rnd v (kk t) (wt (words ys) t) by rw [hv]; rfl)
              generalize wt (words ys) t = x at *
              generalize kk t = k at *
              have HI := Lib.hid hI
              have HR := Lib.hid hr
              clear hv hI hr
              go_wp2_with fail
              go_quiet ((go_at_call 84; exact Calls.quiet_of_same (rot_z _ _ _ (by decide))))
              have HI' := Lib.hid (HI.out.drewN nq)
              have HR' : RowKit.Hid ((wr.drewN nq).heap[g]? = some (.cells (A8 v) 86 (0, 0))) := Lib.hid HR.out
              rw [← World.cell?_drewN (n := nq)] at v0 v1 v2 v3 v4 v5 v6 v7 hcw hck
              rw [← World.frozen?_drewN (n := nq)] at f0 f1 f2 f3 f4 f5 f6 f7
              clear HI HR
              generalize wr.drewN nq = w7 at *
              clear hcw hck
              go_wp2_with fail
              go_quiet ((go_at_call 84; exact Calls.quiet_of_same (rot_z _ _ _ (by decide))))
              have HI := Lib.hid (HI'.out.drewN nq)
              have HR : RowKit.Hid ((w7.drewN nq).heap[g]? = some (.cells (A8 v) 86 (0, 0))) := Lib.hid HR'.out
              rw [← World.cell?_drewN (n := nq)] at v0 v1 v2 v3 v4 v5 v6 v7
              rw [← World.frozen?_drewN (n := nq)] at f0 f1 f2 f3 f4 f5 f6 f7
              clear HI' HR'
              generalize w7.drewN nq = w8 at *
              go_wp2_with fail
              rw [one_r, two_r]
              obtain ⟨one, hone⟩ : ∃ o, o = v.h + big1 v.e + ch v.e v.f v.g + k + x := ⟨_, rfl⟩
              obtain ⟨two, htwo⟩ : ∃ o, o = big0 v.a + maj v.a v.b v.c := ⟨_, rfl⟩
              rw [← hone, ← htwo]
              have HO := Lib.hid (And.intro hone htwo)
              clear hone htwo
              refine wp_loop_rounds 9 ?_
              iterate 8 (rw [rounds_succ]; go_wp2_with fail)
              simp only [i_add]
              refine ⟨⟨t + 1, rnd v k x, by omega, HS.out.symm, by go_num, ?_, ?_⟩, by simp [intOf]; omega⟩
              · exact ((((((((HI.out.setv hgs _ _).setv hgs _ _).setv hgs _ _).setv hgs _ _).setv hgs _ _).setv hgs _ _).setv hgs _ _).setv hgs _ _).setv hgs _ _
              · rw [shift_row _ _ _ _ _ _ HR.out, HO.out.1, HO.out.2]; rfl
            · have htz : ¬ (t : Int) < 64 := by omega
              obtain rfl : t = 64 := by omega
              have HB := Lib.hid (show blk s ys = s.add v by rw [hv]; rfl)
              have rs (j : Nat) (x : Value) (h : (A8 s)[j]? = some x) : wr.cell? ⟨w.heap.size, j, none⟩ = some x := (cell_of_row _ _ _ _ _ _ hI.rs).trans h
              have rst := hI.rs
              have rot := hI.ro
              have hbl := hI.bl
              rw [A8_ws] at rst hr
              clear hI hv v0 v1 v2 v3 v4 v5 v6 v7 f0 f1 f2 f3 f4 f5 f6 f7 rs hG
              obtain ⟨wd, hwd⟩ : ∃ x : World, x = wr := ⟨_, rfl⟩
              subst hwd
              have HX := Lib.hid (And.intro rst (And.intro rot (And.intro hbl hr)))
              clear rst rot hbl hr
              go_wp2_with fail
              go_loopw [17] (fun s17 wr => ∃ i : Nat, i ≤ 8 ∧ s17 = .int .i64 i ∧ wr.heap[w.heap.size]? = some (.cells (ws (fun j => if j < i then (s.add v).l.getD j 0 else s.l.getD j 0) 8) 86 (0, 0)) ∧
                  wr.heap[w.heap.size + 1]? = some (.cells (ws (fun _ => 0) 8) 86 (0, 0)) ∧ wr.heap[g]? = some (.cells (ws (fun j => v.l.getD j 0) 8) 86 (0, 0)) ∧ Below w.heap.size w wr) (fun i _ => 8 - (intOf i).toNat)
              case atStart => exact ⟨0, by omega, rfl, HX.out.1, HX.out.2.1, HX.out.2.2.2, HX.out.2.2.1⟩
              case round =>
                clear HX
                obtain ⟨i, hi, rfl, hs, ho, hv, hb⟩ := hrel
                by_cases hil : i < 8
                · have hiz : (i : Int) < 8 := by omega
                  have hi0 : (0 : Int) ≤ (i : Int) := by omega
                  have hci : wr.cell? ⟨w.heap.size, i, none⟩ = some (.int .u32 (s.l.getD i 0).toNat) := by
                    rw [cell_of_row _ _ _ _ _ _ hs, ws_get _ _ _ hil, if_neg (by omega)]; rfl
                  have hcv : wr.cell? ⟨g, i, none⟩ = some (.int .u32 (v.l.getD i 0).toNat) := by
                    rw [cell_of_row _ _ _ _ _ _ hv, ws_get _ _ _ hil]; rfl
                  have hfi := frozen_of_row _ _ i _ _ hs
                  have HX := Lib.hid (And.intro hs (And.intro ho (And.intro hb.drew hv)))
                  clear hs ho hb hv
                  go_wp2_with fail
                  go_still_tail 8, (by kernel_rfl)
                  change wpList _ _ _ _ _ wr.drew
                  have hci' : wr.drew.cell? ⟨w.heap.size, i, none⟩ = some (.int .u32 (s.l.getD i 0).toNat) := hci
                  have hfi' : wr.drew.frozen? ⟨w.heap.size, i, none⟩ = false := hfi
                  have HY : RowKit.Hid (wr.drew.heap[w.heap.size]? = some (.cells (ws (fun j => if j < i then (s.add v).l.getD j 0 else s.l.getD j 0) 8) 86 (0, 0)) ∧
                      wr.drew.heap[w.heap.size + 1]? = some (.cells (ws (fun _ => 0) 8) 86 (0, 0)) ∧ Below w.heap.size w wr.drew ∧ wr.drew.heap[g]? = some (.cells (ws (fun j => v.l.getD j 0) 8) 86 (0, 0))) := HX.out
                  clear hci hfi hcv HX
                  generalize wr.drew = w4 at *
                  go_wp2_with fail
                  go_roundw
                  case rel =>
                    rw [show (v.l[i]?.getD 0) = v.l.getD i 0 by simp, show (s.l[i]?.getD 0) = s.l.getD i 0 by simp, i_add]
                    obtain ⟨hs, ho, hb, hv⟩ := HY.out
                    refine ⟨i + 1, by omega, by go_num, ?_, (heap_setCell_other _ _ _ _ (by simp)).trans ho, (heap_setCell_other _ _ _ _ (show g ≠ w.heap.size by omega)).trans hv, hb.setCell (p := ⟨_, _, none⟩) (Nat.le_refl _) _⟩
                    rw [heap_setCell_same _ _ _ _ _ _ hs]
                    refine congrArg (fun x => some (Obj.cells x 86 (0, 0))) (ws_set _ _ 8 i _ ?_ (fun j hj hji => ?_))
                    · rw [if_pos (by omega)]
                      match i, hil with
                      | 0, _ => rfl
                      | 1, _ => rfl
                      | 2, _ => rfl
                      | 3, _ => rfl
                      | 4, _ => rfl
                      | 5, _ => rfl
                      | 6, _ => rfl
                      | 7, _ => rfl
                    · by_cases h1 : j < i
                      · simp [h1, show j < i + 1 by omega]
                      · simp [h1, show ¬ j < i + 1 by omega]
                  case measure => simp [intOf]; omega
                · have hiz : ¬ (i : Int) < 8 := by omega
                  obtain rfl : i = 8 := by omega
                  rw [ws_congr _ (fun j => (s.add v).l.getD j 0) 8 (fun j hj => by rw [if_pos hj]), ← A8_ws] at hs
                  generalize s.add v = z at *
                  have rs (j : Nat) (x : Value) (h : (A8 z)[j]? = some x) : wr.cell? ⟨w.heap.size, j, none⟩ = some x := (cell_of_row _ _ _ _ _ _ hs).trans h
                  have s0 := rs 0 (.int .u32 z.a.toNat) rfl
                  have s1 := rs 1 (.int .u32 z.b.toNat) rfl
                  have s2 := rs 2 (.int .u32 z.c.toNat) rfl
                  have s3 := rs 3 (.int .u32 z.d.toNat) rfl
                  have s4 := rs 4 (.int .u32 z.e.toNat) rfl
                  have s5 := rs 5 (.int .u32 z.f.toNat) rfl
                  have s6 := rs 6 (.int .u32 z.g.toNat) rfl
                  have s7 := rs 7 (.int .u32 z.h.toNat) rfl
                  have ro (j : Nat) (x : Value) (h : (ws (fun _ => 0) 8)[j]? = some x) : wr.cell? ⟨w.heap.size + 1, j, none⟩ = some x := (cell_of_row _ _ _ _ _ _ ho).trans h
                  have t0 := ro 0 (.int .u32 (0 : Nat)) rfl
                  have f0 := frozen_of_row _ _ 0 _ _ ho
                  have t1 := ro 1 (.int .u32 (0 : Nat)) rfl
                  have f1 := frozen_of_row _ _ 1 _ _ ho
                  have t2 := ro 2 (.int .u32 (0 : Nat)) rfl
                  have f2 := frozen_of_row _ _ 2 _ _ ho
                  have t3 := ro 3 (.int .u32 (0 : Nat)) rfl
                  have f3 := frozen_of_row _ _ 3 _ _ ho
                  have t4 := ro 4 (.int .u32 (0 : Nat)) rfl
                  have f4 := frozen_of_row _ _ 4 _ _ ho
                  have t5 := ro 5 (.int .u32 (0 : Nat)) rfl
                  have f5 := frozen_of_row _ _ 5 _ _ ho
                  have t6 := ro 6 (.int .u32 (0 : Nat)) rfl
                  have f6 := frozen_of_row _ _ 6 _ _ ho
                  have t7 := ro 7 (.int .u32 (0 : Nat)) rfl
                  have f7 := frozen_of_row _ _ 7 _ _ ho
                  have HY := Lib.hid (And.intro ho hb)
                  clear rs ro hs ho hb hv
                  go_wp2_with fail
                  exact bodyPost_ret (results_cell_row Tryd.results74 _ _ (w.heap.size + 1) 86 (A8 z) (0, 0) _ rfl (fill_row _ _ _ _ HY.out.1) Tryd.underlying86 rfl (by kernel_rfl)) rfl ⟨by rw [HB.out]; rfl,
                    ((((((((HY.out.2.setCell (p := ⟨_, _, none⟩) (by simp) _).setCell (p := ⟨_, _, none⟩) (by simp) _).setCell (p := ⟨_, _, none⟩) (by simp) _).setCell (p := ⟨_, _, none⟩) (by simp) _).setCell (p := ⟨_, _, none⟩) (by simp) _).setCell (p := ⟨_, _, none⟩) (by simp) _).setCell (p := ⟨_, _, none⟩) (by simp) _).setCell (p := ⟨_, _, none⟩) (by simp) _)⟩
end Go.Proofs.YtfibhmgjkooemaaDoor
