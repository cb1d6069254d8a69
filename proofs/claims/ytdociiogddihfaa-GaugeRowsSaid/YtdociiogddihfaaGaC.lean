/- gauge.Add; the reference's Same. -/
import Derived.Test.YtdociiogddihfaaGaB
import Derived.Test.YtdociiogddihfaaReg
import Derived.Laws.Rows
namespace Go.Proofs.Ytdociiogddihfaa
open Go.RowKit

theorem andThen_fop {P : Program} {α : Type} (op : BinOp) (hop : op = .add ∨ op = .sub ∨ op = .mul ∨ op = .quo) (t : TypeId) (x y : Nat) (W : World) {f : Value → World → Result α} {C : Result α → Prop}
    (h : ∀ r n, FR op x y r → r < 18446744073709551616 → C (f (.float .f64 r) (W.drewN n))) : C (((binOp op t (.float .f64 x) (.float .f64 y)).run P W).andThen f) := by
  obtain ⟨r, n, hr, h1, h2⟩ := run_fop (P := P) op hop t x y W
  rw [hr]
  exact h r n h1 h2
set_option maxHeartbeats 1000000 in
theorem RGSame_any (N m s l h m' s' l' h' : Nat) (w : World) (h1 : m < 18446744073709551616 ∧ m' < 18446744073709551616 ∧ canB m = canB m') (h2 : s < 18446744073709551616 ∧ s' < 18446744073709551616 ∧ canB s = canB s')
    (h3 : l < 18446744073709551616 ∧ l' < 18446744073709551616 ∧ canB l = canB l') (h4 : h < 18446744073709551616 ∧ h' < 18446744073709551616 ∧ canB h = canB h') :
    Calls Try.prog 13 #[Gv N m s l h, Gv N m' s' l' h'] w fun e w' => e = .returned (.bool true) ∧ Below w.heap.size w w' := by
  have k1 := fun w => Same_any m m' w h1.1 h1.2.1
  have k2 := fun w => Same_any s s' w h2.1 h2.2.1
  have k3 := fun w => Same_any l l' w h3.1 h3.2.1
  have k4 := fun w => Same_any h h' w h4.1 h4.2.1
  rw [h1.2.2] at k1
  rw [h2.2.2] at k2
  rw [h3.2.2] at k3
  rw [h4.2.2] at k4
  simp only [beq_self_eq_true] at k1 k2 k3 k4
  have hb : Below w.heap.size w ((w.alloc (.cells #[.int .u64 N, .float .f64 m, .float .f64 s, .float .f64 l, .float .f64 h] 27)).alloc (.cells #[.int .u64 N, .float .f64 m', .float .f64 s', .float .f64 l', .float .f64 h'] 27)) := ((Below.refl _ _).alloc (Nat.le_refl _) _).alloc (by simp) _
  have HB := Lib.hid hb
  clear hb h1 h2 h3 h4
  go_enter Try.func13, Try.ntmps13
  go_wp2_with fail
  refine (k1 _).mono ?_
  rintro e w1 ⟨rfl, rfl⟩
  go_wp2_with fail
  refine (k2 _).mono ?_
  rintro e w1 ⟨rfl, rfl⟩
  go_wp2_with fail
  refine (k3 _).mono ?_
  rintro e w1 ⟨rfl, rfl⟩
  go_wp2_with fail
  refine (k4 _).mono ?_
  rintro e w1 ⟨rfl, rfl⟩
  go_wp2_with fail
  go_ret
  exact ⟨rfl, HB.out⟩
/-- What the operations of Add's region 9 may change. -/
def kG (B : Nat) (z : Value) (j : Nat) (w w' : World) : Prop := w.grownBy w' (some B) ∧ (j ≠ 11 → j ≠ 13 → Below w.heap.size w w') ∧ (j = 13 → w' = w ∨ ∀ cs t, w.heap[B]? = some (.cells cs t (0, 0)) → w'.heap[B]? = some (.cells (cs.setIfInBounds 4 z) t (0, 0)))
theorem kG_refl (B : Nat) (z : Value) (j : Nat) (w : World) : kG B z j w w := ⟨World.grownBy.refl _ _, fun _ _ => Below.refl _ _, fun _ => .inl rfl⟩
theorem kG_of {B : Nat} {z : Value} {j : Nat} {w w' : World} (hj : j ≠ 13) (h : Below w.heap.size w w') : kG B z j w w' := ⟨⟨h.os, h.tape, h.output, h.size, fun k hk _ => h.block k hk⟩, fun _ _ => h, fun e => absurd e hj⟩
theorem kG_drew (B : Nat) (w : World) : w.grownBy w.drew (some B) := ⟨rfl, rfl, rfl, Nat.le_refl _, fun _ _ _ => rfl⟩
theorem kG_gr (B : Nat) (w : World) (i : Nat) (v : Value) : w.grownBy (w.setCell ⟨B, i, none⟩ v) (some B) :=
  ⟨rfl, rfl, rfl, by simp [World.setCell], fun k _ hne => heap_setCell_other w ⟨B, i, none⟩ k v (fun e => hne (by rw [e]))⟩
theorem kG_st11 {B : Nat} {z : Value} {w : World} (v : Value) : kG B z 11 w (w.setCell ⟨B, 3, none⟩ v) := ⟨kG_gr B w 3 v, fun h => absurd rfl h, fun h => by cases h⟩
theorem kG_st13 {B : Nat} {z : Value} {w : World} : kG B z 13 w (w.setCell ⟨B, 4, none⟩ z) := ⟨kG_gr B w 4 z, fun _ h => absurd rfl h, fun _ => .inr (fun cs t h => heap_setCell_same w B 4 cs t z h)⟩
/-- The row while the last store may have come. -/
def Row11 (w : World) (B N mm ss lo' _hi _hi' : Nat) : Prop := ∃ y, w.heap[B]? = some (.cells #[.int .u64 ((N : Int) + 1), .float .f64 mm, .float .f64 ss, .float .f64 lo', .float .f64 y] 27 (0, 0))
theorem Row11.keep {w w' : World} {B N mm ss lo' hi hi' j : Nat} (h : Row11 w B N mm ss lo' hi hi') (hj : j ≠ 11) (k : kG B (.float .f64 hi') j w w') : Row11 w' B N mm ss lo' hi hi' := by
  obtain ⟨y, h⟩ := h
  by_cases h13 : j = 13
  · rcases k.2.2 h13 with rfl | k
    · exact ⟨y, h⟩
    · exact ⟨hi', (k _ _ h).trans rfl⟩
  · exact ⟨y, ((k.2.1 hj h13).block _ (Array.getElem?_eq_some_iff.1 h).1).trans h⟩
theorem setCell_szG (w : World) (a : Addr) (v : Value) : (w.setCell a v).heap.size = w.heap.size := by simp [World.setCell]
theorem cell_rowG {w : World} {g : Nat} {xs : Array Value} {t : TypeId} {v : Value} {i : Nat} (h : w.heap[g]? = some (.cells xs t (0, 0))) (hv : xs[i]? = some v) : w.cell? ⟨g, i, none⟩ = some v := by
  simp [World.cell?, h, hv]
/-- What each operation hands on. -/
def addGF (B N mm ss lo hi x : Nat) : Nat → Value → World → Prop
  | 0, v, _ => v = .pointer (some ⟨B, 3, none⟩)
  | 1, v, _ => v = .float .f64 lo
  | 2, v, _ => v = .float .f64 x
  | 3, v, w => Rd w 1 v 2 (fv [lo, x])
  | 4, v, _ => v = .float .f64 (atP (mnR [lo, x]))
  | 5, v, _ => v = .pointer (some ⟨B, 4, none⟩)
  | 6, v, _ => v = .float .f64 hi
  | 7, v, _ => v = .float .f64 x
  | 8, v, w => Rd w 1 v 2 (fv [hi, x])
  | 9, v, _ => v = .float .f64 (atP (mxR [hi, x]))
  | 10, v, _ => v = .pointer (some ⟨B, 3, none⟩)
  | 11, _, w => Row11 w B N mm ss (atP (mnR [lo, x])) hi (atP (mxR [hi, x]))
  | 12, v, _ => v = .pointer (some ⟨B, 4, none⟩)
  | 13, _, w => w.heap[B]? = some (.cells #[.int .u64 ((N : Int) + 1), .float .f64 mm, .float .f64 ss, .float .f64 (atP (mnR [lo, x])), .float .f64 (atP (mxR [hi, x]))] 27 (0, 0))
  | _, _, _ => True
/-- What a number more comes to: the mean, the sum. -/
def AddM (N m s x m' s' : Nat) : Prop :=
  if N = 0 then m' = x ∧ s' = 0 else ∃ d q f p, FR .sub x m d ∧ FR .quo d (floatOfInt .f64 ((N : Int) + 1)) q ∧ FR .add m q m' ∧ FR .sub x m' f ∧ FR .mul d f p ∧ FR .add s p s'
set_option maxHeartbeats 4000000 in
set_option maxRecDepth 100000 in
theorem GAdd_any (N m s lo hi x : Nat) (w : World) (hx : x < 18446744073709551616) (hlo : lo < 18446744073709551616) (hhi : hi < 18446744073709551616) (hN : N ≤ 1000000) (hxn : fnan x = false) :
    Calls Try.prog 11 #[Gv N m s lo hi, .float .f64 x] w fun e w' => ∃ m' s', e = .returned (Gv (N + 1) m' s' (atP (mnR [lo, x])) (atP (mxR [hi, x]))) ∧ AddM N m s x m' s' ∧ m' < 18446744073709551616 ∧ s' < 18446744073709551616 ∧ Below w.heap.size w w' := by
  have hnan := fun w => IsNaN_any x w hx
  rw [hxn] at hnan
  have hd1 : decide ((9007199254740992 : Int) ≤ (N : Int)) = false := decide_eq_false (by omega)
  have z2 : IntKind.u64.wrap ((N : Int) + 1) = ((N + 1 : Nat) : Int) := (IntWalk.u64_in _ (by omega)).trans (by omega)
  by_cases hN0 : N = 0
  · have z3 : ((N : Int) + 1 == 1) = true := by simp; omega
    have HAM : Hid (AddM N m s x x 0) := Lib.hid (by rw [AddM, if_pos hN0]; exact ⟨rfl, rfl⟩)
    clear hN0
    go_enter Try.func11, Try.ntmps11
    go_wp2_with fail
    refine (hnan _).mono ?_
    rintro e w1 ⟨rfl, rfl⟩
    go_wp2_with fail
    have hFL : Fl [lo, x] ∧ Fl [hi, x] := ⟨fun y hy => by simp at hy; rcases hy with rfl | rfl <;> assumption, fun y hy => by simp at hy; rcases hy with rfl | rfl <;> assumption⟩
    have HFL := Lib.hid hFL
    clear hFL
    obtain ⟨B, hB⟩ : ∃ B, B = w.heap.size := ⟨_, rfl⟩
    generalize hw3 : (w.alloc (.cells #[.int .u64 ((N : Int) + 1), .float .f64 x, .float .f64 0, .float .f64 lo, .float .f64 hi] 27)).alloc (.cells #[.int .u64 0, .float .f64 0, .float .f64 0, .float .f64 0, .float .f64 0] 27) = w3
    have hrow : w3.heap[B]? = some (.cells #[.int .u64 ((N : Int) + 1), .float .f64 x, .float .f64 0, .float .f64 lo, .float .f64 hi] 27 (0, 0)) := by
      rw [← hw3, hB]; exact (heap_alloc_old _ _ (by simp)).trans (heap_alloc_new _ _)
    have HB3 : Hid (Below w.heap.size w w3) := Lib.hid (by rw [← hw3]; exact ((Below.refl _ _).alloc (Nat.le_refl _) _).alloc (by simp) _)
    have hs3 : w3.heap.size = B + 2 := by rw [← hw3, hB]; simp
    have hrow2 : w3.heap[B + 1]? = some (.cells #[.int .u64 0, .float .f64 0, .float .f64 0, .float .f64 0, .float .f64 0] 27 (0, 0)) := by
      rw [← hw3, hB]
      have r0 := heap_alloc_new (w.alloc (.cells #[.int .u64 ((N : Int) + 1), .float .f64 x, .float .f64 0, .float .f64 lo, .float .f64 hi] 27)) (.cells #[.int .u64 0, .float .f64 0, .float .f64 0, .float .f64 0, .float .f64 0] 27)
      rw [show (w.alloc (.cells #[.int .u64 ((N : Int) + 1), .float .f64 x, .float .f64 0, .float .f64 lo, .float .f64 hi] 27)).heap.size = w.heap.size + 1 by simp] at r0
      exact r0
    have HR2 := Lib.hid hrow2
    clear hrow2
    rw [← hB]
    have HB := Lib.hid hB
    have hBs : B < w3.heap.size := by omega
    clear hB
    have HC := Lib.hid (And.intro hBs (And.intro (cell_rowG (v := .float .f64 lo) (i := 3) hrow rfl) (And.intro (cell_rowG (v := .float .f64 hi) (i := 4) hrow rfl) hrow)))
    refine wp_region_untilW [some 47, some 48, some 49, some 50, some 51, some 52, some 53, some 54, some 55, some 56, some 57, none, some 58, none] [] 11 (fun wx => Below w3.heap.size w3 wx) [0, 1, 2, 3, 4, 5, 6, 7, 8, 9, 10, 11] (addGF B N x 0 lo hi x) (kG B (.float .f64 (atP (mxR [hi, x])))) (fun wx => w3.grownBy wx (some B)) (by kernel_rfl) (by kernel_rfl) rfl (by kernel_rfl) (by kernel_rfl) (kG_drew _ _) (Below.refl _ _).drew (fun j hj hj2 _ _ k h => h.trans ((k.2.1 hj (fun e => by subst e; exact absurd hj2 (by rw [show waits _ _ 13 11 = true by kernel_rfl]; simp))).mono h.size)) (kG_refl B _) (fun _ _ _ h k => grown_trans h k.1 (fun j hj => .inl hj)) ?hF ?hstep ?hend
    case hF =>
      exact ⟨fun _ _ _ _ _ _ h => h, ⟨fun _ _ _ _ _ _ h => h, ⟨fun _ _ _ _ _ _ h => h, ⟨fun j hg v _ _ k h => h.keep (k.2.1 (fun e => by subst e; exact absurd hg (by rw [show goneB _ 3 11 = true by kernel_rfl]; simp)) (fun e => by subst e; exact absurd hg (by rw [show goneB _ 3 13 = true by kernel_rfl]; simp))), ⟨fun _ _ _ _ _ _ h => h, ⟨fun _ _ _ _ _ _ h => h, ⟨fun _ _ _ _ _ _ h => h, ⟨fun _ _ _ _ _ _ h => h, ⟨fun j hg v _ _ k h => h.keep (k.2.1 (fun e => by subst e; exact absurd hg (by rw [show goneB _ 8 11 = true by kernel_rfl]; simp)) (fun e => by subst e; exact absurd hg (by rw [show goneB _ 8 13 = true by kernel_rfl]; simp))), ⟨fun _ _ _ _ _ _ h => h, ⟨fun _ _ _ _ _ _ h => h, ⟨fun j hg _ _ _ k h => Row11.keep (hi := hi) h (fun e => by subst e; exact absurd hg (by rw [show goneB _ 11 11 = true by kernel_rfl]; simp)) k, ⟨fun _ _ _ _ _ _ h => h, ⟨fun j hg _ _ _ k h => ((k.2.1 (fun e => by subst e; exact absurd hg (by rw [show goneB _ 13 11 = true by kernel_rfl]; simp)) (fun e => by subst e; exact absurd hg (by rw [show goneB _ 13 13 = true by kernel_rfl]; simp))).block _ (Array.getElem?_eq_some_iff.1 h).1).trans h, trivial⟩⟩⟩⟩⟩⟩⟩⟩⟩⟩⟩⟩⟩⟩
    case hstep =>
      refine ⟨fun r wx hG hs hq hf => ?_, ?_⟩
      · have hQ := hq rfl
        have e2 : r 2 = .pointer (some ⟨B, 0, none⟩) := hs 2 rfl
        refine (if_pos rfl).symm ▸ ?_
        clear hs hq hf
        unfold gives
        go_simp
        exact ⟨kG_refl _ _ _ _, rfl⟩
      refine ⟨fun r wx hG hs hq hf => ?_, ?_⟩
      · have hQ := hq rfl
        have h0 : r 47 = .pointer (some ⟨B, 3, none⟩) := hf.1
        refine (if_pos rfl).symm ▸ ?_
        clear hs hq hf
        unfold gives
        have hc := (hQ.cell (p := ⟨B, 3, none⟩) HC.out.1).trans HC.out.2.1
        go_simp
        exact ⟨kG_refl _ _ _ _, rfl⟩
      refine ⟨fun r wx hG hs hq hf => ?_, ?_⟩
      · have hQ := hq rfl
        have e1 : r 1 = .float .f64 x := hs 1 rfl
        refine (if_pos rfl).symm ▸ ?_
        clear hs hq hf
        unfold gives
        go_simp
        exact ⟨kG_refl _ _ _ _, rfl⟩
      refine ⟨fun r wx hG hs hq hf => ?_, ?_⟩
      · have hQ := hq rfl
        have h1 : r 48 = .float .f64 lo := hf.1
        have h2 : r 49 = .float .f64 x := hf.2.1
        refine (if_pos rfl).symm ▸ ?_
        clear hs hq hf
        unfold gives
        have hrd := own_rd (own_new wx 25 1 2 0 (fv [lo, x]) rfl (by omega) (Nat.zero_le _)) (fv_one _)
        go_simp
        exact ⟨kG_of (by omega) ((Below.refl _ _).alloc (Nat.le_refl _) _), hrd⟩
      refine ⟨fun r wx hG hs hq hf => ?_, ?_⟩
      · have hQ := hq rfl
        have h3 : Rd wx 1 (r 50) 2 (fv [lo, x]) := hf.1
        refine (if_pos rfl).symm ▸ ?_
        clear hs hq hf
        unfold gives
        have hk := Least_any (r 50) [lo, x] wx HFL.out.1 (by simp) h3
        go_simp
        refine hk.mono ?_
        rintro e wy ⟨rfl, rfl⟩
        exact ⟨_, rfl, kG_refl _ _ _ _, rfl⟩
      refine ⟨fun r wx hG hs hq hf => ?_, ?_⟩
      · have hQ := hq rfl
        have e2 : r 2 = .pointer (some ⟨B, 0, none⟩) := hs 2 rfl
        refine (if_pos rfl).symm ▸ ?_
        clear hs hq hf
        unfold gives
        go_simp
        exact ⟨kG_refl _ _ _ _, rfl⟩
      refine ⟨fun r wx hG hs hq hf => ?_, ?_⟩
      · have hQ := hq rfl
        have h5 : r 52 = .pointer (some ⟨B, 4, none⟩) := hf.1
        refine (if_pos rfl).symm ▸ ?_
        clear hs hq hf
        unfold gives
        have hc := (hQ.cell (p := ⟨B, 4, none⟩) HC.out.1).trans HC.out.2.2.1
        go_simp
        exact ⟨kG_refl _ _ _ _, rfl⟩
      refine ⟨fun r wx hG hs hq hf => ?_, ?_⟩
      · have hQ := hq rfl
        have e1 : r 1 = .float .f64 x := hs 1 rfl
        refine (if_pos rfl).symm ▸ ?_
        clear hs hq hf
        unfold gives
        go_simp
        exact ⟨kG_refl _ _ _ _, rfl⟩
      refine ⟨fun r wx hG hs hq hf => ?_, ?_⟩
      · have hQ := hq rfl
        have h6 : r 53 = .float .f64 hi := hf.1
        have h7 : r 54 = .float .f64 x := hf.2.1
        refine (if_pos rfl).symm ▸ ?_
        clear hs hq hf
        unfold gives
        have hrd := own_rd (own_new wx 25 1 2 0 (fv [hi, x]) rfl (by omega) (Nat.zero_le _)) (fv_one _)
        go_simp
        exact ⟨kG_of (by omega) ((Below.refl _ _).alloc (Nat.le_refl _) _), hrd⟩
      refine ⟨fun r wx hG hs hq hf => ?_, ?_⟩
      · have hQ := hq rfl
        have h8 : Rd wx 1 (r 55) 2 (fv [hi, x]) := hf.1
        refine (if_pos rfl).symm ▸ ?_
        clear hs hq hf
        unfold gives
        have hk := Most_any (r 55) [hi, x] wx HFL.out.2 (by simp) h8
        go_simp
        refine hk.mono ?_
        rintro e wy ⟨rfl, rfl⟩
        exact ⟨_, rfl, kG_refl _ _ _ _, rfl⟩
      refine ⟨fun r wx hG hs hq hf => ?_, ?_⟩
      · have hQ := hq rfl
        have e2 : r 2 = .pointer (some ⟨B, 0, none⟩) := hs 2 rfl
        refine (if_pos rfl).symm ▸ ?_
        clear hs hq hf
        unfold gives
        go_simp
        exact ⟨kG_refl _ _ _ _, rfl⟩
      refine ⟨fun r wx hG hs hq hf => ?_, ?_⟩
      · have hQ := hq rfl
        have h10 : r 57 = .pointer (some ⟨B, 3, none⟩) := hf.1
        have h4 : r 51 = .float .f64 (atP (mnR [lo, x])) := hf.2.1
        refine (if_pos rfl).symm ▸ ?_
        clear hs hq hf
        unfold gives
        have hc := cell_rowG (v := .float .f64 lo) (i := 3) ((hQ.block B HC.out.1).trans HC.out.2.2.2) rfl
        have hz : wx.frozen? ⟨B, 3, none⟩ = false := by simp [World.frozen?, (hQ.block B HC.out.1).trans HC.out.2.2.2]
        go_simp
        refine ⟨kG_st11 _, hi, ?_⟩
        show (wx.setCell ⟨B, 3, none⟩ (.float .f64 (atP (mnR [lo, x])))).heap[B]? = _
        rw [heap_setCell_same wx B 3 _ _ _ ((hQ.block B HC.out.1).trans HC.out.2.2.2)]; rfl
      refine ⟨fun r wx hG hs hq hf => ?_, ?_⟩
      · have e2 : r 2 = .pointer (some ⟨B, 0, none⟩) := hs 2 rfl
        refine (if_pos rfl).symm ▸ ?_
        clear hs hq hf
        unfold gives
        go_simp
        exact ⟨kG_refl _ _ _ _, rfl⟩
      refine ⟨fun r wx hG hs hq hf => ?_, ?_⟩
      · have h12 : r 58 = .pointer (some ⟨B, 4, none⟩) := hf.1
        have h9 : r 56 = .float .f64 (atP (mxR [hi, x])) := hf.2.1
        have h11 : Row11 wx B N x 0 (atP (mnR [lo, x])) hi (atP (mxR [hi, x])) := hf.2.2.1
        refine (if_pos rfl).symm ▸ ?_
        clear hs hq hf
        unfold gives
        obtain ⟨yy, h11⟩ := h11
        have hc := cell_rowG (v := .float .f64 yy) (i := 4) h11 rfl
        have hz : wx.frozen? ⟨B, 4, none⟩ = false := by simp [World.frozen?, h11]
        go_simp
        refine ⟨kG_st13, ?_⟩
        show (wx.setCell ⟨B, 4, none⟩ (.float .f64 (atP (mxR [hi, x])))).heap[B]? = _
        rw [heap_setCell_same wx B 4 _ _ _ h11]; rfl
      exact trivial
    case hend =>
      intro u wz hG hfin
      have z11 : Row11 wz B N x 0 (atP (mnR [lo, x])) hi (atP (mxR [hi, x])) := hfin 11 (by decide) (by kernel_rfl)
      have z13 : wz.heap[B]? = some (.cells #[.int .u64 ((N : Int) + 1), .float .f64 x, .float .f64 0, .float .f64 (atP (mnR [lo, x])), .float .f64 (atP (mxR [hi, x]))] 27 (0, 0)) := hfin 13 (by decide) (by kernel_rfl)
      clear hfin
      simp only [fill]
      go_simp
      have y0 := cell_rowG (v := .int .u64 ((N : Int) + 1)) (i := 0) z13 rfl
      have y1 := cell_rowG (v := .float .f64 x) (i := 1) z13 rfl
      have y2 := cell_rowG (v := .float .f64 0) (i := 2) z13 rfl
      have y3 := cell_rowG (v := .float .f64 (atP (mnR [lo, x]))) (i := 3) z13 rfl
      have y4 := cell_rowG (v := .float .f64 (atP (mxR [hi, x]))) (i := 4) z13 rfl
      have hres := (hG.block (B + 1) (by omega) (by simp)).trans HR2.out
      have c0 := cell_rowG (v := .int .u64 0) (i := 0) hres rfl
      have c1 := cell_rowG (v := .float .f64 0) (i := 1) hres rfl
      have c2 := cell_rowG (v := .float .f64 0) (i := 2) hres rfl
      have c3 := cell_rowG (v := .float .f64 0) (i := 3) hres rfl
      have c4 := cell_rowG (v := .float .f64 0) (i := 4) hres rfl
      have hz : ∀ k : Nat, wz.frozen? ⟨B + 1, k, none⟩ = false := fun k => by simp [World.frozen?, hres]
      have HFI := Lib.hid (And.intro hG hres)
      clear hG hres z13
      go_wp2_with fail
      have hbz : Below w.heap.size w wz := by
        have h3 := HB3.out
        have h4 := HFI.out.1
        exact h3.trans ⟨h4.os, h4.tape, h4.output, h4.size, fun k hk => h4.block k (by have := h3.size; omega) (fun e => by have := HB.out; simp only [Option.some.injEq] at e; omega)⟩
      have hBw : w.heap.size ≤ B + 1 := by have := HB.out; omega
      exact bodyPost_ret (v := .agg #[.int .u64 ((N : Int) + 1), .float .f64 x, .float .f64 0, .float .f64 (atP (mnR [lo, x])), .float .f64 (atP (mxR [hi, x]))]) (by simp [results, Try.results11, go_sem, c0, c1, c2, c3, c4]) rfl ⟨x, 0, rfl, HAM.out, hx, by omega, ((((hbz.setCell hBw _).setCell hBw _).setCell hBw _).setCell hBw _).setCell hBw _⟩
  · have z3 : ((N : Int) + 1 == 1) = false := by simp; omega
    go_enter Try.func11, Try.ntmps11
    go_wp2_with fail
    refine (hnan _).mono ?_
    rintro e w1 ⟨rfl, rfl⟩
    go_wp2_with fail
    refine andThen_fop (C := fun z => Oper.upon _ _ _ _ _ z) .sub (by simp) _ _ _ _ ?_
    intro d n1 hd hd2
    go_wp2_with fail
    refine andThen_fop (C := fun z => Oper.upon _ _ _ _ _ z) .quo (by simp) _ _ _ _ ?_
    intro q n2 hq hq2
    go_wp2_with fail
    refine andThen_fop (C := fun z => Oper.upon _ _ _ _ _ z) .add (by simp) _ _ _ _ ?_
    intro mm n3 hmm hmm2
    go_wp2_with fail
    refine andThen_fop (C := fun z => Oper.upon _ _ _ _ _ z) .sub (by simp) _ _ _ _ ?_
    intro f n4 hf hf2
    go_wp2_with fail
    refine andThen_fop (C := fun z => Oper.upon _ _ _ _ _ z) .mul (by simp) _ _ _ _ ?_
    intro p n5 hp hp2
    go_wp2_with fail
    refine andThen_fop (C := fun z => Oper.upon _ _ _ _ _ z) .add (by simp) _ _ _ _ ?_
    intro ss n6 hss hss2
    go_wp2_with fail
    have hFL : Fl [lo, x] ∧ Fl [hi, x] := ⟨fun y hy => by simp at hy; rcases hy with rfl | rfl <;> assumption, fun y hy => by simp at hy; rcases hy with rfl | rfl <;> assumption⟩
    have HFL := Lib.hid hFL
    clear hFL
    obtain ⟨B, hB⟩ : ∃ B, B = w.heap.size := ⟨_, rfl⟩
    generalize hw3 : (((((w.alloc _).alloc _).drewN _).setCell _ _).drewN _).setCell _ _ = w3
    have hsz : ∀ (o1 o2 : Obj) (n n' : Nat) (v v' : Value), ((((((w.alloc o1).alloc o2).drewN n).setCell ⟨w.heap.size, 1, none⟩ v).drewN n').setCell ⟨w.heap.size, 2, none⟩ v').heap.size = w.heap.size + 2 := fun o1 o2 n n' v v' => by
      rw [setCell_szG]
      show ((((w.alloc o1).alloc o2).drewN n).setCell ⟨w.heap.size, 1, none⟩ v).heap.size = _
      rw [setCell_szG]
      show ((w.alloc o1).alloc o2).heap.size = _
      simp
    have hrow : w3.heap[B]? = some (.cells #[.int .u64 ((N : Int) + 1), .float .f64 mm, .float .f64 ss, .float .f64 lo, .float .f64 hi] 27 (0, 0)) := by
      rw [← hw3, hB]
      have r0 : ∀ o2, ((w.alloc (.cells #[.int .u64 ((N : Int) + 1), .float .f64 m, .float .f64 s, .float .f64 lo, .float .f64 hi] 27)).alloc o2).heap[w.heap.size]? = some (.cells #[.int .u64 ((N : Int) + 1), .float .f64 m, .float .f64 s, .float .f64 lo, .float .f64 hi] 27 (0, 0)) := fun o2 => (heap_alloc_old _ _ (by simp)).trans (heap_alloc_new _ _)
      have r1 := fun (o2 : Obj) (n : Nat) => heap_setCell_same (((w.alloc (.cells #[.int .u64 ((N : Int) + 1), .float .f64 m, .float .f64 s, .float .f64 lo, .float .f64 hi] 27)).alloc o2).drewN n) w.heap.size 1 _ _ (.float .f64 mm) (r0 o2)
      have r2 := fun (o2 : Obj) (n n' : Nat) => heap_setCell_same (((((w.alloc (.cells #[.int .u64 ((N : Int) + 1), .float .f64 m, .float .f64 s, .float .f64 lo, .float .f64 hi] 27)).alloc o2).drewN n).setCell ⟨w.heap.size, 1, none⟩ (.float .f64 mm)).drewN n') w.heap.size 2 _ _ (.float .f64 ss) (r1 o2 n)
      exact r2 _ _ _
    have HB3 : Hid (Below w.heap.size w w3) := Lib.hid (by
      rw [← hw3]
      exact (below_drewN ((below_drewN (((Below.refl _ _).alloc (Nat.le_refl _) _).alloc (by simp) _) _).setCell (Nat.le_refl _) _) _).setCell (Nat.le_refl _) _)
    have hrow2 : w3.heap[B + 1]? = some (.cells #[.int .u64 0, .float .f64 0, .float .f64 0, .float .f64 0, .float .f64 0] 27 (0, 0)) := by
      rw [← hw3, hB]
      refine (heap_setCell_other _ _ _ _ (by simp)).trans ((heap_setCell_other (World.drewN _ _) ⟨w.heap.size, 1, none⟩ (w.heap.size + 1) _ (by simp)).trans ?_)
      have r0 := heap_alloc_new (w.alloc (.cells #[.int .u64 ((N : Int) + 1), .float .f64 m, .float .f64 s, .float .f64 lo, .float .f64 hi] 27)) (.cells #[.int .u64 0, .float .f64 0, .float .f64 0, .float .f64 0, .float .f64 0] 27)
      rw [show (w.alloc (.cells #[.int .u64 ((N : Int) + 1), .float .f64 m, .float .f64 s, .float .f64 lo, .float .f64 hi] 27)).heap.size = w.heap.size + 1 by simp] at r0
      exact r0
    have HR2 := Lib.hid hrow2
    clear hrow2
    have hs3 : w3.heap.size = B + 2 := by rw [← hw3, hB]; exact hsz _ _ _ _ _ _
    rw [← hB]
    have HB := Lib.hid hB
    have HAM : Hid (AddM N m s x mm ss) := Lib.hid (by rw [AddM, if_neg hN0]; exact ⟨d, q, f, p, hd, hq, hmm, hf, hp, hss⟩)
    have hBs : B < w3.heap.size := by omega
    clear hB hsz
    have HC := Lib.hid (And.intro hBs (And.intro (cell_rowG (v := .float .f64 lo) (i := 3) hrow rfl) (And.intro (cell_rowG (v := .float .f64 hi) (i := 4) hrow rfl) hrow)))
    refine wp_region_untilW [some 47, some 48, some 49, some 50, some 51, some 52, some 53, some 54, some 55, some 56, some 57, none, some 58, none] [] 11 (fun wx => Below w3.heap.size w3 wx) [0, 1, 2, 3, 4, 5, 6, 7, 8, 9, 10, 11] (addGF B N mm ss lo hi x) (kG B (.float .f64 (atP (mxR [hi, x])))) (fun wx => w3.grownBy wx (some B)) (by kernel_rfl) (by kernel_rfl) rfl (by kernel_rfl) (by kernel_rfl) (kG_drew _ _) (Below.refl _ _).drew (fun j hj hj2 _ _ k h => h.trans ((k.2.1 hj (fun e => by subst e; exact absurd hj2 (by rw [show waits _ _ 13 11 = true by kernel_rfl]; simp))).mono h.size)) (kG_refl B _) (fun _ _ _ h k => grown_trans h k.1 (fun j hj => .inl hj)) ?hF ?hstep ?hend
    case hF =>
      exact ⟨fun _ _ _ _ _ _ h => h, ⟨fun _ _ _ _ _ _ h => h, ⟨fun _ _ _ _ _ _ h => h, ⟨fun j hg v _ _ k h => h.keep (k.2.1 (fun e => by subst e; exact absurd hg (by rw [show goneB _ 3 11 = true by kernel_rfl]; simp)) (fun e => by subst e; exact absurd hg (by rw [show goneB _ 3 13 = true by kernel_rfl]; simp))), ⟨fun _ _ _ _ _ _ h => h, ⟨fun _ _ _ _ _ _ h => h, ⟨fun _ _ _ _ _ _ h => h, ⟨fun _ _ _ _ _ _ h => h, ⟨fun j hg v _ _ k h => h.keep (k.2.1 (fun e => by subst e; exact absurd hg (by rw [show goneB _ 8 11 = true by kernel_rfl]; simp)) (fun e => by subst e; exact absurd hg (by rw [show goneB _ 8 13 = true by kernel_rfl]; simp))), ⟨fun _ _ _ _ _ _ h => h, ⟨fun _ _ _ _ _ _ h => h, ⟨fun j hg _ _ _ k h => Row11.keep (hi := hi) h (fun e => by subst e; exact absurd hg (by rw [show goneB _ 11 11 = true by kernel_rfl]; simp)) k, ⟨fun _ _ _ _ _ _ h => h, ⟨fun j hg _ _ _ k h => ((k.2.1 (fun e => by subst e; exact absurd hg (by rw [show goneB _ 13 11 = true by kernel_rfl]; simp)) (fun e => by subst e; exact absurd hg (by rw [show goneB _ 13 13 = true by kernel_rfl]; simp))).block _ (Array.getElem?_eq_some_iff.1 h).1).trans h, trivial⟩⟩⟩⟩⟩⟩⟩⟩⟩⟩⟩⟩⟩⟩
    case hstep =>
      refine ⟨fun r wx hG hs hq hf => ?_, ?_⟩
      · have hQ := hq rfl
        have e2 : r 2 = .pointer (some ⟨B, 0, none⟩) := hs 2 rfl
        refine (if_pos rfl).symm ▸ ?_
        clear hs hq hf
        unfold gives
        go_simp
        exact ⟨kG_refl _ _ _ _, rfl⟩
      refine ⟨fun r wx hG hs hq hf => ?_, ?_⟩
      · have hQ := hq rfl
        have h0 : r 47 = .pointer (some ⟨B, 3, none⟩) := hf.1
        refine (if_pos rfl).symm ▸ ?_
        clear hs hq hf
        unfold gives
        have hc := (hQ.cell (p := ⟨B, 3, none⟩) HC.out.1).trans HC.out.2.1
        go_simp
        exact ⟨kG_refl _ _ _ _, rfl⟩
      refine ⟨fun r wx hG hs hq hf => ?_, ?_⟩
      · have hQ := hq rfl
        have e1 : r 1 = .float .f64 x := hs 1 rfl
        refine (if_pos rfl).symm ▸ ?_
        clear hs hq hf
        unfold gives
        go_simp
        exact ⟨kG_refl _ _ _ _, rfl⟩
      refine ⟨fun r wx hG hs hq hf => ?_, ?_⟩
      · have hQ := hq rfl
        have h1 : r 48 = .float .f64 lo := hf.1
        have h2 : r 49 = .float .f64 x := hf.2.1
        refine (if_pos rfl).symm ▸ ?_
        clear hs hq hf
        unfold gives
        have hrd := own_rd (own_new wx 25 1 2 0 (fv [lo, x]) rfl (by omega) (Nat.zero_le _)) (fv_one _)
        go_simp
        exact ⟨kG_of (by omega) ((Below.refl _ _).alloc (Nat.le_refl _) _), hrd⟩
      refine ⟨fun r wx hG hs hq hf => ?_, ?_⟩
      · have hQ := hq rfl
        have h3 : Rd wx 1 (r 50) 2 (fv [lo, x]) := hf.1
        refine (if_pos rfl).symm ▸ ?_
        clear hs hq hf
        unfold gives
        have hk := Least_any (r 50) [lo, x] wx HFL.out.1 (by simp) h3
        go_simp
        refine hk.mono ?_
        rintro e wy ⟨rfl, rfl⟩
        exact ⟨_, rfl, kG_refl _ _ _ _, rfl⟩
      refine ⟨fun r wx hG hs hq hf => ?_, ?_⟩
      · have hQ := hq rfl
        have e2 : r 2 = .pointer (some ⟨B, 0, none⟩) := hs 2 rfl
        refine (if_pos rfl).symm ▸ ?_
        clear hs hq hf
        unfold gives
        go_simp
        exact ⟨kG_refl _ _ _ _, rfl⟩
      refine ⟨fun r wx hG hs hq hf => ?_, ?_⟩
      · have hQ := hq rfl
        have h5 : r 52 = .pointer (some ⟨B, 4, none⟩) := hf.1
        refine (if_pos rfl).symm ▸ ?_
        clear hs hq hf
        unfold gives
        have hc := (hQ.cell (p := ⟨B, 4, none⟩) HC.out.1).trans HC.out.2.2.1
        go_simp
        exact ⟨kG_refl _ _ _ _, rfl⟩
      refine ⟨fun r wx hG hs hq hf => ?_, ?_⟩
      · have hQ := hq rfl
        have e1 : r 1 = .float .f64 x := hs 1 rfl
        refine (if_pos rfl).symm ▸ ?_
        clear hs hq hf
        unfold gives
        go_simp
        exact ⟨kG_refl _ _ _ _, rfl⟩
      refine ⟨fun r wx hG hs hq hf => ?_, ?_⟩
      · have hQ := hq rfl
        have h6 : r 53 = .float .f64 hi := hf.1
        have h7 : r 54 = .float .f64 x := hf.2.1
        refine (if_pos rfl).symm ▸ ?_
        clear hs hq hf
        unfold gives
        have hrd := own_rd (own_new wx 25 1 2 0 (fv [hi, x]) rfl (by omega) (Nat.zero_le _)) (fv_one _)
        go_simp
        exact ⟨kG_of (by omega) ((Below.refl _ _).alloc (Nat.le_refl _) _), hrd⟩
      refine ⟨fun r wx hG hs hq hf => ?_, ?_⟩
      · have hQ := hq rfl
        have h8 : Rd wx 1 (r 55) 2 (fv [hi, x]) := hf.1
        refine (if_pos rfl).symm ▸ ?_
        clear hs hq hf
        unfold gives
        have hk := Most_any (r 55) [hi, x] wx HFL.out.2 (by simp) h8
        go_simp
        refine hk.mono ?_
        rintro e wy ⟨rfl, rfl⟩
        exact ⟨_, rfl, kG_refl _ _ _ _, rfl⟩
      refine ⟨fun r wx hG hs hq hf => ?_, ?_⟩
      · have hQ := hq rfl
        have e2 : r 2 = .pointer (some ⟨B, 0, none⟩) := hs 2 rfl
        refine (if_pos rfl).symm ▸ ?_
        clear hs hq hf
        unfold gives
        go_simp
        exact ⟨kG_refl _ _ _ _, rfl⟩
      refine ⟨fun r wx hG hs hq hf => ?_, ?_⟩
      · have hQ := hq rfl
        have h10 : r 57 = .pointer (some ⟨B, 3, none⟩) := hf.1
        have h4 : r 51 = .float .f64 (atP (mnR [lo, x])) := hf.2.1
        refine (if_pos rfl).symm ▸ ?_
        clear hs hq hf
        unfold gives
        have hc := cell_rowG (v := .float .f64 lo) (i := 3) ((hQ.block B HC.out.1).trans HC.out.2.2.2) rfl
        have hz : wx.frozen? ⟨B, 3, none⟩ = false := by simp [World.frozen?, (hQ.block B HC.out.1).trans HC.out.2.2.2]
        go_simp
        refine ⟨kG_st11 _, hi, ?_⟩
        show (wx.setCell ⟨B, 3, none⟩ (.float .f64 (atP (mnR [lo, x])))).heap[B]? = _
        rw [heap_setCell_same wx B 3 _ _ _ ((hQ.block B HC.out.1).trans HC.out.2.2.2)]; rfl
      refine ⟨fun r wx hG hs hq hf => ?_, ?_⟩
      · have e2 : r 2 = .pointer (some ⟨B, 0, none⟩) := hs 2 rfl
        refine (if_pos rfl).symm ▸ ?_
        clear hs hq hf
        unfold gives
        go_simp
        exact ⟨kG_refl _ _ _ _, rfl⟩
      refine ⟨fun r wx hG hs hq hf => ?_, ?_⟩
      · have h12 : r 58 = .pointer (some ⟨B, 4, none⟩) := hf.1
        have h9 : r 56 = .float .f64 (atP (mxR [hi, x])) := hf.2.1
        have h11 : Row11 wx B N mm ss (atP (mnR [lo, x])) hi (atP (mxR [hi, x])) := hf.2.2.1
        refine (if_pos rfl).symm ▸ ?_
        clear hs hq hf
        unfold gives
        obtain ⟨yy, h11⟩ := h11
        have hc := cell_rowG (v := .float .f64 yy) (i := 4) h11 rfl
        have hz : wx.frozen? ⟨B, 4, none⟩ = false := by simp [World.frozen?, h11]
        go_simp
        refine ⟨kG_st13, ?_⟩
        show (wx.setCell ⟨B, 4, none⟩ (.float .f64 (atP (mxR [hi, x])))).heap[B]? = _
        rw [heap_setCell_same wx B 4 _ _ _ h11]; rfl
      exact trivial
    case hend =>
      intro u wz hG hfin
      have z11 : Row11 wz B N mm ss (atP (mnR [lo, x])) hi (atP (mxR [hi, x])) := hfin 11 (by decide) (by kernel_rfl)
      have z13 : wz.heap[B]? = some (.cells #[.int .u64 ((N : Int) + 1), .float .f64 mm, .float .f64 ss, .float .f64 (atP (mnR [lo, x])), .float .f64 (atP (mxR [hi, x]))] 27 (0, 0)) := hfin 13 (by decide) (by kernel_rfl)
      clear hfin
      simp only [fill]
      go_simp
      have y0 := cell_rowG (v := .int .u64 ((N : Int) + 1)) (i := 0) z13 rfl
      have y1 := cell_rowG (v := .float .f64 mm) (i := 1) z13 rfl
      have y2 := cell_rowG (v := .float .f64 ss) (i := 2) z13 rfl
      have y3 := cell_rowG (v := .float .f64 (atP (mnR [lo, x]))) (i := 3) z13 rfl
      have y4 := cell_rowG (v := .float .f64 (atP (mxR [hi, x]))) (i := 4) z13 rfl
      have hres := (hG.block (B + 1) (by omega) (by simp)).trans HR2.out
      have c0 := cell_rowG (v := .int .u64 0) (i := 0) hres rfl
      have c1 := cell_rowG (v := .float .f64 0) (i := 1) hres rfl
      have c2 := cell_rowG (v := .float .f64 0) (i := 2) hres rfl
      have c3 := cell_rowG (v := .float .f64 0) (i := 3) hres rfl
      have c4 := cell_rowG (v := .float .f64 0) (i := 4) hres rfl
      have hz : ∀ k : Nat, wz.frozen? ⟨B + 1, k, none⟩ = false := fun k => by simp [World.frozen?, hres]
      have HFI := Lib.hid (And.intro hG hres)
      clear hG hres z13
      go_wp2_with fail
      have hbz : Below w.heap.size w wz := by
        have h3 := HB3.out
        have h4 := HFI.out.1
        exact h3.trans ⟨h4.os, h4.tape, h4.output, h4.size, fun k hk => h4.block k (by have := h3.size; omega) (fun e => by have := HB.out; simp only [Option.some.injEq] at e; omega)⟩
      have hBw : w.heap.size ≤ B + 1 := by have := HB.out; omega
      exact bodyPost_ret (v := .agg #[.int .u64 ((N : Int) + 1), .float .f64 mm, .float .f64 ss, .float .f64 (atP (mnR [lo, x])), .float .f64 (atP (mxR [hi, x]))]) (by simp [results, Try.results11, go_sem, c0, c1, c2, c3, c4]) rfl ⟨mm, ss, rfl, HAM.out, hmm2, hss2, ((((hbz.setCell hBw _).setCell hBw _).setCell hBw _).setCell hBw _).setCell hBw _⟩
end Go.Proofs.Ytdociiogddihfaa
