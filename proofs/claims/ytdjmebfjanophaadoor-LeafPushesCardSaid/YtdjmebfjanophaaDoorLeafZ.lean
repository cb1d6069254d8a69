/- The law LeafPushes: the walk. (printed by gen/leafz.py) -/
import Derived.Test.YtdjmebfjanophaaDoorLeafY
import Derived.Test.YtdjmebfjanophaaDoorLeafL
namespace Go.Proofs.YtdjmebfjanophaaDoor
open Go.RowKit Sha Root Ones

/-- How an operation of the region that lays the range may change the world: the block of its own row alone. -/
def kP (B : Nat) (j : Nat) (w w' : World) : Prop := ∃ r, w.grownBy w' r ∧ ∀ i, r = some i → B ≤ i ∧ ((j = 5 ∧ w.heap[i]? = some (.cells #[] 33 (0, 0))) ∨ (j = 8 ∧ ∃ cs fr, w.heap[i]? = some (.cells cs 33 fr)) ∨ (j = 15 ∧ ∃ cs fr, w.heap[i]? = some (.cells cs 31 fr)))
theorem kP_refl (B j : Nat) (w : World) : kP B j w w := ⟨none, World.grownBy.refl _ _, fun i e => by cases e⟩
theorem kP_of {B j : Nat} {w w' : World} (h : Below w.heap.size w w') : kP B j w w' := ⟨none, below_grown h none, fun i e => by cases e⟩
theorem kP_G {B j : Nat} {w0 w w' : World} (hB : B ≤ w0.heap.size) (h : Below B w0 w) (k : kP B j w w') : Below B w0 w' := by
  obtain ⟨r, hg, hr⟩ := k
  exact h.trans ⟨hg.os, hg.tape, hg.output, hg.size, fun i hi => hg.block i (Nat.lt_of_lt_of_le hi (Nat.le_trans hB h.size)) (fun e => by have := (hr i e.symm).1; omega)⟩
theorem kP_blk {B j q : Nat} {cs : Array Value} {t : TypeId} {fr : Nat × Nat} {w w' : World} (k : kP B j w w') (h : w.heap[q]? = some (.cells cs t fr)) (h5 : j = 5 → ¬ (cs = #[] ∧ t = 33)) (h8 : j = 8 → t ≠ 33) (h15 : j = 15 → t ≠ 31) : w'.heap[q]? = some (.cells cs t fr) := by
  obtain ⟨r, hg, hr⟩ := k
  refine (hg.block q (Array.getElem?_eq_some_iff.1 h).1 fun e => ?_).trans h
  obtain ⟨_, ⟨h1, h2⟩ | ⟨h1, cs2, fr2, h2⟩ | ⟨h1, cs2, fr2, h2⟩⟩ := hr q e.symm
  · rw [h] at h2
    simp only [Option.some.injEq, Obj.cells.injEq] at h2
    exact h5 h1 ⟨h2.1, h2.2.1⟩
  · rw [h] at h2
    simp only [Option.some.injEq, Obj.cells.injEq] at h2
    exact h8 h1 h2.2.1
  · rw [h] at h2
    simp only [Option.some.injEq, Obj.cells.injEq] at h2
    exact h15 h1 h2.2.1
theorem kP_empty {B j q : Nat} {w w' : World} (h5 : j ≠ 5) (h8 : j ≠ 8) (k : kP B j w w') (h : w.heap[q]? = some (.cells #[] 33 (0, 0))) : w'.heap[q]? = some (.cells #[] 33 (0, 0)) :=
  kP_blk k h (fun e => absurd e h5) (fun e => absurd e h8) (fun _ => by decide)
theorem kP_row {B j p : Nat} {cs : Array Value} {fr : Nat × Nat} {w w' : World} (h15 : j ≠ 15) (k : kP B j w w') (h : w.heap[p]? = some (.cells cs 31 fr)) : w'.heap[p]? = some (.cells cs 31 fr) :=
  kP_blk k h (fun _ e => absurd e.2 (by decide)) (fun _ => by decide) (fun e => absurd e h15)
theorem own_heap {w : World} {B : Nat} {e : TypeId} {size n : Nat} {v : Value} {xs : List Value} (h : w.ownsRow B e size v n xs) (i : Nat) (hi : v.ownBlock = some i) : B ≤ i ∧ ∃ cs fr, w.heap[i]? = some (.cells cs e fr) := by
  obtain ⟨_, h2 | ⟨g, cap, cur, hv, hb, hg, _⟩⟩ := h
  · rw [h2.1] at hi; cases hi
  · rw [hv] at hi
    simp only [Value.ownBlock, Option.some.injEq] at hi
    subst hi
    exact ⟨hb, _, _, hg⟩
theorem own_cap {w : World} {B : Nat} {e : TypeId} {size n q cc : Nat} {xs : List Value} (h : w.ownsRow B e size (.slice (some ⟨q, 0, none⟩) n cc) n xs) : n ≤ cc := by
  obtain ⟨_, h2 | ⟨g, cap, cur, hv, hb, hg, hc, _⟩⟩ := h
  · simp at h2
  · simp only [Value.slice.injEq, true_and] at hv
    omega
theorem own_not_row {w : World} {B : Nat} {e t : TypeId} {size n p : Nat} {cs : Array Value} {fr : Nat × Nat} {v : Value} {xs : List Value} (h : w.ownsRow B e size v n xs) (hp : w.heap[p]? = some (.cells cs t fr)) (hne : t ≠ e) : v.ownBlock = none ∨ v.ownBlock ≠ some p := by
  refine .inr fun e1 => ?_
  obtain ⟨_, cs2, fr2, h2⟩ := own_heap h p e1
  rw [hp] at h2
  simp only [Option.some.injEq, Obj.cells.injEq] at h2
  exact hne h2.2.1
theorem kP_own {B j n : Nat} {v : Value} {xs : List Value} {w w' : World} (h5 : j ≠ 5) (h8 : j ≠ 8) (k : kP B j w w') (h : w.ownsRow B 33 32 v n xs) : w'.ownsRow B 33 32 v n xs := by
  obtain ⟨r, hg, hr⟩ := k
  refine h.kept hg ?_
  cases r with
  | none => cases v.ownBlock <;> simp
  | some i =>
    obtain ⟨_, ⟨h1, _⟩ | ⟨h1, _⟩ | ⟨_, cs2, fr2, h2⟩⟩ := hr i rfl
    · exact absurd h1 h5
    · exact absurd h1 h8
    · exact own_not_row h h2 (by decide)
theorem kP_own1 {B j : Nat} {v : Value} {xs : List Value} {w w' : World} (h8 : j ≠ 8) (k : kP B j w w') (h : w.ownsRow B 33 32 v 1 xs) : w'.ownsRow B 33 32 v 1 xs := by
  obtain ⟨r, hg, hr⟩ := k
  refine h.kept hg ?_
  cases r with
  | none => cases v.ownBlock <;> simp
  | some i =>
    obtain ⟨_, ⟨h1, h2⟩ | ⟨h1, _⟩ | ⟨_, cs2, fr2, h2⟩⟩ := hr i rfl
    · refine .inr fun e => ?_
      obtain ⟨_, h3 | ⟨g, cap, cur, hv, hb, hgh, hc, hm, hs, ht⟩⟩ := h
      · omega
      · rw [hv] at e
        simp only [Value.ownBlock, Option.some.injEq] at e
        subst e
        rw [hgh] at h2
        simp only [Option.some.injEq, Obj.cells.injEq] at h2
        rw [h2.1] at hs
        simp at hs
        omega
    · exact absurd h1 h8
    · exact own_not_row h h2 (by decide)
/-- What stands while the range is looked at. -/
structure LZ (g p q sz m c cc : Nat) (a : Option Addr) (fl : List Value) (hx : List UInt8) (w0 w : World) : Prop where
  rowp : w.heap[p]? = some (.cells #[.int .u64 sz, .slice (some ⟨q, 0, none⟩) m cc] 31 (0, 0))
  rowg : w.heap[g]? = some (.cells #[.int .u64 sz, .slice a m c] 31 (0, 0))
  box : w.heap[g + 1]? = some (.cells (bv hx).toArray 33 (0, 0))
  rda : Rd w 32 (.slice a m c) m fl
  rdq : Rd w 32 (.slice (some ⟨q, 0, none⟩) m cc) m fl
  nine : w.rangeAt q (m * 32) (bv (9 :: zs 31))
  bel : Below g w0 w
theorem LZ.keep {g p q sz m c cc : Nat} {a : Option Addr} {fl : List Value} {hx : List UInt8} {w0 w w' : World} (h : LZ g p q sz m c cc a fl hx w0 w) (k : Below w.heap.size w w') (hg : g ≤ w0.heap.size) : LZ g p q sz m c cc a fl hx w0 w' where
  rowp := (k.block _ (Array.getElem?_eq_some_iff.1 h.rowp).1).trans h.rowp
  rowg := (k.block _ (Array.getElem?_eq_some_iff.1 h.rowg).1).trans h.rowg
  box := (k.block _ (Array.getElem?_eq_some_iff.1 h.box).1).trans h.box
  rda := h.rda.keep k
  rdq := h.rdq.keep k
  nine := fun j u hu => (k.cell (World.block_lt_of_cell? w _ (h.nine j u hu))).trans (h.nine j u hu)
  bel := h.bel.trans (k.mono (Nat.le_trans hg h.bel.size))
/-- The hash that is put behind. -/
def h9 : List UInt8 := 9 :: zs 31
theorem h9_length : h9.length = 32 := by simp [h9, zs]

/-- What each operation hands on. -/
def lp3F (g sz m c B : Nat) (a : Option Addr) (fl : List Value) : Nat → Value → World → Prop
  | 0, v, _ => v = .pointer (some ⟨g, 0, none⟩)
  | 1, v, _ => v = .int .u64 sz
  | 2, v, w => ∃ q, v = .slice (some ⟨q, 0, none⟩) 0 0 ∧ B ≤ q ∧ w.heap[q]? = some (.cells #[] 33 (0, 0))
  | 3, v, _ => v = .pointer (some ⟨g, 1, none⟩)
  | 4, v, _ => v = .slice a m c
  | 5, v, w => w.ownsRow B 33 32 v m fl
  | 6, v, _ => v = .agg (bv h9).toArray
  | 7, v, w => w.ownsRow B 33 32 v 1 (bv h9)
  | 8, v, w => ∃ q cc, v = .slice (some ⟨q, 0, none⟩) (m + 1) cc ∧ w.ownsRow B 33 32 (.slice (some ⟨q, 0, none⟩) (m + 1) cc) (m + 1) (fl ++ bv h9)
  | 9, v, _ => v = .pointer (some ⟨g, 1, none⟩)
  | 10, v, _ => v = .slice a m c
  | 11, v, _ => v = .int .i64 m
  | 12, v, w => ∃ q cc, v = .slice (some ⟨q, 0, none⟩) m cc ∧ w.ownsRow B 33 32 (.slice (some ⟨q, 0, none⟩) (m + 1) cc) (m + 1) (fl ++ bv h9)
  | 13, v, w => ∃ q cc, v = .agg #[.int .u64 sz, .slice (some ⟨q, 0, none⟩) m cc] ∧ w.ownsRow B 33 32 (.slice (some ⟨q, 0, none⟩) (m + 1) cc) (m + 1) (fl ++ bv h9)
  | 14, v, w => ∃ p, v = .pointer (some ⟨p, 0, none⟩) ∧ B ≤ p ∧ w.heap[p]? = some (.cells #[.int .u64 0, .slice none 0 0] 31 (0, 0))
  | 15, v, w => ∃ p q cc, v = .pointer (some ⟨p, 0, none⟩) ∧ B ≤ p ∧ w.heap[p]? = some (.cells #[.int .u64 sz, .slice (some ⟨q, 0, none⟩) m cc] 31 (0, 0)) ∧ w.ownsRow B 33 32 (.slice (some ⟨q, 0, none⟩) (m + 1) cc) (m + 1) (fl ++ bv h9)
  | _, _, _ => True

/-- What each operation hands on. -/
def lp8F (g p q sz m c cc : Nat) (a : Option Addr) (bR : Bool) (b8 b10 b12 b14 : Nat) (PR : PushR) (va vb : Option Addr) (vc vd : Nat) (ep : Int) (hp : List UInt8) : Nat → Value → World → Prop
  | 0, v, _ => v = .agg #[.int .u64 sz, .slice (some ⟨q, 0, none⟩) m cc]
  | 1, v, _ => v = .bool bR
  | 2, v, _ => v = .agg #[.int .u64 sz, .slice a m c]
  | 3, v, _ => v = .bool bR
  | 4, v, _ => v = .bool true
  | 5, v, _ => v = .bool true
  | 6, v, _ => v = .int .i64 PR.e
  | 7, v, _ => v = .int .i64 PR.e
  | 8, v, _ => v = .bool true
  | 9, v, _ => v = .bool true
  | 10, v, _ => v = .bool true
  | 11, v, _ => v = .agg #[.int .u64 PR.s, .slice va PR.l.length vc]
  | 12, v, _ => v = .agg #[.int .u64 PR.s, .slice vb PR.l.length vd]
  | 13, v, _ => v = .bool true
  | 14, v, _ => v = .bool true
  | 15, v, _ => v = .bool true
  | 16, v, _ => v = .agg (bv hp).toArray
  | 17, v, _ => v = .agg (bv hp).toArray
  | 18, v, _ => v = .bool true
  | 19, v, _ => v = .bool true
  | 20, v, _ => v = .bool true
  | 21, v, _ => v = .int .i64 ep
  | 22, v, _ => v = .int .i64 ep
  | 23, v, _ => v = .bool true
  | 24, v, _ => v = .bool true
  | 25, v, _ => v = .bool true
  | 26, v, _ => v = .agg #[.int .u64 sz, .slice (some ⟨q, 0, none⟩) m cc]
  | 27, v, _ => v = .agg #[.int .u64 sz, .slice a m c]
  | 28, v, _ => v = .bool true
  | 29, v, _ => v = .bool true
  | 30, v, _ => v = .bool true
  | 31, v, _ => v = .pointer (some ⟨p, 1, none⟩)
  | 32, v, _ => v = .slice (some ⟨q, 0, none⟩) m cc
  | 33, v, _ => v = .pointer (some ⟨g, 1, none⟩)
  | 34, v, _ => v = .slice a m c
  | 35, v, _ => v = .int .i64 m
  | 36, v, _ => v = .int .i64 ((m : Int) + 1)
  | 37, v, _ => v = .slice (some ⟨q, 0, none⟩) (m + 1) cc
  | 38, v, _ => v = .pointer (some ⟨g, 1, none⟩)
  | 39, v, _ => v = .slice a m c
  | 40, v, _ => v = .int .i64 m
  | 41, v, _ => v = .pointer (some ⟨q, m * 32, none⟩)
  | 42, v, _ => v = .agg (bv h9).toArray
  | 43, v, _ => v = .agg (bv h9).toArray
  | 44, v, _ => v = .bool true
  | 45, v, _ => v = .bool true
  | 46, v, _ => v = .bool true
  | _, _, _ => True

set_option maxHeartbeats 32000000 in
set_option maxRecDepth 100000 in
theorem leafPushes_walk (n : Int) (sz : Nat) (a : Option Addr) (c : Nat) (ps : List (List UInt8)) (hx : List UInt8) (w : World) (hn : -9223372036854775808 ≤ n ∧ n ≤ 9223372036854775807) (hs : sz < 18446744073709551616) (h32 : ∀ p ∈ ps, p.length = 32) (hl : ps.length * 32 ≤ 140737488351232) (hx32 : hx.length = 32)
    (hr : Rd w 32 (.slice a ps.length c) ps.length (ps.flatMap bv)) (hT : TabsR w) (hD : TabD w) :
    Calls Tryd.prog 4 #[.int .i64 n, .agg #[.int .u64 sz, .slice a ps.length c], .agg (bv hx).toArray] w fun e w' => e = .returned (.bool true) ∧ Below w.heap.size w w' := by
  have hz := (zero_of_info info32).1
  have hz32 := (zero_of_info info32).1
  obtain ⟨PR, hPR⟩ := push_ex n sz ps hx
  obtain ⟨hp, ep, hpk, hp32⟩ := peak_ex n sz ps h32
  obtain ⟨fl, hfl⟩ : ∃ l, l = ps.flatMap bv := ⟨_, rfl⟩
  obtain ⟨m, hm⟩ : ∃ m, m = ps.length := ⟨_, rfl⟩
  rw [← hm] at hr ⊢
  rw [← hfl] at hr
  obtain ⟨g, hg⟩ : ∃ g, g = w.heap.size := ⟨_, rfl⟩
  obtain ⟨w0, hw0⟩ : ∃ x : World, x = (w.alloc (.cells #[.int .u64 sz, .slice a m c] 31)).alloc (.cells (bv hx).toArray 33) := ⟨_, rfl⟩
  have hb0 : Below g w w0 := by rw [hw0, hg]; exact ((Below.refl _ _).alloc (Nat.le_refl _) _).alloc (by simp) _
  have hrow0 : w0.heap[g]? = some (.cells #[.int .u64 sz, .slice a m c] 31 (0, 0)) := by
    rw [hw0, hg, heap_alloc_old _ _ (by simp)]; exact heap_alloc_new _ _
  have hrow1 : w0.heap[g + 1]? = some (.cells (bv hx).toArray 33 (0, 0)) := by
    rw [hw0, hg]
    have := heap_alloc_new (w.alloc (.cells #[.int .u64 sz, .slice a m c] 31)) (.cells (bv hx).toArray 33)
    simpa using this
  have hgl : g + 1 < w0.heap.size := by rw [hw0, hg]; simp
  have haw := awake14_any w0 (hT.toTabs.keepB (hg ▸ hb0))
  have HW := Lib.hid hw0
  have HG := Lib.hid hg
  have HX := Lib.hid hx32
  have H9 := Lib.hid h9_length
  have HP := Lib.hid (And.intro hPR (And.intro hpk (And.intro hp32 (And.intro hfl hm))))
  have HT := Lib.hid (And.intro hT (And.intro hD h32))
  have HN := Lib.hid hn
  have H0 := Lib.hid (And.intro hb0 (And.intro hrow0 hrow1))
  have HR := Lib.hid hr
  have hml : m * 32 ≤ 140737488351232 := by rw [hm]; exact hl
  clear hw0 hx32 hPR hpk hp32 hfl hm hT hD h32 hn hb0 hrow0 hrow1 hr hl
  go_enter Tryd.func4, Tryd.ntmps4
  go_upto_region 1 with fail
  rw [← hg, show (w.alloc (.cells #[.int .u64 sz, .slice a m c] 31)).alloc (.cells (bv hx).toArray 33) = w0 from HW.out.symm]
  clear hg
  go_wp2_with fail
  refine haw.mono ?_
  rintro e w1 ⟨rfl, hb1⟩
  obtain ⟨B, hB⟩ : ∃ B, B = w1.heap.size := ⟨_, rfl⟩
  have hBs : B ≤ w1.heap.size := by omega
  have hgB : g + 1 < B := by rw [hB]; exact Nat.lt_of_lt_of_le hgl hb1.size
  have hr0 := (hb1.block g (by omega)).trans H0.out.2.1
  have hr1 := (hb1.block _ hgl).trans H0.out.2.2
  have hbw1 := H0.out.1.trans (hb1.mono (by omega))
  have hc0 : w1.cell? ⟨g, 0, none⟩ = some (.int .u64 sz) := by rw [cell_of_row _ _ _ _ _ _ hr0]; rfl
  have hc1 : w1.cell? ⟨g, 1, none⟩ = some (.slice a m c) := by rw [cell_of_row _ _ _ _ _ _ hr0]; rfl
  have HC := Lib.hid (And.intro hc0 hc1)
  have HRW := Lib.hid (And.intro hr0 (And.intro hr1 hbw1))
  have HRD := Lib.hid (fun wx (h : Below B w1 wx) => HR.out.keep (by
    have := hbw1.trans (h.mono (by omega))
    rwa [HG.out] at this))
  clear haw hgl hr0 hr1 hbw1 hc0 hc1 hB hb1
  go_upto_region 3 with fail
  refine wp_region_link [some 18, some 19, some 20, some 21, some 22, some 23, some 24, some 25, some 26, some 27, some 28, some 29, some 30, some 31, some 7, none] [] 0 (fun _ => True) [] [(15, 14)] (lp3F g sz m c B a fl) (kP B) (fun wx => Below B w1 wx) (by kernel_rfl) (by kernel_rfl) rfl (by kernel_rfl) (by kernel_rfl) (by kernel_rfl) (Below.refl _ _).drew (trivial) (fun _ _ _ _ _ _ => trivial) (fun _ _ => kP_refl _ _ _) (fun _ _ _ h k => kP_G hBs h k) ?hF ?hstep ?hend
  case hF =>
    exact ⟨fun _ _ _ _ _ _ h => h, ⟨fun _ _ _ _ _ _ h => h, ⟨fun j hg _ _ _ k h => by obtain ⟨q, h1, h2, h3⟩ := h; exact ⟨q, h1, h2, kP_empty (by rintro rfl; exact absurd hg (by rw [show goneB _ 2 5 = true by kernel_rfl]; simp)) (by rintro rfl; exact absurd hg (by rw [show goneB _ 2 8 = true by kernel_rfl]; simp)) k h3⟩, ⟨fun _ _ _ _ _ _ h => h, ⟨fun _ _ _ _ _ _ h => h, ⟨fun j hg _ _ _ k h => kP_own (by rintro rfl; exact absurd hg (by rw [show goneB _ 5 5 = true by kernel_rfl]; simp)) (by rintro rfl; exact absurd hg (by rw [show goneB _ 5 8 = true by kernel_rfl]; simp)) k h, ⟨fun _ _ _ _ _ _ h => h, ⟨fun j hg _ _ _ k h => kP_own1 (by rintro rfl; exact absurd hg (by rw [show goneB _ 7 8 = true by kernel_rfl]; simp)) k h, ⟨fun j hg _ _ _ k h => by obtain ⟨q, cc, h1, h2⟩ := h; exact ⟨q, cc, h1, kP_own (by rintro rfl; exact absurd hg (by rw [show goneB _ 8 5 = true by kernel_rfl]; simp)) (by rintro rfl; exact absurd hg (by rw [show goneB _ 8 8 = true by kernel_rfl]; simp)) k h2⟩, ⟨fun _ _ _ _ _ _ h => h, ⟨fun _ _ _ _ _ _ h => h, ⟨fun _ _ _ _ _ _ h => h, ⟨fun j hg _ _ _ k h => by obtain ⟨q, cc, h1, h2⟩ := h; exact ⟨q, cc, h1, kP_own (by rintro rfl; exact absurd hg (by rw [show goneB _ 12 5 = true by kernel_rfl]; simp)) (by rintro rfl; exact absurd hg (by rw [show goneB _ 12 8 = true by kernel_rfl]; simp)) k h2⟩, ⟨fun j hg _ _ _ k h => by obtain ⟨q, cc, h1, h2⟩ := h; exact ⟨q, cc, h1, kP_own (by rintro rfl; exact absurd hg (by rw [show goneB _ 13 5 = true by kernel_rfl]; simp)) (by rintro rfl; exact absurd hg (by rw [show goneB _ 13 8 = true by kernel_rfl]; simp)) k h2⟩, ⟨fun j hg _ _ _ k h => by obtain ⟨p, h1, h2, h3⟩ := h; exact ⟨p, h1, h2, kP_row (by rintro rfl; exact absurd hg (by rw [show goneB _ 14 15 = true by kernel_rfl]; simp)) k h3⟩, ⟨fun j hg _ _ _ k h => by obtain ⟨p, q, cc, h1, h2, h3, h4⟩ := h; exact ⟨p, q, cc, h1, h2, kP_row (by rintro rfl; exact absurd hg (by rw [show goneB _ 15 15 = true by kernel_rfl]; simp)) k h3, kP_own (by rintro rfl; exact absurd hg (by rw [show goneB _ 15 5 = true by kernel_rfl]; simp)) (by rintro rfl; exact absurd hg (by rw [show goneB _ 15 8 = true by kernel_rfl]; simp)) k h4⟩, trivial⟩⟩⟩⟩⟩⟩⟩⟩⟩⟩⟩⟩⟩⟩⟩⟩
  case hstep =>
    -- operation 0: Op.fieldAddr 31 (tmp 4) 0
    refine ⟨fun r wx hG hs hq hf => ?_, ?_⟩
    · have e4 : r 4 = .pointer (some ⟨g, 0, none⟩) := hs 4 rfl
      refine (if_pos rfl).symm ▸ ?_
      clear hs hq hf
      unfold gives
      go_simp
      exact ⟨kP_refl _ _ _, rfl⟩
    -- operation 1: Op.load 29 (tmp 18)
    refine ⟨fun r wx hG hs hq hf => ?_, ?_⟩
    · have h0 : r 18 = .pointer (some ⟨g, 0, none⟩) := hf.1
      refine (if_pos rfl).symm ▸ ?_
      clear hs hq hf
      unfold gives
      have hc0 := (hG.cell (p := ⟨g, 0, none⟩) (show g < B by omega)).trans HC.out.1
      go_simp
      exact ⟨kP_refl _ _ _, rfl⟩
    -- operation 2: Op.buildSlice 22 0 #[]
    refine ⟨fun r wx hG hs hq hf => ?_, ?_⟩
    · refine (if_pos rfl).symm ▸ ?_
      clear hs hq hf
      unfold gives
      go_simp
      exact ⟨kP_of ((Below.refl _ _).alloc (Nat.le_refl _) _), _, rfl, Nat.le_trans hBs hG.size, heap_alloc_new _ _⟩
    -- operation 3: Op.fieldAddr 31 (tmp 4) 1
    refine ⟨fun r wx hG hs hq hf => ?_, ?_⟩
    · have e4 : r 4 = .pointer (some ⟨g, 0, none⟩) := hs 4 rfl
      refine (if_pos rfl).symm ▸ ?_
      clear hs hq hf
      unfold gives
      go_simp
      exact ⟨kP_refl _ _ _, rfl⟩
    -- operation 4: Op.load 22 (tmp 21)
    refine ⟨fun r wx hG hs hq hf => ?_, ?_⟩
    · have h3 : r 21 = .pointer (some ⟨g, 1, none⟩) := hf.1
      refine (if_pos rfl).symm ▸ ?_
      clear hs hq hf
      unfold gives
      have hc1 := (hG.cell (p := ⟨g, 1, none⟩) (show g < B by omega)).trans HC.out.2
      go_simp
      exact ⟨kP_refl _ _ _, rfl⟩
    -- operation 5: Op.call ( callee := Callee.builtin Builtin.append, args := #[tmp 20, tmp 22], argTypes := #[22, 22] )
    refine ⟨fun r wx hG hs hq hf => ?_, ?_⟩
    · have h2 : ∃ q, (r 20) = .slice (some ⟨q, 0, none⟩) 0 0 ∧ B ≤ q ∧ wx.heap[q]? = some (.cells #[] 33 (0, 0)) := hf.1
      have h4 : r 22 = .slice a m c := hf.2.1
      refine (if_pos rfl).symm ▸ ?_
      clear hs hq hf
      unfold gives
      obtain ⟨q, hq, hBq, hrow⟩ := h2
      have hown : wx.ownsRow B 33 32 (r 20) 0 [] := by
        rw [hq]; exact ⟨by simp, .inr ⟨q, 0, #[], rfl, hBq, hrow, Nat.le_refl _, by decide, by simp, by simp⟩⟩
      have hrd : Rd wx 32 (r 22) m fl := by
        rw [h4]; exact HRD.out wx hG
      refine gives_app Tryd.underlying22 infoHb rfl (by decide) _ _ rfl rfl rfl hown hrd (by omega) (by omega) (Nat.le_trans hBs hG.size) ?_
      intro v' wy ho hg _
      refine ⟨⟨_, hg.grown, fun i e => ?_⟩, by show wy.ownsRow B 33 32 v' m fl; simpa using ho⟩
      change (r 20).ownBlock = some i at e
      rw [hq] at e
      simp only [Value.ownBlock, Option.some.injEq] at e
      subst e
      exact ⟨hBq, .inl ⟨rfl, hrow⟩⟩
    -- operation 6: Op.build 33 #[(0, const (Value.int IntKind.u8 9))]
    refine ⟨fun r wx hG hs hq hf => ?_, ?_⟩
    · refine (if_pos rfl).symm ▸ ?_
      clear hs hq hf
      unfold gives
      have hz := hz32 wx
      go_simp
      exact ⟨kP_refl _ _ _, by trace_state; rfl⟩
    -- operation 7: Op.buildSlice 22 1 #[(0, tmp 24)]
    refine ⟨fun r wx hG hs hq hf => ?_, ?_⟩
    · have h6 : r 24 = .agg (bv h9).toArray := hf.1
      refine (if_pos rfl).symm ▸ ?_
      clear hs hq hf
      unfold gives
      refine gives_build1 22 33 _ rfl (bv h9) h6 Tryd.underlying22 infoHb (by rw [bv_length]; exact H9.out) (by decide) (by decide) ?_
      exact ⟨kP_of ((Below.refl _ _).alloc (Nat.le_refl _) _), own_new wx 33 32 1 B (bv h9) (by rw [bv_length, H9.out]) (by omega) (Nat.le_trans hBs hG.size)⟩
    -- operation 8: Op.call ( callee := Callee.builtin Builtin.append, args := #[tmp 23, tmp 25], argTypes := #[22, 22] )
    refine ⟨fun r wx hG hs hq hf => ?_, ?_⟩
    · have h5 : wx.ownsRow B 33 32 (r 23) m fl := hf.1
      have h7 : wx.ownsRow B 33 32 (r 25) 1 (bv h9) := hf.2.1
      refine (if_pos rfl).symm ▸ ?_
      clear hs hq hf
      unfold gives
      refine gives_app Tryd.underlying22 infoHb rfl (by decide) _ _ rfl rfl rfl h5 (own_rd h7 (bv_one _)) (by omega) (by omega) (Nat.le_trans hBs hG.size) ?_
      intro v' wy ho hg _
      obtain ⟨q, cc, hv, _⟩ := own_at ho (by omega)
      refine ⟨⟨_, hg.grown, fun i e => ?_⟩, q, cc, hv, by rw [← hv]; exact ho⟩
      obtain ⟨e1, e2⟩ := own_heap h5 i e
      exact ⟨e1, .inr (.inl ⟨rfl, e2⟩)⟩
    -- operation 9: Op.fieldAddr 31 (tmp 4) 1
    refine ⟨fun r wx hG hs hq hf => ?_, ?_⟩
    · have e4 : r 4 = .pointer (some ⟨g, 0, none⟩) := hs 4 rfl
      refine (if_pos rfl).symm ▸ ?_
      clear hs hq hf
      unfold gives
      go_simp
      exact ⟨kP_refl _ _ _, rfl⟩
    -- operation 10: Op.load 22 (tmp 27)
    refine ⟨fun r wx hG hs hq hf => ?_, ?_⟩
    · have h9 : r 27 = .pointer (some ⟨g, 1, none⟩) := hf.1
      refine (if_pos rfl).symm ▸ ?_
      clear hs hq hf
      unfold gives
      have hc1 := (hG.cell (p := ⟨g, 1, none⟩) (show g < B by omega)).trans HC.out.2
      go_simp
      exact ⟨kP_refl _ _ _, rfl⟩
    -- operation 11: Op.call ( callee := Callee.builtin Builtin.len, args := #[tmp 28], argTypes := #[22] )
    refine ⟨fun r wx hG hs hq hf => ?_, ?_⟩
    · have h10 : r 28 = .slice a m c := hf.1
      refine (if_pos rfl).symm ▸ ?_
      clear hs hq hf
      unfold gives
      go_simp
      exact ⟨kP_refl _ _ _, rfl⟩
    -- operation 12: Op.slice 22 (tmp 26) none (some (tmp 29)) none
    refine ⟨fun r wx hG hs hq hf => ?_, ?_⟩
    · have h8 : ∃ q cc, (r 26) = .slice (some ⟨q, 0, none⟩) (m + 1) cc ∧ wx.ownsRow B 33 32 (.slice (some ⟨q, 0, none⟩) (m + 1) cc) (m + 1) (fl ++ bv h9) := hf.1
      have h11 : r 29 = .int .i64 m := hf.2.1
      refine (if_pos rfl).symm ▸ ?_
      clear hs hq hf
      unfold gives
      obtain ⟨q, cc, hv, ho⟩ := h8
      have hcap := own_cap ho
      have z0 : (0 : Int) ≤ (m : Int) := by omega
      have z1 : (m : Int) ≤ (cc : Int) := by omega
      go_simp
      exact ⟨kP_refl _ _ _, q, cc, rfl, ho⟩
    -- operation 13: Op.build 31 #[(0, tmp 19), (1, tmp 30)]
    refine ⟨fun r wx hG hs hq hf => ?_, ?_⟩
    · have h1 : r 19 = .int .u64 sz := hf.1
      have h12 : ∃ q cc, (r 30) = .slice (some ⟨q, 0, none⟩) m cc ∧ wx.ownsRow B 33 32 (.slice (some ⟨q, 0, none⟩) (m + 1) cc) (m + 1) (fl ++ bv h9) := hf.2.1
      refine (if_pos rfl).symm ▸ ?_
      clear hs hq hf
      unfold gives
      obtain ⟨q, cc, hv, ho⟩ := h12
      go_simp
      exact ⟨kP_refl _ _ _, q, cc, rfl, ho⟩
    -- operation 14: Op.alloc 31
    refine ⟨fun r wx hG hs hq hf => ?_, ?_⟩
    · refine (if_pos rfl).symm ▸ ?_
      clear hs hq hf
      unfold gives
      go_simp
      exact ⟨kP_of ((Below.refl _ _).alloc (Nat.le_refl _) _), _, rfl, Nat.le_trans hBs hG.size, heap_alloc_new _ _⟩
    -- operation 15: Op.store 31 (tmp 7) (tmp 31)
    refine ⟨fun r wx hG hs hq hf => ?_, ?_⟩
    · have h14 : ∃ p, (r 7) = .pointer (some ⟨p, 0, none⟩) ∧ B ≤ p ∧ wx.heap[p]? = some (.cells #[.int .u64 0, .slice none 0 0] 31 (0, 0)) := hf.1
      have h13 : ∃ q cc, (r 31) = .agg #[.int .u64 sz, .slice (some ⟨q, 0, none⟩) m cc] ∧ wx.ownsRow B 33 32 (.slice (some ⟨q, 0, none⟩) (m + 1) cc) (m + 1) (fl ++ bv h9) := hf.2.1
      have h8 : ∃ q cc, (r 26) = .slice (some ⟨q, 0, none⟩) (m + 1) cc ∧ wx.ownsRow B 33 32 (.slice (some ⟨q, 0, none⟩) (m + 1) cc) (m + 1) (fl ++ bv h9) := hf.2.2.1
      refine (if_pos rfl).symm ▸ ?_
      clear hs hq hf
      unfold gives
      obtain ⟨q, cc, hv, ho⟩ := h13
      obtain ⟨p, hp, hBp, hrow⟩ := h14
      refine gives_store_row 31 _ _ rfl p [.int .u64 sz, .slice (some ⟨q, 0, none⟩) m cc] hp hv [.int .u64 0, .slice none 0 0] 31 hrow infoR2 rfl (by intro u hu; simp only [List.mem_cons, List.not_mem_nil, or_false] at hu; rcases hu with rfl | rfl <;> rfl) ?_
      intro wy h1 h2
      refine ⟨⟨_, h2, fun i e => ?_⟩, p, q, cc, hp, hBp, h1, ho.kept h2 (own_not_row ho hrow (by decide))⟩
      obtain rfl : p = i := by simpa using e
      exact ⟨hBp, .inr (.inr ⟨rfl, _, _, hrow⟩)⟩
    exact trivial
  case hend =>
    intro u wz hG hfin
    have z15 : ∃ p q cc, (u 14) = .pointer (some ⟨p, 0, none⟩) ∧ B ≤ p ∧ wz.heap[p]? = some (.cells #[.int .u64 sz, .slice (some ⟨q, 0, none⟩) m cc] 31 (0, 0)) ∧ wz.ownsRow B 33 32 (.slice (some ⟨q, 0, none⟩) (m + 1) cc) (m + 1) (fl ++ bv h9) := hfin 15 (by decide) (by kernel_rfl)
    clear hfin
    simp only [fill]
    obtain ⟨p, q, cc, hz14, hBp, hrowp, ho⟩ := z15
    rw [hz14]
    go_simp
    have hcap := own_cap ho
    have hfl : fl.length = m * 32 := by have := ho.1; rw [List.length_append, bv_length, H9.out] at this; omega
    have hrq : Rd wz 32 (.slice (some ⟨q, 0, none⟩) m cc) m fl := by
      have := own_short ho m (by omega)
      rw [List.take_left' hfl] at this
      exact own_rd this (fun u hu => by rw [HP.out.2.2.2.1] at hu; exact flat_one32 _ u hu)
    have hrg9 : wz.rangeAt q (m * 32) (bv h9) := fun j u hu => by
      have hj := (List.getElem?_eq_some_iff.1 hu).1
      rw [bv_length, H9.out] at hj
      have h1 := ho.cellAt (m * 32 + j) (by omega)
      rw [h1, List.getElem?_append_right (by omega), hfl, Nat.add_sub_cancel_left]
      exact hu
    have hLZ : LZ g p q sz m c cc a fl hx w wz := ⟨hrowp, (hG.block g (by omega)).trans HRW.out.1, (hG.block (g + 1) (by omega)).trans HRW.out.2.1, HRD.out wz hG, hrq, hrg9, by have := HRW.out.2.2.trans (hG.mono (by omega)); exact this⟩
    have HCC := Lib.hid (show m + 1 ≤ cc from hcap)
    have HQB := Lib.hid hBp
    have HL := Lib.hid hLZ
    clear hLZ hrq hrg9 hfl hrowp ho hG hcap hBp HRW HRD HC HR H0
    have hgw : g ≤ w.heap.size := by rw [HG.out]; exact Nat.le_refl _
    have hTz := HT.out.1.keepB (show Below w.heap.size w wz by have := HL.out.bel; rwa [HG.out] at this)
    have hDz := HT.out.2.1.keepB (show Below w.heap.size w wz by have := HL.out.bel; rwa [HG.out] at this)
    have hpl := push_len n sz ps hx PR HP.out.1 HT.out.2.2 HX.out (by rw [← HP.out.2.2.2.2]; omega)
    have HPL := Lib.hid hpl
    have HTz := Lib.hid (And.intro hTz hDz)
    have hPu := fun (a' : Option Addr) (c' : Nat) (wx : World) (hr' : Rd wx 32 (.slice a' m c') m fl) (h : Below wz.heap.size wz wx) => by
      have := Push_any n sz a' c' ps hx wx PR HP.out.1 HN.out hs HT.out.2.2 (by rw [← HP.out.2.2.2.2]; omega) HX.out (by rw [← HP.out.2.2.2.2, ← HP.out.2.2.2.1]; exact hr') (HTz.out.1.toTabs.keepB h) (HTz.out.2.keepB h)
      rw [← HP.out.2.2.2.2] at this
      exact this
    have hRp := fun (a' : Option Addr) (c' : Nat) (wx : World) (hr' : Rd wx 32 (.slice a' m c') m fl) (h : Below wz.heap.size wz wx) => by
      have := refPush_any n sz a' c' ps hx wx PR HP.out.1 HN.out hs HT.out.2.2 (by rw [← HP.out.2.2.2.2]; omega) HX.out (by rw [← HP.out.2.2.2.2, ← HP.out.2.2.2.1]; exact hr') (HTz.out.1.keepB h)
      rw [← HP.out.2.2.2.2] at this
      exact this
    have hPk := fun (a' : Option Addr) (c' : Nat) (wx : World) (hr' : Rd wx 32 (.slice a' m c') m fl) (h : Below wz.heap.size wz wx) => by
      have := Peak_any n sz (.slice a' m c') ps wx HN.out hs HT.out.2.2 (by rw [← HP.out.2.2.2.2]; omega) (by rw [← HP.out.2.2.2.2, ← HP.out.2.2.2.1]; exact hr') (HTz.out.1.toTabs.keepB h)
      rw [HP.out.2.1] at this
      exact this
    have hRk := fun (a' : Option Addr) (c' : Nat) (wx : World) (hr' : Rd wx 32 (.slice a' m c') m fl) (h : Below wz.heap.size wz wx) => by
      have := refPeak_any n sz (.slice a' m c') ps wx HN.out hs HT.out.2.2 (by rw [← HP.out.2.2.2.2]; omega) (by rw [← HP.out.2.2.2.2, ← HP.out.2.2.2.1]; exact hr') (HTz.out.1.keepB h)
      rw [HP.out.2.1] at this
      exact this
    have HPu := Lib.hid hPu
    have HRp := Lib.hid hRp
    have HPk := Lib.hid hPk
    have HRk := Lib.hid hRk
    clear hPu hRp hPk hRk hpl hTz hDz
    have hzr := (zero_of_info (P := Tryd.prog) (t := 31) (v := .agg #[.int .u64 0, .slice none 0 0]) (n := 2) (by kernel_rfl)).1
    have HON := Lib.hid (fun (s : Nat) (x : Option Addr) (l c' : Nat) => show ∀ v ∈ [Value.int .u64 s, Value.slice x l c'], v.oneCell' = true by intro u hu; simp only [List.mem_cons, List.not_mem_nil, or_false] at hu; rcases hu with rfl | rfl <;> rfl)
    -- region 4
    go_wp2_with (first
      | (with_reducible show wpList _ _ _ (⟨some 34, _, _, _, _, _⟩ :: _) _ _; refine wpList_load_row rfl _ _ rfl p rfl _ _ (0, 0) _ HL.out.rowp Tryd.underlying31 rfl infoR3 ?_)
      | (with_reducible show wpList _ _ _ (⟨some 35, _, _, _, _, _⟩ :: _) _ _; refine wpList_load_row rfl _ _ rfl (g + 1) rfl _ _ (0, 0) _ HL.out.box Tryd.underlying33 rfl (hInfo _ HX.out) ?_))
    refine (HPu.out _ _ _ HL.out.rdq (Below.refl _ _)).mono ?_
    rintro e w4 ⟨⟨va, vc, rfl, hrd4⟩, hb4⟩
    have hL4 := HL.out.keep hb4 hgw
    have H4 := Lib.hid (heap_alloc_new w4 (.cells #[.int .u64 0, .slice none 0 0] 31))
    have HL4 := Lib.hid (And.intro hL4 (And.intro hrd4 hb4))
    clear hL4 hrd4 hb4
    go_upto_region 5 with (with_reducible show wpList _ _ _ (⟨none, Op.store _ _ _, _, _, _, _⟩ :: _) _ _; refine wpList_store_whole rfl _ _ _ rfl w4.heap.size [.int .u64 PR.s, .slice va PR.l.length vc] rfl rfl [.int .u64 0, .slice none 0 0] _ H4.out infoR2 rfl (HON.out _ _ _ _) ?_; intro w5 HG5 hg5)
    have k5 : Below w4.heap.size w4 w5 := below_grow ((Below.refl _ _).alloc (Nat.le_refl _) _) hg5 (Nat.le_refl _) (by simp)
    obtain ⟨b8, hb8⟩ : ∃ b, b = w4.heap.size := ⟨_, rfl⟩
    rw [← hb8] at HG5 ⊢
    have HL5 := Lib.hid (And.intro (HL4.out.1.keep k5 hgw) (And.intro (HL4.out.2.1.keep k5) (And.intro HG5.out (HL4.out.2.2.trans (k5.mono HL4.out.2.2.size)))))
    clear k5 hg5 HG5 hb8
    -- region 5
    go_wp2_with (first
      | (with_reducible show wpList _ _ _ (⟨some 41, _, _, _, _, _⟩ :: _) _ _; refine wpList_load_row rfl _ _ rfl g rfl _ _ (0, 0) _ HL5.out.1.rowg Tryd.underlying31 rfl infoR3 ?_)
      | (with_reducible show wpList _ _ _ (⟨some 42, _, _, _, _, _⟩ :: _) _ _; refine wpList_load_row rfl _ _ rfl (g + 1) rfl _ _ (0, 0) _ HL5.out.1.box Tryd.underlying33 rfl (hInfo _ HX.out) ?_))
    refine (HRp.out _ _ _ HL5.out.1.rda HL5.out.2.2.2).mono ?_
    rintro e w6 ⟨⟨vb, vd, rfl, hrd6⟩, hb6⟩
    have hL6 := HL5.out.1.keep hb6 hgw
    have H6 := Lib.hid (heap_alloc_new w6 (.cells #[.int .u64 0, .slice none 0 0] 31))
    have HL6 := Lib.hid (And.intro hL6 (And.intro (HL5.out.2.1.keep hb6) (And.intro ((hb6.block _ (Array.getElem?_eq_some_iff.1 HL5.out.2.2.1).1).trans HL5.out.2.2.1) (And.intro (HL5.out.2.2.2.trans (hb6.mono HL5.out.2.2.2.size)) hrd6))))
    clear hL6 hrd6 hb6
    go_upto_region 6 with (with_reducible show wpList _ _ _ (⟨none, Op.store _ _ _, _, _, _, _⟩ :: _) _ _; refine wpList_store_whole rfl _ _ _ rfl w6.heap.size [.int .u64 PR.s, .slice vb PR.l.length vd] rfl rfl [.int .u64 0, .slice none 0 0] _ H6.out infoR2 rfl (HON.out _ _ _ _) ?_; intro w7 HG7 hg7)
    have k7 : Below w6.heap.size w6 w7 := below_grow ((Below.refl _ _).alloc (Nat.le_refl _) _) hg7 (Nat.le_refl _) (by simp)
    obtain ⟨b10, hb10⟩ : ∃ b, b = w6.heap.size := ⟨_, rfl⟩
    rw [← hb10] at HG7 ⊢
    have HL7 := Lib.hid (And.intro (HL6.out.1.keep k7 hgw) (And.intro (HL6.out.2.1.keep k7) (And.intro ((k7.block _ (Array.getElem?_eq_some_iff.1 HL6.out.2.2.1).1).trans HL6.out.2.2.1) (And.intro (HL6.out.2.2.2.1.trans (k7.mono HL6.out.2.2.2.1.size)) (And.intro (HL6.out.2.2.2.2.keep k7) HG7.out)))))
    clear k7 hg7 HG7 hb10
    -- region 6
    go_wp2_with (with_reducible show wpList _ _ _ (⟨some 48, _, _, _, _, _⟩ :: _) _ _; refine wpList_load_row rfl _ _ rfl p rfl _ _ (0, 0) _ HL7.out.1.rowp Tryd.underlying31 rfl infoR3 ?_)
    refine (HPk.out _ _ _ HL7.out.1.rdq HL7.out.2.2.2.1).mono ?_
    rintro e w6b ⟨rfl, hb6⟩
    have H6b := Lib.hid (heap_alloc_new w6b (.cells (bv (zs 32)).toArray 33))
    have HL6b := Lib.hid (And.intro (HL7.out.1.keep hb6 hgw) (And.intro (HL7.out.2.1.keep hb6) (And.intro ((hb6.block _ (Array.getElem?_eq_some_iff.1 HL7.out.2.2.1).1).trans HL7.out.2.2.1) (And.intro (HL7.out.2.2.2.1.trans (hb6.mono HL7.out.2.2.2.1.size)) (And.intro (HL7.out.2.2.2.2.1.keep hb6) ((hb6.block _ (Array.getElem?_eq_some_iff.1 HL7.out.2.2.2.2.2).1).trans HL7.out.2.2.2.2.2))))))
    have HPH := Lib.hid HP.out.2.2.1
    clear hb6
    go_upto_region 7 with (with_reducible show wpList _ _ _ (⟨none, Op.store _ _ _, _, _, _, _⟩ :: _) _ _; refine wpList_store_whole rfl _ _ _ rfl w6b.heap.size (bv hp) rfl rfl (bv (zs 32)) _ H6b.out (hInfo' _ HPH.out) (by rw [bv_length, bv_length, HPH.out]; simp [zs]) (bv_one _) ?_; intro w7b HG7 hg7)
    have k7 : Below w6b.heap.size w6b w7b := below_grow ((Below.refl _ _).alloc (Nat.le_refl _) _) hg7 (Nat.le_refl _) (by simp)
    obtain ⟨b12, hb12⟩ : ∃ b, b = w6b.heap.size := ⟨_, rfl⟩
    rw [← hb12] at HG7 ⊢
    have HL7b := Lib.hid (And.intro (HL6b.out.1.keep k7 hgw) (And.intro (HL6b.out.2.1.keep k7) (And.intro ((k7.block _ (Array.getElem?_eq_some_iff.1 HL6b.out.2.2.1).1).trans HL6b.out.2.2.1) (And.intro (HL6b.out.2.2.2.1.trans (k7.mono HL6b.out.2.2.2.1.size)) (And.intro (HL6b.out.2.2.2.2.1.keep k7) (And.intro ((k7.block _ (Array.getElem?_eq_some_iff.1 HL6b.out.2.2.2.2.2).1).trans HL6b.out.2.2.2.2.2) HG7.out))))))
    clear k7 hg7 HG7 hb12
    -- region 7
    go_wp2_with (with_reducible show wpList _ _ _ (⟨some 54, _, _, _, _, _⟩ :: _) _ _; refine wpList_load_row rfl _ _ rfl g rfl _ _ (0, 0) _ HL7b.out.1.rowg Tryd.underlying31 rfl infoR3 ?_)
    refine (HRk.out _ _ _ HL7b.out.1.rda HL7b.out.2.2.2.1).mono ?_
    rintro e w6c ⟨rfl, hb6⟩
    have H6c := Lib.hid (heap_alloc_new w6c (.cells (bv (zs 32)).toArray 33))
    have HL6c := Lib.hid (And.intro (HL7b.out.1.keep hb6 hgw) (And.intro (HL7b.out.2.1.keep hb6) (And.intro ((hb6.block _ (Array.getElem?_eq_some_iff.1 HL7b.out.2.2.1).1).trans HL7b.out.2.2.1) (And.intro (HL7b.out.2.2.2.2.1.keep hb6) (And.intro ((hb6.block _ (Array.getElem?_eq_some_iff.1 HL7b.out.2.2.2.2.2.1).1).trans HL7b.out.2.2.2.2.2.1) ((hb6.block _ (Array.getElem?_eq_some_iff.1 HL7b.out.2.2.2.2.2.2).1).trans HL7b.out.2.2.2.2.2.2))))))
    clear hb6
    go_upto_region 8 with (with_reducible show wpList _ _ _ (⟨none, Op.store _ _ _, _, _, _, _⟩ :: _) _ _; refine wpList_store_whole rfl _ _ _ rfl w6c.heap.size (bv hp) rfl rfl (bv (zs 32)) _ H6c.out (hInfo' _ HPH.out) (by rw [bv_length, bv_length, HPH.out]; simp [zs]) (bv_one _) ?_; intro w8 HG7 hg7)
    have k7 : Below w6c.heap.size w6c w8 := below_grow ((Below.refl _ _).alloc (Nat.le_refl _) _) hg7 (Nat.le_refl _) (by simp)
    obtain ⟨b14, hb14⟩ : ∃ b, b = w6c.heap.size := ⟨_, rfl⟩
    rw [← hb14] at HG7 ⊢
    have hLL := HL6c.out.1.keep k7 hgw
    have HG8 := Lib.hid (And.intro hLL.rowp (And.intro hLL.rowg (And.intro ((k7.block _ (Array.getElem?_eq_some_iff.1 HL6c.out.2.2.1).1).trans HL6c.out.2.2.1) (And.intro ((k7.block _ (Array.getElem?_eq_some_iff.1 HL6c.out.2.2.2.2.1).1).trans HL6c.out.2.2.2.2.1) (And.intro ((k7.block _ (Array.getElem?_eq_some_iff.1 HL6c.out.2.2.2.2.2).1).trans HL6c.out.2.2.2.2.2) HG7.out)))))
    have hra := HL6c.out.2.1.keep k7
    have hrb := HL6c.out.2.2.2.1.keep k7
    have hri := fun (a' : Option Addr) (c' : Nat) wx => Right_any sz a' m c' wx hs (by omega)
    have hrj := fun (a' : Option Addr) (c' : Nat) wx => refRight_any sz a' m c' wx hs (by omega)
    obtain ⟨bR, hbR⟩ : ∃ b, b = decide (m = pop 64 sz) := ⟨_, rfl⟩
    rw [← hbR] at hri hrj
    have HRI := Lib.hid hri
    have HRJ := Lib.hid hrj
    have HS1 := Lib.hid (fun wx (h : Below w8.heap.size w8 wx) => Same_any PR.s PR.l _ _ wx HPL.out.1 (by have := HPL.out.2; omega) (hra.keep h) (hrb.keep h))
    have hs2 := fun wx (h : Below w8.heap.size w8 wx) => by
      have := Same_any sz ps (.slice (some ⟨q, 0, none⟩) m cc) (.slice a m c) wx HT.out.2.2 (by rw [← HP.out.2.2.2.2]; omega) (by rw [← HP.out.2.2.2.2, ← HP.out.2.2.2.1]; exact hLL.rdq.keep h) (by rw [← HP.out.2.2.2.2, ← HP.out.2.2.2.1]; exact hLL.rda.keep h)
      exact this
    have HS2 := Lib.hid hs2
    have HQP := Lib.hid (fun w => eqIn_hash hp hp HPH.out HPH.out w)
    have HQ9 := Lib.hid (fun w => eqIn_hash h9 h9 H9.out H9.out w)
    have HRG := Lib.hid (fun wx (h : Below w8.heap.size w8 wx) => show wx.rangeAt q (m * 32) (bv h9) from fun j u hu => (h.cell (World.block_lt_of_cell? w8 _ (hLL.nine j u hu))).trans (hLL.nine j u hu))
    have HCP := Lib.hid (fun wx (h : Below w8.heap.size w8 wx) => show wx.cell? ⟨p, 1, none⟩ = some (.slice (some ⟨q, 0, none⟩) m cc) by rw [cell_of_row _ _ _ _ _ _ ((h.block p (Array.getElem?_eq_some_iff.1 hLL.rowp).1).trans hLL.rowp)]; rfl)
    have HCG := Lib.hid (fun wx (h : Below w8.heap.size w8 wx) => show wx.cell? ⟨g, 1, none⟩ = some (.slice a m c) by rw [cell_of_row _ _ _ _ _ _ ((h.block g (Array.getElem?_eq_some_iff.1 hLL.rowg).1).trans hLL.rowg)]; rfl)
    have HBW := Lib.hid hLL.bel
    clear hLL hra hrb hri hrj hbR hs2 k7 hg7 HG7 hb14 HL6c H6c HL7b H6b HL6b HL7 H6 HL6 HL5 H4 HL4 HL HPu HRp HPk HRk hzr
    refine wp_region_steps [some 58, some 59, some 60, some 61, some 62, some 63, some 64, some 65, some 66, some 67, some 68, some 69, some 70, some 71, some 72, some 73, some 74, some 75, some 76, some 77, some 78, some 79, some 80, some 81, some 82, some 83, some 84, some 85, some 86, some 87, some 88, some 89, some 90, some 91, some 92, some 93, some 94, some 95, some 96, some 97, some 98, some 99, some 100, some 101, some 102, some 103, some 6] [] (lp8F g p q sz m c cc a bR b8 b10 b12 b14 PR va vb vc vd ep hp) (fun _ wx wy => Below wx.heap.size wx wy) (fun wx => Below w8.heap.size w8 wx) (by kernel_rfl) (by kernel_rfl) rfl (by kernel_rfl) (Below.refl _ _).drew (fun _ wx => Below.refl _ _) (fun _ wx wy h k => h.trans (k.mono h.size)) ?hF ?hstep ?hend
    case hF =>
      exact ⟨fun _ _ _ _ _ _ h => h, ⟨fun _ _ _ _ _ _ h => h, ⟨fun _ _ _ _ _ _ h => h, ⟨fun _ _ _ _ _ _ h => h, ⟨fun _ _ _ _ _ _ h => h, ⟨fun _ _ _ _ _ _ h => h, ⟨fun _ _ _ _ _ _ h => h, ⟨fun _ _ _ _ _ _ h => h, ⟨fun _ _ _ _ _ _ h => h, ⟨fun _ _ _ _ _ _ h => h, ⟨fun _ _ _ _ _ _ h => h, ⟨fun _ _ _ _ _ _ h => h, ⟨fun _ _ _ _ _ _ h => h, ⟨fun _ _ _ _ _ _ h => h, ⟨fun _ _ _ _ _ _ h => h, ⟨fun _ _ _ _ _ _ h => h, ⟨fun _ _ _ _ _ _ h => h, ⟨fun _ _ _ _ _ _ h => h, ⟨fun _ _ _ _ _ _ h => h, ⟨fun _ _ _ _ _ _ h => h, ⟨fun _ _ _ _ _ _ h => h, ⟨fun _ _ _ _ _ _ h => h, ⟨fun _ _ _ _ _ _ h => h, ⟨fun _ _ _ _ _ _ h => h, ⟨fun _ _ _ _ _ _ h => h, ⟨fun _ _ _ _ _ _ h => h, ⟨fun _ _ _ _ _ _ h => h, ⟨fun _ _ _ _ _ _ h => h, ⟨fun _ _ _ _ _ _ h => h, ⟨fun _ _ _ _ _ _ h => h, ⟨fun _ _ _ _ _ _ h => h, ⟨fun _ _ _ _ _ _ h => h, ⟨fun _ _ _ _ _ _ h => h, ⟨fun _ _ _ _ _ _ h => h, ⟨fun _ _ _ _ _ _ h => h, ⟨fun _ _ _ _ _ _ h => h, ⟨fun _ _ _ _ _ _ h => h, ⟨fun _ _ _ _ _ _ h => h, ⟨fun _ _ _ _ _ _ h => h, ⟨fun _ _ _ _ _ _ h => h, ⟨fun _ _ _ _ _ _ h => h, ⟨fun _ _ _ _ _ _ h => h, ⟨fun _ _ _ _ _ _ h => h, ⟨fun _ _ _ _ _ _ h => h, ⟨fun _ _ _ _ _ _ h => h, ⟨fun _ _ _ _ _ _ h => h, ⟨fun _ _ _ _ _ _ h => h, trivial⟩⟩⟩⟩⟩⟩⟩⟩⟩⟩⟩⟩⟩⟩⟩⟩⟩⟩⟩⟩⟩⟩⟩⟩⟩⟩⟩⟩⟩⟩⟩⟩⟩⟩⟩⟩⟩⟩⟩⟩⟩⟩⟩⟩⟩⟩⟩
    case hstep =>
      -- operation 0: Op.load 31 (tmp 7)
      refine ⟨fun r wx hG hs hq hf => ?_, ?_⟩
      · have e7 : r 7 = .pointer (some ⟨p, 0, none⟩) := hs 7 rfl
        refine (if_pos rfl).symm ▸ ?_
        clear hs hq hf
        unfold gives
        have hgr := HG8.out.1
        refine gives_load_row 31 _ rfl p e7 31 _ (0, 0) _ ((hG.block p (Array.getElem?_eq_some_iff.1 hgr).1).trans hgr) Tryd.underlying31 rfl infoR3 ?_
        exact ⟨Below.refl _ _, rfl⟩
      -- operation 1: Op.call ( callee := Callee.value (func 24), args := #[tmp 58], argTypes := #[31] )
      refine ⟨fun r wx hG hs hq hf => ?_, ?_⟩
      · have h0 : r 58 = .agg #[.int .u64 sz, .slice (some ⟨q, 0, none⟩) m cc] := hf.1
        refine (if_pos rfl).symm ▸ ?_
        clear hs hq hf
        unfold gives
        go_simp
        refine (HRI.out _ _ wx).mono ?_
        rintro e wy ⟨rfl, hb1⟩
        exact ⟨_, rfl, hb1, rfl⟩
      -- operation 2: Op.load 31 (tmp 4)
      refine ⟨fun r wx hG hs hq hf => ?_, ?_⟩
      · have e4 : r 4 = .pointer (some ⟨g, 0, none⟩) := hs 4 rfl
        refine (if_pos rfl).symm ▸ ?_
        clear hs hq hf
        unfold gives
        have hgr := HG8.out.2.1
        refine gives_load_row 31 _ rfl g e4 31 _ (0, 0) _ ((hG.block g (Array.getElem?_eq_some_iff.1 hgr).1).trans hgr) Tryd.underlying31 rfl infoR3 ?_
        exact ⟨Below.refl _ _, rfl⟩
      -- operation 3: Op.call ( callee := Callee.value (func 25), args := #[tmp 60], argTypes := #[31] )
      refine ⟨fun r wx hG hs hq hf => ?_, ?_⟩
      · have h2 : r 60 = .agg #[.int .u64 sz, .slice a m c] := hf.1
        refine (if_pos rfl).symm ▸ ?_
        clear hs hq hf
        unfold gives
        go_simp
        refine (HRJ.out _ _ wx).mono ?_
        rintro e wy ⟨rfl, hb1⟩
        exact ⟨_, rfl, hb1, rfl⟩
      -- operation 4: Op.binOp BinOp.eql 4 (tmp 59) (tmp 61) 4
      refine ⟨fun r wx hG hs hq hf => ?_, ?_⟩
      · have h1 : r 59 = .bool bR := hf.1
        have h3 : r 61 = .bool bR := hf.2.1
        refine (if_pos rfl).symm ▸ ?_
        clear hs hq hf
        unfold gives
        go_simp
        exact ⟨Below.refl _ _, rfl⟩
      -- operation 5: Op.move (tmp 62)
      refine ⟨fun r wx hG hs hq hf => ?_, ?_⟩
      · have h4 : r 62 = .bool true := hf.1
        refine (if_pos rfl).symm ▸ ?_
        clear hs hq hf
        unfold gives
        go_simp
        exact ⟨Below.refl _ _, rfl⟩
      -- operation 6: Op.move (tmp 9)
      refine ⟨fun r wx hG hs hq hf => ?_, ?_⟩
      · have e9 : r 9 = .int .i64 PR.e := hs 9 rfl
        have h5 : r 63 = .bool true := hf.1
        have hy : ydD [some 58, some 59, some 60, some 61, some 62, some 63, some 64, some 65, some 66, some 67, some 68, some 69, some 70, some 71, some 72, some 73, some 74, some 75, some 76, some 77, some 78, some 79, some 80, some 81, some 82, some 83, some 84, some 85, some 86, some 87, some 88, some 89, some 90, some 91, some 92, some 93, some 94, some 95, some 96, some 97, some 98, some 99, some 100, some 101, some 102, some 103, some 6] r 5 = some true := by show (match r 63 with | .bool b => some b | _ => none) = some true; rw [h5]
        simp only [Region.wanted, hy, beq_self_eq_true, if_true]
        clear hs hq hf hy
        unfold gives
        go_simp
        exact ⟨Below.refl _ _, rfl⟩
      -- operation 7: Op.move (tmp 11)
      refine ⟨fun r wx hG hs hq hf => ?_, ?_⟩
      · have e11 : r 11 = .int .i64 PR.e := hs 11 rfl
        have h5 : r 63 = .bool true := hf.1
        have hy : ydD [some 58, some 59, some 60, some 61, some 62, some 63, some 64, some 65, some 66, some 67, some 68, some 69, some 70, some 71, some 72, some 73, some 74, some 75, some 76, some 77, some 78, some 79, some 80, some 81, some 82, some 83, some 84, some 85, some 86, some 87, some 88, some 89, some 90, some 91, some 92, some 93, some 94, some 95, some 96, some 97, some 98, some 99, some 100, some 101, some 102, some 103, some 6] r 5 = some true := by show (match r 63 with | .bool b => some b | _ => none) = some true; rw [h5]
        simp only [Region.wanted, hy, beq_self_eq_true, if_true]
        clear hs hq hf hy
        unfold gives
        go_simp
        exact ⟨Below.refl _ _, rfl⟩
      -- operation 8: Op.binOp BinOp.eql 24 (tmp 64) (tmp 65) 24
      refine ⟨fun r wx hG hs hq hf => ?_, ?_⟩
      · have h6 : r 64 = .int .i64 PR.e := hf.1
        have h7 : r 65 = .int .i64 PR.e := hf.2.1
        have h5 : r 63 = .bool true := hf.2.2.1
        have hy : ydD [some 58, some 59, some 60, some 61, some 62, some 63, some 64, some 65, some 66, some 67, some 68, some 69, some 70, some 71, some 72, some 73, some 74, some 75, some 76, some 77, some 78, some 79, some 80, some 81, some 82, some 83, some 84, some 85, some 86, some 87, some 88, some 89, some 90, some 91, some 92, some 93, some 94, some 95, some 96, some 97, some 98, some 99, some 100, some 101, some 102, some 103, some 6] r 5 = some true := by show (match r 63 with | .bool b => some b | _ => none) = some true; rw [h5]
        simp only [Region.wanted, hy, beq_self_eq_true, if_true]
        clear hs hq hf hy
        unfold gives
        go_simp
        exact ⟨Below.refl _ _, rfl⟩
      -- operation 9: Op.pick (tmp 63) (tmp 66) (const (Value.bool false))
      refine ⟨fun r wx hG hs hq hf => ?_, ?_⟩
      · have h5 : r 63 = .bool true := hf.1
        have h8 : r 66 = .bool true := hf.2.1
        refine (if_pos rfl).symm ▸ ?_
        clear hs hq hf
        unfold gives
        go_simp
        exact ⟨Below.refl _ _, rfl⟩
      -- operation 10: Op.move (tmp 67)
      refine ⟨fun r wx hG hs hq hf => ?_, ?_⟩
      · have h9 : r 67 = .bool true := hf.1
        refine (if_pos rfl).symm ▸ ?_
        clear hs hq hf
        unfold gives
        go_simp
        exact ⟨Below.refl _ _, rfl⟩
      -- operation 11: Op.load 31 (tmp 8)
      refine ⟨fun r wx hG hs hq hf => ?_, ?_⟩
      · have e8 : r 8 = .pointer (some ⟨b8, 0, none⟩) := hs 8 rfl
        have h10 : r 68 = .bool true := hf.1
        have hy : ydD [some 58, some 59, some 60, some 61, some 62, some 63, some 64, some 65, some 66, some 67, some 68, some 69, some 70, some 71, some 72, some 73, some 74, some 75, some 76, some 77, some 78, some 79, some 80, some 81, some 82, some 83, some 84, some 85, some 86, some 87, some 88, some 89, some 90, some 91, some 92, some 93, some 94, some 95, some 96, some 97, some 98, some 99, some 100, some 101, some 102, some 103, some 6] r 10 = some true := by show (match r 68 with | .bool b => some b | _ => none) = some true; rw [h10]
        simp only [Region.wanted, hy, beq_self_eq_true, if_true]
        clear hs hq hf hy
        unfold gives
        have hgr := HG8.out.2.2.1
        refine gives_load_row 31 _ rfl b8 e8 31 _ (0, 0) _ ((hG.block b8 (Array.getElem?_eq_some_iff.1 hgr).1).trans hgr) Tryd.underlying31 rfl infoR3 ?_
        exact ⟨Below.refl _ _, rfl⟩
      -- operation 12: Op.load 31 (tmp 10)
      refine ⟨fun r wx hG hs hq hf => ?_, ?_⟩
      · have e10 : r 10 = .pointer (some ⟨b10, 0, none⟩) := hs 10 rfl
        have h10 : r 68 = .bool true := hf.1
        have hy : ydD [some 58, some 59, some 60, some 61, some 62, some 63, some 64, some 65, some 66, some 67, some 68, some 69, some 70, some 71, some 72, some 73, some 74, some 75, some 76, some 77, some 78, some 79, some 80, some 81, some 82, some 83, some 84, some 85, some 86, some 87, some 88, some 89, some 90, some 91, some 92, some 93, some 94, some 95, some 96, some 97, some 98, some 99, some 100, some 101, some 102, some 103, some 6] r 10 = some true := by show (match r 68 with | .bool b => some b | _ => none) = some true; rw [h10]
        simp only [Region.wanted, hy, beq_self_eq_true, if_true]
        clear hs hq hf hy
        unfold gives
        have hgr := HG8.out.2.2.2.1
        refine gives_load_row 31 _ rfl b10 e10 31 _ (0, 0) _ ((hG.block b10 (Array.getElem?_eq_some_iff.1 hgr).1).trans hgr) Tryd.underlying31 rfl infoR3 ?_
        exact ⟨Below.refl _ _, rfl⟩
      -- operation 13: Op.call ( callee := Callee.value (func 26), args := #[tmp 69, tmp 70], argTypes := #[31, 31] )
      refine ⟨fun r wx hG hs hq hf => ?_, ?_⟩
      · have h11 : r 69 = .agg #[.int .u64 PR.s, .slice va PR.l.length vc] := hf.1
        have h12 : r 70 = .agg #[.int .u64 PR.s, .slice vb PR.l.length vd] := hf.2.1
        have h10 : r 68 = .bool true := hf.2.2.1
        have hy : ydD [some 58, some 59, some 60, some 61, some 62, some 63, some 64, some 65, some 66, some 67, some 68, some 69, some 70, some 71, some 72, some 73, some 74, some 75, some 76, some 77, some 78, some 79, some 80, some 81, some 82, some 83, some 84, some 85, some 86, some 87, some 88, some 89, some 90, some 91, some 92, some 93, some 94, some 95, some 96, some 97, some 98, some 99, some 100, some 101, some 102, some 103, some 6] r 10 = some true := by show (match r 68 with | .bool b => some b | _ => none) = some true; rw [h10]
        simp only [Region.wanted, hy, beq_self_eq_true, if_true]
        clear hs hq hf hy
        unfold gives
        go_simp
        refine (HS1.out wx hG).mono ?_
        rintro e wy ⟨rfl, hb1⟩
        exact ⟨_, rfl, hb1, rfl⟩
      -- operation 14: Op.pick (tmp 68) (tmp 71) (const (Value.bool false))
      refine ⟨fun r wx hG hs hq hf => ?_, ?_⟩
      · have h10 : r 68 = .bool true := hf.1
        have h13 : r 71 = .bool true := hf.2.1
        refine (if_pos rfl).symm ▸ ?_
        clear hs hq hf
        unfold gives
        go_simp
        exact ⟨Below.refl _ _, rfl⟩
      -- operation 15: Op.move (tmp 72)
      refine ⟨fun r wx hG hs hq hf => ?_, ?_⟩
      · have h14 : r 72 = .bool true := hf.1
        refine (if_pos rfl).symm ▸ ?_
        clear hs hq hf
        unfold gives
        go_simp
        exact ⟨Below.refl _ _, rfl⟩
      -- operation 16: Op.load 33 (tmp 12)
      refine ⟨fun r wx hG hs hq hf => ?_, ?_⟩
      · have e12 : r 12 = .pointer (some ⟨b12, 0, none⟩) := hs 12 rfl
        have h15 : r 73 = .bool true := hf.1
        have hy : ydD [some 58, some 59, some 60, some 61, some 62, some 63, some 64, some 65, some 66, some 67, some 68, some 69, some 70, some 71, some 72, some 73, some 74, some 75, some 76, some 77, some 78, some 79, some 80, some 81, some 82, some 83, some 84, some 85, some 86, some 87, some 88, some 89, some 90, some 91, some 92, some 93, some 94, some 95, some 96, some 97, some 98, some 99, some 100, some 101, some 102, some 103, some 6] r 15 = some true := by show (match r 73 with | .bool b => some b | _ => none) = some true; rw [h15]
        simp only [Region.wanted, hy, beq_self_eq_true, if_true]
        clear hs hq hf hy
        unfold gives
        have hgr := HG8.out.2.2.2.2.1
        refine gives_load_row 33 _ rfl b12 e12 33 _ (0, 0) _ ((hG.block b12 (Array.getElem?_eq_some_iff.1 hgr).1).trans hgr) Tryd.underlying33 rfl (hInfo _ HPH.out) ?_
        exact ⟨Below.refl _ _, rfl⟩
      -- operation 17: Op.load 33 (tmp 14)
      refine ⟨fun r wx hG hs hq hf => ?_, ?_⟩
      · have e14 : r 14 = .pointer (some ⟨b14, 0, none⟩) := hs 14 rfl
        have h15 : r 73 = .bool true := hf.1
        have hy : ydD [some 58, some 59, some 60, some 61, some 62, some 63, some 64, some 65, some 66, some 67, some 68, some 69, some 70, some 71, some 72, some 73, some 74, some 75, some 76, some 77, some 78, some 79, some 80, some 81, some 82, some 83, some 84, some 85, some 86, some 87, some 88, some 89, some 90, some 91, some 92, some 93, some 94, some 95, some 96, some 97, some 98, some 99, some 100, some 101, some 102, some 103, some 6] r 15 = some true := by show (match r 73 with | .bool b => some b | _ => none) = some true; rw [h15]
        simp only [Region.wanted, hy, beq_self_eq_true, if_true]
        clear hs hq hf hy
        unfold gives
        have hgr := HG8.out.2.2.2.2.2
        refine gives_load_row 33 _ rfl b14 e14 33 _ (0, 0) _ ((hG.block b14 (Array.getElem?_eq_some_iff.1 hgr).1).trans hgr) Tryd.underlying33 rfl (hInfo _ HPH.out) ?_
        exact ⟨Below.refl _ _, rfl⟩
      -- operation 18: Op.binOp BinOp.eql 33 (tmp 74) (tmp 75) 33
      refine ⟨fun r wx hG hs hq hf => ?_, ?_⟩
      · have h16 : r 74 = .agg (bv hp).toArray := hf.1
        have h17 : r 75 = .agg (bv hp).toArray := hf.2.1
        have h15 : r 73 = .bool true := hf.2.2.1
        have hy : ydD [some 58, some 59, some 60, some 61, some 62, some 63, some 64, some 65, some 66, some 67, some 68, some 69, some 70, some 71, some 72, some 73, some 74, some 75, some 76, some 77, some 78, some 79, some 80, some 81, some 82, some 83, some 84, some 85, some 86, some 87, some 88, some 89, some 90, some 91, some 92, some 93, some 94, some 95, some 96, some 97, some 98, some 99, some 100, some 101, some 102, some 103, some 6] r 15 = some true := by show (match r 73 with | .bool b => some b | _ => none) = some true; rw [h15]
        simp only [Region.wanted, hy, beq_self_eq_true, if_true]
        clear hs hq hf hy
        unfold gives
        have hgd := eq_guard
        have he := HQP.out wx
        go_simp
        exact ⟨Below.refl _ _, rfl⟩
      -- operation 19: Op.pick (tmp 73) (tmp 76) (const (Value.bool false))
      refine ⟨fun r wx hG hs hq hf => ?_, ?_⟩
      · have h15 : r 73 = .bool true := hf.1
        have h18 : r 76 = .bool true := hf.2.1
        refine (if_pos rfl).symm ▸ ?_
        clear hs hq hf
        unfold gives
        go_simp
        exact ⟨Below.refl _ _, rfl⟩
      -- operation 20: Op.move (tmp 77)
      refine ⟨fun r wx hG hs hq hf => ?_, ?_⟩
      · have h19 : r 77 = .bool true := hf.1
        refine (if_pos rfl).symm ▸ ?_
        clear hs hq hf
        unfold gives
        go_simp
        exact ⟨Below.refl _ _, rfl⟩
      -- operation 21: Op.move (tmp 13)
      refine ⟨fun r wx hG hs hq hf => ?_, ?_⟩
      · have e13 : r 13 = .int .i64 ep := hs 13 rfl
        have h20 : r 78 = .bool true := hf.1
        have hy : ydD [some 58, some 59, some 60, some 61, some 62, some 63, some 64, some 65, some 66, some 67, some 68, some 69, some 70, some 71, some 72, some 73, some 74, some 75, some 76, some 77, some 78, some 79, some 80, some 81, some 82, some 83, some 84, some 85, some 86, some 87, some 88, some 89, some 90, some 91, some 92, some 93, some 94, some 95, some 96, some 97, some 98, some 99, some 100, some 101, some 102, some 103, some 6] r 20 = some true := by show (match r 78 with | .bool b => some b | _ => none) = some true; rw [h20]
        simp only [Region.wanted, hy, beq_self_eq_true, if_true]
        clear hs hq hf hy
        unfold gives
        go_simp
        exact ⟨Below.refl _ _, rfl⟩
      -- operation 22: Op.move (tmp 15)
      refine ⟨fun r wx hG hs hq hf => ?_, ?_⟩
      · have e15 : r 15 = .int .i64 ep := hs 15 rfl
        have h20 : r 78 = .bool true := hf.1
        have hy : ydD [some 58, some 59, some 60, some 61, some 62, some 63, some 64, some 65, some 66, some 67, some 68, some 69, some 70, some 71, some 72, some 73, some 74, some 75, some 76, some 77, some 78, some 79, some 80, some 81, some 82, some 83, some 84, some 85, some 86, some 87, some 88, some 89, some 90, some 91, some 92, some 93, some 94, some 95, some 96, some 97, some 98, some 99, some 100, some 101, some 102, some 103, some 6] r 20 = some true := by show (match r 78 with | .bool b => some b | _ => none) = some true; rw [h20]
        simp only [Region.wanted, hy, beq_self_eq_true, if_true]
        clear hs hq hf hy
        unfold gives
        go_simp
        exact ⟨Below.refl _ _, rfl⟩
      -- operation 23: Op.binOp BinOp.eql 24 (tmp 79) (tmp 80) 24
      refine ⟨fun r wx hG hs hq hf => ?_, ?_⟩
      · have h21 : r 79 = .int .i64 ep := hf.1
        have h22 : r 80 = .int .i64 ep := hf.2.1
        have h20 : r 78 = .bool true := hf.2.2.1
        have hy : ydD [some 58, some 59, some 60, some 61, some 62, some 63, some 64, some 65, some 66, some 67, some 68, some 69, some 70, some 71, some 72, some 73, some 74, some 75, some 76, some 77, some 78, some 79, some 80, some 81, some 82, some 83, some 84, some 85, some 86, some 87, some 88, some 89, some 90, some 91, some 92, some 93, some 94, some 95, some 96, some 97, some 98, some 99, some 100, some 101, some 102, some 103, some 6] r 20 = some true := by show (match r 78 with | .bool b => some b | _ => none) = some true; rw [h20]
        simp only [Region.wanted, hy, beq_self_eq_true, if_true]
        clear hs hq hf hy
        unfold gives
        go_simp
        exact ⟨Below.refl _ _, rfl⟩
      -- operation 24: Op.pick (tmp 78) (tmp 81) (const (Value.bool false))
      refine ⟨fun r wx hG hs hq hf => ?_, ?_⟩
      · have h20 : r 78 = .bool true := hf.1
        have h23 : r 81 = .bool true := hf.2.1
        refine (if_pos rfl).symm ▸ ?_
        clear hs hq hf
        unfold gives
        go_simp
        exact ⟨Below.refl _ _, rfl⟩
      -- operation 25: Op.move (tmp 82)
      refine ⟨fun r wx hG hs hq hf => ?_, ?_⟩
      · have h24 : r 82 = .bool true := hf.1
        refine (if_pos rfl).symm ▸ ?_
        clear hs hq hf
        unfold gives
        go_simp
        exact ⟨Below.refl _ _, rfl⟩
      -- operation 26: Op.load 31 (tmp 7)
      refine ⟨fun r wx hG hs hq hf => ?_, ?_⟩
      · have e7 : r 7 = .pointer (some ⟨p, 0, none⟩) := hs 7 rfl
        have h25 : r 83 = .bool true := hf.1
        have hy : ydD [some 58, some 59, some 60, some 61, some 62, some 63, some 64, some 65, some 66, some 67, some 68, some 69, some 70, some 71, some 72, some 73, some 74, some 75, some 76, some 77, some 78, some 79, some 80, some 81, some 82, some 83, some 84, some 85, some 86, some 87, some 88, some 89, some 90, some 91, some 92, some 93, some 94, some 95, some 96, some 97, some 98, some 99, some 100, some 101, some 102, some 103, some 6] r 25 = some true := by show (match r 83 with | .bool b => some b | _ => none) = some true; rw [h25]
        simp only [Region.wanted, hy, beq_self_eq_true, if_true]
        clear hs hq hf hy
        unfold gives
        have hgr := HG8.out.1
        refine gives_load_row 31 _ rfl p e7 31 _ (0, 0) _ ((hG.block p (Array.getElem?_eq_some_iff.1 hgr).1).trans hgr) Tryd.underlying31 rfl infoR3 ?_
        exact ⟨Below.refl _ _, rfl⟩
      -- operation 27: Op.load 31 (tmp 4)
      refine ⟨fun r wx hG hs hq hf => ?_, ?_⟩
      · have e4 : r 4 = .pointer (some ⟨g, 0, none⟩) := hs 4 rfl
        have h25 : r 83 = .bool true := hf.1
        have hy : ydD [some 58, some 59, some 60, some 61, some 62, some 63, some 64, some 65, some 66, some 67, some 68, some 69, some 70, some 71, some 72, some 73, some 74, some 75, some 76, some 77, some 78, some 79, some 80, some 81, some 82, some 83, some 84, some 85, some 86, some 87, some 88, some 89, some 90, some 91, some 92, some 93, some 94, some 95, some 96, some 97, some 98, some 99, some 100, some 101, some 102, some 103, some 6] r 25 = some true := by show (match r 83 with | .bool b => some b | _ => none) = some true; rw [h25]
        simp only [Region.wanted, hy, beq_self_eq_true, if_true]
        clear hs hq hf hy
        unfold gives
        have hgr := HG8.out.2.1
        refine gives_load_row 31 _ rfl g e4 31 _ (0, 0) _ ((hG.block g (Array.getElem?_eq_some_iff.1 hgr).1).trans hgr) Tryd.underlying31 rfl infoR3 ?_
        exact ⟨Below.refl _ _, rfl⟩
      -- operation 28: Op.call ( callee := Callee.value (func 26), args := #[tmp 84, tmp 85], argTypes := #[31, 31] )
      refine ⟨fun r wx hG hs hq hf => ?_, ?_⟩
      · have h26 : r 84 = .agg #[.int .u64 sz, .slice (some ⟨q, 0, none⟩) m cc] := hf.1
        have h27 : r 85 = .agg #[.int .u64 sz, .slice a m c] := hf.2.1
        have h25 : r 83 = .bool true := hf.2.2.1
        have hy : ydD [some 58, some 59, some 60, some 61, some 62, some 63, some 64, some 65, some 66, some 67, some 68, some 69, some 70, some 71, some 72, some 73, some 74, some 75, some 76, some 77, some 78, some 79, some 80, some 81, some 82, some 83, some 84, some 85, some 86, some 87, some 88, some 89, some 90, some 91, some 92, some 93, some 94, some 95, some 96, some 97, some 98, some 99, some 100, some 101, some 102, some 103, some 6] r 25 = some true := by show (match r 83 with | .bool b => some b | _ => none) = some true; rw [h25]
        simp only [Region.wanted, hy, beq_self_eq_true, if_true]
        clear hs hq hf hy
        unfold gives
        go_simp
        refine (HS2.out wx hG).mono ?_
        rintro e wy ⟨rfl, hb1⟩
        exact ⟨_, rfl, hb1, rfl⟩
      -- operation 29: Op.pick (tmp 83) (tmp 86) (const (Value.bool false))
      refine ⟨fun r wx hG hs hq hf => ?_, ?_⟩
      · have h25 : r 83 = .bool true := hf.1
        have h28 : r 86 = .bool true := hf.2.1
        refine (if_pos rfl).symm ▸ ?_
        clear hs hq hf
        unfold gives
        go_simp
        exact ⟨Below.refl _ _, rfl⟩
      -- operation 30: Op.move (tmp 87)
      refine ⟨fun r wx hG hs hq hf => ?_, ?_⟩
      · have h29 : r 87 = .bool true := hf.1
        refine (if_pos rfl).symm ▸ ?_
        clear hs hq hf
        unfold gives
        go_simp
        exact ⟨Below.refl _ _, rfl⟩
      -- operation 31: Op.fieldAddr 31 (tmp 7) 1
      refine ⟨fun r wx hG hs hq hf => ?_, ?_⟩
      · have e7 : r 7 = .pointer (some ⟨p, 0, none⟩) := hs 7 rfl
        have h30 : r 88 = .bool true := hf.1
        have hy : ydD [some 58, some 59, some 60, some 61, some 62, some 63, some 64, some 65, some 66, some 67, some 68, some 69, some 70, some 71, some 72, some 73, some 74, some 75, some 76, some 77, some 78, some 79, some 80, some 81, some 82, some 83, some 84, some 85, some 86, some 87, some 88, some 89, some 90, some 91, some 92, some 93, some 94, some 95, some 96, some 97, some 98, some 99, some 100, some 101, some 102, some 103, some 6] r 30 = some true := by show (match r 88 with | .bool b => some b | _ => none) = some true; rw [h30]
        simp only [Region.wanted, hy, beq_self_eq_true, if_true]
        clear hs hq hf hy
        unfold gives
        go_simp
        exact ⟨Below.refl _ _, rfl⟩
      -- operation 32: Op.load 22 (tmp 89)
      refine ⟨fun r wx hG hs hq hf => ?_, ?_⟩
      · have h31 : r 89 = .pointer (some ⟨p, 1, none⟩) := hf.1
        have h30 : r 88 = .bool true := hf.2.1
        have hy : ydD [some 58, some 59, some 60, some 61, some 62, some 63, some 64, some 65, some 66, some 67, some 68, some 69, some 70, some 71, some 72, some 73, some 74, some 75, some 76, some 77, some 78, some 79, some 80, some 81, some 82, some 83, some 84, some 85, some 86, some 87, some 88, some 89, some 90, some 91, some 92, some 93, some 94, some 95, some 96, some 97, some 98, some 99, some 100, some 101, some 102, some 103, some 6] r 30 = some true := by show (match r 88 with | .bool b => some b | _ => none) = some true; rw [h30]
        simp only [Region.wanted, hy, beq_self_eq_true, if_true]
        clear hs hq hf hy
        unfold gives
        have hc := HCP.out wx hG
        go_simp
        exact ⟨Below.refl _ _, rfl⟩
      -- operation 33: Op.fieldAddr 31 (tmp 4) 1
      refine ⟨fun r wx hG hs hq hf => ?_, ?_⟩
      · have e4 : r 4 = .pointer (some ⟨g, 0, none⟩) := hs 4 rfl
        have h30 : r 88 = .bool true := hf.1
        have hy : ydD [some 58, some 59, some 60, some 61, some 62, some 63, some 64, some 65, some 66, some 67, some 68, some 69, some 70, some 71, some 72, some 73, some 74, some 75, some 76, some 77, some 78, some 79, some 80, some 81, some 82, some 83, some 84, some 85, some 86, some 87, some 88, some 89, some 90, some 91, some 92, some 93, some 94, some 95, some 96, some 97, some 98, some 99, some 100, some 101, some 102, some 103, some 6] r 30 = some true := by show (match r 88 with | .bool b => some b | _ => none) = some true; rw [h30]
        simp only [Region.wanted, hy, beq_self_eq_true, if_true]
        clear hs hq hf hy
        unfold gives
        go_simp
        exact ⟨Below.refl _ _, rfl⟩
      -- operation 34: Op.load 22 (tmp 91)
      refine ⟨fun r wx hG hs hq hf => ?_, ?_⟩
      · have h33 : r 91 = .pointer (some ⟨g, 1, none⟩) := hf.1
        have h30 : r 88 = .bool true := hf.2.1
        have hy : ydD [some 58, some 59, some 60, some 61, some 62, some 63, some 64, some 65, some 66, some 67, some 68, some 69, some 70, some 71, some 72, some 73, some 74, some 75, some 76, some 77, some 78, some 79, some 80, some 81, some 82, some 83, some 84, some 85, some 86, some 87, some 88, some 89, some 90, some 91, some 92, some 93, some 94, some 95, some 96, some 97, some 98, some 99, some 100, some 101, some 102, some 103, some 6] r 30 = some true := by show (match r 88 with | .bool b => some b | _ => none) = some true; rw [h30]
        simp only [Region.wanted, hy, beq_self_eq_true, if_true]
        clear hs hq hf hy
        unfold gives
        have hc := HCG.out wx hG
        go_simp
        exact ⟨Below.refl _ _, rfl⟩
      -- operation 35: Op.call ( callee := Callee.builtin Builtin.len, args := #[tmp 92], argTypes := #[22] )
      refine ⟨fun r wx hG hs hq hf => ?_, ?_⟩
      · have h34 : r 92 = .slice a m c := hf.1
        have h30 : r 88 = .bool true := hf.2.1
        have hy : ydD [some 58, some 59, some 60, some 61, some 62, some 63, some 64, some 65, some 66, some 67, some 68, some 69, some 70, some 71, some 72, some 73, some 74, some 75, some 76, some 77, some 78, some 79, some 80, some 81, some 82, some 83, some 84, some 85, some 86, some 87, some 88, some 89, some 90, some 91, some 92, some 93, some 94, some 95, some 96, some 97, some 98, some 99, some 100, some 101, some 102, some 103, some 6] r 30 = some true := by show (match r 88 with | .bool b => some b | _ => none) = some true; rw [h30]
        simp only [Region.wanted, hy, beq_self_eq_true, if_true]
        clear hs hq hf hy
        unfold gives
        go_simp
        exact ⟨Below.refl _ _, rfl⟩
      -- operation 36: Op.binOp BinOp.add 3 (tmp 93) (const (Value.int IntKind.i64 1)) 3
      refine ⟨fun r wx hG hs hq hf => ?_, ?_⟩
      · have h35 : r 93 = .int .i64 m := hf.1
        have h30 : r 88 = .bool true := hf.2.1
        have hy : ydD [some 58, some 59, some 60, some 61, some 62, some 63, some 64, some 65, some 66, some 67, some 68, some 69, some 70, some 71, some 72, some 73, some 74, some 75, some 76, some 77, some 78, some 79, some 80, some 81, some 82, some 83, some 84, some 85, some 86, some 87, some 88, some 89, some 90, some 91, some 92, some 93, some 94, some 95, some 96, some 97, some 98, some 99, some 100, some 101, some 102, some 103, some 6] r 30 = some true := by show (match r 88 with | .bool b => some b | _ => none) = some true; rw [h30]
        simp only [Region.wanted, hy, beq_self_eq_true, if_true]
        clear hs hq hf hy
        unfold gives
        have zw : IntKind.i64.wrap ((m : Int) + 1) = (m : Int) + 1 := IntWalk.i64_in _ (by omega)
        go_simp
        exact ⟨Below.refl _ _, rfl⟩
      -- operation 37: Op.slice 22 (tmp 90) none (some (tmp 94)) none
      refine ⟨fun r wx hG hs hq hf => ?_, ?_⟩
      · have h32 : r 90 = .slice (some ⟨q, 0, none⟩) m cc := hf.1
        have h36 : r 94 = .int .i64 ((m : Int) + 1) := hf.2.1
        have h30 : r 88 = .bool true := hf.2.2.1
        have hy : ydD [some 58, some 59, some 60, some 61, some 62, some 63, some 64, some 65, some 66, some 67, some 68, some 69, some 70, some 71, some 72, some 73, some 74, some 75, some 76, some 77, some 78, some 79, some 80, some 81, some 82, some 83, some 84, some 85, some 86, some 87, some 88, some 89, some 90, some 91, some 92, some 93, some 94, some 95, some 96, some 97, some 98, some 99, some 100, some 101, some 102, some 103, some 6] r 30 = some true := by show (match r 88 with | .bool b => some b | _ => none) = some true; rw [h30]
        simp only [Region.wanted, hy, beq_self_eq_true, if_true]
        clear hs hq hf hy
        unfold gives
        have z0 : (0 : Int) ≤ (m : Int) + 1 := by omega
        have z1 : (m : Int) + 1 ≤ (cc : Int) := by have := HCC.out; omega
        have z2 : ((m : Int) + 1).toNat = m + 1 := by omega
        go_simp
        exact ⟨Below.refl _ _, rfl⟩
      -- operation 38: Op.fieldAddr 31 (tmp 4) 1
      refine ⟨fun r wx hG hs hq hf => ?_, ?_⟩
      · have e4 : r 4 = .pointer (some ⟨g, 0, none⟩) := hs 4 rfl
        have h30 : r 88 = .bool true := hf.1
        have hy : ydD [some 58, some 59, some 60, some 61, some 62, some 63, some 64, some 65, some 66, some 67, some 68, some 69, some 70, some 71, some 72, some 73, some 74, some 75, some 76, some 77, some 78, some 79, some 80, some 81, some 82, some 83, some 84, some 85, some 86, some 87, some 88, some 89, some 90, some 91, some 92, some 93, some 94, some 95, some 96, some 97, some 98, some 99, some 100, some 101, some 102, some 103, some 6] r 30 = some true := by show (match r 88 with | .bool b => some b | _ => none) = some true; rw [h30]
        simp only [Region.wanted, hy, beq_self_eq_true, if_true]
        clear hs hq hf hy
        unfold gives
        go_simp
        exact ⟨Below.refl _ _, rfl⟩
      -- operation 39: Op.load 22 (tmp 96)
      refine ⟨fun r wx hG hs hq hf => ?_, ?_⟩
      · have h38 : r 96 = .pointer (some ⟨g, 1, none⟩) := hf.1
        have h30 : r 88 = .bool true := hf.2.1
        have hy : ydD [some 58, some 59, some 60, some 61, some 62, some 63, some 64, some 65, some 66, some 67, some 68, some 69, some 70, some 71, some 72, some 73, some 74, some 75, some 76, some 77, some 78, some 79, some 80, some 81, some 82, some 83, some 84, some 85, some 86, some 87, some 88, some 89, some 90, some 91, some 92, some 93, some 94, some 95, some 96, some 97, some 98, some 99, some 100, some 101, some 102, some 103, some 6] r 30 = some true := by show (match r 88 with | .bool b => some b | _ => none) = some true; rw [h30]
        simp only [Region.wanted, hy, beq_self_eq_true, if_true]
        clear hs hq hf hy
        unfold gives
        have hc := HCG.out wx hG
        go_simp
        exact ⟨Below.refl _ _, rfl⟩
      -- operation 40: Op.call ( callee := Callee.builtin Builtin.len, args := #[tmp 97], argTypes := #[22] )
      refine ⟨fun r wx hG hs hq hf => ?_, ?_⟩
      · have h39 : r 97 = .slice a m c := hf.1
        have h30 : r 88 = .bool true := hf.2.1
        have hy : ydD [some 58, some 59, some 60, some 61, some 62, some 63, some 64, some 65, some 66, some 67, some 68, some 69, some 70, some 71, some 72, some 73, some 74, some 75, some 76, some 77, some 78, some 79, some 80, some 81, some 82, some 83, some 84, some 85, some 86, some 87, some 88, some 89, some 90, some 91, some 92, some 93, some 94, some 95, some 96, some 97, some 98, some 99, some 100, some 101, some 102, some 103, some 6] r 30 = some true := by show (match r 88 with | .bool b => some b | _ => none) = some true; rw [h30]
        simp only [Region.wanted, hy, beq_self_eq_true, if_true]
        clear hs hq hf hy
        unfold gives
        go_simp
        exact ⟨Below.refl _ _, rfl⟩
      -- operation 41: Op.indexAddr 22 (tmp 95) (tmp 98)
      refine ⟨fun r wx hG hs hq hf => ?_, ?_⟩
      · have h37 : r 95 = .slice (some ⟨q, 0, none⟩) (m + 1) cc := hf.1
        have h40 : r 98 = .int .i64 m := hf.2.1
        have h30 : r 88 = .bool true := hf.2.2.1
        have hy : ydD [some 58, some 59, some 60, some 61, some 62, some 63, some 64, some 65, some 66, some 67, some 68, some 69, some 70, some 71, some 72, some 73, some 74, some 75, some 76, some 77, some 78, some 79, some 80, some 81, some 82, some 83, some 84, some 85, some 86, some 87, some 88, some 89, some 90, some 91, some 92, some 93, some 94, some 95, some 96, some 97, some 98, some 99, some 100, some 101, some 102, some 103, some 6] r 30 = some true := by show (match r 88 with | .bool b => some b | _ => none) = some true; rw [h30]
        simp only [Region.wanted, hy, beq_self_eq_true, if_true]
        clear hs hq hf hy
        unfold gives
        have z0 : (0 : Int) ≤ (m : Int) := by omega
        have z1 : (m : Int) < (m : Int) + 1 := by omega
        go_simp
        exact ⟨Below.refl _ _, rfl⟩
      -- operation 42: Op.load 33 (tmp 99)
      refine ⟨fun r wx hG hs hq hf => ?_, ?_⟩
      · have h41 : r 99 = .pointer (some ⟨q, m * 32, none⟩) := hf.1
        have h30 : r 88 = .bool true := hf.2.1
        have hy : ydD [some 58, some 59, some 60, some 61, some 62, some 63, some 64, some 65, some 66, some 67, some 68, some 69, some 70, some 71, some 72, some 73, some 74, some 75, some 76, some 77, some 78, some 79, some 80, some 81, some 82, some 83, some 84, some 85, some 86, some 87, some 88, some 89, some 90, some 91, some 92, some 93, some 94, some 95, some 96, some 97, some 98, some 99, some 100, some 101, some 102, some 103, some 6] r 30 = some true := by show (match r 88 with | .bool b => some b | _ => none) = some true; rw [h30]
        simp only [Region.wanted, hy, beq_self_eq_true, if_true]
        clear hs hq hf hy
        unfold gives
        refine gives_load_mid 33 _ rfl q (m * 32) h41 (bv h9) _ (HRG.out wx hG) Tryd.underlying33 rfl (hInfo' _ H9.out) ?_
        exact ⟨Below.refl _ _, rfl⟩
      -- operation 43: Op.build 33 #[(0, const (Value.int IntKind.u8 9))]
      refine ⟨fun r wx hG hs hq hf => ?_, ?_⟩
      · have h30 : r 88 = .bool true := hf.1
        have hy : ydD [some 58, some 59, some 60, some 61, some 62, some 63, some 64, some 65, some 66, some 67, some 68, some 69, some 70, some 71, some 72, some 73, some 74, some 75, some 76, some 77, some 78, some 79, some 80, some 81, some 82, some 83, some 84, some 85, some 86, some 87, some 88, some 89, some 90, some 91, some 92, some 93, some 94, some 95, some 96, some 97, some 98, some 99, some 100, some 101, some 102, some 103, some 6] r 30 = some true := by show (match r 88 with | .bool b => some b | _ => none) = some true; rw [h30]
        simp only [Region.wanted, hy, beq_self_eq_true, if_true]
        clear hs hq hf hy
        unfold gives
        have hz := hz32 wx
        go_simp
        exact ⟨Below.refl _ _, rfl⟩
      -- operation 44: Op.binOp BinOp.eql 33 (tmp 100) (tmp 101) 33
      refine ⟨fun r wx hG hs hq hf => ?_, ?_⟩
      · have h42 : r 100 = .agg (bv h9).toArray := hf.1
        have h43 : r 101 = .agg (bv h9).toArray := hf.2.1
        have h30 : r 88 = .bool true := hf.2.2.1
        have hy : ydD [some 58, some 59, some 60, some 61, some 62, some 63, some 64, some 65, some 66, some 67, some 68, some 69, some 70, some 71, some 72, some 73, some 74, some 75, some 76, some 77, some 78, some 79, some 80, some 81, some 82, some 83, some 84, some 85, some 86, some 87, some 88, some 89, some 90, some 91, some 92, some 93, some 94, some 95, some 96, some 97, some 98, some 99, some 100, some 101, some 102, some 103, some 6] r 30 = some true := by show (match r 88 with | .bool b => some b | _ => none) = some true; rw [h30]
        simp only [Region.wanted, hy, beq_self_eq_true, if_true]
        clear hs hq hf hy
        unfold gives
        have hgd := eq_guard
        have he := HQ9.out wx
        go_simp
        exact ⟨Below.refl _ _, rfl⟩
      -- operation 45: Op.pick (tmp 88) (tmp 102) (const (Value.bool false))
      refine ⟨fun r wx hG hs hq hf => ?_, ?_⟩
      · have h30 : r 88 = .bool true := hf.1
        have h44 : r 102 = .bool true := hf.2.1
        refine (if_pos rfl).symm ▸ ?_
        clear hs hq hf
        unfold gives
        go_simp
        exact ⟨Below.refl _ _, rfl⟩
      -- operation 46: Op.assign (tmp 103)
      refine ⟨fun r wx hG hs hq hf => ?_, ?_⟩
      · have h45 : r 103 = .bool true := hf.1
        refine (if_pos rfl).symm ▸ ?_
        clear hs hq hf
        unfold gives
        go_simp
        exact ⟨Below.refl _ _, rfl⟩
      exact trivial
    case hend =>
      intro u wz hG hfin
      have z46 : u 46 = .bool true := hfin 46 (by decide) (by kernel_rfl)
      clear hfin
      simp only [fill]
      go_simp
      go_wp2_with fail
      go_ret
      exact ⟨rfl, (HBW.out.trans (hG.mono (Nat.le_trans hgw HBW.out.size))).mono (by rw [HG.out]; exact Nat.le_refl _)⟩
end Go.Proofs.YtdjmebfjanophaaDoor
