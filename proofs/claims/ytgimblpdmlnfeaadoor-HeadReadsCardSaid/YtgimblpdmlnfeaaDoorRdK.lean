/- bin.Reader's Num: where lies what is left. (printed by gen/rdk.py) -/
import Derived.Test.YtgimblpdmlnfeaaDoorRdn
import Derived.Laws.NewBlocks
import Derived.Tactics2
namespace Go.Proofs.YtgimblpdmlnfeaaDoor
open Go.RowKit

/-- The one lies in the other's block. -/
def Blk (a a' : Option Addr) : Prop := ∀ x', a' = some x' → ∃ x, a = some x ∧ x.block = x'.block
theorem Blk.trans {a b c : Option Addr} (h : Blk a b) (k : Blk b c) : Blk a c := fun x hx => by
  obtain ⟨y, hy, e⟩ := k x hx
  obtain ⟨z, hz, e2⟩ := h y hy
  exact ⟨z, hz, e2.trans e⟩
theorem one_blk (w : World) (p : Nat) (a : Option Addr) (c : Nat) (no : Int) (x : UInt8) (l : List UInt8) (h : Rdr w p a c no (x :: l)) :
    Calls Tryd.prog 129 #[.pointer (some ⟨p, 0, none⟩)] w fun e w' => ∃ a' c', e = .returned (.int .u8 x.toNat) ∧ Rdr w' p a' c' no l ∧ w.grownBy w' (some p) ∧ Blk a a' := by
  obtain ⟨b, off, rfl⟩ := h.addr
  refine (one_some w p b off c no x l h).mono ?_
  rintro e w' ⟨rfl, rfl⟩
  refine ⟨_, _, rfl, h.next, grown_set1 (World.grownBy.refl _ _) 0 _, fun y hy => ?_⟩
  unfold nxA at hy
  split at hy <;> (simp only [Option.some.injEq] at hy; subst hy; exact ⟨_, rfl, rfl⟩)
/-- What a number's reading comes to. -/
def NumRB (w w' : World) (p : Nat) (a : Option Addr) (no : Int) (R : Int × Nat × List UInt8) (e : Ending) : Prop :=
  w.grownBy w' (some p) ∧ if R.1 = 0 then e = .returned (.int .u64 R.2.1) ∧ ∃ a' c', Rdr w' p a' c' no R.2.2 ∧ Blk a a' else e = .panicked (errP R.1) ∧ ∃ v, w'.heap[p]? = some (.cells #[v, .int .i64 no] 130 (0, 0))
set_option maxHeartbeats 4000000 in
set_option maxRecDepth 100000 in
theorem number_blk (w : World) (p : Nat) (a : Option Addr) (c : Nat) (no : Int) (l : List UInt8) (h : Rdr w p a c no l) :
    Calls Tryd.prog 107 #[.pointer (some ⟨p, 0, none⟩)] w fun e w' => NumRB w w' p a no (rdN l) e := by
  cases l with
  | nil =>
    have h1 := one_none w p a c no h
    have HR := Lib.hid h
    clear h
    go_enter Tryd.func107, Tryd.ntmps107
    go_wp2_with fail
    refine h1.mono ?_
    rintro e w' ⟨rfl, rfl⟩
    exact ⟨rfl, World.grownBy.refl _ _, by rw [if_neg (by decide)]; exact ⟨rfl, _, HR.out.row⟩⟩
  | cons k t =>
    have h1 := one_blk w p a c no k t h
    obtain ⟨R, hR⟩ : ∃ R, R = rdN (k :: t) := ⟨_, rfl⟩
    rw [← hR]
    rw [rdN] at hR
    obtain ⟨K, hK⟩ : ∃ K, K = k.toNat := ⟨_, rfl⟩
    have hK8 : K < 256 := by rw [hK]; exact k.toNat_lt
    rw [← hK] at hR h1
    clear h hK
    go_enter Tryd.func107, Tryd.ntmps107
    go_wp2_with fail
    refine h1.mono ?_
    rintro e w1 ⟨a1, c1, rfl, hr1, hg1, hk1⟩
    have HK1 := Lib.hid hk1
    clear hk1
    by_cases h8 : 8 < K
    · have z1 : (8 : Int) < (K : Int) := by omega
      rw [if_pos h8] at hR
      have HZ := Lib.hid (And.intro hr1 hg1)
      clear hr1 hg1
      go_wp2_with fail
      refine ⟨rfl, HZ.out.2, ?_⟩
      rw [hR, if_neg (by simp)]
      exact ⟨rfl, _, HZ.out.1.row⟩
    · have z1 : ¬ (8 : Int) < (K : Int) := by omega
      rw [if_neg h8] at hR
      have HR := Lib.hid hR
      have HZ := Lib.hid (And.intro hr1 hg1)
      clear hr1 hg1 hR
      go_wp2_with fail
      go_loopw [2, 4, 5, 12] (fun s2 _ _ s12 wr => ∃ (i acc : Nat) (a' : Option Addr) (c' : Nat) (l' : List UInt8), i ≤ K ∧ s12 = .int .u8 i ∧ s2 = .int .u64 acc ∧ acc < 256 ^ i ∧ Rdr wr p a' c' no l' ∧ w.grownBy wr (some p) ∧ R = rdK (K - i) i acc l' ∧ Hid (Blk a a')) (fun _ _ _ s12 _ => K - (intOf s12).toNat)
      case atStart => exact ⟨0, 0, a1, c1, t, by omega, rfl, rfl, by decide, HZ.out.1, HZ.out.2, HR.out, HK1⟩
      case round =>
        obtain ⟨i, acc, a', c', l', hiK, rfl, rfl, hacc, hrd, hg, hRe, HKB⟩ := hrel
        by_cases hlt : i < K
        · have z2 : (i : Int) < (K : Int) := by omega
          obtain ⟨q, hq⟩ : ∃ q, K - i = q + 1 := ⟨K - i - 1, by omega⟩
          rw [hq] at hRe
          cases l' with
          | nil =>
            have h2 := one_none wr p a' c' no hrd
            have H2 := Lib.hid (And.intro hrd (And.intro hg hRe))
            clear hrd hg hRe
            go_wp2_with fail
            refine h2.mono ?_
            rintro e w' ⟨rfl, rfl⟩
            refine ⟨rfl, H2.out.2.1, ?_⟩
            rw [H2.out.2.2]
            exact ⟨rfl, _, H2.out.1.row⟩
          | cons x l2 =>
            have h2 := one_blk wr p a' c' no x l2 hrd
            have H2 := Lib.hid (And.intro hg hRe)
            clear hrd hg hRe
            go_wp2_with fail
            refine h2.mono ?_
            rintro e w3 ⟨a3, c3, rfl, hr3, hg3, hk3⟩
            have HK3 := Lib.hid (Blk.trans HKB.out hk3)
            clear hk3
            have H3 := Lib.hid (And.intro hr3 (grown_trans H2.out.1 hg3 (fun j hj => .inl hj)))
            have hRe := H2.out.2
            rw [rdK] at hRe
            obtain ⟨y, hy⟩ : ∃ y, y = x.toNat := ⟨_, rfl⟩
            have hy8 : y < 256 := by rw [hy]; exact x.toNat_lt
            rw [← hy] at hRe
            by_cases hbad : i = 0 ∧ y = 0
            · obtain ⟨hi0, hy0⟩ := hbad
              have z3 : ((i : Int) == 0) = true := by simp; omega
              have z4 : ((y : Int) == 0) = true := by simp; omega
              rw [if_pos ⟨hi0, hy0⟩] at hRe
              have H4 := Lib.hid hRe
              have HY := Lib.hid hy
              clear hr3 hg3 hRe hy h2
              rw [← HY.out]
              go_wp2_with fail
              refine ⟨rfl, H3.out.2, ?_⟩
              rw [H4.out]
              exact ⟨rfl, _, H3.out.1.row⟩
            · rw [if_neg hbad] at hRe
              have hi7 : i < 8 := by omega
              have hpow : 256 ^ i ≤ 256 ^ 7 := Nat.pow_le_pow_right (by omega) (by omega)
              have e7 : (256 : Nat) ^ 7 = 72057594037927936 := by decide
              have hor := (or_byte acc x).resolve_right (by omega)
              rw [← hy] at hor
              have hacc2 : acc * 256 + y < 256 ^ (i + 1) := by rw [Nat.pow_succ]; omega
              have z5 : IntKind.u64.wrap ((acc : Int) * 256) = ((acc * 256 : Nat) : Int) := (IntWalk.u64_in _ (by omega)).trans (by omega)
              have z6 : IntKind.u64.wrap (y : Int) = (y : Int) := IntWalk.u64_in _ (by omega)
              have z7 : IntKind.u8.wrap ((i : Int) + 1) = ((i + 1 : Nat) : Int) := by rw [IntKind.wrap_u8]; omega
              have H4 := Lib.hid (And.intro hRe hacc2)
              have hacc3 : acc < 72057594037927936 := by omega
              clear hr3 hg3 hRe hacc2 hpow e7
              have z8 : bits .or .u64 ((acc : Int) * 256) (y : Int) = ((acc * 256 + y : Nat) : Int) := by rw [← hor]; simp
              have HY := Lib.hid hy
              have HW7 := Lib.hid z7
              clear hor hy h2 hy8 z5
              have z5 : IntKind.u64.wrap ((acc : Int) * 256) = (acc : Int) * 256 := IntWalk.u64_in _ (by omega)
              rcases Nat.eq_zero_or_pos i with hi0 | hi0
              · have z3 : ((i : Int) == 0) = true := by simp; omega
                have z4 : ((y : Int) == 0) = false := by simp; omega
                rw [← HY.out]
                go_wp2_with fail
                go_roundw
                case rel => exact ⟨i + 1, acc * 256 + y, a3, c3, l2, by omega, by first | rfl | (rw [HW7.out]) | go_num, by first | rfl | (rw [z8]), H4.out.2, H3.out.1, H3.out.2, by rw [show K - (i + 1) = q by omega]; exact H4.out.1, HK3⟩
                case measure =>
                  have z9 : IntKind.u8.wrap ((i : Int) + 1) = (i : Int) + 1 := by rw [IntKind.wrap_u8]; omega
                  simp [intOf]
                  omega
              · have z3 : ((i : Int) == 0) = false := by simp; omega
                rw [← HY.out]
                go_wp2_with fail
                go_roundw
                case rel => exact ⟨i + 1, acc * 256 + y, a3, c3, l2, by omega, by first | rfl | (rw [HW7.out]) | go_num, by first | rfl | (rw [z8]), H4.out.2, H3.out.1, H3.out.2, by rw [show K - (i + 1) = q by omega]; exact H4.out.1, HK3⟩
                case measure =>
                  have z9 : IntKind.u8.wrap ((i : Int) + 1) = (i : Int) + 1 := by rw [IntKind.wrap_u8]; omega
                  simp [intOf]
                  omega
        · have z2 : ¬ (i : Int) < (K : Int) := by omega
          rw [show K - i = 0 by omega, rdK] at hRe
          have H2 := Lib.hid (And.intro hrd (And.intro hg hRe))
          clear hrd hg hRe
          go_wp2_with fail
          go_ret
          refine ⟨H2.out.2.1, ?_⟩
          rw [H2.out.2.2, if_pos rfl]
          exact ⟨rfl, _, _, H2.out.1, HKB.out⟩
/-- What Num hands back, and what it leaves. -/
def NumDB (w w' : World) (p : Nat) (a : Option Addr) (c : Nat) (no : Int) (l : List UInt8) (e : Ending) : Prop :=
  w.grownBy w' (some p) ∧ if no = 0 then
    (if (rdN l).1 = 0 then e = .returned (.tuple #[.int .u64 (rdN l).2.1, .int .i64 0]) ∧ ∃ a' c', Rdr w' p a' c' 0 (rdN l).2.2 ∧ Blk a a' else e = .returned (.tuple #[.int .u64 0, .int .i64 (rdN l).1]) ∧ Rdr w' p a c (rdN l).1 l)
    else e = .returned (.tuple #[.int .u64 0, .int .i64 no]) ∧ Rdr w' p a c no l
set_option maxHeartbeats 4000000 in
theorem RNum_blk (w : World) (p : Nat) (a : Option Addr) (c : Nat) (no : Int) (l : List UInt8) (h : Rdr w p a c no l) :
    Calls Tryd.prog 60 #[.pointer (some ⟨p, 0, none⟩)] w fun e w' => NumDB w w' p a c no l e := by
  have hmf : ∀ (fn : Fn) (first cap : Array Value) (w : World), (Instr.makeFunc fn first cap).run Tryd.prog w = .ok (.func fn first cap) w := fun _ _ _ _ => rfl
  have hpl := (Array.getElem?_eq_some_iff.1 h.row).1
  have h0 : w.cell? ⟨p, 0, none⟩ = some (.slice a l.length c) := by simp [World.cell?, h.row]
  obtain ⟨n, hn⟩ : ∃ n, n = l.length := ⟨_, rfl⟩
  rw [← hn] at h0
  have HR := Lib.hid (And.intro h hn)
  clear h hn
  go_enter_defers Tryd.func60, Tryd.ntmps60
  go_wp2_with fail
  obtain ⟨w1, hw1⟩ : ∃ x : World, x = (((w.alloc (Obj.cells #[Value.pointer (some { block := p, off := 0 })] 86)).alloc (Obj.cells #[Value.int IntKind.i64 0] 28)).alloc (Obj.cells #[Value.slice a n c] 25)) := ⟨_, rfl⟩
  have hB : Below w.heap.size w w1 := by rw [hw1]; exact (((Below.refl _ _).alloc (Nat.le_refl _) _).alloc (by simp) _).alloc (by simp; omega) _
  have r1 : w1.heap[w.heap.size]? = some (.cells #[Value.pointer (some { block := p, off := 0 })] 86 (0, 0)) := by
    rw [hw1, heap_alloc_old _ _ (by simp; omega), heap_alloc_old _ _ (by simp)]; exact heap_alloc_new _ _
  have r3 : w1.heap[w.heap.size + 1]? = some (.cells #[Value.int IntKind.i64 0] 28 (0, 0)) := by
    rw [hw1, heap_alloc_old _ _ (by simp)]
    have := heap_alloc_new (w.alloc (Obj.cells #[Value.pointer (some { block := p, off := 0 })] 86)) (Obj.cells #[Value.int IntKind.i64 0] 28)
    simpa using this
  have r4 : w1.heap[w.heap.size + 1 + 1]? = some (.cells #[Value.slice a n c] 25 (0, 0)) := by
    rw [hw1]
    have := heap_alloc_new ((w.alloc (Obj.cells #[Value.pointer (some { block := p, off := 0 })] 86)).alloc (Obj.cells #[Value.int IntKind.i64 0] 28)) (Obj.cells #[Value.slice a n c] 25)
    simpa using this
  rw [← hw1]
  have hrd : Rdr w1 p a c no l := HR.out.1.below hB
  have hst := start_any w1 p a c no l hrd
  have H1 := Lib.hid (And.intro hB (And.intro r1 (And.intro r3 (And.intro r4 hrd))))
  clear hw1 hB r1 r3 r4 hrd h0
  have hl1 : p < w.heap.size := hpl
  by_cases hno : no = 0
  · subst hno
    refine hst.mono ?_
    rintro e wz ⟨rfl, rfl⟩
    rw [if_pos rfl]
    have hnu := number_blk wz p a c 0 l H1.out.2.2.2.2
    have h1c : wz.cell? ⟨w.heap.size, 0, none⟩ = some (.pointer (some ⟨p, 0, none⟩)) := cell_of_row H1.out.2.1 rfl
    obtain ⟨R, hR⟩ : ∃ R, R = rdN l := ⟨_, rfl⟩
    rw [← hR] at hnu
    have HRR := Lib.hid hR
    clear hR
    go_wp2_with fail
    refine hnu.mono ?_
    rintro e w2 ⟨hg2, hres⟩
    have hszw := H1.out.1.size
    have hsz2 := hg2.size
    have q1 : w2.heap[w.heap.size]? = some (.cells #[Value.pointer (some { block := p, off := 0 })] 86 (0, 0)) := (hg2.block _ (Array.getElem?_eq_some_iff.1 H1.out.2.1).1 (by simp; omega)).trans H1.out.2.1
    have q3 : w2.heap[w.heap.size + 1]? = some (.cells #[Value.int IntKind.i64 0] 28 (0, 0)) := (hg2.block _ (Array.getElem?_eq_some_iff.1 H1.out.2.2.1).1 (by simp; omega)).trans H1.out.2.2.1
    have q4 : w2.heap[w.heap.size + 1 + 1]? = some (.cells #[Value.slice a n c] 25 (0, 0)) := (hg2.block _ (Array.getElem?_eq_some_iff.1 H1.out.2.2.2.1).1 (by simp; omega)).trans H1.out.2.2.2.1
    have hgw : w.grownBy w2 (some p) := grown_trans (below_grownR H1.out.1) hg2 (fun j hj => .inl hj)
    by_cases hR0 : R.1 = 0
    · rw [if_pos hR0] at hres
      obtain ⟨rfl, a', c', hr2, hkb⟩ := hres
      have HKB := Lib.hid hkb
      clear hkb
      have hz3 : w2.frozen? ⟨w.heap.size + 1, 0, none⟩ = false := by simp [World.frozen?, q3]
      have hc3 : w2.cell? ⟨w.heap.size + 1, 0, none⟩ = some (.int .i64 0) := cell_of_row q3 rfl
      have H2 := Lib.hid (And.intro q1 (And.intro q4 (And.intro hgw hr2)))
      have Q3 := Lib.hid q3
      clear hnu hg2 hr2 q1 q4 hgw q3
      go_wp2_with fail
      refine leaves_cons (f := 104) (args := #[.pointer (some ⟨w.heap.size, 0, none⟩), .pointer (some ⟨w.heap.size + 1 + 1, 0, none⟩), .pointer (some ⟨w.heap.size + 1, 0, none⟩)]) (by simp) (by simp [go_sem]) ?_
      refine (close_none _ _ _ _ p a n c (cell_of_row ((heap_setCell_other _ _ _ _ (by simp)).trans H2.out.1) rfl) (cell_of_row ((heap_setCell_other _ _ _ _ (by simp)).trans H2.out.2.1) rfl)).mono ?_
      rintro e u' w9 ⟨rfl, rfl, rfl⟩
      have hgf := H2.out.2.2.1
      have hp3 : p ≠ w.heap.size + 1 := by omega
      have hs3 : w2.grownBy (w2.setCell ⟨w.heap.size + 1, 0, none⟩ (.int .i64 0)) (some (w.heap.size + 1)) := grown_set1 (World.grownBy.refl _ _) 0 _
      have hrf : Rdr (w2.setCell ⟨w.heap.size + 1, 0, none⟩ (.int .i64 0)).drew p a' c' 0 R.2.2 := H2.out.2.2.2.other (w' := (w2.setCell ⟨w.heap.size + 1, 0, none⟩ (.int .i64 0)).drew) ⟨hs3.os, hs3.tape, hs3.output, hs3.size, hs3.block⟩ Q3.out hp3
      have hro : (w2.setCell ⟨w.heap.size + 1, 0, none⟩ (.int .i64 0)).drew.heap[w.heap.size + 1]? = some (.cells #[.int .i64 0] 28 (0, 0)) := by
        show (w2.setCell ⟨w.heap.size + 1, 0, none⟩ (.int .i64 0)).heap[w.heap.size + 1]? = _
        rw [heap_setCell_same w2 _ 0 _ _ _ Q3.out]; rfl
      have hcf := cell_of_row (v := .int .i64 0) (i := 0) hro rfl
      have hgg : w.grownBy (w2.setCell ⟨w.heap.size + 1, 0, none⟩ (.int .i64 0)).drew (some p) := ⟨hgf.os, hgf.tape, hgf.output, by have := hgf.size; simpa [World.setCell] using this, fun k hk hne => (heap_setCell_other _ _ _ _ (show k ≠ w.heap.size + 1 by omega)).trans (hgf.block k hk hne)⟩
      obtain ⟨w9, hw9⟩ : ∃ x, x = (w2.setCell ⟨w.heap.size + 1, 0, none⟩ (.int .i64 0)).drew := ⟨_, rfl⟩
      rw [← hw9] at hrf hcf hgg ⊢
      have fin : NumDB w w9 p a c 0 l (.returned (.tuple #[.int .u64 R.2.1, .int .i64 0])) := ⟨hgg, by rw [if_pos rfl, ← HRR.out, if_pos hR0]; exact ⟨rfl, a', c', hrf, HKB.out⟩⟩
      simp [Leaves, settle, results, Tryd.results60, go_sem, hcf]
      exact fin
    · rw [if_neg hR0] at hres
      obtain ⟨rfl, v, hv2⟩ := hres
      refine leaves_cons (f := 104) (args := #[.pointer (some ⟨w.heap.size, 0, none⟩), .pointer (some ⟨w.heap.size + 1 + 1, 0, none⟩), .pointer (some ⟨w.heap.size + 1, 0, none⟩)]) (by simp) (by simp [go_sem]) ?_
      refine (close_some _ _ _ _ p _ a n c 0 0 R.1 [] (cell_of_row q1 rfl) (cell_of_row q4 rfl) hv2 q3 (by omega)).mono ?_
      rintro e u' w9 ⟨rfl, rfl, rfl⟩
      obtain ⟨f1, f2, f3⟩ := set3 (v := .slice a n c) (x := .int .i64 R.1) (y := .int .i64 R.1) hgw hv2 q3 (by omega) (by omega)
      obtain ⟨w9, hw9⟩ : ∃ x, x = (((w2.drew.setCell ⟨p, 0, none⟩ (.slice a n c)).setCell ⟨p, 1, none⟩ (.int .i64 R.1)).setCell ⟨w.heap.size + 1, 0, none⟩ (.int .i64 R.1)) := ⟨_, rfl⟩
      rw [← hw9] at f1 f2 f3 ⊢
      have f4 := cell_of_row (v := .int .i64 R.1) (i := 0) f2 rfl
      have fin : NumDB w w9 p a c 0 l (.returned (.tuple #[.int .u64 0, .int .i64 R.1])) := ⟨f3, by rw [if_pos rfl, ← HRR.out, if_neg hR0]; exact ⟨rfl, HR.out.1.of f3 (by rw [← HR.out.2]; exact f1)⟩⟩
      simp [Leaves, settle, results, Tryd.results60, go_sem, f4]
      exact fin
  · rw [if_neg hno] at hst
    refine hst.mono ?_
    rintro e wz ⟨rfl, rfl⟩
    refine leaves_cons (f := 104) (args := #[.pointer (some ⟨w.heap.size, 0, none⟩), .pointer (some ⟨w.heap.size + 1 + 1, 0, none⟩), .pointer (some ⟨w.heap.size + 1, 0, none⟩)]) (by simp) (by simp [go_sem]) ?_
    refine (close_some _ _ _ _ p _ a n c no 0 no [] (cell_of_row H1.out.2.1 rfl) (cell_of_row H1.out.2.2.2.1 rfl) H1.out.2.2.2.2.row H1.out.2.2.1 (by omega)).mono ?_
    rintro e u' w9 ⟨rfl, rfl, rfl⟩
    have hszw := H1.out.1.size
    obtain ⟨f1, f2, f3⟩ := set3 (v := .slice a n c) (x := .int .i64 no) (y := .int .i64 no) (below_grownR H1.out.1 (r := some p)) H1.out.2.2.2.2.row H1.out.2.2.1 (by omega) (by omega)
    obtain ⟨w9, hw9⟩ : ∃ x, x = (((wz.drew.setCell ⟨p, 0, none⟩ (.slice a n c)).setCell ⟨p, 1, none⟩ (.int .i64 no)).setCell ⟨w.heap.size + 1, 0, none⟩ (.int .i64 no)) := ⟨_, rfl⟩
    rw [← hw9] at f1 f2 f3 ⊢
    have f4 := cell_of_row (v := .int .i64 no) (i := 0) f2 rfl
    have fin : NumDB w w9 p a c no l (.returned (.tuple #[.int .u64 0, .int .i64 no])) := ⟨f3, by rw [if_neg hno]; exact ⟨rfl, HR.out.1.of f3 (by rw [← HR.out.2]; exact f1)⟩⟩
    simp [Leaves, settle, results, Tryd.results60, go_sem, f4]
    exact fin
end Go.Proofs.YtgimblpdmlnfeaaDoor
