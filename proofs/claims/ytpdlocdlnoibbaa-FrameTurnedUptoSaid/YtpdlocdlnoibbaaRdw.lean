/- bin's Reader: Raw. -/
import Derived.Test.YtpdlocdlnoibbaaRdc
import Derived.Test.YtpdlocdlnoibbaaRdA
import Derived.Test.YtpdlocdlnoibbaaReg
namespace Go.Proofs.Ytpdlocdlnoibbaa
open Go.RowKit

/-- A text read: the error, the text, what is left. -/
def rdR (most : Int) (l : List UInt8) : Int × List UInt8 × List UInt8 :=
  if (rdN l).1 ≠ 0 then ((rdN l).1, [], []) else if max most 0 < (rdN l).2.1 then (4, [], []) else if (rdN l).2.2.length < (rdN l).2.1 then (2, [], []) else (0, (rdN l).2.2.take (rdN l).2.1, (rdN l).2.2.drop (rdN l).2.1)
/-- What Raw hands back, and what it leaves. -/
def RawD (w w' : World) (p : Nat) (a : Option Addr) (c : Nat) (no most : Int) (l : List UInt8) (e : Ending) : Prop :=
  w.grownBy w' (some p) ∧ if no = 0 then
    (if (rdR most l).1 = 0 then (∃ v', e = .returned (.tuple #[v', .int .i64 0]) ∧ w'.ownsRow w.heap.size 5 1 v' (rdR most l).2.1.length (bv (rdR most l).2.1)) ∧ ∃ a' c', Rdr w' p a' c' 0 (rdR most l).2.2 else e = .returned (.tuple #[.slice none 0 0, .int .i64 (rdR most l).1]) ∧ Rdr w' p a c (rdR most l).1 l)
    else e = .returned (.tuple #[.slice none 0 0, .int .i64 no]) ∧ Rdr w' p a c no l
/-- The bytes behind a slice's first N. -/
theorem slice_from {w : World} {a : Option Addr} {n c : Nat} {T : List UInt8} (N : Nat) (h : Rd w 1 (.slice a n c) n (bv T)) (hT : n = T.length) (hN : N ≤ n) (hb : n ≤ 140737488355328) :
    ∃ a3 c3, (∀ wx : World, (Instr.slice 22 (.slice a n c) (some (.int .u64 N)) none none).run Try.prog wx = .ok (.slice a3 (n - N) c3) wx) ∧ Rd w 1 (.slice a3 (n - N) c3) (n - N) (bv (T.drop N)) ∧ ∀ x, a3 = some x → ∃ y, a = some y ∧ x.block = y.block := by
  by_cases hn0 : n = 0
  · subst hn0
    obtain rfl : N = 0 := by omega
    obtain rfl : T = [] := List.eq_nil_of_length_eq_zero (by omega)
    have hrun : ∀ wx : World, (Instr.slice 22 (.slice a 0 c) (some (.int .u64 (0 : Nat))) none none).run Try.prog wx = .ok (.slice a (0 - 0) c) wx := fun wx => by
      cases a with
      | none => simp [go_sem]
      | some ad => simp [go_sem, Addr.add]
    exact ⟨a, c, hrun, by simpa using h, fun x hx => ⟨x, hx, rfl⟩⟩
  · obtain ⟨b, off, c', hv, hc, hcell⟩ := h.at (by omega)
    simp only [Value.slice.injEq] at hv
    obtain ⟨rfl, _, rfl⟩ := hv
    by_cases hcN : c = N
    · subst hcN
      obtain rfl : n = c := by omega
      refine ⟨some ⟨b, off, none⟩, 0, fun wx => ?_, ⟨by simp [bv, hT], by simp [bv, hT], .inr ⟨_, _, rfl, by omega, fun j u hu => by simp [bv, hT] at hu⟩⟩, fun x hx => ⟨_, rfl, by cases hx; rfl⟩⟩
      simp [go_sem]
    · refine ⟨some ⟨b, off + N, none⟩, c - N, fun wx => ?_, ⟨by rw [bv_length, List.length_drop, hT, Nat.mul_one], bv_one _, .inr ⟨_, _, rfl, by omega, fun j u hu => ?_⟩⟩, fun x hx => ⟨_, rfl, by cases hx; rfl⟩⟩
      · simp [go_sem, hcN]
        intro hlt
        omega
      · have hb2 : bv (T.drop N) = (bv T).drop N := by simp [bv]
        rw [hb2, List.getElem?_drop] at hu
        have := hcell (N + j) u hu
        rw [Addr.add_lit]
        rwa [show off + N + j = off + (N + j) by omega]

/-- What the operations of Raw's region 12 may change: the store alone. -/
def kRw (j : Nat) (w w' : World) : Prop := j = 9 ∨ w' = w
theorem kRw_refl (j : Nat) (w : World) : kRw j w w := .inr rfl
theorem kRw_ne {j : Nat} {w w' : World} (hj : j ≠ 9) (h : kRw j w w') : w' = w := h.resolve_left hj
/-- What each operation hands on. -/
def rawF (p : Nat) (a' : Option Addr) (m c' N : Nat) (a3 : Option Addr) (k c3 : Nat) (W : World) : Nat → Value → World → Prop
  | 0, v, _ => v = .pointer (some ⟨p, 0, none⟩)
  | 1, v, _ => v = .pointer (some ⟨p, 0, none⟩)
  | 2, v, _ => v = .pointer (some ⟨p, 0, none⟩)
  | 3, v, _ => v = .pointer (some ⟨p, 0, none⟩)
  | 4, v, _ => v = .slice a' m c'
  | 5, v, _ => v = .int .u64 N
  | 6, v, _ => v = .slice a3 k c3
  | 7, v, _ => v = .pointer (some ⟨p, 0, none⟩)
  | 8, v, _ => v = .pointer (some ⟨p, 0, none⟩)
  | 9, _, w => w = W.setCell ⟨p, 0, none⟩ (.slice a3 k c3)
  | _, _, _ => True

set_option maxHeartbeats 4000000 in
theorem RawR_any (w : World) (p : Nat) (a : Option Addr) (c : Nat) (no : Int) (l : List UInt8) (most : Int) (h : Rdr w p a c no l) (hl : l.length ≤ 140737488355328) (hm1 : -9223372036854775808 ≤ most) (hm2 : most < 9223372036854775808) :
    Calls Try.prog 18 #[.pointer (some ⟨p, 0, none⟩), .int .i64 most] w fun e w' => RawD w w' p a c no most l e := by
  have hmf : ∀ (fn : Fn) (first cap : Array Value) (w : World), (Instr.makeFunc fn first cap).run Try.prog w = .ok (.func fn first cap) w := fun _ _ _ _ => rfl
  have hpl := (Array.getElem?_eq_some_iff.1 h.row).1
  have h0 : w.cell? ⟨p, 0, none⟩ = some (.slice a l.length c) := by simp [World.cell?, h.row]
  obtain ⟨n, hn⟩ : ∃ n, n = l.length := ⟨_, rfl⟩
  rw [← hn] at h0
  have HR := Lib.hid (And.intro h hn)
  clear h hn
  go_enter_defers Try.func18, Try.ntmps18
  go_wp2_with fail
  obtain ⟨w1, hw1⟩ : ∃ x : World, x = (((w.alloc (Obj.cells #[Value.pointer (some { block := p, off := 0 })] 24)).alloc (Obj.cells #[Value.int IntKind.i64 0] 27)).alloc (Obj.cells #[Value.slice a n c] 22)) := ⟨_, rfl⟩
  have hB : Below w.heap.size w w1 := by rw [hw1]; exact (((Below.refl _ _).alloc (Nat.le_refl _) _).alloc (by simp) _).alloc (by simp; omega) _
  have r1 : w1.heap[w.heap.size]? = some (.cells #[Value.pointer (some { block := p, off := 0 })] 24 (0, 0)) := by
    rw [hw1, heap_alloc_old _ _ (by simp; omega), heap_alloc_old _ _ (by simp)]; exact heap_alloc_new _ _
  have r3 : w1.heap[w.heap.size + 1]? = some (.cells #[Value.int IntKind.i64 0] 27 (0, 0)) := by
    rw [hw1, heap_alloc_old _ _ (by simp)]
    have := heap_alloc_new (w.alloc (Obj.cells #[Value.pointer (some { block := p, off := 0 })] 24)) (Obj.cells #[Value.int IntKind.i64 0] 27)
    simpa using this
  have r4 : w1.heap[w.heap.size + 1 + 1]? = some (.cells #[Value.slice a n c] 22 (0, 0)) := by
    rw [hw1]
    have := heap_alloc_new ((w.alloc (Obj.cells #[Value.pointer (some { block := p, off := 0 })] 24)).alloc (Obj.cells #[Value.int IntKind.i64 0] 27)) (Obj.cells #[Value.slice a n c] 22)
    simpa using this
  rw [← hw1]
  have hrd : Rdr w1 p a c no l := HR.out.1.below hB
  have hst := start_any w1 p a c no l hrd
  have H1 := Lib.hid (And.intro hB (And.intro r1 (And.intro r3 (And.intro r4 hrd))))
  clear hw1 hB r1 r3 r4 hrd h0
  have hl1 : p < w.heap.size := hpl
  by_cases hno : no = 0
  · subst hno
    refine hst.mono ?_
    rintro e wz ⟨rfl, rfl⟩
    rw [if_pos rfl]
    have hnu := number_any wz p a c 0 l H1.out.2.2.2.2
    have h1c : wz.cell? ⟨w.heap.size, 0, none⟩ = some (.pointer (some ⟨p, 0, none⟩)) := cell_of_row H1.out.2.1 rfl
    obtain ⟨R, hR⟩ : ∃ R, R = rdN l := ⟨_, rfl⟩
    rw [← hR] at hnu
    have HRR := Lib.hid hR
    clear hR
    go_wp2_with fail
    refine hnu.mono ?_
    rintro e w2 ⟨hg2, hres⟩
    have hszw := H1.out.1.size
    have hsz2 := hg2.size
    have q1 : w2.heap[w.heap.size]? = some (.cells #[Value.pointer (some { block := p, off := 0 })] 24 (0, 0)) := (hg2.block _ (Array.getElem?_eq_some_iff.1 H1.out.2.1).1 (by simp; omega)).trans H1.out.2.1
    have q3 : w2.heap[w.heap.size + 1]? = some (.cells #[Value.int IntKind.i64 0] 27 (0, 0)) := (hg2.block _ (Array.getElem?_eq_some_iff.1 H1.out.2.2.1).1 (by simp; omega)).trans H1.out.2.2.1
    have q4 : w2.heap[w.heap.size + 1 + 1]? = some (.cells #[Value.slice a n c] 22 (0, 0)) := (hg2.block _ (Array.getElem?_eq_some_iff.1 H1.out.2.2.2.1).1 (by simp; omega)).trans H1.out.2.2.2.1
    have hgw : w.grownBy w2 (some p) := grown_trans (below_grownR H1.out.1) hg2 (fun j hj => .inl hj)
    by_cases hR0 : R.1 = 0
    · rw [if_pos hR0] at hres
      obtain ⟨rfl, a', c', hr2⟩ := hres
      obtain ⟨N, hN⟩ : ∃ N, N = R.2.1 := ⟨_, rfl⟩
      obtain ⟨T, hT⟩ : ∃ T, T = R.2.2 := ⟨_, rfl⟩
      have hRe : R = (0, N, T) := by rw [hN, hT, ← hR0]
      obtain ⟨hN64, hlT⟩ := rdN_ok l N T (by rw [← HRR.out, hRe])
      have htl : T.length ≤ l.length := by rw [hlT, List.length_append]; omega
      rw [← hN]
      rw [← hT] at hr2
      have HRE := Lib.hid (HRR.out.symm.trans hRe)
      obtain ⟨m, hm⟩ : ∃ m, m = T.length := ⟨_, rfl⟩
      have hcp : w2.cell? ⟨p, 0, none⟩ = some (.slice a' m c') := by rw [hm]; exact cell_of_row hr2.row rfl
      have hc1 : w2.cell? ⟨w.heap.size, 0, none⟩ = some (.pointer (some ⟨p, 0, none⟩)) := cell_of_row q1 rfl
      obtain ⟨mx, hmx⟩ : ∃ mx : Nat, mx = (max most 0).toNat := ⟨_, rfl⟩
      have hmx2 : (mx : Int) = max most 0 := by rw [hmx]; omega
      have hmx64 : mx < 9223372036854775808 := by omega
      have hmaxr : ∀ wx : World, True := fun _ => trivial
      have z0 : IntKind.u64.wrap (mx : Int) = (mx : Int) := IntWalk.u64_in _ (by omega)
      have z9 : IntKind.u64.wrap (m : Int) = (m : Int) := IntWalk.u64_in _ (by omega)
      have zmx : max most 0 = (mx : Int) := hmx2.symm
      have HQ := Lib.hid (And.intro q1 (And.intro q3 (And.intro q4 (And.intro hgw (And.intro hr2 hm)))))
      have HM := Lib.hid (And.intro hmx2 hlT)
      have HT := Lib.hid htl
      clear hnu hg2 hr2 q1 q4 hgw q3 hR0 hN hT hRe hlT htl hm hmx hmx2 hszw hsz2
      have HCAP : Hid (m ≤ c') := Lib.hid (by
        obtain ⟨_, _, ⟨hv, _⟩ | ⟨_, _, hv, hc, _⟩⟩ := HQ.out.2.2.2.2.1.rd
        · simp only [Value.slice.injEq] at hv
          have := HQ.out.2.2.2.2.2
          omega
        · simp only [Value.slice.injEq] at hv
          have := HQ.out.2.2.2.2.2
          omega)
      by_cases h4 : mx < N
      · have z1 : (mx : Int) < (N : Int) := by omega
        have HRF : Hid (rdR most l = (4, [], [])) := Lib.hid (by rw [rdR, HRE.out, if_neg (by simp), if_pos (by rw [← HM.out.1]; exact z1)])
        have hE : ¬ (4 : Int) = 0 := by decide
        go_wp2_with fail
        obtain ⟨q1, q3, q4, hgw, hr2, hm⟩ := HQ.out
        refine leaves_cons (f := 40) (args := #[.pointer (some ⟨w.heap.size, 0, none⟩), .pointer (some ⟨w.heap.size + 1 + 1, 0, none⟩), .pointer (some ⟨w.heap.size + 1, 0, none⟩)]) (by simp) (by simp [go_sem]) ?_
        refine (close_someR _ _ _ _ p _ a n c 0 0 4 [] (cell_of_row q1 rfl) (cell_of_row q4 rfl) hr2.row q3 (by omega)).mono ?_
        rintro e u' w9 ⟨rfl, rfl, rfl⟩
        obtain ⟨f1, f2, f3⟩ := set3 (v := .slice a n c) (x := .int .i64 4) (y := .int .i64 4) hgw hr2.row q3 (by omega) (by omega)
        obtain ⟨w9, hw9⟩ : ∃ x, x = (((w2.drew.setCell ⟨p, 0, none⟩ (.slice a n c)).setCell ⟨p, 1, none⟩ (.int .i64 4)).setCell ⟨w.heap.size + 1, 0, none⟩ (.int .i64 4)) := ⟨_, rfl⟩
        rw [← hw9] at f1 f2 f3 ⊢
        have f4 := cell_of_row (v := .int .i64 4) (i := 0) f2 rfl
        have fin : RawD w w9 p a c 0 most l (.returned (.tuple #[.slice none 0 0, .int .i64 4])) := ⟨f3, by rw [if_pos rfl, HRF.out, if_neg hE]; exact ⟨rfl, HR.out.1.of f3 (by rw [← HR.out.2]; exact f1)⟩⟩
        simp [Leaves, settle, results, Try.results18, go_sem, f4]
        exact fin
      · have z1 : ¬ (mx : Int) < (N : Int) := by omega
        by_cases h2 : m < N
        · have z2 : (m : Int) < (N : Int) := by omega
          have HRF : Hid (rdR most l = (2, [], [])) := Lib.hid (by rw [rdR, HRE.out, if_neg (by simp), if_neg (by rw [← HM.out.1]; exact z1), if_pos (by rw [← HQ.out.2.2.2.2.2]; exact h2)])
          have hE : ¬ (2 : Int) = 0 := by decide
          go_wp2_with fail
          obtain ⟨q1, q3, q4, hgw, hr2, hm⟩ := HQ.out
          refine leaves_cons (f := 40) (args := #[.pointer (some ⟨w.heap.size, 0, none⟩), .pointer (some ⟨w.heap.size + 1 + 1, 0, none⟩), .pointer (some ⟨w.heap.size + 1, 0, none⟩)]) (by simp) (by simp [go_sem]) ?_
          refine (close_someR _ _ _ _ p _ a n c 0 0 2 [] (cell_of_row q1 rfl) (cell_of_row q4 rfl) hr2.row q3 (by omega)).mono ?_
          rintro e u' w9 ⟨rfl, rfl, rfl⟩
          obtain ⟨f1, f2, f3⟩ := set3 (v := .slice a n c) (x := .int .i64 2) (y := .int .i64 2) hgw hr2.row q3 (by omega) (by omega)
          obtain ⟨w9, hw9⟩ : ∃ x, x = (((w2.drew.setCell ⟨p, 0, none⟩ (.slice a n c)).setCell ⟨p, 1, none⟩ (.int .i64 2)).setCell ⟨w.heap.size + 1, 0, none⟩ (.int .i64 2)) := ⟨_, rfl⟩
          rw [← hw9] at f1 f2 f3 ⊢
          have f4 := cell_of_row (v := .int .i64 2) (i := 0) f2 rfl
          have fin : RawD w w9 p a c 0 most l (.returned (.tuple #[.slice none 0 0, .int .i64 2])) := ⟨f3, by rw [if_pos rfl, HRF.out, if_neg hE]; exact ⟨rfl, HR.out.1.of f3 (by rw [← HR.out.2]; exact f1)⟩⟩
          simp [Leaves, settle, results, Try.results18, go_sem, f4]
          exact fin
        · have z2 : ¬ (m : Int) < (N : Int) := by omega
          have z3 : N ≤ c' := by have := HCAP.out; omega
          have HRF : Hid (rdR most l = (0, T.take N, T.drop N)) := Lib.hid (by rw [rdR, HRE.out, if_neg (by simp), if_neg (by rw [← HM.out.1]; exact z1), if_neg (by rw [← HQ.out.2.2.2.2.2]; exact h2)])
          have hrd0 := HQ.out.2.2.2.2.1.rd
          rw [← HQ.out.2.2.2.2.2] at hrd0
          have hbt : (bv T).take N = bv (T.take N) := by simp [bv, List.map_take]
          have htk := hrd0.take' N (by omega)
          rw [hbt] at htk
          have hcl := CloneB8_any _ N (bv (T.take N)) w2 htk (by have := HT.out; have := HQ.out.2.2.2.2.2; omega)
          have hsl := slice_from N hrd0 HQ.out.2.2.2.2.2 (by omega) (by have := HT.out; have := HQ.out.2.2.2.2.2; omega)
          clear htk hbt hrd0
          go_wp2_with fail
          refine hcl.mono ?_
          rintro e w3 ⟨v3, rfl, ho3, hb3⟩
          obtain ⟨a4, c4, rfl⟩ := (own_rd ho3 (bv_one _)).form
          obtain ⟨a3, c3, hsl1, hsl2, hsl3⟩ := hsl
          obtain ⟨k, hk⟩ : ∃ k, k = m - N := ⟨_, rfl⟩
          rw [← hk] at hsl1 hsl2
          obtain ⟨W, hW⟩ : ∃ W, W = w3.drew := ⟨_, rfl⟩
          have d3 : w2.grownBy W none := by rw [hW]; exact ⟨hb3.os, hb3.tape, hb3.output, hb3.size, fun j hj _ => hb3.block j hj⟩
          have hpl2 : p < w2.heap.size := (Array.getElem?_eq_some_iff.1 HQ.out.2.2.2.2.1.row).1
          have hs1 := (Array.getElem?_eq_some_iff.1 HQ.out.1).1
          have hs3 := (Array.getElem?_eq_some_iff.1 HQ.out.2.1).1
          have hs4 := (Array.getElem?_eq_some_iff.1 HQ.out.2.2.1).1
          have rw1 := (d3.block _ hs1 (by simp)).trans HQ.out.1
          have rw3 := (d3.block _ hs3 (by simp)).trans HQ.out.2.1
          have rw4 := (d3.block _ hs4 (by simp)).trans HQ.out.2.2.1
          have rwp := (d3.block _ hpl2 (by simp)).trans HQ.out.2.2.2.2.1.row
          rw [← HQ.out.2.2.2.2.2] at rwp
          have d1 : W.cell? ⟨w.heap.size, 0, none⟩ = some (.pointer (some ⟨p, 0, none⟩)) := cell_of_row rw1 rfl
          have d2 : W.cell? ⟨p, 0, none⟩ = some (.slice a' m c') := cell_of_row rwp rfl
          have dz : W.frozen? ⟨p, 0, none⟩ = false := by simp [World.frozen?, rwp]
          have howW : W.ownsRow w2.heap.size 5 1 (.slice a4 N c4) N (bv (T.take N)) := by rw [hW]; exact ho3
          have hrdW : Rd W 1 (.slice a3 k c3) k (bv (T.drop N)) := by rw [hW]; exact hsl2.keep hb3.drew
          have HW := Lib.hid (And.intro d3 (And.intro rw1 (And.intro rw3 (And.intro rw4 (And.intro rwp (And.intro howW (And.intro hrdW (And.intro hsl3 hk))))))))
          have hWd := hW.symm
          clear d3 rw1 rw3 rw4 rwp howW hrdW hsl2 hsl3 hk hW
          have H3 := Lib.hid (And.intro ho3 hb3)
          have h1c : w3.cell? ⟨w.heap.size, 0, none⟩ = some (.pointer (some ⟨p, 0, none⟩)) := by rw [← hWd] at d1; exact d1
          clear ho3 hb3 hcl
          go_wp2_with fail
          refine wp_region_until [some 43, some 44, some 45, some 46, some 47, some 48, some 49, some 50, some 51, none] [] 9 (fun wx => wx = W) [0, 1, 2, 3, 4, 5, 6, 7, 8, 9] (rawF p a' m c' N a3 k c3 W) (kRw) (fun _ => True) (by kernel_rfl) (by kernel_rfl) rfl (by kernel_rfl) (by kernel_rfl) trivial hWd (fun _ hj _ _ k h => (kRw_ne hj k).trans h) (kRw_refl) (fun _ _ _ _ _ => trivial) ?hF ?hstep ?hend
          case hF =>
            exact ⟨fun _ _ _ _ _ _ h => h, ⟨fun _ _ _ _ _ _ h => h, ⟨fun _ _ _ _ _ _ h => h, ⟨fun _ _ _ _ _ _ h => h, ⟨fun _ _ _ _ _ _ h => h, ⟨fun _ _ _ _ _ _ h => h, ⟨fun _ _ _ _ _ _ h => h, ⟨fun _ _ _ _ _ _ h => h, ⟨fun _ _ _ _ _ _ h => h, ⟨fun j hg _ w1 w2 k h => (kRw_ne (fun e => by subst e; exact absurd hg (by rw [show goneB _ 9 9 = true by kernel_rfl]; simp)) k).trans h, trivial⟩⟩⟩⟩⟩⟩⟩⟩⟩⟩
          case hstep =>
            -- operation 0: Op.load 30 (tmp 2)
            refine ⟨fun r wx hG hs hq hf => ?_, ?_⟩
            · have hQ := hq rfl
              have e2 : r 2 = .pointer (some ⟨w.heap.size, 0, none⟩) := hs 2 rfl
              refine (if_pos rfl).symm ▸ ?_
              clear hs hq hf
              unfold gives
              subst hQ
              go_simp
              exact ⟨kRw_refl _ _, rfl⟩
            -- operation 1: Op.load 30 (tmp 2)
            refine ⟨fun r wx hG hs hq hf => ?_, ?_⟩
            · have hQ := hq rfl
              have e2 : r 2 = .pointer (some ⟨w.heap.size, 0, none⟩) := hs 2 rfl
              refine (if_pos rfl).symm ▸ ?_
              clear hs hq hf
              unfold gives
              subst hQ
              go_simp
              exact ⟨kRw_refl _ _, rfl⟩
            -- operation 2: Op.nilCheck (tmp 44)
            refine ⟨fun r wx hG hs hq hf => ?_, ?_⟩
            · have hQ := hq rfl
              have h1 : r 44 = .pointer (some ⟨p, 0, none⟩) := hf.1
              refine (if_pos rfl).symm ▸ ?_
              clear hs hq hf
              unfold gives
              subst hQ
              go_simp
              exact ⟨kRw_refl _ _, rfl⟩
            -- operation 3: Op.fieldAddr 64 (tmp 45) 0
            refine ⟨fun r wx hG hs hq hf => ?_, ?_⟩
            · have hQ := hq rfl
              have h2 : r 45 = .pointer (some ⟨p, 0, none⟩) := hf.1
              refine (if_pos rfl).symm ▸ ?_
              clear hs hq hf
              unfold gives
              subst hQ
              go_simp
              exact ⟨kRw_refl _ _, rfl⟩
            -- operation 4: Op.load 24 (tmp 46)
            refine ⟨fun r wx hG hs hq hf => ?_, ?_⟩
            · have hQ := hq rfl
              have h3 : r 46 = .pointer (some ⟨p, 0, none⟩) := hf.1
              refine (if_pos rfl).symm ▸ ?_
              clear hs hq hf
              unfold gives
              subst hQ
              go_simp
              exact ⟨kRw_refl _ _, rfl⟩
            -- operation 5: Op.move (tmp 7)
            refine ⟨fun r wx hG hs hq hf => ?_, ?_⟩
            · have hQ := hq rfl
              have e7 : r 7 = .int .u64 N := hs 7 rfl
              refine (if_pos rfl).symm ▸ ?_
              clear hs hq hf
              unfold gives
              subst hQ
              go_simp
              exact ⟨kRw_refl _ _, rfl⟩
            -- operation 6: Op.slice 24 (tmp 47) (some (tmp 48)) none none
            refine ⟨fun r wx hG hs hq hf => ?_, ?_⟩
            · have hQ := hq rfl
              have h4 : r 47 = .slice a' m c' := hf.1
              have h5 : r 48 = .int .u64 N := hf.2.1
              refine (if_pos rfl).symm ▸ ?_
              clear hs hq hf
              unfold gives
              subst hQ
              go_simp
              exact ⟨kRw_refl _ _, rfl⟩
            -- operation 7: Op.nilCheck (tmp 43)
            refine ⟨fun r wx hG hs hq hf => ?_, ?_⟩
            · have hQ := hq rfl
              have h0 : r 43 = .pointer (some ⟨p, 0, none⟩) := hf.1
              refine (if_pos rfl).symm ▸ ?_
              clear hs hq hf
              unfold gives
              subst hQ
              go_simp
              exact ⟨kRw_refl _ _, rfl⟩
            -- operation 8: Op.fieldAddr 64 (tmp 50) 0
            refine ⟨fun r wx hG hs hq hf => ?_, ?_⟩
            · have hQ := hq rfl
              have h7 : r 50 = .pointer (some ⟨p, 0, none⟩) := hf.1
              refine (if_pos rfl).symm ▸ ?_
              clear hs hq hf
              unfold gives
              subst hQ
              go_simp
              exact ⟨kRw_refl _ _, rfl⟩
            -- operation 9: Op.store 24 (tmp 51) (tmp 49)
            refine ⟨fun r wx hG hs hq hf => ?_, ?_⟩
            · have hQ := hq rfl
              have h8 : r 51 = .pointer (some ⟨p, 0, none⟩) := hf.1
              have h6 : r 49 = .slice a3 k c3 := hf.2.1
              refine (if_pos rfl).symm ▸ ?_
              clear hs hq hf
              unfold gives
              subst hQ
              go_simp
              exact ⟨.inl rfl, rfl⟩
            exact trivial
          case hend =>
            intro u wz hG hfin
            have z9 : wz = W.setCell ⟨p, 0, none⟩ (.slice a3 k c3) := hfin 9 (by decide) (by kernel_rfl)
            clear hfin
            simp only [fill]
            subst z9
            obtain ⟨d3, rw1, rw3, rw4, rwp, how, hrd, hof, hk⟩ := HW.out
            obtain ⟨V, hV⟩ : ∃ V, V = W.setCell ⟨p, 0, none⟩ (.slice a3 k c3) := ⟨_, rfl⟩
            rw [← hV]
            have gV : w2.grownBy V (some p) := by rw [hV]; exact grown_set1 ⟨d3.os, d3.tape, d3.output, d3.size, fun j hj _ => d3.block j hj (by simp)⟩ 0 _
            have v1 := (show V.heap[w.heap.size]? = W.heap[w.heap.size]? by rw [hV]; exact heap_setCell_other _ _ _ _ (show w.heap.size ≠ p by omega)).trans rw1
            have v3 := (show V.heap[w.heap.size + 1]? = W.heap[w.heap.size + 1]? by rw [hV]; exact heap_setCell_other _ _ _ _ (show w.heap.size + 1 ≠ p by omega)).trans rw3
            have v4 := (show V.heap[w.heap.size + 1 + 1]? = W.heap[w.heap.size + 1 + 1]? by rw [hV]; exact heap_setCell_other _ _ _ _ (show w.heap.size + 1 + 1 ≠ p by omega)).trans rw4
            have kl : (T.drop N).length = k := by rw [List.length_drop, hk, HQ.out.2.2.2.2.2]
            have hoff : ∀ y, a3 = some y → y.block < p := fun y hy => by obtain ⟨z, h1, h2⟩ := hof y hy; rw [h2]; exact HQ.out.2.2.2.2.1.off z h1
            have vr : Rdr V p a3 c3 0 (T.drop N) := by
              refine ⟨?_, ?_, hoff⟩
              · rw [kl, hV, heap_setCell_same W p 0 _ _ _ rwp]; rfl
              · rw [kl, hV]; exact hrd.keepP (fun y hy => heap_setCell_other W ⟨p, 0, none⟩ y.block _ (Nat.ne_of_lt (hoff y hy)))
            have vo : V.ownsRow w2.heap.size 5 1 (.slice a4 N c4) N (bv (T.take N)) := by
              refine how.kept (row := some p) (by rw [hV]; exact grown_set1 (World.grownBy.refl _ _) 0 _) ?_
              cases hob : Value.ownBlock (.slice a4 N c4) with
              | none => exact .inl rfl
              | some j => right; intro e; have := own_block how j hob; simp only [Option.some.injEq] at e; omega
            have gw : w.grownBy V (some p) := grown_trans HQ.out.2.2.2.1 gV (fun j hj => .inl hj)
            have c3x : V.cell? ⟨w.heap.size + 1, 0, none⟩ = some (.int .i64 0) := cell_of_row v3 rfl
            have z3x : V.frozen? ⟨w.heap.size + 1, 0, none⟩ = false := by simp [World.frozen?, v3]
            have hw2 := HQ.out.2.2.2.1.size
            have H2 := Lib.hid (And.intro v1 (And.intro v4 (And.intro gw (And.intro vr vo))))
            have Q3 := Lib.hid v3
            clear d3 rw1 rw3 rw4 rwp how hrd hof hk hV gV v1 v3 v4 vr vo gw HW d1 d2 dz h1c hoff kl
            go_simp
            go_wp2_with fail
            refine leaves_cons (f := 40) (args := #[.pointer (some ⟨w.heap.size, 0, none⟩), .pointer (some ⟨w.heap.size + 1 + 1, 0, none⟩), .pointer (some ⟨w.heap.size + 1, 0, none⟩)]) (by simp) (by simp [go_sem]) ?_
            refine (close_noneR _ _ _ _ p a n c (cell_of_row ((heap_setCell_other _ _ _ _ (by simp)).trans H2.out.1) rfl) (cell_of_row ((heap_setCell_other _ _ _ _ (by simp)).trans H2.out.2.1) rfl)).mono ?_
            rintro e u' w9 ⟨rfl, rfl, rfl⟩
            have hgf := H2.out.2.2.1
            have hp3 : p ≠ w.heap.size + 1 := by omega
            have hs3 : V.grownBy (V.setCell ⟨w.heap.size + 1, 0, none⟩ (.int .i64 0)) (some (w.heap.size + 1)) := grown_set1 (World.grownBy.refl _ _) 0 _
            have hs3' : V.grownBy (V.setCell ⟨w.heap.size + 1, 0, none⟩ (.int .i64 0)).drew (some (w.heap.size + 1)) := ⟨hs3.os, hs3.tape, hs3.output, hs3.size, hs3.block⟩
            have hrf : Rdr (V.setCell ⟨w.heap.size + 1, 0, none⟩ (.int .i64 0)).drew p a3 c3 0 (T.drop N) := H2.out.2.2.2.1.other hs3' Q3.out hp3
            have hof : (V.setCell ⟨w.heap.size + 1, 0, none⟩ (.int .i64 0)).drew.ownsRow w2.heap.size 5 1 (.slice a4 N c4) N (bv (T.take N)) := by
              refine H2.out.2.2.2.2.kept hs3' ?_
              cases hob : Value.ownBlock (.slice a4 N c4) with
              | none => exact .inl rfl
              | some j => right; intro e; have := own_block H2.out.2.2.2.2 j hob; simp only [Option.some.injEq] at e; omega
            have hro : (V.setCell ⟨w.heap.size + 1, 0, none⟩ (.int .i64 0)).drew.heap[w.heap.size + 1]? = some (.cells #[.int .i64 0] 27 (0, 0)) := by
              show (V.setCell ⟨w.heap.size + 1, 0, none⟩ (.int .i64 0)).heap[w.heap.size + 1]? = _
              rw [heap_setCell_same V _ 0 _ _ _ Q3.out]; rfl
            have hcf := cell_of_row (v := .int .i64 0) (i := 0) hro rfl
            have hgg : w.grownBy (V.setCell ⟨w.heap.size + 1, 0, none⟩ (.int .i64 0)).drew (some p) := ⟨hgf.os, hgf.tape, hgf.output, by have := hgf.size; simpa [World.setCell] using this, fun k hk hne => (heap_setCell_other _ _ _ _ (show k ≠ w.heap.size + 1 by omega)).trans (hgf.block k hk hne)⟩
            obtain ⟨w9, hw9⟩ : ∃ x, x = (V.setCell ⟨w.heap.size + 1, 0, none⟩ (.int .i64 0)).drew := ⟨_, rfl⟩
            rw [← hw9] at hrf hcf hgg hof ⊢
            have hln : (T.take N).length = N := by rw [List.length_take, ← HQ.out.2.2.2.2.2]; omega
            have fin : RawD w w9 p a c 0 most l (.returned (.tuple #[.slice a4 N c4, .int .i64 0])) := ⟨hgg, by rw [if_pos rfl, HRF.out, if_pos rfl]; exact ⟨⟨_, rfl, by rw [hln]; exact own_base hof (by omega)⟩, a3, c3, hrf⟩⟩
            simp [Leaves, settle, results, Try.results18, go_sem, hcf]
            exact fin
    · rw [if_neg hR0] at hres
      obtain ⟨rfl, v, hv2⟩ := hres
      have HRF : Hid (rdR most l = (R.1, [], [])) := Lib.hid (by rw [rdR, ← HRR.out, if_pos hR0])
      refine leaves_cons (f := 40) (args := #[.pointer (some ⟨w.heap.size, 0, none⟩), .pointer (some ⟨w.heap.size + 1 + 1, 0, none⟩), .pointer (some ⟨w.heap.size + 1, 0, none⟩)]) (by simp) (by simp [go_sem]) ?_
      refine (close_someR _ _ _ _ p _ a n c 0 0 R.1 [] (cell_of_row q1 rfl) (cell_of_row q4 rfl) hv2 q3 (by omega)).mono ?_
      rintro e u' w9 ⟨rfl, rfl, rfl⟩
      obtain ⟨f1, f2, f3⟩ := set3 (v := .slice a n c) (x := .int .i64 R.1) (y := .int .i64 R.1) hgw hv2 q3 (by omega) (by omega)
      obtain ⟨w9, hw9⟩ : ∃ x, x = (((w2.drew.setCell ⟨p, 0, none⟩ (.slice a n c)).setCell ⟨p, 1, none⟩ (.int .i64 R.1)).setCell ⟨w.heap.size + 1, 0, none⟩ (.int .i64 R.1)) := ⟨_, rfl⟩
      rw [← hw9] at f1 f2 f3 ⊢
      have f4 := cell_of_row (v := .int .i64 R.1) (i := 0) f2 rfl
      have fin : RawD w w9 p a c 0 most l (.returned (.tuple #[.slice none 0 0, .int .i64 R.1])) := ⟨f3, by rw [if_pos rfl, HRF.out, if_neg hR0]; exact ⟨rfl, HR.out.1.of f3 (by rw [← HR.out.2]; exact f1)⟩⟩
      simp [Leaves, settle, results, Try.results18, go_sem, f4]
      exact fin
  · rw [if_neg hno] at hst
    refine hst.mono ?_
    rintro e wz ⟨rfl, rfl⟩
    refine leaves_cons (f := 40) (args := #[.pointer (some ⟨w.heap.size, 0, none⟩), .pointer (some ⟨w.heap.size + 1 + 1, 0, none⟩), .pointer (some ⟨w.heap.size + 1, 0, none⟩)]) (by simp) (by simp [go_sem]) ?_
    refine (close_someR _ _ _ _ p _ a n c no 0 no [] (cell_of_row H1.out.2.1 rfl) (cell_of_row H1.out.2.2.2.1 rfl) H1.out.2.2.2.2.row H1.out.2.2.1 (by omega)).mono ?_
    rintro e u' w9 ⟨rfl, rfl, rfl⟩
    have hszw := H1.out.1.size
    obtain ⟨f1, f2, f3⟩ := set3 (v := .slice a n c) (x := .int .i64 no) (y := .int .i64 no) (below_grownR H1.out.1 (r := some p)) H1.out.2.2.2.2.row H1.out.2.2.1 (by omega) (by omega)
    obtain ⟨w9, hw9⟩ : ∃ x, x = (((wz.drew.setCell ⟨p, 0, none⟩ (.slice a n c)).setCell ⟨p, 1, none⟩ (.int .i64 no)).setCell ⟨w.heap.size + 1, 0, none⟩ (.int .i64 no)) := ⟨_, rfl⟩
    rw [← hw9] at f1 f2 f3 ⊢
    have f4 := cell_of_row (v := .int .i64 no) (i := 0) f2 rfl
    have fin : RawD w w9 p a c no most l (.returned (.tuple #[.slice none 0 0, .int .i64 no])) := ⟨f3, by rw [if_neg hno]; exact ⟨rfl, HR.out.1.of f3 (by rw [← HR.out.2]; exact f1)⟩⟩
    simp [Leaves, settle, results, Try.results18, go_sem, f4]
    exact fin
end Go.Proofs.Ytpdlocdlnoibbaa
