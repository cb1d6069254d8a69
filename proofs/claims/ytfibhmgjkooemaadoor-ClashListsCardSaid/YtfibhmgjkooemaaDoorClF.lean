/- The reference's Lists and Clash; the law's same, few and awake. (printed by gen/clf.py) -/
import Derived.Test.YtfibhmgjkooemaaDoorClE
namespace Go.Proofs.YtfibhmgjkooemaaDoor
open Go.RowKit Sha Root Path Clash

set_option maxHeartbeats 8000000 in
set_option maxRecDepth 100000 in
theorem r17Lists_any (W : Int) (la lb : List (List UInt8)) (v u : Value) (w : World) (hW : -9223372036854775808 ≤ W ∧ W ≤ 9223372036854775807) (hla : la.length ≤ 1000000) (hlb : lb.length ≤ 1000000) (hta : ∀ t ∈ la, t.length ≤ 140737488351232) (htb : ∀ t ∈ lb, t.length ≤ 140737488351232) (hv : Txw w v la) (hu : Txw w u lb) (hT : TabsR w) :
    Calls Tryd.prog 11 #[.int .i64 W, v, u] w fun e w' => PairE w w' (ansL W la lb) e := by
  obtain ⟨a1, c1, rfl⟩ := hv.form
  obtain ⟨a2, c2, rfl⟩ := hu.form
  obtain ⟨n, hn⟩ : ∃ n, n = la.length := ⟨_, rfl⟩
  obtain ⟨m, hm⟩ : ∃ n, n = lb.length := ⟨_, rfl⟩
  obtain ⟨w1, hw1⟩ : ∃ x : World, x = w.alloc (.cells #[.slice none 0 0, .slice none 0 0] 27) := ⟨_, rfl⟩
  have hB : Below w.heap.size w w1 := by rw [hw1]; exact (Below.refl _ _).alloc (Nat.le_refl _) _
  have r1 : w1.heap[w.heap.size]? = some (.cells #[.slice none 0 0, .slice none 0 0] 27 (0, 0)) := by rw [hw1]; exact heap_alloc_new _ _
  have HW1 := Lib.hid hw1
  have H1 := Lib.hid (And.intro hB r1)
  have HG1 := Lib.hid (fun wx (hb : Below w1.heap.size w1 wx) => r17root_any W la (.slice a1 la.length c1) wx hW hla hta (hv.keep (hB.trans (hb.mono hB.size))) (hT.keepB (hB.trans (hb.mono hB.size))))
  have HG2 := Lib.hid (fun wx (hb : Below w1.heap.size w1 wx) => r17root_any W lb (.slice a2 lb.length c2) wx hW hlb htb (hu.keep (hB.trans (hb.mono hB.size))) (hT.keepB (hB.trans (hb.mono hB.size))))
  have HDN := Lib.hid (fun (h1 : la.length = lb.length) (h0 : 0 < la.length) wx (hb : Below w1.heap.size w1 wx) => down_any W hW la.length la lb (.slice a1 la.length c1) (.slice a2 lb.length c2) wx (Nat.le_refl _) h1 h0 hla hta htb (hv.keep (hB.trans (hb.mono hB.size))) (hu.keep (hB.trans (hb.mono hB.size))) (hT.keepB (hB.trans (hb.mono hB.size))))
  rw [← hn] at HG1 ⊢
  rw [← hm] at HG2 ⊢
  have HN := Lib.hid (And.intro hn hm)
  have hee : ansL W la lb = (if n ≠ m then (9, [], []) else if rt (hw W) la ≠ rt (hw W) lb then (3, [], []) else (match meetF (hw W) n la lb with
    | none => (8, [], [])
    | some p => (0, p.1, p.2)) : Int × List UInt8 × List UInt8) := by rw [ansL, ← hn, ← hm]; rfl
  obtain ⟨A, hA⟩ : ∃ A, A = ansL W la lb := ⟨_, rfl⟩
  have HEE := Lib.hid (hA.trans hee)
  rw [← hA]
  have hdn2 : n = m → 0 < n → ∀ wx, Below w1.heap.size w1 wx → Calls Tryd.prog 30 #[.int .i64 W, .slice a1 n c1, .slice a2 m c2] wx fun e w' => DnE wx w' (dnA (meetF (hw W) n la lb)) e := by
    rw [hn, hm]; exact HDN.out
  have HD := Lib.hid hdn2
  clear hA hee hw1 hB r1 hv hu hT hW hn hm hla hlb hta htb hdn2 HDN
  go_enter Tryd.func11, Tryd.ntmps11
  go_upto_region 1 with fail
  rw [show w.alloc (.cells #[.slice none 0 0, .slice none 0 0] 27) = w1 from HW1.out.symm]
  have FIN := Lib.hid (fun (wz : World) (E : Int) (hA : A = (E, [], [])) (h1 : wz.heap[w.heap.size]? = some (.cells #[.slice none 0 0, .slice none 0 0] 27 (0, 0))) (h3 : Below w.heap.size w wz) =>
    (show (loadVar 27 ⟨w.heap.size, 0, none⟩).run Tryd.prog ((wz.setCell ⟨w.heap.size, 0, none⟩ (.slice none 0 0)).setCell ⟨w.heap.size, 1, none⟩ (.slice none 0 0)) = .ok (.agg #[.slice none 0 0, .slice none 0 0]) ((wz.setCell ⟨w.heap.size, 0, none⟩ (.slice none 0 0)).setCell ⟨w.heap.size, 1, none⟩ (.slice none 0 0)) ∧
      PairE w ((wz.setCell ⟨w.heap.size, 0, none⟩ (.slice none 0 0)).setCell ⟨w.heap.size, 1, none⟩ (.slice none 0 0)) A (.returned (.tuple #[.agg #[.slice none 0 0, .slice none 0 0], .int .i64 E])) from by
        have hs := s2_facts (a := .slice none 0 0) (b := .slice none 0 0) h1
        exact ⟨pair_ld Tryd.prog _ w.heap.size _ _ _ 27 hs.1 Tryd.underlying27 rfl pairInfo, by rw [hA]; exact ⟨none, 0, none, 0, rfl, Rd.nil _ _, Rd.nil _ _, below_ofp h3 (Nat.le_refl _) hs.2⟩⟩))
  by_cases hnm : n = m
  · subst hnm
    have y1 : ((n : Int) != (n : Int)) = false := by simp
    go_wp2_with fail
    refine (HG1.out _ (Below.refl _ _)).mono ?_
    rintro e w4 ⟨rfl, hb4⟩
    have H4 := Lib.hid hb4
    clear hb4
    go_wp2_with fail
    refine (HG2.out _ H4.out).mono ?_
    rintro e w5 ⟨rfl, hb5⟩
    have H5 := Lib.hid (H4.out.trans (hb5.mono H4.out.size))
    clear hb5 H4
    have hqe := fun wx => eqIn_hash (rt (hw W) la) (rt (hw W) lb) (rt32 W la) (rt32 W lb) wx
    have hgd := eq_guard
    have R5 := Lib.hid (And.intro ((H5.out.block _ (Array.getElem?_eq_some_iff.1 H1.out.2).1).trans H1.out.2) (H1.out.1.trans (H5.out.mono H1.out.1.size)))
    have h60 : w5.cell? ⟨w.heap.size, 0, none⟩ = some (.slice none 0 0) := cell_of_rowp R5.out.1 rfl
    have h61 : w5.cell? ⟨w.heap.size, 1, none⟩ = some (.slice none 0 0) := cell_of_rowp R5.out.1 rfl
    have z60 : w5.frozen? ⟨w.heap.size, 0, none⟩ = false := by simp [World.frozen?, R5.out.1]
    have z61 : w5.frozen? ⟨w.heap.size, 1, none⟩ = false := by simp [World.frozen?, R5.out.1]
    by_cases hrr : rt (hw W) la = rt (hw W) lb
    · have hrb : (rt (hw W) la == rt (hw W) lb) = true := by simp [hrr]
      rw [hrb] at hqe
      have HR9 := Lib.hid hrr
      clear hrr hrb
      by_cases h0 : n = 0
      · subst h0
        have HE := Lib.hid (FIN.out w5 8 (by rw [HEE.out, if_neg (by simp), if_neg (by simp [HR9.out])]; rfl) R5.out.1 R5.out.2)
        go_wp2_with fail
        obtain ⟨hld, fin⟩ := HE.out
        obtain ⟨w9, hw9⟩ : ∃ x, x = (w5.setCell ⟨w.heap.size, 0, none⟩ (.slice none 0 0)).setCell ⟨w.heap.size, 1, none⟩ (.slice none 0 0) := ⟨_, rfl⟩
        rw [← hw9] at hld fin ⊢
        refine bodyPost_ret (v := .tuple #[.agg #[.slice none 0 0, .slice none 0 0], .int .i64 8]) ?_ ?_ ?_
        · simp [results, Tryd.results11, asAddr, hld]
        · rfl
        · exact fin
      · have y2 : (0 : Int) < (n : Int) := by omega
        go_wp2_with fail
        cases hmt : meetF (hw W) n la lb with
        | none =>
          have hdd := HD.out trivial (by omega) _ H5.out
          rw [hmt] at hdd
          refine hdd.mono ?_
          rintro e w6 ⟨x1, d1, x2, d2, he, hx1, hx2, hb6⟩
          have he : e = .returned (.tuple #[.agg #[.slice x1 0 d1, .slice x2 0 d2], .bool false]) := he
          subst he
          clear hdd
          have R6 := Lib.hid (And.intro ((hb6.block _ (Array.getElem?_eq_some_iff.1 R5.out.1).1).trans R5.out.1) (R5.out.2.trans (hb6.mono R5.out.2.size)))
          obtain ⟨w7, hw7⟩ : ∃ x : World, x = w6.alloc (.cells #[.slice x1 0 d1, .slice x2 0 d2] 27) := ⟨_, rfl⟩
          have hb7 : Below w6.heap.size w6 w7 := by rw [hw7]; exact (Below.refl _ _).alloc (Nat.le_refl _) _
          have R7 := Lib.hid (And.intro ((hb7.block _ (Array.getElem?_eq_some_iff.1 R6.out.1).1).trans R6.out.1) (R6.out.2.trans (hb7.mono R6.out.2.size)))
          have h60 : w7.cell? ⟨w.heap.size, 0, none⟩ = some (.slice none 0 0) := cell_of_rowp R7.out.1 rfl
          have h61 : w7.cell? ⟨w.heap.size, 1, none⟩ = some (.slice none 0 0) := cell_of_rowp R7.out.1 rfl
          have z60 : w7.frozen? ⟨w.heap.size, 0, none⟩ = false := by simp [World.frozen?, R7.out.1]
          have z61 : w7.frozen? ⟨w.heap.size, 1, none⟩ = false := by simp [World.frozen?, R7.out.1]
          have HE := Lib.hid (FIN.out w7 8 (by rw [HEE.out, if_neg (by simp), if_neg (by simp [HR9.out]), hmt]) R7.out.1 R7.out.2)
          have HW7 := Lib.hid hw7
          clear hw7 hb7 hb6 hx1 hx2 hmt R6
          go_upto_region 7 with fail
          rw [show w6.alloc (.cells #[.slice x1 0 d1, .slice x2 0 d2] 27) = w7 from HW7.out.symm]
          go_wp2_with fail
          obtain ⟨hld, fin⟩ := HE.out
          obtain ⟨w9, hw9⟩ : ∃ x, x = (w7.setCell ⟨w.heap.size, 0, none⟩ (.slice none 0 0)).setCell ⟨w.heap.size, 1, none⟩ (.slice none 0 0) := ⟨_, rfl⟩
          rw [← hw9] at hld fin ⊢
          refine bodyPost_ret (v := .tuple #[.agg #[.slice none 0 0, .slice none 0 0], .int .i64 8]) ?_ ?_ ?_
          · simp [results, Tryd.results11, asAddr, hld]
          · rfl
          · exact fin
        | some p =>
          obtain ⟨X, Y⟩ := p
          have hdd := HD.out trivial (by omega) _ H5.out
          rw [hmt] at hdd
          refine hdd.mono ?_
          rintro e w6 ⟨x1, d1, x2, d2, he, hx1, hx2, hb6⟩
          have he : e = .returned (.tuple #[.agg #[.slice x1 X.length d1, .slice x2 Y.length d2], .bool true]) := he
          subst he
          clear hdd
          have hx1 : Rd w6 1 (.slice x1 X.length d1) X.length (bv X) := hx1
          have hx2 : Rd w6 1 (.slice x2 Y.length d2) Y.length (bv Y) := hx2
          have R6 := Lib.hid (And.intro ((hb6.block _ (Array.getElem?_eq_some_iff.1 R5.out.1).1).trans R5.out.1) (R5.out.2.trans (hb6.mono R5.out.2.size)))
          have HEE2 := Lib.hid (show A = (0, X, Y) by rw [HEE.out, if_neg (by simp), if_neg (by simp [HR9.out]), hmt])
          have hx1' := hx1.alloc (.cells #[.slice x1 X.length d1, .slice x2 Y.length d2] 27)
          have hx2' := hx2.alloc (.cells #[.slice x1 X.length d1, .slice x2 Y.length d2] 27)
          have hrow7 := heap_alloc_new w6 (.cells #[.slice x1 X.length d1, .slice x2 Y.length d2] 27)
          obtain ⟨w7, hw7⟩ : ∃ x : World, x = w6.alloc (.cells #[.slice x1 X.length d1, .slice x2 Y.length d2] 27) := ⟨_, rfl⟩
          have hb7 : Below w6.heap.size w6 w7 := by rw [hw7]; exact (Below.refl _ _).alloc (Nat.le_refl _) _
          rw [← hw7] at hx1' hx2' hrow7
          have R7 := Lib.hid (And.intro ((hb7.block _ (Array.getElem?_eq_some_iff.1 R6.out.1).1).trans R6.out.1) (R6.out.2.trans (hb7.mono R6.out.2.size)))
          have h60 : w7.cell? ⟨w.heap.size, 0, none⟩ = some (.slice none 0 0) := cell_of_rowp R7.out.1 rfl
          have h61 : w7.cell? ⟨w.heap.size, 1, none⟩ = some (.slice none 0 0) := cell_of_rowp R7.out.1 rfl
          have z60 : w7.frozen? ⟨w.heap.size, 0, none⟩ = false := by simp [World.frozen?, R7.out.1]
          have z61 : w7.frozen? ⟨w.heap.size, 1, none⟩ = false := by simp [World.frozen?, R7.out.1]
          have g60 : w7.cell? ⟨w6.heap.size, 0, none⟩ = some (.slice x1 X.length d1) := cell_of_rowp hrow7 rfl
          have g61 : w7.cell? ⟨w6.heap.size, 1, none⟩ = some (.slice x2 Y.length d2) := cell_of_rowp hrow7 rfl
          have hs6 := s2_facts (a := .slice x1 X.length d1) (b := .slice x2 Y.length d2) R7.out.1
          have k1 := hx1'.s2 (a := .slice x1 X.length d1) (b := .slice x2 Y.length d2) R7.out.1
          have k2 := hx2'.s2 (a := .slice x1 X.length d1) (b := .slice x2 Y.length d2) R7.out.1
          have HS6 := Lib.hid (And.intro hs6 (And.intro k1 k2))
          have HW7 := Lib.hid hw7
          clear hw7 hb7 hb6 hx1 hx2 hmt R6 hs6 k1 k2 hx1' hx2' hrow7
          go_upto_region 7 with fail
          rw [show w6.alloc (.cells #[.slice x1 X.length d1, .slice x2 Y.length d2] 27) = w7 from HW7.out.symm]
          go_wp2_with fail
          have hld := pair_ld Tryd.prog _ w.heap.size _ _ _ 27 HS6.out.1.1 Tryd.underlying27 rfl pairInfo
          have hbz := below_ofp R7.out.2 (Nat.le_refl _) HS6.out.1.2
          have k1 := HS6.out.2.1
          have k2 := HS6.out.2.2
          obtain ⟨w9, hw9⟩ : ∃ x, x = (w7.setCell ⟨w.heap.size, 0, none⟩ (.slice x1 X.length d1)).setCell ⟨w.heap.size, 1, none⟩ (.slice x2 Y.length d2) := ⟨_, rfl⟩
          rw [← hw9] at hld hbz k1 k2 ⊢
          refine bodyPost_ret (v := .tuple #[.agg #[.slice x1 X.length d1, .slice x2 Y.length d2], .int .i64 0]) ?_ ?_ ?_
          · simp [results, Tryd.results11, asAddr, hld]
          · rfl
          · exact (show PairE w w9 A _ by rw [HEE2.out]; exact ⟨x1, d1, x2, d2, rfl, k1, k2, hbz⟩)
    · have hrb : (rt (hw W) la == rt (hw W) lb) = false := by simpa using hrr
      rw [hrb] at hqe
      have HE := Lib.hid (FIN.out w5 3 (by rw [HEE.out, if_neg (by simp), if_pos hrr]) R5.out.1 R5.out.2)
      clear hrr hrb
      go_wp2_with fail
      obtain ⟨hld, fin⟩ := HE.out
      obtain ⟨w9, hw9⟩ : ∃ x, x = (w5.setCell ⟨w.heap.size, 0, none⟩ (.slice none 0 0)).setCell ⟨w.heap.size, 1, none⟩ (.slice none 0 0) := ⟨_, rfl⟩
      rw [← hw9] at hld fin ⊢
      refine bodyPost_ret (v := .tuple #[.agg #[.slice none 0 0, .slice none 0 0], .int .i64 3]) ?_ ?_ ?_
      · simp [results, Tryd.results11, asAddr, hld]
      · rfl
      · exact fin
  · have y1 : ((n : Int) != (m : Int)) = true := by simp; omega
    have h60 : w1.cell? ⟨w.heap.size, 0, none⟩ = some (.slice none 0 0) := cell_of_rowp H1.out.2 rfl
    have h61 : w1.cell? ⟨w.heap.size, 1, none⟩ = some (.slice none 0 0) := cell_of_rowp H1.out.2 rfl
    have z60 : w1.frozen? ⟨w.heap.size, 0, none⟩ = false := by simp [World.frozen?, H1.out.2]
    have z61 : w1.frozen? ⟨w.heap.size, 1, none⟩ = false := by simp [World.frozen?, H1.out.2]
    have HE := Lib.hid (FIN.out w1 9 (by rw [HEE.out, if_pos hnm]) H1.out.2 H1.out.1)
    clear hnm
    go_wp2_with fail
    obtain ⟨hld, fin⟩ := HE.out
    obtain ⟨w9, hw9⟩ : ∃ x, x = (w1.setCell ⟨w.heap.size, 0, none⟩ (.slice none 0 0)).setCell ⟨w.heap.size, 1, none⟩ (.slice none 0 0) := ⟨_, rfl⟩
    rw [← hw9] at hld fin ⊢
    refine bodyPost_ret (v := .tuple #[.agg #[.slice none 0 0, .slice none 0 0], .int .i64 9]) ?_ ?_ ?_
    · simp [results, Tryd.results11, asAddr, hld]
    · rfl
    · exact fin

/-- What each operation hands on. -/
def clYF (W : Int) (g nx ny c1 c2 : Nat) (a1 a2 : Option Addr) (X Y : List UInt8) (sx sy hx hy : List UInt8) : Nat → Value → World → Prop
  | 0, v, _ => v = .pointer (some ⟨g, 0, none⟩)
  | 1, v, _ => v = .slice a1 nx c1
  | 2, v, _ => v = .string ⟨X.toArray⟩
  | 3, v, _ => v = .pointer (some ⟨g, 1, none⟩)
  | 4, v, _ => v = .slice a2 ny c2
  | 5, v, _ => v = .string ⟨Y.toArray⟩
  | 6, v, _ => v = .bool true
  | 7, v, _ => v = .bool true
  | 8, v, _ => v = .pointer (some ⟨g, 0, none⟩)
  | 9, v, _ => v = .slice a1 nx c1
  | 10, v, _ => v = .agg (bv sx).toArray
  | 11, v, _ => v = .int .i64 W
  | 12, v, _ => v = .agg (bv hx).toArray
  | 13, v, _ => v = .pointer (some ⟨g, 1, none⟩)
  | 14, v, _ => v = .slice a2 ny c2
  | 15, v, _ => v = .agg (bv sy).toArray
  | 16, v, _ => v = .int .i64 W
  | 17, v, _ => v = .agg (bv hy).toArray
  | 18, v, _ => v = .bool (hx == hy)
  | 19, v, _ => v = .bool (hx == hy)
  | 20, v, _ => v = .bool (hx == hy)
  | _, _, _ => True
/-- What each operation hands on. -/
def clNF (W : Int) (g nx ny c1 c2 : Nat) (a1 a2 : Option Addr) (X Y : List UInt8) : Nat → Value → World → Prop
  | 0, v, _ => v = .pointer (some ⟨g, 0, none⟩)
  | 1, v, _ => v = .slice a1 nx c1
  | 2, v, _ => v = .string ⟨X.toArray⟩
  | 3, v, _ => v = .pointer (some ⟨g, 1, none⟩)
  | 4, v, _ => v = .slice a2 ny c2
  | 5, v, _ => v = .string ⟨Y.toArray⟩
  | 6, v, _ => v = .bool false
  | 7, v, _ => v = .bool false
  | 8, v, _ => v = undef
  | 9, v, _ => v = undef
  | 10, v, _ => v = undef
  | 11, v, _ => v = undef
  | 12, v, _ => v = undef
  | 13, v, _ => v = undef
  | 14, v, _ => v = undef
  | 15, v, _ => v = undef
  | 16, v, _ => v = undef
  | 17, v, _ => v = undef
  | 18, v, _ => v = undef
  | 19, v, _ => v = .bool false
  | 20, v, _ => v = .bool false
  | _, _, _ => True

def clB (W : Int) (X Y : List UInt8) : Bool := !(X == Y) && (hw W X == hw W Y)
set_option maxHeartbeats 4000000 in
set_option maxRecDepth 100000 in
theorem clash_any (W : Int) (X Y : List UInt8) (a1 a2 : Option Addr) (c1 c2 : Nat) (w : World) (hW : -9223372036854775808 ≤ W ∧ W ≤ 9223372036854775807) (hx : X.length ≤ 140737488355000) (hy : Y.length ≤ 140737488355000) (h1 : Rd w 1 (.slice a1 X.length c1) X.length (bv X)) (h2 : Rd w 1 (.slice a2 Y.length c2) Y.length (bv Y)) (hT : TabsR w) :
    Calls Tryd.prog 18 #[.int .i64 W, .agg #[.slice a1 X.length c1, .slice a2 Y.length c2]] w fun e w' => e = .returned (.bool (clB W X Y)) ∧ Below w.heap.size w w' := by
  obtain ⟨w0, hw0⟩ : ∃ x : World, x = w.alloc (.cells #[.slice a1 X.length c1, .slice a2 Y.length c2] 27) := ⟨_, rfl⟩
  have hB0 : Below w.heap.size w w0 := by rw [hw0]; exact (Below.refl _ _).alloc (Nat.le_refl _) _
  have hrow : w0.heap[w.heap.size]? = some (.cells #[.slice a1 X.length c1, .slice a2 Y.length c2] 27 (0, 0)) := by rw [hw0]; exact heap_alloc_new _ _
  have HSX := Lib.hid (fun wx (hb : Below w0.heap.size w0 wx) => refSumSha_any X (.slice a1 X.length c1) wx hx (h1.keep (hB0.trans (hb.mono hB0.size))) (hT.keepB (hB0.trans (hb.mono hB0.size))))
  have HSY := Lib.hid (fun wx (hb : Below w0.heap.size w0 wx) => refSumSha_any Y (.slice a2 Y.length c2) wx hy (h2.keep (hB0.trans (hb.mono hB0.size))) (hT.keepB (hB0.trans (hb.mono hB0.size))))
  have HNX := Lib.hid (fun wx (_ : Below w0.heap.size w0 wx) => refNarrow_any (Sha.sum X) W wx (sum_length X) hW)
  have HNY := Lib.hid (fun wx (_ : Below w0.heap.size w0 wx) => refNarrow_any (Sha.sum Y) W wx (sum_length Y) hW)
  rw [show nar (Sha.sum X) (clip W) = hw W X from rfl] at HNX
  rw [show nar (Sha.sum Y) (clip W) = hw W Y from rfl] at HNY
  have HL2 := Lib.hid (And.intro (hw32 W X) (hw32 W Y))
  have HR := Lib.hid (And.intro (h1.keep hB0) (h2.keep hB0))
  obtain ⟨nx, hnx⟩ : ∃ n, n = X.length := ⟨_, rfl⟩
  obtain ⟨ny, hny⟩ : ∃ n, n = Y.length := ⟨_, rfl⟩
  rw [← hnx] at HSX hrow hw0 ⊢
  rw [← hny] at HSY hrow hw0 ⊢
  have HR' : Rd w0 1 (.slice a1 nx c1) X.length (bv X) ∧ Rd w0 1 (.slice a2 ny c2) Y.length (bv Y) := by rw [hnx, hny]; exact HR.out
  have HR := Lib.hid HR'
  have HC := Lib.hid (fun wx (hb : Below w0.heap.size w0 wx) => (show wx.cell? ⟨w.heap.size, 0, none⟩ = some (.slice a1 nx c1) ∧ wx.cell? ⟨w.heap.size, 1, none⟩ = some (.slice a2 ny c2) from by
    have h := (hb.block _ (Array.getElem?_eq_some_iff.1 hrow).1).trans hrow
    exact ⟨cell_of_rowp h rfl, cell_of_rowp h rfl⟩))
  have H0 := Lib.hid hB0
  have HW0 := Lib.hid hw0
  unfold clB
  clear HR' h1 h2 hT hB0 hrow hw0 hx hy hnx hny
  generalize hw W X = hx at *
  generalize hw W Y = hy at *
  generalize Sha.sum X = sx at *
  generalize Sha.sum Y = sy at *
  by_cases hq : X = Y
  · have HQ := Lib.hid (show (X == Y) = true from beq_iff_eq.2 hq)
    rw [HQ.out, Bool.not_true, Bool.false_and]
    clear hq HSX HSY HNX HNY HL2
    go_enter Tryd.func18, Tryd.ntmps18
    go_upto_region 1 with fail
    rw [show w.alloc (.cells #[.slice a1 nx c1, .slice a2 ny c2] 27) = w0 from HW0.out.symm]
    refine wp_region_steps [some 5, some 6, some 7, some 8, some 9, some 10, some 11, some 12, some 13, some 14, some 15, some 16, some 17, some 18, some 19, some 20, some 21, some 22, some 23, some 24, some 4] [] (clNF W w.heap.size nx ny c1 c2 a1 a2 X Y) (fun _ wx wy => Below wx.heap.size wx wy) (fun wx => Below w0.heap.size w0 wx) (by kernel_rfl) (by kernel_rfl) rfl (by kernel_rfl) (Below.refl _ _).drew (fun _ wx => Below.refl _ _) (fun _ wx wy h k => h.trans (k.mono h.size)) ?hF ?hstep ?hend
    case hF =>
      exact ⟨fun _ _ _ _ _ _ h => h, ⟨fun _ _ _ _ _ _ h => h, ⟨fun _ _ _ _ _ _ h => h, ⟨fun _ _ _ _ _ _ h => h, ⟨fun _ _ _ _ _ _ h => h, ⟨fun _ _ _ _ _ _ h => h, ⟨fun _ _ _ _ _ _ h => h, ⟨fun _ _ _ _ _ _ h => h, ⟨fun _ _ _ _ _ _ h => h, ⟨fun _ _ _ _ _ _ h => h, ⟨fun _ _ _ _ _ _ h => h, ⟨fun _ _ _ _ _ _ h => h, ⟨fun _ _ _ _ _ _ h => h, ⟨fun _ _ _ _ _ _ h => h, ⟨fun _ _ _ _ _ _ h => h, ⟨fun _ _ _ _ _ _ h => h, ⟨fun _ _ _ _ _ _ h => h, ⟨fun _ _ _ _ _ _ h => h, ⟨fun _ _ _ _ _ _ h => h, ⟨fun _ _ _ _ _ _ h => h, ⟨fun _ _ _ _ _ _ h => h, trivial⟩⟩⟩⟩⟩⟩⟩⟩⟩⟩⟩⟩⟩⟩⟩⟩⟩⟩⟩⟩⟩
    case hstep =>
      -- operation 0: Op.fieldAddr 27 (tmp 3) 0
      refine ⟨fun r wx hG hs hq hf => ?_, ?_⟩
      · have e3 : r 3 = .pointer (some ⟨w.heap.size, 0, none⟩) := hs 3 rfl
        refine (if_pos rfl).symm ▸ ?_
        clear hs hq hf
        unfold gives
        go_simp
        exact ⟨Below.refl _ _, rfl⟩
      -- operation 1: Op.load 25 (tmp 5)
      refine ⟨fun r wx hG hs hq hf => ?_, ?_⟩
      · have h0 : r 5 = .pointer (some ⟨w.heap.size, 0, none⟩) := hf.1
        refine (if_pos rfl).symm ▸ ?_
        clear hs hq hf
        unfold gives
        have hcl := (HC.out wx hG).1
        go_simp
        exact ⟨Below.refl _ _, rfl⟩
      -- operation 2: Op.convert 25 9 (tmp 6)
      refine ⟨fun r wx hG hs hq hf => ?_, ?_⟩
      · have h1 : r 6 = .slice a1 nx c1 := hf.1
        refine (if_pos rfl).symm ▸ ?_
        clear hs hq hf
        unfold gives
        have hs := string_of_bytes (P := Tryd.prog) (w := wx) Tryd.underlying25 Tryd.underlying5 Tryd.underlying9 (HR.out.1.keep hG)
        go_simp
        exact ⟨Below.refl _ _, rfl⟩
      -- operation 3: Op.fieldAddr 27 (tmp 3) 1
      refine ⟨fun r wx hG hs hq hf => ?_, ?_⟩
      · have e3 : r 3 = .pointer (some ⟨w.heap.size, 0, none⟩) := hs 3 rfl
        refine (if_pos rfl).symm ▸ ?_
        clear hs hq hf
        unfold gives
        go_simp
        exact ⟨Below.refl _ _, rfl⟩
      -- operation 4: Op.load 25 (tmp 8)
      refine ⟨fun r wx hG hs hq hf => ?_, ?_⟩
      · have h3 : r 8 = .pointer (some ⟨w.heap.size, 1, none⟩) := hf.1
        refine (if_pos rfl).symm ▸ ?_
        clear hs hq hf
        unfold gives
        have hcl := (HC.out wx hG).2
        go_simp
        exact ⟨Below.refl _ _, rfl⟩
      -- operation 5: Op.convert 25 9 (tmp 9)
      refine ⟨fun r wx hG hs hq hf => ?_, ?_⟩
      · have h4 : r 9 = .slice a2 ny c2 := hf.1
        refine (if_pos rfl).symm ▸ ?_
        clear hs hq hf
        unfold gives
        have hs := string_of_bytes (P := Tryd.prog) (w := wx) Tryd.underlying25 Tryd.underlying5 Tryd.underlying9 (HR.out.2.keep hG)
        go_simp
        exact ⟨Below.refl _ _, rfl⟩
      -- operation 6: Op.binOp BinOp.neq 9 (tmp 7) (tmp 10) 9
      refine ⟨fun r wx hG hs hq hf => ?_, ?_⟩
      · have h2 : r 7 = .string ⟨X.toArray⟩ := hf.1
        have h5 : r 10 = .string ⟨Y.toArray⟩ := hf.2.1
        refine (if_pos rfl).symm ▸ ?_
        clear hs hq hf
        unfold gives
        have hqb := HQ.out
        go_simp
        exact ⟨Below.refl _ _, by simp [clNF]⟩
      -- operation 7: Op.move (tmp 11)
      refine ⟨fun r wx hG hs hq hf => ?_, ?_⟩
      · have h6 : r 11 = .bool false := hf.1
        refine (if_pos rfl).symm ▸ ?_
        clear hs hq hf
        unfold gives
        go_simp
        exact ⟨Below.refl _ _, rfl⟩
      -- operation 8: Op.fieldAddr 27 (tmp 3) 0
      refine ⟨fun r wx hG hs hq hf => ?_, ?_⟩
      · have e3 : r 3 = .pointer (some ⟨w.heap.size, 0, none⟩) := hs 3 rfl
        have h7 : r 12 = .bool false := hf.1
        have hy : ydD [some 5, some 6, some 7, some 8, some 9, some 10, some 11, some 12, some 13, some 14, some 15, some 16, some 17, some 18, some 19, some 20, some 21, some 22, some 23, some 24, some 4] r 7 = some false := by show (match r 12 with | .bool b => some b | _ => none) = some false; rw [h7]
        simp only [Region.wanted, hy]
        rw [if_neg (show ¬ (some false == some true) = true by decide)]
        clear hs hq hf hy
        rfl
      -- operation 9: Op.load 25 (tmp 13)
      refine ⟨fun r wx hG hs hq hf => ?_, ?_⟩
      · have h8 : r 13 = undef := hf.1
        have h7 : r 12 = .bool false := hf.2.1
        have hy : ydD [some 5, some 6, some 7, some 8, some 9, some 10, some 11, some 12, some 13, some 14, some 15, some 16, some 17, some 18, some 19, some 20, some 21, some 22, some 23, some 24, some 4] r 7 = some false := by show (match r 12 with | .bool b => some b | _ => none) = some false; rw [h7]
        simp only [Region.wanted, hy]
        rw [if_neg (show ¬ (some false == some true) = true by decide)]
        clear hs hq hf hy
        rfl
      -- operation 10: Op.call ( callee := Callee.value (func 53), args := #[tmp 14], argTypes := #[25] )
      refine ⟨fun r wx hG hs hq hf => ?_, ?_⟩
      · have h9 : r 14 = undef := hf.1
        have h7 : r 12 = .bool false := hf.2.1
        have hy : ydD [some 5, some 6, some 7, some 8, some 9, some 10, some 11, some 12, some 13, some 14, some 15, some 16, some 17, some 18, some 19, some 20, some 21, some 22, some 23, some 24, some 4] r 7 = some false := by show (match r 12 with | .bool b => some b | _ => none) = some false; rw [h7]
        simp only [Region.wanted, hy]
        rw [if_neg (show ¬ (some false == some true) = true by decide)]
        clear hs hq hf hy
        rfl
      -- operation 11: Op.move (tmp 0)
      refine ⟨fun r wx hG hs hq hf => ?_, ?_⟩
      · have e0 : r 0 = .int .i64 W := hs 0 rfl
        have h7 : r 12 = .bool false := hf.1
        have hy : ydD [some 5, some 6, some 7, some 8, some 9, some 10, some 11, some 12, some 13, some 14, some 15, some 16, some 17, some 18, some 19, some 20, some 21, some 22, some 23, some 24, some 4] r 7 = some false := by show (match r 12 with | .bool b => some b | _ => none) = some false; rw [h7]
        simp only [Region.wanted, hy]
        rw [if_neg (show ¬ (some false == some true) = true by decide)]
        clear hs hq hf hy
        rfl
      -- operation 12: Op.call ( callee := Callee.value (func 52), args := #[tmp 15, tmp 16], argTypes := #[35, 3] )
      refine ⟨fun r wx hG hs hq hf => ?_, ?_⟩
      · have h10 : r 15 = undef := hf.1
        have h11 : r 16 = undef := hf.2.1
        have h7 : r 12 = .bool false := hf.2.2.2.1
        have hy : ydD [some 5, some 6, some 7, some 8, some 9, some 10, some 11, some 12, some 13, some 14, some 15, some 16, some 17, some 18, some 19, some 20, some 21, some 22, some 23, some 24, some 4] r 7 = some false := by show (match r 12 with | .bool b => some b | _ => none) = some false; rw [h7]
        simp only [Region.wanted, hy]
        rw [if_neg (show ¬ (some false == some true) = true by decide)]
        clear hs hq hf hy
        rfl
      -- operation 13: Op.fieldAddr 27 (tmp 3) 1
      refine ⟨fun r wx hG hs hq hf => ?_, ?_⟩
      · have e3 : r 3 = .pointer (some ⟨w.heap.size, 0, none⟩) := hs 3 rfl
        have h7 : r 12 = .bool false := hf.1
        have hy : ydD [some 5, some 6, some 7, some 8, some 9, some 10, some 11, some 12, some 13, some 14, some 15, some 16, some 17, some 18, some 19, some 20, some 21, some 22, some 23, some 24, some 4] r 7 = some false := by show (match r 12 with | .bool b => some b | _ => none) = some false; rw [h7]
        simp only [Region.wanted, hy]
        rw [if_neg (show ¬ (some false == some true) = true by decide)]
        clear hs hq hf hy
        rfl
      -- operation 14: Op.load 25 (tmp 18)
      refine ⟨fun r wx hG hs hq hf => ?_, ?_⟩
      · have h13 : r 18 = undef := hf.1
        have h7 : r 12 = .bool false := hf.2.1
        have hy : ydD [some 5, some 6, some 7, some 8, some 9, some 10, some 11, some 12, some 13, some 14, some 15, some 16, some 17, some 18, some 19, some 20, some 21, some 22, some 23, some 24, some 4] r 7 = some false := by show (match r 12 with | .bool b => some b | _ => none) = some false; rw [h7]
        simp only [Region.wanted, hy]
        rw [if_neg (show ¬ (some false == some true) = true by decide)]
        clear hs hq hf hy
        rfl
      -- operation 15: Op.call ( callee := Callee.value (func 53), args := #[tmp 19], argTypes := #[25] )
      refine ⟨fun r wx hG hs hq hf => ?_, ?_⟩
      · have h14 : r 19 = undef := hf.1
        have h7 : r 12 = .bool false := hf.2.2.1
        have hy : ydD [some 5, some 6, some 7, some 8, some 9, some 10, some 11, some 12, some 13, some 14, some 15, some 16, some 17, some 18, some 19, some 20, some 21, some 22, some 23, some 24, some 4] r 7 = some false := by show (match r 12 with | .bool b => some b | _ => none) = some false; rw [h7]
        simp only [Region.wanted, hy]
        rw [if_neg (show ¬ (some false == some true) = true by decide)]
        clear hs hq hf hy
        rfl
      -- operation 16: Op.move (tmp 0)
      refine ⟨fun r wx hG hs hq hf => ?_, ?_⟩
      · have e0 : r 0 = .int .i64 W := hs 0 rfl
        have h7 : r 12 = .bool false := hf.1
        have hy : ydD [some 5, some 6, some 7, some 8, some 9, some 10, some 11, some 12, some 13, some 14, some 15, some 16, some 17, some 18, some 19, some 20, some 21, some 22, some 23, some 24, some 4] r 7 = some false := by show (match r 12 with | .bool b => some b | _ => none) = some false; rw [h7]
        simp only [Region.wanted, hy]
        rw [if_neg (show ¬ (some false == some true) = true by decide)]
        clear hs hq hf hy
        rfl
      -- operation 17: Op.call ( callee := Callee.value (func 52), args := #[tmp 20, tmp 21], argTypes := #[35, 3] )
      refine ⟨fun r wx hG hs hq hf => ?_, ?_⟩
      · have h15 : r 20 = undef := hf.1
        have h16 : r 21 = undef := hf.2.1
        have h7 : r 12 = .bool false := hf.2.2.2.1
        have hy : ydD [some 5, some 6, some 7, some 8, some 9, some 10, some 11, some 12, some 13, some 14, some 15, some 16, some 17, some 18, some 19, some 20, some 21, some 22, some 23, some 24, some 4] r 7 = some false := by show (match r 12 with | .bool b => some b | _ => none) = some false; rw [h7]
        simp only [Region.wanted, hy]
        rw [if_neg (show ¬ (some false == some true) = true by decide)]
        clear hs hq hf hy
        rfl
      -- operation 18: Op.binOp BinOp.eql 35 (tmp 17) (tmp 22) 35
      refine ⟨fun r wx hG hs hq hf => ?_, ?_⟩
      · have h12 : r 17 = undef := hf.1
        have h17 : r 22 = undef := hf.2.1
        have h7 : r 12 = .bool false := hf.2.2.1
        have hy : ydD [some 5, some 6, some 7, some 8, some 9, some 10, some 11, some 12, some 13, some 14, some 15, some 16, some 17, some 18, some 19, some 20, some 21, some 22, some 23, some 24, some 4] r 7 = some false := by show (match r 12 with | .bool b => some b | _ => none) = some false; rw [h7]
        simp only [Region.wanted, hy]
        rw [if_neg (show ¬ (some false == some true) = true by decide)]
        clear hs hq hf hy
        rfl
      -- operation 19: Op.pick (tmp 12) (tmp 23) (const (Value.bool false))
      refine ⟨fun r wx hG hs hq hf => ?_, ?_⟩
      · have h7 : r 12 = .bool false := hf.1
        have h18 : r 23 = undef := hf.2.1
        refine (if_pos rfl).symm ▸ ?_
        clear hs hq hf
        unfold gives
        go_simp
        exact ⟨Below.refl _ _, rfl⟩
      -- operation 20: Op.assign (tmp 24)
      refine ⟨fun r wx hG hs hq hf => ?_, ?_⟩
      · have h19 : r 24 = .bool false := hf.1
        refine (if_pos rfl).symm ▸ ?_
        clear hs hq hf
        unfold gives
        go_simp
        exact ⟨Below.refl _ _, rfl⟩
      exact trivial
    case hend =>
      intro u wz hG hfin
      have z20 : u 20 = .bool false := hfin 20 (by decide) (by kernel_rfl)
      clear hfin
      simp only [fill]
      have HZ := Lib.hid (H0.out.trans (hG.mono H0.out.size))
      have hz := z20
      clear z20 hG
      go_simp
      go_wp2_with fail
      go_ret
      exact ⟨rfl, HZ.out⟩

  · have HQ := Lib.hid (show (X == Y) = false from beq_eq_false_iff_ne.2 hq)
    rw [HQ.out, Bool.not_false, Bool.true_and]
    clear hq
    go_enter Tryd.func18, Tryd.ntmps18
    go_upto_region 1 with fail
    rw [show w.alloc (.cells #[.slice a1 nx c1, .slice a2 ny c2] 27) = w0 from HW0.out.symm]
    refine wp_region_steps [some 5, some 6, some 7, some 8, some 9, some 10, some 11, some 12, some 13, some 14, some 15, some 16, some 17, some 18, some 19, some 20, some 21, some 22, some 23, some 24, some 4] [] (clYF W w.heap.size nx ny c1 c2 a1 a2 X Y sx sy hx hy) (fun _ wx wy => Below wx.heap.size wx wy) (fun wx => Below w0.heap.size w0 wx) (by kernel_rfl) (by kernel_rfl) rfl (by kernel_rfl) (Below.refl _ _).drew (fun _ wx => Below.refl _ _) (fun _ wx wy h k => h.trans (k.mono h.size)) ?hF ?hstep ?hend
    case hF =>
      exact ⟨fun _ _ _ _ _ _ h => h, ⟨fun _ _ _ _ _ _ h => h, ⟨fun _ _ _ _ _ _ h => h, ⟨fun _ _ _ _ _ _ h => h, ⟨fun _ _ _ _ _ _ h => h, ⟨fun _ _ _ _ _ _ h => h, ⟨fun _ _ _ _ _ _ h => h, ⟨fun _ _ _ _ _ _ h => h, ⟨fun _ _ _ _ _ _ h => h, ⟨fun _ _ _ _ _ _ h => h, ⟨fun _ _ _ _ _ _ h => h, ⟨fun _ _ _ _ _ _ h => h, ⟨fun _ _ _ _ _ _ h => h, ⟨fun _ _ _ _ _ _ h => h, ⟨fun _ _ _ _ _ _ h => h, ⟨fun _ _ _ _ _ _ h => h, ⟨fun _ _ _ _ _ _ h => h, ⟨fun _ _ _ _ _ _ h => h, ⟨fun _ _ _ _ _ _ h => h, ⟨fun _ _ _ _ _ _ h => h, ⟨fun _ _ _ _ _ _ h => h, trivial⟩⟩⟩⟩⟩⟩⟩⟩⟩⟩⟩⟩⟩⟩⟩⟩⟩⟩⟩⟩⟩
    case hstep =>
      -- operation 0: Op.fieldAddr 27 (tmp 3) 0
      refine ⟨fun r wx hG hs hq hf => ?_, ?_⟩
      · have e3 : r 3 = .pointer (some ⟨w.heap.size, 0, none⟩) := hs 3 rfl
        refine (if_pos rfl).symm ▸ ?_
        clear hs hq hf
        unfold gives
        go_simp
        exact ⟨Below.refl _ _, rfl⟩
      -- operation 1: Op.load 25 (tmp 5)
      refine ⟨fun r wx hG hs hq hf => ?_, ?_⟩
      · have h0 : r 5 = .pointer (some ⟨w.heap.size, 0, none⟩) := hf.1
        refine (if_pos rfl).symm ▸ ?_
        clear hs hq hf
        unfold gives
        have hcl := (HC.out wx hG).1
        go_simp
        exact ⟨Below.refl _ _, rfl⟩
      -- operation 2: Op.convert 25 9 (tmp 6)
      refine ⟨fun r wx hG hs hq hf => ?_, ?_⟩
      · have h1 : r 6 = .slice a1 nx c1 := hf.1
        refine (if_pos rfl).symm ▸ ?_
        clear hs hq hf
        unfold gives
        have hs := string_of_bytes (P := Tryd.prog) (w := wx) Tryd.underlying25 Tryd.underlying5 Tryd.underlying9 (HR.out.1.keep hG)
        go_simp
        exact ⟨Below.refl _ _, rfl⟩
      -- operation 3: Op.fieldAddr 27 (tmp 3) 1
      refine ⟨fun r wx hG hs hq hf => ?_, ?_⟩
      · have e3 : r 3 = .pointer (some ⟨w.heap.size, 0, none⟩) := hs 3 rfl
        refine (if_pos rfl).symm ▸ ?_
        clear hs hq hf
        unfold gives
        go_simp
        exact ⟨Below.refl _ _, rfl⟩
      -- operation 4: Op.load 25 (tmp 8)
      refine ⟨fun r wx hG hs hq hf => ?_, ?_⟩
      · have h3 : r 8 = .pointer (some ⟨w.heap.size, 1, none⟩) := hf.1
        refine (if_pos rfl).symm ▸ ?_
        clear hs hq hf
        unfold gives
        have hcl := (HC.out wx hG).2
        go_simp
        exact ⟨Below.refl _ _, rfl⟩
      -- operation 5: Op.convert 25 9 (tmp 9)
      refine ⟨fun r wx hG hs hq hf => ?_, ?_⟩
      · have h4 : r 9 = .slice a2 ny c2 := hf.1
        refine (if_pos rfl).symm ▸ ?_
        clear hs hq hf
        unfold gives
        have hs := string_of_bytes (P := Tryd.prog) (w := wx) Tryd.underlying25 Tryd.underlying5 Tryd.underlying9 (HR.out.2.keep hG)
        go_simp
        exact ⟨Below.refl _ _, rfl⟩
      -- operation 6: Op.binOp BinOp.neq 9 (tmp 7) (tmp 10) 9
      refine ⟨fun r wx hG hs hq hf => ?_, ?_⟩
      · have h2 : r 7 = .string ⟨X.toArray⟩ := hf.1
        have h5 : r 10 = .string ⟨Y.toArray⟩ := hf.2.1
        refine (if_pos rfl).symm ▸ ?_
        clear hs hq hf
        unfold gives
        have hqb := HQ.out
        go_simp
        exact ⟨Below.refl _ _, by simp [clYF]⟩
      -- operation 7: Op.move (tmp 11)
      refine ⟨fun r wx hG hs hq hf => ?_, ?_⟩
      · have h6 : r 11 = .bool true := hf.1
        refine (if_pos rfl).symm ▸ ?_
        clear hs hq hf
        unfold gives
        go_simp
        exact ⟨Below.refl _ _, rfl⟩
      -- operation 8: Op.fieldAddr 27 (tmp 3) 0
      refine ⟨fun r wx hG hs hq hf => ?_, ?_⟩
      · have e3 : r 3 = .pointer (some ⟨w.heap.size, 0, none⟩) := hs 3 rfl
        have h7 : r 12 = .bool true := hf.1
        have hy : ydD [some 5, some 6, some 7, some 8, some 9, some 10, some 11, some 12, some 13, some 14, some 15, some 16, some 17, some 18, some 19, some 20, some 21, some 22, some 23, some 24, some 4] r 7 = some true := by show (match r 12 with | .bool b => some b | _ => none) = some true; rw [h7]
        simp only [Region.wanted, hy, beq_self_eq_true, if_true]
        clear hs hq hf hy
        unfold gives
        go_simp
        exact ⟨Below.refl _ _, rfl⟩
      -- operation 9: Op.load 25 (tmp 13)
      refine ⟨fun r wx hG hs hq hf => ?_, ?_⟩
      · have h8 : r 13 = .pointer (some ⟨w.heap.size, 0, none⟩) := hf.1
        have h7 : r 12 = .bool true := hf.2.1
        have hy : ydD [some 5, some 6, some 7, some 8, some 9, some 10, some 11, some 12, some 13, some 14, some 15, some 16, some 17, some 18, some 19, some 20, some 21, some 22, some 23, some 24, some 4] r 7 = some true := by show (match r 12 with | .bool b => some b | _ => none) = some true; rw [h7]
        simp only [Region.wanted, hy, beq_self_eq_true, if_true]
        clear hs hq hf hy
        unfold gives
        have hcl := (HC.out wx hG).1
        go_simp
        exact ⟨Below.refl _ _, rfl⟩
      -- operation 10: Op.call ( callee := Callee.value (func 53), args := #[tmp 14], argTypes := #[25] )
      refine ⟨fun r wx hG hs hq hf => ?_, ?_⟩
      · have h9 : r 14 = .slice a1 nx c1 := hf.1
        have h7 : r 12 = .bool true := hf.2.1
        have hy : ydD [some 5, some 6, some 7, some 8, some 9, some 10, some 11, some 12, some 13, some 14, some 15, some 16, some 17, some 18, some 19, some 20, some 21, some 22, some 23, some 24, some 4] r 7 = some true := by show (match r 12 with | .bool b => some b | _ => none) = some true; rw [h7]
        simp only [Region.wanted, hy, beq_self_eq_true, if_true]
        clear hs hq hf hy
        unfold gives
        go_simp
        refine (HSX.out wx hG).mono ?_
        rintro e wy ⟨rfl, hb1⟩
        exact ⟨_, rfl, hb1, rfl⟩
      -- operation 11: Op.move (tmp 0)
      refine ⟨fun r wx hG hs hq hf => ?_, ?_⟩
      · have e0 : r 0 = .int .i64 W := hs 0 rfl
        have h7 : r 12 = .bool true := hf.1
        have hy : ydD [some 5, some 6, some 7, some 8, some 9, some 10, some 11, some 12, some 13, some 14, some 15, some 16, some 17, some 18, some 19, some 20, some 21, some 22, some 23, some 24, some 4] r 7 = some true := by show (match r 12 with | .bool b => some b | _ => none) = some true; rw [h7]
        simp only [Region.wanted, hy, beq_self_eq_true, if_true]
        clear hs hq hf hy
        unfold gives
        go_simp
        exact ⟨Below.refl _ _, rfl⟩
      -- operation 12: Op.call ( callee := Callee.value (func 52), args := #[tmp 15, tmp 16], argTypes := #[35, 3] )
      refine ⟨fun r wx hG hs hq hf => ?_, ?_⟩
      · have h10 : r 15 = .agg (bv sx).toArray := hf.1
        have h11 : r 16 = .int .i64 W := hf.2.1
        have h7 : r 12 = .bool true := hf.2.2.2.1
        have hy : ydD [some 5, some 6, some 7, some 8, some 9, some 10, some 11, some 12, some 13, some 14, some 15, some 16, some 17, some 18, some 19, some 20, some 21, some 22, some 23, some 24, some 4] r 7 = some true := by show (match r 12 with | .bool b => some b | _ => none) = some true; rw [h7]
        simp only [Region.wanted, hy, beq_self_eq_true, if_true]
        clear hs hq hf hy
        unfold gives
        go_simp
        refine (HNX.out wx hG).mono ?_
        rintro e wy ⟨rfl, hb1⟩
        exact ⟨_, rfl, hb1, rfl⟩
      -- operation 13: Op.fieldAddr 27 (tmp 3) 1
      refine ⟨fun r wx hG hs hq hf => ?_, ?_⟩
      · have e3 : r 3 = .pointer (some ⟨w.heap.size, 0, none⟩) := hs 3 rfl
        have h7 : r 12 = .bool true := hf.1
        have hy : ydD [some 5, some 6, some 7, some 8, some 9, some 10, some 11, some 12, some 13, some 14, some 15, some 16, some 17, some 18, some 19, some 20, some 21, some 22, some 23, some 24, some 4] r 7 = some true := by show (match r 12 with | .bool b => some b | _ => none) = some true; rw [h7]
        simp only [Region.wanted, hy, beq_self_eq_true, if_true]
        clear hs hq hf hy
        unfold gives
        go_simp
        exact ⟨Below.refl _ _, rfl⟩
      -- operation 14: Op.load 25 (tmp 18)
      refine ⟨fun r wx hG hs hq hf => ?_, ?_⟩
      · have h13 : r 18 = .pointer (some ⟨w.heap.size, 1, none⟩) := hf.1
        have h7 : r 12 = .bool true := hf.2.1
        have hy : ydD [some 5, some 6, some 7, some 8, some 9, some 10, some 11, some 12, some 13, some 14, some 15, some 16, some 17, some 18, some 19, some 20, some 21, some 22, some 23, some 24, some 4] r 7 = some true := by show (match r 12 with | .bool b => some b | _ => none) = some true; rw [h7]
        simp only [Region.wanted, hy, beq_self_eq_true, if_true]
        clear hs hq hf hy
        unfold gives
        have hcl := (HC.out wx hG).2
        go_simp
        exact ⟨Below.refl _ _, rfl⟩
      -- operation 15: Op.call ( callee := Callee.value (func 53), args := #[tmp 19], argTypes := #[25] )
      refine ⟨fun r wx hG hs hq hf => ?_, ?_⟩
      · have h14 : r 19 = .slice a2 ny c2 := hf.1
        have h7 : r 12 = .bool true := hf.2.2.1
        have hy : ydD [some 5, some 6, some 7, some 8, some 9, some 10, some 11, some 12, some 13, some 14, some 15, some 16, some 17, some 18, some 19, some 20, some 21, some 22, some 23, some 24, some 4] r 7 = some true := by show (match r 12 with | .bool b => some b | _ => none) = some true; rw [h7]
        simp only [Region.wanted, hy, beq_self_eq_true, if_true]
        clear hs hq hf hy
        unfold gives
        go_simp
        refine (HSY.out wx hG).mono ?_
        rintro e wy ⟨rfl, hb1⟩
        exact ⟨_, rfl, hb1, rfl⟩
      -- operation 16: Op.move (tmp 0)
      refine ⟨fun r wx hG hs hq hf => ?_, ?_⟩
      · have e0 : r 0 = .int .i64 W := hs 0 rfl
        have h7 : r 12 = .bool true := hf.1
        have hy : ydD [some 5, some 6, some 7, some 8, some 9, some 10, some 11, some 12, some 13, some 14, some 15, some 16, some 17, some 18, some 19, some 20, some 21, some 22, some 23, some 24, some 4] r 7 = some true := by show (match r 12 with | .bool b => some b | _ => none) = some true; rw [h7]
        simp only [Region.wanted, hy, beq_self_eq_true, if_true]
        clear hs hq hf hy
        unfold gives
        go_simp
        exact ⟨Below.refl _ _, rfl⟩
      -- operation 17: Op.call ( callee := Callee.value (func 52), args := #[tmp 20, tmp 21], argTypes := #[35, 3] )
      refine ⟨fun r wx hG hs hq hf => ?_, ?_⟩
      · have h15 : r 20 = .agg (bv sy).toArray := hf.1
        have h16 : r 21 = .int .i64 W := hf.2.1
        have h7 : r 12 = .bool true := hf.2.2.2.1
        have hy : ydD [some 5, some 6, some 7, some 8, some 9, some 10, some 11, some 12, some 13, some 14, some 15, some 16, some 17, some 18, some 19, some 20, some 21, some 22, some 23, some 24, some 4] r 7 = some true := by show (match r 12 with | .bool b => some b | _ => none) = some true; rw [h7]
        simp only [Region.wanted, hy, beq_self_eq_true, if_true]
        clear hs hq hf hy
        unfold gives
        go_simp
        refine (HNY.out wx hG).mono ?_
        rintro e wy ⟨rfl, hb1⟩
        exact ⟨_, rfl, hb1, rfl⟩
      -- operation 18: Op.binOp BinOp.eql 35 (tmp 17) (tmp 22) 35
      refine ⟨fun r wx hG hs hq hf => ?_, ?_⟩
      · have h12 : r 17 = .agg (bv hx).toArray := hf.1
        have h17 : r 22 = .agg (bv hy).toArray := hf.2.1
        have h7 : r 12 = .bool true := hf.2.2.1
        have hy : ydD [some 5, some 6, some 7, some 8, some 9, some 10, some 11, some 12, some 13, some 14, some 15, some 16, some 17, some 18, some 19, some 20, some 21, some 22, some 23, some 24, some 4] r 7 = some true := by show (match r 12 with | .bool b => some b | _ => none) = some true; rw [h7]
        simp only [Region.wanted, hy, beq_self_eq_true, if_true]
        clear hs hq hf hy
        unfold gives
        have hqe := eqIn_hash hx hy HL2.out.1 HL2.out.2 wx
        have hgd := eq_guard
        go_simp
        exact ⟨Below.refl _ _, rfl⟩
      -- operation 19: Op.pick (tmp 12) (tmp 23) (const (Value.bool false))
      refine ⟨fun r wx hG hs hq hf => ?_, ?_⟩
      · have h7 : r 12 = .bool true := hf.1
        have h18 : r 23 = .bool (hx == hy) := hf.2.1
        refine (if_pos rfl).symm ▸ ?_
        clear hs hq hf
        unfold gives
        go_simp
        exact ⟨Below.refl _ _, rfl⟩
      -- operation 20: Op.assign (tmp 24)
      refine ⟨fun r wx hG hs hq hf => ?_, ?_⟩
      · have h19 : r 24 = .bool (hx == hy) := hf.1
        refine (if_pos rfl).symm ▸ ?_
        clear hs hq hf
        unfold gives
        go_simp
        exact ⟨Below.refl _ _, rfl⟩
      exact trivial
    case hend =>
      intro u wz hG hfin
      have z20 : u 20 = .bool (hx == hy) := hfin 20 (by decide) (by kernel_rfl)
      clear hfin
      simp only [fill]
      have HZ := Lib.hid (H0.out.trans (hG.mono H0.out.size))
      have hz := z20
      clear z20 hG
      go_simp
      go_wp2_with fail
      go_ret
      exact ⟨rfl, HZ.out⟩

end Go.Proofs.YtfibhmgjkooemaaDoor
