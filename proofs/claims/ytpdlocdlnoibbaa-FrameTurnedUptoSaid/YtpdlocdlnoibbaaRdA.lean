/- bin's New, Left, End; awake. -/
import Derived.Test.YtpdlocdlnoibbaaRdn
import Derived.Test.YtpdlocdlnoibbaaSlB
import Derived.Test.YtpdlocdlnoibbaaBinRaw
namespace Go.Proofs.Ytpdlocdlnoibbaa
open Go.RowKit

/-- Whoever grew a new block changed nothing old. -/
theorem below_of_grown {w w1 w2 : World} {p : Nat} (hb : Below w.heap.size w w1) (hp : w.heap.size ≤ p) (hg : w1.grownBy w2 (some p)) : Below w.heap.size w w2 :=
  ⟨hg.os.trans hb.os, hg.tape.trans hb.tape, hg.output.trans hb.output, Nat.le_trans hb.size hg.size, fun k hk => (hg.block k (Nat.lt_of_lt_of_le hk hb.size) (fun e => by simp only [Option.some.injEq] at e; omega)).trans (hb.block k hk)⟩
/-- A reader of its own bytes. -/
theorem New_far (v : Value) (l : List UInt8) (w : World) (hr : Rd w 1 v l.length (bv l)) (hl : l.length ≤ 140737488355328) :
    Calls Try.prog 12 #[v] w fun e w' => ∃ p a c, e = .returned (.pointer (some ⟨p, 0, none⟩)) ∧ w.heap.size ≤ p ∧ Rdr w' p a c 0 l ∧ Below w.heap.size w w' ∧ ∀ x, a = some x → w.heap.size ≤ x.block := by
  have h1 := CloneB8_any v l.length (bv l) w hr (by omega)
  go_enter Try.func12, Try.ntmps12
  go_wp2_with fail
  refine h1.mono ?_
  rintro e w1 ⟨v1, rfl, ho1, hb1⟩
  have hr1 := own_rd ho1 (bv_one _)
  obtain ⟨a, c, rfl⟩ := hr1.form
  have hs1 := hb1.size
  have hlt := ho1.lt
  obtain ⟨n, hn⟩ : ∃ n, n = l.length := ⟨_, rfl⟩
  rw [← hn] at hr1 hlt ⊢
  have HR := Lib.hid (And.intro hr1 (And.intro hn (And.intro hlt (And.intro hb1 hs1))))
  clear hr1 hb1 h1 ho1 hlt hr hl hn
  go_wp2_with fail
  go_ret
  have hb : Below w1.heap.size w1 (w1.alloc (.cells #[.slice a n c, .int .i64 0] 61)) := (Below.refl _ _).alloc (Nat.le_refl _) _
  refine ⟨w1.heap.size, a, c, rfl, HR.out.2.2.2.2, ⟨?_, ?_, ?_⟩, HR.out.2.2.2.1.trans (hb.mono HR.out.2.2.2.2), fun x hx => by subst hx; exact (HR.out.2.2.1 x.block (by simp [Value.ownBlock])).1⟩
  · rw [← HR.out.2.1]; exact heap_alloc_new _ _
  · rw [← HR.out.2.1]; exact HR.out.1.keep hb
  · intro x hx
    subst hx
    exact (HR.out.2.2.1 x.block (by simp [Value.ownBlock])).2
theorem New_any (v : Value) (l : List UInt8) (w : World) (hr : Rd w 1 v l.length (bv l)) (hl : l.length ≤ 140737488355328) :
    Calls Try.prog 12 #[v] w fun e w' => ∃ p a c, e = .returned (.pointer (some ⟨p, 0, none⟩)) ∧ w.heap.size ≤ p ∧ Rdr w' p a c 0 l ∧ Below w.heap.size w w' :=
  (New_far v l w hr hl).mono (by rintro e w' ⟨p, a, c, h1, h2, h3, h4, _⟩; exact ⟨p, a, c, h1, h2, h3, h4⟩)
/-- How many bytes are left. -/
theorem Left_any (w : World) (p : Nat) (a : Option Addr) (c : Nat) (no : Int) (l : List UInt8) (h : Rdr w p a c no l) :
    Calls Try.prog 15 #[.pointer (some ⟨p, 0, none⟩)] w fun e w' => e = .returned (.int .i64 l.length) ∧ w' = w := by
  have h0 : w.cell? ⟨p, 0, none⟩ = some (.slice a l.length c) := cell_of_row h.row rfl
  clear h
  go_enter Try.func15, Try.ntmps15
  go_wp2_with fail
  go_ret
  exact ⟨rfl, rfl⟩
/-- The end: where bytes are left, an error. -/
theorem End_any (w : World) (p : Nat) (a : Option Addr) (c : Nat) (no : Int) (l : List UInt8) (h : Rdr w p a c no l) :
    Calls Try.prog 14 #[.pointer (some ⟨p, 0, none⟩)] w fun e w' => e = .returned (.int .i64 (if no = 0 ∧ l ≠ [] then 5 else no)) ∧ Rdr w' p a c (if no = 0 ∧ l ≠ [] then 5 else no) l ∧ w.grownBy w' (some p) := by
  have h0 : w.cell? ⟨p, 0, none⟩ = some (.slice a l.length c) := cell_of_row h.row rfl
  have h1 : w.cell? ⟨p, 1, none⟩ = some (.int .i64 no) := cell_of_row h.row rfl
  have hz : w.frozen? ⟨p, 1, none⟩ = false := by simp [World.frozen?, h.row]
  have H := Lib.hid h
  by_cases hno : no = 0
  · subst hno
    cases l with
    | nil =>
      clear h
      go_enter Try.func14, Try.ntmps14
      go_wp2_with fail
      go_ret
      exact ⟨by simp, by simpa using H.out, World.grownBy.refl _ _⟩
    | cons x r =>
      have z1 : (0 : Int) < ((x :: r).length : Int) := by simp
      have hrow := Lib.hid h.row
      clear h
      obtain ⟨n, hn⟩ : ∃ n, n = (x :: r).length := ⟨_, rfl⟩
      rw [← hn] at h0 z1
      have HN := Lib.hid hn
      clear hn
      have fin : Rdr (w.setCell ⟨p, 1, none⟩ (.int .i64 5)) p a c 5 (x :: r) := by
        refine Rdr.of (no := 0) H.out (grown_set1 (World.grownBy.refl _ _) 1 _) ?_
        rw [heap_setCell_same w p 1 _ _ _ hrow.out]; rfl
      have FIN := Lib.hid fin
      clear fin
      go_enter Try.func14, Try.ntmps14
      go_wp2_with fail
      all_goals go_ret
      all_goals exact ⟨by simp, by simpa using FIN.out, grown_set1 (World.grownBy.refl _ _) 1 _⟩
  · have z1 : (no == 0) = false := by simp [hno]
    clear h
    rw [if_neg (fun h => hno h.1)]
    go_enter Try.func14, Try.ntmps14
    go_wp2_with fail
    go_ret
    exact ⟨rfl, H.out, World.grownBy.refl _ _⟩

theorem awake01_any (w : World) : Calls Try.prog 11 #[] w fun e w' => e = .returned (.bool true) ∧ Below w.heap.size w w' := by
  have n1 : rdN [2, 1, 0, 9] = (0, 256, [9]) := by decide
  have n2 : rdN [9] = (3, 0, []) := by decide
  go_enter Try.func11, Try.ntmps11
  go_wp2_with fail
  have hB0 : Below w.heap.size w (w.alloc (.cells #[.int .u8 2, .int .u8 1, .int .u8 0, .int .u8 9] 5)) := (Below.refl _ _).alloc (Nat.le_refl _) _
  have hr0 := own_rd (own_new w 5 1 4 w.heap.size (bv [2, 1, 0, 9]) rfl (by omega) (Nat.le_refl _)) (bv_one _)
  have hnew := New_any _ [2, 1, 0, 9] _ hr0 (by simp)
  refine hnew.mono ?_
  rintro e w1 ⟨p, a, c, rfl, hp, hrd, hb⟩
  have hs0 := hB0.size
  have h1 := RNum_any w1 p a c 0 _ hrd
  have HB := Lib.hid (And.intro (hB0.trans (hb.mono hs0)) (Nat.le_trans hs0 hp))
  clear hb hp hB0 hr0 hnew hs0 hrd
  go_wp2_with fail
  refine h1.mono ?_
  rintro e w2 ⟨hg2, hres⟩
  rw [if_pos rfl, n1, if_pos rfl] at hres
  obtain ⟨rfl, a2, c2, hr2⟩ := hres
  have h2 := RNum_any w2 p a2 c2 0 _ hr2
  have HG := Lib.hid hg2
  clear hg2 hr2 h1
  go_wp2_with fail
  refine h2.mono ?_
  rintro e w3 ⟨hg3, hres⟩
  rw [if_pos rfl, n2, if_neg (by decide)] at hres
  obtain ⟨rfl, hr3⟩ := hres
  have h3 := Left_any w3 p a2 c2 3 [9] hr3
  have HB3 : Hid (Below w.heap.size w w3) := Lib.hid (below_of_grown HB.out.1 HB.out.2 (grown_trans HG.out hg3 (fun j hj => .inl hj)))
  clear hg3 hr3 h2
  go_wp2_with fail
  refine h3.mono ?_
  rintro e w4 ⟨rfl, rfl⟩
  go_wp2_with fail
  refine (Num_any 256 w4 (by omega)).mono ?_
  rintro e w5 ⟨v5, rfl, hr5, hb5⟩
  have hcv := string_of_bytes (P := Try.prog) Try.underlying22 Try.underlying5 Try.underlying9 hr5
  rw [numB_256] at hcv
  have hb := HB3.out.trans (hb5.mono HB3.out.size)
  clear hr5 hb5 h3
  go_wp2_with fail
  go_ret
  exact ⟨rfl, hb⟩
end Go.Proofs.Ytpdlocdlnoibbaa
