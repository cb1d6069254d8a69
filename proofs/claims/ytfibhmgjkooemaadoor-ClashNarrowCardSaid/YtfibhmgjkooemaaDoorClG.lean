/- The law's same, few, awake; ClashLists: the walk. (printed by gen/clg.py) -/
import Derived.Test.YtfibhmgjkooemaaDoorClF
import Derived.LoopN
namespace Go.Proofs.YtfibhmgjkooemaaDoor
open Go.RowKit Sha Root Path Clash

set_option maxHeartbeats 4000000 in
set_option maxRecDepth 100000 in
/-- Two answers that are one, and a clash just where there is no error. -/
theorem same17_any (W : Int) (X Y : List UInt8) (E : Int) (a1 a2 b1 b2 : Option Addr) (c1 c2 d1 d2 : Nat) (w : World) (hW : -9223372036854775808 ≤ W ∧ W ≤ 9223372036854775807) (hx : X.length ≤ 140737488355000) (hy : Y.length ≤ 140737488355000) (h1 : Rd w 1 (.slice a1 X.length c1) X.length (bv X)) (h2 : Rd w 1 (.slice a2 Y.length c2) Y.length (bv Y))
    (k1 : Rd w 1 (.slice b1 X.length d1) X.length (bv X)) (k2 : Rd w 1 (.slice b2 Y.length d2) Y.length (bv Y)) (hT : TabsR w) (hE : (E == 0) = clB W X Y) :
    Calls Tryd.prog 12 #[.int .i64 W, .agg #[.slice a1 X.length c1, .slice a2 Y.length c2], .int .i64 E, .agg #[.slice b1 X.length d1, .slice b2 Y.length d2], .int .i64 E] w fun e w' => e = .returned (.bool true) ∧ Below w.heap.size w w' := by
  obtain ⟨w0, hw0⟩ : ∃ x : World, x = (w.alloc (.cells #[.slice a1 X.length c1, .slice a2 Y.length c2] 27)).alloc (.cells #[.slice b1 X.length d1, .slice b2 Y.length d2] 27) := ⟨_, rfl⟩
  have hB0 : Below w.heap.size w w0 := by rw [hw0]; exact ((Below.refl _ _).alloc (Nat.le_refl _) _).alloc (by simp) _
  have r1 : w0.heap[w.heap.size]? = some (.cells #[.slice a1 X.length c1, .slice a2 Y.length c2] 27 (0, 0)) := by
    rw [hw0, heap_alloc_old _ _ (by simp)]; exact heap_alloc_new _ _
  have r2 : w0.heap[w.heap.size + 1]? = some (.cells #[.slice b1 X.length d1, .slice b2 Y.length d2] 27 (0, 0)) := by
    rw [hw0]
    have := heap_alloc_new (w.alloc (.cells #[.slice a1 X.length c1, .slice a2 Y.length c2] 27)) (.cells #[.slice b1 X.length d1, .slice b2 Y.length d2] 27)
    simpa using this
  have HCL := Lib.hid (fun wx (hb : Below w0.heap.size w0 wx) => clash_any W X Y a1 a2 c1 c2 wx hW hx hy (h1.keep (hB0.trans (hb.mono hB0.size))) (h2.keep (hB0.trans (hb.mono hB0.size))) (hT.keepB (hB0.trans (hb.mono hB0.size))))
  have s1 := string_of_bytes (P := Tryd.prog) (w := w0) Tryd.underlying25 Tryd.underlying5 Tryd.underlying9 (h1.keep hB0)
  have s2 := string_of_bytes (P := Tryd.prog) (w := w0) Tryd.underlying25 Tryd.underlying5 Tryd.underlying9 (h2.keep hB0)
  have s3 := string_of_bytes (P := Tryd.prog) (w := w0) Tryd.underlying25 Tryd.underlying5 Tryd.underlying9 (k1.keep hB0)
  have s4 := string_of_bytes (P := Tryd.prog) (w := w0) Tryd.underlying25 Tryd.underlying5 Tryd.underlying9 (k2.keep hB0)
  obtain ⟨nx, hnx⟩ : ∃ n, n = X.length := ⟨_, rfl⟩
  obtain ⟨ny, hny⟩ : ∃ n, n = Y.length := ⟨_, rfl⟩
  rw [← hnx] at HCL r1 r2 hw0 s1 s3 ⊢
  rw [← hny] at HCL r1 r2 hw0 s2 s4 ⊢
  have q10 : w0.cell? ⟨w.heap.size, 0, none⟩ = some (.slice a1 nx c1) := cell_of_rowp r1 rfl
  have q11 : w0.cell? ⟨w.heap.size, 1, none⟩ = some (.slice a2 ny c2) := cell_of_rowp r1 rfl
  have q20 : w0.cell? ⟨w.heap.size + 1, 0, none⟩ = some (.slice b1 nx d1) := cell_of_rowp r2 rfl
  have q21 : w0.cell? ⟨w.heap.size + 1, 1, none⟩ = some (.slice b2 ny d2) := cell_of_rowp r2 rfl
  have HE := Lib.hid hE
  generalize clB W X Y = cb at *
  have HW0 := Lib.hid hw0
  have H0 := Lib.hid hB0
  have y0 : (E == E) = true := by simp
  have yx : (X == X) = true := by simp
  have yy : (Y == Y) = true := by simp
  clear h1 h2 k1 k2 hT hE hB0 r1 r2 hw0 hx hy hnx hny hW
  by_cases hE0 : E = 0
  · subst hE0
    have hcc : cb = true := HE.out.symm.trans (by simp)
    subst hcc
    clear y0
    go_enter Tryd.func12, Tryd.ntmps12
    go_upto_region 1 with fail
    rw [show (w.alloc (.cells #[.slice a1 nx c1, .slice a2 ny c2] 27)).alloc (.cells #[.slice b1 nx d1, .slice b2 ny d2] 27) = w0 from HW0.out.symm]
    go_wp2_with fail
    refine (HCL.out _ (Below.refl _ _)).mono ?_
    rintro e w1 ⟨rfl, hb1⟩
    have H9 := Lib.hid (H0.out.trans (hb1.mono H0.out.size))
    clear hb1
    go_wp2_with fail
    go_ret
    exact ⟨rfl, H9.out⟩
  · have y1 : (E == 0) = false := by simp [hE0]
    have hcc : cb = false := HE.out.symm.trans y1
    subst hcc
    clear hE0
    go_enter Tryd.func12, Tryd.ntmps12
    go_upto_region 1 with fail
    rw [show (w.alloc (.cells #[.slice a1 nx c1, .slice a2 ny c2] 27)).alloc (.cells #[.slice b1 nx d1, .slice b2 ny d2] 27) = w0 from HW0.out.symm]
    go_wp2_with fail
    refine (HCL.out _ (Below.refl _ _)).mono ?_
    rintro e w1 ⟨rfl, hb1⟩
    have H9 := Lib.hid (H0.out.trans (hb1.mono H0.out.size))
    clear hb1
    go_wp2_with fail
    go_ret
    exact ⟨rfl, H9.out⟩

/-- How much a list of texts weighs. -/
def fewS (l : List (List UInt8)) : Nat := (l.map fun t => 50 + min t.length 1048576).sum
def fewB (l : List (List UInt8)) : Bool := decide (fewS l ≤ 4000)
theorem fewS_take (l : List (List UInt8)) (k : Nat) (t : List UInt8) (h : l[k]? = some t) : fewS (l.take (k + 1)) = fewS (l.take k) + (50 + min t.length 1048576) := by
  unfold fewS; rw [List.take_add_one, h]; simp
theorem fewS_le (l : List (List UInt8)) : fewS l ≤ l.length * 1048626 := by
  induction l with
  | nil => simp [fewS]
  | cons t l ih =>
    have : fewS (t :: l) = (50 + min t.length 1048576) + fewS l := by simp [fewS]
    rw [this, List.length_cons, Nat.add_mul]
    omega
theorem fewS_ge (l : List (List UInt8)) : l.length * 50 ≤ fewS l := by
  induction l with
  | nil => simp [fewS]
  | cons t l ih =>
    have : fewS (t :: l) = (50 + min t.length 1048576) + fewS l := by simp [fewS]
    rw [this, List.length_cons, Nat.add_mul]
    omega
theorem fewS_mem (l : List (List UInt8)) (t : List UInt8) (h : t ∈ l) : min t.length 1048576 ≤ fewS l := by
  induction l with
  | nil => simp at h
  | cons x l ih =>
    have e : fewS (x :: l) = (50 + min x.length 1048576) + fewS l := by simp [fewS]
    rw [e]
    rcases List.mem_cons.1 h with rfl | h
    · omega
    · have := ih h; omega
theorem few_small (l : List (List UInt8)) (h : fewB l = true) : l.length ≤ 80 ∧ ∀ t ∈ l, t.length ≤ 4000 := by
  have h := of_decide_eq_true h
  have h2 := fewS_ge l
  refine ⟨by omega, fun t ht => ?_⟩
  have := fewS_mem l t ht
  omega
set_option maxHeartbeats 4000000 in
set_option maxRecDepth 100000 in
theorem few_any (l : List (List UInt8)) (v : Value) (w : World) (hl : l.length * 24 ≤ 140737488351232) (hv : Txw w v l) :
    Calls Tryd.prog 9 #[v] w fun e w' => e = .returned (.bool (fewB l)) ∧ Below w.heap.size w w' := by
  have hsum := fewS_le l
  have hpre : ∀ k, k ≤ l.length → fewS (l.take k) ≤ k * 1048626 := fun k hk => by
    have := fewS_le (l.take k)
    rwa [List.length_take, Nat.min_eq_left hk] at this
  obtain ⟨n, hn⟩ : ∃ n, n = l.length := ⟨_, rfl⟩
  by_cases h0 : l.length = 0
  · have : l = [] := List.eq_nil_of_length_eq_zero h0
    subst this
    obtain ⟨a, c, rfl⟩ := hv.form
    clear hsum hpre hl hv h0 hn
    go_enter Tryd.func9, Tryd.ntmps9
    go_wp2_with fail
    refine wp_loop_rounds 1 ?_
    rw [rounds_succ]
    go_wp2_with fail
    go_ret
    exact ⟨rfl, Below.refl _ _⟩
  · obtain ⟨b, off, c, rfl, hc, hat⟩ := hv.at (by omega)
    rw [← hn] at hl hc hsum h0 ⊢
    have HAT := Lib.hid hat
    have HN := Lib.hid hn
    have HP := Lib.hid hpre
    have HS := Lib.hid hsum
    clear hat hn hv hpre hsum
    go_enter Tryd.func9, Tryd.ntmps9
    go_wp2_with fail
    go_loop [3, 4] (fun s3 s4 => ∃ k : Nat, k ≤ n ∧ s4 = .int .i64 k ∧ s3 = .int .i64 (fewS (l.take k) : Nat)) (fun _ i => n - (intOf i).toNat)
    case atStart => exact ⟨0, by omega, rfl, rfl⟩
    case round =>
      obtain ⟨k, hk, rfl, rfl⟩ := hrel
      by_cases hlt : k < n
      · have hkz : (k : Int) < (n : Int) := by omega
        have hk0 : (0 : Int) ≤ (k : Int) := by omega
        obtain ⟨t, ht⟩ : ∃ t, l[k]? = some t := ⟨l[k]'(by rw [← HN.out]; exact hlt), List.getElem?_eq_getElem _⟩
        obtain ⟨xa, xc, hcell, _⟩ := HAT.out k t ht
        have hnext := fewS_take l k t ht
        obtain ⟨S, hS⟩ : ∃ S, S = fewS (l.take k) := ⟨_, rfl⟩
        have hSk : S ≤ k * 1048626 := by rw [hS]; exact HP.out k (by rw [← HN.out]; omega)
        rw [← hS] at hnext ⊢
        obtain ⟨tl, htl⟩ : ∃ m, m = t.length := ⟨_, rfl⟩
        rw [← htl] at hcell hnext
        obtain ⟨mn, hmn⟩ : ∃ m, m = min tl 1048576 := ⟨_, rfl⟩
        rw [← hmn] at hnext
        have hmb : mn ≤ 1048576 := by omega
        have zmin : min (tl : Int) 1048576 = (mn : Int) := by omega
        have z1 : IntKind.i64.wrap (50 + (mn : Int)) = ((50 + mn : Nat) : Int) := (IntWalk.i64_in _ (by omega)).trans (by omega)
        have z2 : IntKind.i64.wrap ((S : Int) + ((50 + mn : Nat) : Int)) = ((S + (50 + mn) : Nat) : Int) := (IntWalk.i64_in _ (by omega)).trans (by omega)
        have z2b : IntKind.i64.wrap ((S : Int) + (50 + (mn : Int))) = ((S + (50 + mn) : Nat) : Int) := (IntWalk.i64_in _ (by omega)).trans (by omega)
        have z3 : IntKind.i64.wrap ((k : Int) + 1) = ((k + 1 : Nat) : Int) := (IntWalk.i64_in _ (by omega)).trans (by omega)
        have HNX := Lib.hid hnext
        clear hnext hmn htl hS
        go_wp2_with fail
        go_round
        case rel => exact ⟨k + 1, by omega, by go_num, by rw [HNX.out]; go_num⟩
        case measure => simp [intOf]; omega
      · obtain rfl : k = n := by omega
        have hkn : ¬ (k : Int) < (k : Int) := by omega
        have hfull : l.take k = l := by rw [HN.out, List.take_length]
        rw [hfull]
        obtain ⟨S, hS⟩ : ∃ S, S = fewS l := ⟨_, rfl⟩
        have HSE := Lib.hid hS
        rw [← hS]
        cases hd : decide ((S : Int) ≤ 4000) with
        | true =>
          have HD := Lib.hid (show fewB l = true by unfold fewB; rw [← HSE.out]; exact decide_eq_true (by have := of_decide_eq_true hd; omega))
          clear hS hfull
          go_wp2_with fail
          go_ret
          rw [HD.out]
          exact ⟨by simp [hd], by first | exact Below.refl _ _ | assumption⟩
        | false =>
          have HD := Lib.hid (show fewB l = false by unfold fewB; rw [← HSE.out]; exact decide_eq_false (by have := of_decide_eq_false hd; omega))
          clear hS hfull
          go_wp2_with fail
          go_ret
          rw [HD.out]
          exact ⟨by simp [hd], by first | exact Below.refl _ _ | assumption⟩

theorem hw0 (t : List UInt8) : hw 0 t = zs 32 := by
  unfold hw
  rw [show clip 0 = 0 from rfl, nar_none]
theorem txw_one {w : World} {g h c d : Nat} {x : UInt8} (h1 : w.cell? ⟨g, 0, none⟩ = some (.slice (some ⟨h, 0, none⟩) 1 d)) (h2 : w.cell? ⟨h, 0, none⟩ = some (.int .u8 x.toNat)) (hc : 1 ≤ c) (hd : 1 ≤ d) : Txw w (.slice (some ⟨g, 0, none⟩) 1 c) [[x]] := by
  refine ⟨[.slice (some ⟨h, 0, none⟩) 1 d], rfl, ⟨rfl, by simp [Value.oneCell'], .inr ⟨_, _, rfl, hc, fun j u hu => ?_⟩⟩, fun i t u ht hu => ?_⟩
  · match j, hu with
    | 0, hu =>
      obtain rfl := Option.some.inj hu
      rw [Addr.add_lit]; exact h1
  · match i, ht, hu with
    | 0, ht, hu =>
      obtain rfl := Option.some.inj ht
      obtain rfl := Option.some.inj hu
      refine ⟨rfl, bv_one _, .inr ⟨_, _, rfl, hd, fun j u hu => ?_⟩⟩
      match j, hu with
      | 0, hu =>
        obtain rfl := Option.some.inj hu
        rw [Addr.add_lit]; exact h2
theorem awake_ans : ansL 0 [[1]] [[2]] = (0, [0, 1], [0, 2]) := by
  have h1 : rt (hw 0) [[1]] = rt (hw 0) [[2]] := by rw [rt_one, rt_one, hw0, hw0]
  rw [ansL, if_neg (by simp), if_neg (by simp [h1])]
  rw [show ([[1]] : List (List UInt8)).length = 0 + 1 from rfl, meet_at _ _ _ _ (by simp) (by simp [tx_one])]
  rfl
set_option maxHeartbeats 4000000 in
set_option maxRecDepth 100000 in
theorem awake17_any (w : World) (hT : Tabs w) : Calls Tryd.prog 8 #[] w fun e w' => e = .returned (.bool true) ∧ Below w.heap.size w w' := by
  obtain ⟨w4, hw4⟩ : ∃ x : World, x = (((w.alloc (.cells #[.int .u8 1] 5)).alloc (.cells #[.slice (some ⟨w.heap.size, 0, none⟩) 1 1] 25)).alloc (.cells #[.int .u8 2] 5)).alloc (.cells #[.slice (some ⟨w.heap.size + 1 + 1, 0, none⟩) 1 1] 25) := ⟨_, rfl⟩
  have hB : Below w.heap.size w w4 := by rw [hw4]; exact ((((Below.refl _ _).alloc (Nat.le_refl _) _).alloc (by simp) _).alloc (by simp; try omega) _).alloc (by simp; try omega) _
  have r0 : w4.heap[w.heap.size]? = some (.cells #[.int .u8 1] 5 (0, 0)) := by
    rw [hw4, heap_alloc_old _ _ (by simp; try omega), heap_alloc_old _ _ (by simp; try omega), heap_alloc_old _ _ (by simp; try omega)]; exact heap_alloc_new _ _
  have r1 : w4.heap[w.heap.size + 1]? = some (.cells #[.slice (some ⟨w.heap.size, 0, none⟩) 1 1] 25 (0, 0)) := by
    rw [hw4, heap_alloc_old _ _ (by simp; try omega), heap_alloc_old _ _ (by simp; try omega)]
    have := heap_alloc_new (w.alloc (.cells #[.int .u8 1] 5)) (.cells #[.slice (some ⟨w.heap.size, 0, none⟩) 1 1] 25)
    simpa using this
  have r2 : w4.heap[w.heap.size + 1 + 1]? = some (.cells #[.int .u8 2] 5 (0, 0)) := by
    rw [hw4, heap_alloc_old _ _ (by simp)]
    have := heap_alloc_new ((w.alloc (.cells #[.int .u8 1] 5)).alloc (.cells #[.slice (some ⟨w.heap.size, 0, none⟩) 1 1] 25)) (.cells #[.int .u8 2] 5)
    simpa using this
  have r3 : w4.heap[w.heap.size + 1 + 1 + 1]? = some (.cells #[.slice (some ⟨w.heap.size + 1 + 1, 0, none⟩) 1 1] 25 (0, 0)) := by
    rw [hw4]
    have := heap_alloc_new (((w.alloc (.cells #[.int .u8 1] 5)).alloc (.cells #[.slice (some ⟨w.heap.size, 0, none⟩) 1 1] 25)).alloc (.cells #[.int .u8 2] 5)) (.cells #[.slice (some ⟨w.heap.size + 1 + 1, 0, none⟩) 1 1] 25)
    simpa using this
  have t1 : Txw w4 (.slice (some ⟨w.heap.size + 1, 0, none⟩) 1 1) [[1]] := txw_one (cell_of_rowp r1 rfl) (cell_of_rowp r0 rfl) (by omega) (by omega)
  have t2 : Txw w4 (.slice (some ⟨w.heap.size + 1 + 1 + 1, 0, none⟩) 1 1) [[2]] := txw_one (cell_of_rowp r3 rfl) (cell_of_rowp r2 rfl) (by omega) (by omega)
  have hL := cLists_any 0 [[1]] [[2]] _ _ w4 (by omega) (by simp) (by simp) (by simp) (by simp) t1 t2 (hT.keepB hB)
  rw [awake_ans] at hL
  have HL := Lib.hid hL
  have H4 := Lib.hid hB
  have HW4 := Lib.hid hw4
  clear hL hB hw4 r0 r1 r2 r3 t1 t2 hT
  go_enter Tryd.func8, Tryd.ntmps8
  go_wp2_with fail
  rw [show (((w.alloc (.cells #[.int .u8 1] 5)).alloc (.cells #[.slice (some ⟨w.heap.size, 0, none⟩) 1 1] 25)).alloc (.cells #[.int .u8 2] 5)).alloc (.cells #[.slice (some ⟨w.heap.size + 1 + 1, 0, none⟩) 1 1] 25) = w4 from HW4.out.symm]
  refine HL.out.mono ?_
  rintro e w5 ⟨a1, c1, a2, c2, rfl, h1, h2, hb5⟩
  have h1 : Rd w5 1 (.slice a1 2 c1) ([0, 1] : List UInt8).length (bv [0, 1]) := h1
  have h2 : Rd w5 1 (.slice a2 2 c2) ([0, 2] : List UInt8).length (bv [0, 2]) := h2
  obtain ⟨w6, hw6⟩ : ∃ x : World, x = w5.alloc (.cells #[.slice a1 2 c1, .slice a2 2 c2] 27) := ⟨_, rfl⟩
  have hb6 : Below w5.heap.size w5 w6 := by rw [hw6]; exact (Below.refl _ _).alloc (Nat.le_refl _) _
  have hr6 : w6.heap[w5.heap.size]? = some (.cells #[.slice a1 2 c1, .slice a2 2 c2] 27 (0, 0)) := by rw [hw6]; exact heap_alloc_new _ _
  have q0 : w6.cell? ⟨w5.heap.size, 0, none⟩ = some (.slice a1 2 c1) := cell_of_rowp hr6 rfl
  have q1 : w6.cell? ⟨w5.heap.size, 1, none⟩ = some (.slice a2 2 c2) := cell_of_rowp hr6 rfl
  have s1 := string_of_bytes (P := Tryd.prog) (w := w6) Tryd.underlying25 Tryd.underlying5 Tryd.underlying9 (h1.keep hb6)
  have s2 := string_of_bytes (P := Tryd.prog) (w := w6) Tryd.underlying25 Tryd.underlying5 Tryd.underlying9 (h2.keep hb6)
  have H9 := Lib.hid ((H4.out.trans (hb5.mono H4.out.size)).trans (hb6.mono (H4.out.trans (hb5.mono H4.out.size)).size))
  have HW6 := Lib.hid hw6
  clear h1 h2 hb5 hb6 hr6 hw6
  go_upto_region 2 with fail
  rw [show w5.alloc (.cells #[.slice a1 2 c1, .slice a2 2 c2] 27) = w6 from HW6.out.symm]
  go_wp2_with fail
  go_ret
  exact ⟨by first | rfl | decide | simp, H9.out⟩

theorem ansL_clash (W : Int) (a b : List (List UInt8)) : ((ansL W a b).1 == 0) = clB W (ansL W a b).2.1 (ansL W a b).2.2 := by
  unfold ansL
  by_cases h1 : a.length ≠ b.length
  · rw [if_pos h1]; rfl
  · rw [if_neg h1]
    by_cases h2 : rt (hw W) a ≠ rt (hw W) b
    · rw [if_pos h2]; rfl
    · rw [if_neg h2]
      cases hm : meetF (hw W) a.length a b with
      | none => rfl
      | some p =>
        have hc := meet_clash (hw W) (hw32 W) a.length a b p (by omega) (by simpa using h2) hm
        simp only [clB]
        rw [show (p.1 == p.2) = false from beq_eq_false_iff_ne.2 hc.1, show (hw W p.1 == hw W p.2) = true from beq_iff_eq.2 hc.2]
        rfl
/-- How long a text is that is hashed. -/
theorem tx_len (W : Int) (l : List (List UInt8)) (h0 : 0 < l.length) (h : ∀ t ∈ l, t.length ≤ 4000) : (tx (hw W) l).length ≤ 4001 := by
  match l, h0, h with
  | [x], _, h => have := h x (by simp); rw [tx_one]; simp; omega
  | x :: y :: r, _, _ => rw [tx_length _ (hw32 W) _ (by simp)]; omega
theorem meet_len (W : Int) : ∀ (f : Nat) (a b : List (List UInt8)) (p : List UInt8 × List UInt8), a.length = b.length → (∀ t ∈ a, t.length ≤ 4000) → (∀ t ∈ b, t.length ≤ 4000) → meetF (hw W) f a b = some p → p.1.length ≤ 4001 ∧ p.2.length ≤ 4001
  | 0, a, b, p, _, _, _, h => by simp [meetF] at h
  | f + 1, a, b, p, hl, ha, hb, h => by
    by_cases h0 : a.length = 0
    · rw [meetF, if_pos h0] at h; simp at h
    by_cases ht : tx (hw W) a = tx (hw W) b
    · by_cases h1 : a.length = 1
      · rw [meet_one _ f a b h1 ht] at h; simp at h
      · have htl : (a.take (top a.length)).length = (b.take (top b.length)).length := by rw [List.length_take, List.length_take, hl]
        have hdl : (a.drop (top a.length)).length = (b.drop (top b.length)).length := by rw [List.length_drop, List.length_drop, hl]
        cases hm : meetF (hw W) f (a.take (top a.length)) (b.take (top b.length)) with
        | some q =>
          rw [meet_left _ f a b (by omega) ht q hm] at h
          obtain rfl := Option.some.inj h
          exact meet_len W f _ _ _ htl (fun t h => ha t (List.mem_of_mem_take h)) (fun t h => hb t (List.mem_of_mem_take h)) hm
        | none =>
          rw [meet_right _ f a b (by omega) ht hm] at h
          exact meet_len W f _ _ _ hdl (fun t h => ha t (List.mem_of_mem_drop h)) (fun t h => hb t (List.mem_of_mem_drop h)) h
    · rw [meet_at _ f a b (by omega) ht] at h
      obtain rfl := Option.some.inj h
      exact ⟨tx_len W a (by omega) ha, tx_len W b (by omega) hb⟩
theorem ansL_len (W : Int) (a b : List (List UInt8)) (ha : ∀ t ∈ a, t.length ≤ 4000) (hb : ∀ t ∈ b, t.length ≤ 4000) : (ansL W a b).2.1.length ≤ 4001 ∧ (ansL W a b).2.2.length ≤ 4001 := by
  unfold ansL
  by_cases h1 : a.length ≠ b.length
  · rw [if_pos h1]; simp
  · rw [if_neg h1]
    by_cases h2 : rt (hw W) a ≠ rt (hw W) b
    · rw [if_pos h2]; simp
    · rw [if_neg h2]
      cases hm : meetF (hw W) a.length a b with
      | none => simp
      | some p => exact meet_len W a.length a b p (by omega) ha hb hm

set_option maxHeartbeats 8000000 in
set_option maxRecDepth 100000 in
theorem clashLists_walk (W : Int) (la lb : List (List UInt8)) (v u : Value) (w : World) (hW : -9223372036854775808 ≤ W ∧ W ≤ 9223372036854775807) (hla : la.length * 24 ≤ 140737488351232) (hlb : lb.length * 24 ≤ 140737488351232) (hv : Txw w v la) (hu : Txw w u lb) (hT : TabsR w) :
    Calls Tryd.prog 3 #[.int .i64 W, v, u] w fun e w' => e = .returned (.bool true) ∧ Below w.heap.size w w' := by
  obtain ⟨a1, c1, rfl⟩ := hv.form
  obtain ⟨a2, c2, rfl⟩ := hu.form
  have HAW := Lib.hid (fun wx (hb : Below w.heap.size w wx) => awake17_any wx (hT.toTabs.keepB hb))
  have HFA := Lib.hid (fun wx (hb : Below w.heap.size w wx) => few_any la (.slice a1 la.length c1) wx hla (hv.keep hb))
  have HFB := Lib.hid (fun wx (hb : Below w.heap.size w wx) => few_any lb (.slice a2 lb.length c2) wx hlb (hu.keep hb))
  have HARG := Lib.hid (And.intro hv (And.intro hu (And.intro hT hW)))
  generalize hn : la.length = n at *
  generalize hm : lb.length = m at *
  have HN := Lib.hid (And.intro hn hm)
  clear hv hu hT hW hn hm hla hlb
  go_enter Tryd.func3, Tryd.ntmps3
  go_wp2_with fail
  refine (HAW.out _ (Below.refl _ _)).mono ?_
  rintro e w1 ⟨rfl, hb1⟩
  have H1 := Lib.hid hb1
  clear hb1
  go_wp2_with fail
  refine (HFA.out _ H1.out).mono ?_
  rintro e w2 ⟨rfl, hb2⟩
  have H2 := Lib.hid (H1.out.trans (hb2.mono H1.out.size))
  clear hb2
  cases hfa : fewB la with
  | false =>
    clear hfa
    go_wp2_with fail
    refine (HAW.out _ H2.out).mono ?_
    rintro e w3 ⟨rfl, hb3⟩
    have H3 := Lib.hid (H2.out.trans (hb3.mono H2.out.size))
    clear hb3
    go_wp2_with fail
    go_ret
    exact ⟨rfl, H3.out⟩
  | true =>
    have HFA2 := Lib.hid (few_small la hfa)
    clear hfa
    go_wp2_with fail
    refine (HFB.out _ H2.out).mono ?_
    rintro e w3 ⟨rfl, hb3⟩
    have H3 := Lib.hid (H2.out.trans (hb3.mono H2.out.size))
    clear hb3
    cases hfb : fewB lb with
    | false =>
      clear hfb
      go_wp2_with fail
      refine (HAW.out _ H3.out).mono ?_
      rintro e w4 ⟨rfl, hb4⟩
      have H4 := Lib.hid (H3.out.trans (hb4.mono H3.out.size))
      clear hb4
      go_wp2_with fail
      go_ret
      exact ⟨rfl, H4.out⟩
    | true =>
      have HFB2 := Lib.hid (few_small lb hfb)
      clear hfb
      have hcl := cLists_any W la lb (.slice a1 n c1) (.slice a2 m c2) w3 HARG.out.2.2.2 (by have := HFA2.out.1; omega) (by have := HFB2.out.1; omega) (fun t h => Nat.le_trans (HFA2.out.2 t h) (by omega)) (fun t h => Nat.le_trans (HFB2.out.2 t h) (by omega)) (HARG.out.1.keep H3.out) (HARG.out.2.1.keep H3.out) (HARG.out.2.2.1.toTabs.keepB H3.out)
      have hrl := fun wx (hb : Below w3.heap.size w3 wx) => r17Lists_any W la lb (.slice a1 n c1) (.slice a2 m c2) wx HARG.out.2.2.2 (by have := HFA2.out.1; omega) (by have := HFB2.out.1; omega) (fun t h => Nat.le_trans (HFA2.out.2 t h) (by omega)) (fun t h => Nat.le_trans (HFB2.out.2 t h) (by omega)) ((HARG.out.1.keep H3.out).keep hb) ((HARG.out.2.1.keep H3.out).keep hb) ((HARG.out.2.2.1.keepB H3.out).keepB hb)
      have hac := ansL_clash W la lb
      have hln := ansL_len W la lb HFA2.out.2 HFB2.out.2
      generalize ansL W la lb = A at *
      obtain ⟨E, X, Y⟩ := A
      have HCL := Lib.hid hcl
      have HRL := Lib.hid hrl
      have HAC := Lib.hid (And.intro hac hln)
      clear hcl hrl hac hln
      go_wp2_with fail
      refine HCL.out.mono ?_
      rintro e w4 ⟨x1, d1, x2, d2, he, hx1, hx2, hb4⟩
      have he : e = .returned (.tuple #[.agg #[.slice x1 X.length d1, .slice x2 Y.length d2], .int .i64 E]) := he
      have hx1 : Rd w4 1 (.slice x1 X.length d1) X.length (bv X) := hx1
      have hx2 : Rd w4 1 (.slice x2 Y.length d2) Y.length (bv Y) := hx2
      subst he
      obtain ⟨w5, hw5⟩ : ∃ x : World, x = w4.alloc (.cells #[.slice x1 X.length d1, .slice x2 Y.length d2] 27) := ⟨_, rfl⟩
      have hb5 : Below w4.heap.size w4 w5 := by rw [hw5]; exact (Below.refl _ _).alloc (Nat.le_refl _) _
      have hr5 : w5.heap[w4.heap.size]? = some (.cells #[.slice x1 X.length d1, .slice x2 Y.length d2] 27 (0, 0)) := by rw [hw5]; exact heap_alloc_new _ _
      have H5 := Lib.hid (And.intro hr5 (And.intro (hx1.keep hb5) (And.intro (hx2.keep hb5) (hb4.trans (hb5.mono hb4.size)))))
      have HW5 := Lib.hid hw5
      clear hx1 hx2 hb4 hb5 hr5 hw5
      go_upto_region 4 with fail
      rw [show w4.alloc (.cells #[.slice x1 X.length d1, .slice x2 Y.length d2] 27) = w5 from HW5.out.symm]
      go_wp2_with fail
      refine (HRL.out _ H5.out.2.2.2).mono ?_
      rintro e w6 ⟨y1, g1, y2, g2, he, hy1, hy2, hb6⟩
      have he : e = .returned (.tuple #[.agg #[.slice y1 X.length g1, .slice y2 Y.length g2], .int .i64 E]) := he
      have hy1 : Rd w6 1 (.slice y1 X.length g1) X.length (bv X) := hy1
      have hy2 : Rd w6 1 (.slice y2 Y.length g2) Y.length (bv Y) := hy2
      subst he
      obtain ⟨w7, hw7⟩ : ∃ x : World, x = w6.alloc (.cells #[.slice y1 X.length g1, .slice y2 Y.length g2] 27) := ⟨_, rfl⟩
      have hb7 : Below w6.heap.size w6 w7 := by rw [hw7]; exact (Below.refl _ _).alloc (Nat.le_refl _) _
      have hr7 : w7.heap[w6.heap.size]? = some (.cells #[.slice y1 X.length g1, .slice y2 Y.length g2] 27 (0, 0)) := by rw [hw7]; exact heap_alloc_new _ _
      have hb57 := hb6.trans (hb7.mono hb6.size)
      have hr57 := (hb57.block _ (Array.getElem?_eq_some_iff.1 H5.out.1).1).trans H5.out.1
      have q0 : w7.cell? ⟨w4.heap.size, 0, none⟩ = some (.slice x1 X.length d1) := cell_of_rowp hr57 rfl
      have q1 : w7.cell? ⟨w4.heap.size, 1, none⟩ = some (.slice x2 Y.length d2) := cell_of_rowp hr57 rfl
      have q2 : w7.cell? ⟨w6.heap.size, 0, none⟩ = some (.slice y1 X.length g1) := cell_of_rowp hr7 rfl
      have q3 : w7.cell? ⟨w6.heap.size, 1, none⟩ = some (.slice y2 Y.length g2) := cell_of_rowp hr7 rfl
      have hB7 : Below w.heap.size w w7 := (H3.out.trans (H5.out.2.2.2.mono H3.out.size)).trans (hb57.mono (H3.out.trans (H5.out.2.2.2.mono H3.out.size)).size)
      have HSM := Lib.hid (same17_any W X Y E x1 x2 y1 y2 d1 d2 g1 g2 w7 HARG.out.2.2.2 (by have : X.length ≤ 4001 := HAC.out.2.1; omega) (by have : Y.length ≤ 4001 := HAC.out.2.2; omega) (H5.out.2.1.keep hb57) (H5.out.2.2.1.keep hb57) (hy1.keep hb7) (hy2.keep hb7) (HARG.out.2.2.1.keepB hB7) HAC.out.1)
      have H7 := Lib.hid hB7
      have HW7 := Lib.hid hw7
      clear hy1 hy2 hb6 hb7 hr7 hw7 hb57 hr57 hB7
      go_upto_region 5 with fail
      rw [show w6.alloc (.cells #[.slice y1 X.length g1, .slice y2 Y.length g2] 27) = w7 from HW7.out.symm]
      go_wp2_with fail
      refine HSM.out.mono ?_
      rintro e w8 ⟨rfl, hb8⟩
      have H8 := Lib.hid (H7.out.trans (hb8.mono H7.out.size))
      clear hb8
      go_wp2_with fail
      go_ret
      exact ⟨rfl, H8.out⟩
end Go.Proofs.YtfibhmgjkooemaaDoor
