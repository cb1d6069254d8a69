/- The law's same, few, awake; ClashLists: the walk. (printed by gen/clg.py) -/
import Derived.Test.YtfibhmgjkooemaaDoorClF
import Derived.LoopN
namespace Go.Proofs.YtfibhmgjkooemaaDoor
open Go.RowKit Sha Root Path Clash

/-- How much a list of texts weighs. -/
def fewS (l : List (List UInt8)) : Nat := (l.map fun t => 50 + min t.length 1048576).sum
def fewB (l : List (List UInt8)) : Bool := decide (fewS l ≤ 4000)
theorem fewS_take (l : List (List UInt8)) (k : Nat) (t : List UInt8) (h : l[k]? = some t) : fewS (l.take (k + 1)) = fewS (l.take k) + (50 + min t.length 1048576) := by
  unfold fewS; rw [List.take_add_one, h]; simp
theorem fewS_le (l : List (List UInt8)) : fewS l ≤ l.length * 1048626 := by
  induction l with
  | nil => simp [fewS]
  | cons t l ih =>
    have : fewS (t :: l) = (50 + min t.length 1048576) + fewS l := by simp [fewS]
    rw [this, List.length_cons, Nat.add_mul]
    omega
theorem fewS_ge (l : List (List UInt8)) : l.length * 50 ≤ fewS l := by
  induction l with
  | nil => simp [fewS]
  | cons t l ih =>
    have : fewS (t :: l) = (50 + min t.length 1048576) + fewS l := by simp [fewS]
    rw [this, List.length_cons, Nat.add_mul]
    omega
theorem fewS_mem (l : List (List UInt8)) (t : List UInt8) (h : t ∈ l) : min t.length 1048576 ≤ fewS l := by
  induction l with
  | nil => simp at h
  | cons x l ih =>
    have e : fewS (x :: l) = (50 + min x.length 1048576) + fewS l := by simp [fewS]
    rw [e]
    rcases List.mem_cons.1 h with rfl | h
    · omega
    · have := ih h; omega
theorem few_small (l : List (List UInt8)) (h : fewB l = true) : l.length ≤ 80 ∧ ∀ t ∈ l, t.length ≤ 4000 := by
  have h := of_decide_eq_true h
  have h2 := fewS_ge l
  refine ⟨by omega, fun t ht => ?_⟩
  have := fewS_mem l t ht
  omega
set_option maxHeartbeats 4000000 in
set_option maxRecDepth 100000 in
theorem few_any (l : List (List UInt8)) (v : Value) (w : World) (hl : l.length * 24 ≤ 140737488351232) (hv : Txw w v l) :
    Calls Tryd.prog 9 #[v] w fun e w' => e = .returned (.bool (fewB l)) ∧ Below w.heap.size w w' := by
  have hsum := fewS_le l
  have hpre : ∀ k, k ≤ l.length → fewS (l.take k) ≤ k * 1048626 := fun k hk => by
    have := fewS_le (l.take k)
    rwa [List.length_take, Nat.min_eq_left hk] at this
  obtain ⟨n, hn⟩ : ∃ n, n = l.length := ⟨_, rfl⟩
  by_cases h0 : l.length = 0
  · have : l = [] := List.eq_nil_of_length_eq_zero h0
    subst this
    obtain ⟨a, c, rfl⟩ := hv.form
    clear hsum hpre hl hv h0 hn
    go_enter Tryd.func9, Tryd.ntmps9
    go_wp2_with fail
    refine wp_loop_rounds 1 ?_
    rw [rounds_succ]
    go_wp2_with fail
    go_ret
    exact ⟨rfl, Below.refl _ _⟩
  · obtain ⟨b, off, c, rfl, hc, hat⟩ := hv.at (by omega)
    rw [← hn] at hl hc hsum h0 ⊢
    have HAT := Lib.hid hat
    have HN := Lib.hid hn
    have HP := Lib.hid hpre
    have HS := Lib.hid hsum
    clear hat hn hv hpre hsum
    go_enter Tryd.func9, Tryd.ntmps9
    go_wp2_with fail
    go_loop [3, 4] (fun s3 s4 => ∃ k : Nat, k ≤ n ∧ s4 = .int .i64 k ∧ s3 = .int .i64 (fewS (l.take k) : Nat)) (fun _ i => n - (intOf i).toNat)
    case atStart => exact ⟨0, by omega, rfl, rfl⟩
    case round =>
      obtain ⟨k, hk, rfl, rfl⟩ := hrel
      by_cases hlt : k < n
      · have hkz : (k : Int) < (n : Int) := by omega
        have hk0 : (0 : Int) ≤ (k : Int) := by omega
        obtain ⟨t, ht⟩ : ∃ t, l[k]? = some t := ⟨l[k]'(by rw [← HN.out]; exact hlt), List.getElem?_eq_getElem _⟩
        obtain ⟨xa, xc, hcell, _⟩ := HAT.out k t ht
        have hnext := fewS_take l k t ht
        obtain ⟨S, hS⟩ : ∃ S, S = fewS (l.take k) := ⟨_, rfl⟩
        have hSk : S ≤ k * 1048626 := by rw [hS]; exact HP.out k (by rw [← HN.out]; omega)
        rw [← hS] at hnext ⊢
        obtain ⟨tl, htl⟩ : ∃ m, m = t.length := ⟨_, rfl⟩
        rw [← htl] at hcell hnext
        obtain ⟨mn, hmn⟩ : ∃ m, m = min tl 1048576 := ⟨_, rfl⟩
        rw [← hmn] at hnext
        have hmb : mn ≤ 1048576 := by omega
        have zmin : min (tl : Int) 1048576 = (mn : Int) := by omega
        have z1 : IntKind.i64.wrap (50 + (mn : Int)) = ((50 + mn : Nat) : Int) := (IntWalk.i64_in _ (by omega)).trans (by omega)
        have z2 : IntKind.i64.wrap ((S : Int) + ((50 + mn : Nat) : Int)) = ((S + (50 + mn) : Nat) : Int) := (IntWalk.i64_in _ (by omega)).trans (by omega)
        have z2b : IntKind.i64.wrap ((S : Int) + (50 + (mn : Int))) = ((S + (50 + mn) : Nat) : Int) := (IntWalk.i64_in _ (by omega)).trans (by omega)
        have z3 : IntKind.i64.wrap ((k : Int) + 1) = ((k + 1 : Nat) : Int) := (IntWalk.i64_in _ (by omega)).trans (by omega)
        have HNX := Lib.hid hnext
        clear hnext hmn htl hS
        go_wp2_with fail
        go_round
        case rel => exact ⟨k + 1, by omega, by go_num, by rw [HNX.out]; go_num⟩
        case measure => simp [intOf]; omega
      · obtain rfl : k = n := by omega
        have hkn : ¬ (k : Int) < (k : Int) := by omega
        have hfull : l.take k = l := by rw [HN.out, List.take_length]
        rw [hfull]
        obtain ⟨S, hS⟩ : ∃ S, S = fewS l := ⟨_, rfl⟩
        have HSE := Lib.hid hS
        rw [← hS]
        cases hd : decide ((S : Int) ≤ 4000) with
        | true =>
          have HD := Lib.hid (show fewB l = true by unfold fewB; rw [← HSE.out]; exact decide_eq_true (by have := of_decide_eq_true hd; omega))
          clear hS hfull
          go_wp2_with fail
          go_ret
          rw [HD.out]
          exact ⟨by simp [hd], by first | exact Below.refl _ _ | assumption⟩
        | false =>
          have HD := Lib.hid (show fewB l = false by unfold fewB; rw [← HSE.out]; exact decide_eq_false (by have := of_decide_eq_false hd; omega))
          clear hS hfull
          go_wp2_with fail
          go_ret
          rw [HD.out]
          exact ⟨by simp [hd], by first | exact Below.refl _ _ | assumption⟩

theorem hw0 (t : List UInt8) : hw 0 t = zs 32 := by
  unfold hw
  rw [show clip 0 = 0 from rfl, nar_none]
theorem txw_one {w : World} {g h c d : Nat} {x : UInt8} (h1 : w.cell? ⟨g, 0, none⟩ = some (.slice (some ⟨h, 0, none⟩) 1 d)) (h2 : w.cell? ⟨h, 0, none⟩ = some (.int .u8 x.toNat)) (hc : 1 ≤ c) (hd : 1 ≤ d) : Txw w (.slice (some ⟨g, 0, none⟩) 1 c) [[x]] := by
  refine ⟨[.slice (some ⟨h, 0, none⟩) 1 d], rfl, ⟨rfl, by simp [Value.oneCell'], .inr ⟨_, _, rfl, hc, fun j u hu => ?_⟩⟩, fun i t u ht hu => ?_⟩
  · match j, hu with
    | 0, hu =>
      obtain rfl := Option.some.inj hu
      rw [Addr.add_lit]; exact h1
  · match i, ht, hu with
    | 0, ht, hu =>
      obtain rfl := Option.some.inj ht
      obtain rfl := Option.some.inj hu
      refine ⟨rfl, bv_one _, .inr ⟨_, _, rfl, hd, fun j u hu => ?_⟩⟩
      match j, hu with
      | 0, hu =>
        obtain rfl := Option.some.inj hu
        rw [Addr.add_lit]; exact h2
theorem awake_ans : ansL 0 [[1]] [[2]] = (0, [0, 1], [0, 2]) := by
  have h1 : rt (hw 0) [[1]] = rt (hw 0) [[2]] := by rw [rt_one, rt_one, hw0, hw0]
  rw [ansL, if_neg (by simp), if_neg (by simp [h1])]
  rw [show ([[1]] : List (List UInt8)).length = 0 + 1 from rfl, meet_at _ _ _ _ (by simp) (by simp [tx_one])]
  rfl
set_option maxHeartbeats 4000000 in
set_option maxRecDepth 100000 in
theorem awake17_any (w : World) (hT : Tabs w) : Calls Tryd.prog 8 #[] w fun e w' => e = .returned (.bool true) ∧ Below w.heap.size w w' := by
  obtain ⟨w4, hw4⟩ : ∃ x : World, x = (((w.alloc (.cells #[.int .u8 1] 5)).alloc (.cells #[.slice (some ⟨w.heap.size, 0, none⟩) 1 1] 25)).alloc (.cells #[.int .u8 2] 5)).alloc (.cells #[.slice (some ⟨w.heap.size + 1 + 1, 0, none⟩) 1 1] 25) := ⟨_, rfl⟩
  have hB : Below w.heap.size w w4 := by rw [hw4]; exact ((((Below.refl _ _).alloc (Nat.le_refl _) _).alloc (by simp) _).alloc (by simp; try omega) _).alloc (by simp; try omega) _
  have r0 : w4.heap[w.heap.size]? = some (.cells #[.int .u8 1] 5 (0, 0)) := by
    rw [hw4, heap_alloc_old _ _ (by simp; try omega), heap_alloc_old _ _ (by simp; try omega), heap_alloc_old _ _ (by simp; try omega)]; exact heap_alloc_new _ _
  have r1 : w4.heap[w.heap.size + 1]? = some (.cells #[.slice (some ⟨w.heap.size, 0, none⟩) 1 1] 25 (0, 0)) := by
    rw [hw4, heap_alloc_old _ _ (by simp; try omega), heap_alloc_old _ _ (by simp; try omega)]
    have := heap_alloc_new (w.alloc (.cells #[.int .u8 1] 5)) (.cells #[.slice (some ⟨w.heap.size, 0, none⟩) 1 1] 25)
    simpa using this
  have r2 : w4.heap[w.heap.size + 1 + 1]? = some (.cells #[.int .u8 2] 5 (0, 0)) := by
    rw [hw4, heap_alloc_old _ _ (by simp)]
    have := heap_alloc_new ((w.alloc (.cells #[.int .u8 1] 5)).alloc (.cells #[.slice (some ⟨w.heap.size, 0, none⟩) 1 1] 25)) (.cells #[.int .u8 2] 5)
    simpa using this
  have r3 : w4.heap[w.heap.size + 1 + 1 + 1]? = some (.cells #[.slice (some ⟨w.heap.size + 1 + 1, 0, none⟩) 1 1] 25 (0, 0)) := by
    rw [hw4]
    have := heap_alloc_new (((w.alloc (.cells #[.int .u8 1] 5)).alloc (.cells #[.slice (some ⟨w.heap.size, 0, none⟩) 1 1] 25)).alloc (.cells #[.int .u8 2] 5)) (.cells #[.slice (some ⟨w.heap.size + 1 + 1, 0, none⟩) 1 1] 25)
    simpa using this
  have t1 : Txw w4 (.slice (some ⟨w.heap.size + 1, 0, none⟩) 1 1) [[1]] := txw_one (cell_of_rowp r1 rfl) (cell_of_rowp r0 rfl) (by omega) (by omega)
  have t2 : Txw w4 (.slice (some ⟨w.heap.size + 1 + 1 + 1, 0, none⟩) 1 1) [[2]] := txw_one (cell_of_rowp r3 rfl) (cell_of_rowp r2 rfl) (by omega) (by omega)
  have hL := cLists_any 0 [[1]] [[2]] _ _ w4 (by omega) (by simp) (by simp) (by simp) (by simp) t1 t2 (hT.keepB hB)
  rw [awake_ans] at hL
  have HL := Lib.hid hL
  have H4 := Lib.hid hB
  have HW4 := Lib.hid hw4
  clear hL hB hw4 r0 r1 r2 r3 t1 t2 hT
  go_enter Tryd.func8, Tryd.ntmps8
  go_wp2_with fail
  rw [show (((w.alloc (.cells #[.int .u8 1] 5)).alloc (.cells #[.slice (some ⟨w.heap.size, 0, none⟩) 1 1] 25)).alloc (.cells #[.int .u8 2] 5)).alloc (.cells #[.slice (some ⟨w.heap.size + 1 + 1, 0, none⟩) 1 1] 25) = w4 from HW4.out.symm]
  refine HL.out.mono ?_
  rintro e w5 ⟨a1, c1, a2, c2, rfl, h1, h2, hb5⟩
  have h1 : Rd w5 1 (.slice a1 2 c1) ([0, 1] : List UInt8).length (bv [0, 1]) := h1
  have h2 : Rd w5 1 (.slice a2 2 c2) ([0, 2] : List UInt8).length (bv [0, 2]) := h2
  obtain ⟨w6, hw6⟩ : ∃ x : World, x = w5.alloc (.cells #[.slice a1 2 c1, .slice a2 2 c2] 27) := ⟨_, rfl⟩
  have hb6 : Below w5.heap.size w5 w6 := by rw [hw6]; exact (Below.refl _ _).alloc (Nat.le_refl _) _
  have hr6 : w6.heap[w5.heap.size]? = some (.cells #[.slice a1 2 c1, .slice a2 2 c2] 27 (0, 0)) := by rw [hw6]; exact heap_alloc_new _ _
  have q0 : w6.cell? ⟨w5.heap.size, 0, none⟩ = some (.slice a1 2 c1) := cell_of_rowp hr6 rfl
  have q1 : w6.cell? ⟨w5.heap.size, 1, none⟩ = some (.slice a2 2 c2) := cell_of_rowp hr6 rfl
  have s1 := string_of_bytes (P := Tryd.prog) (w := w6) Tryd.underlying25 Tryd.underlying5 Tryd.underlying9 (h1.keep hb6)
  have s2 := string_of_bytes (P := Tryd.prog) (w := w6) Tryd.underlying25 Tryd.underlying5 Tryd.underlying9 (h2.keep hb6)
  have H9 := Lib.hid ((H4.out.trans (hb5.mono H4.out.size)).trans (hb6.mono (H4.out.trans (hb5.mono H4.out.size)).size))
  have HW6 := Lib.hid hw6
  clear h1 h2 hb5 hb6 hr6 hw6
  go_upto_region 2 with fail
  rw [show w5.alloc (.cells #[.slice a1 2 c1, .slice a2 2 c2] 27) = w6 from HW6.out.symm]
  go_wp2_with fail
  go_ret
  exact ⟨by first | rfl | decide | simp, H9.out⟩

/-- How long a text is that is hashed. -/
theorem tx_len (W : Int) (l : List (List UInt8)) (h0 : 0 < l.length) (h : ∀ t ∈ l, t.length ≤ 4000) : (tx (hw W) l).length ≤ 4001 := by
  match l, h0, h with
  | [x], _, h => have := h x (by simp); rw [tx_one]; simp; omega
  | x :: y :: r, _, _ => rw [tx_length _ (hw32 W) _ (by simp)]; omega

end Go.Proofs.YtfibhmgjkooemaaDoor
