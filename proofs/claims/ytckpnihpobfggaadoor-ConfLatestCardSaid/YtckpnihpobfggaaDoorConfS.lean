/- Contracts: members as bits (conf.set, May). -/
import Derived.Test.YtckpnihpobfggaaDoorConfBits
namespace Go.Proofs.YtckpnihpobfggaaDoor
open Go.RowKit Ones

theorem memB_le : ∀ (l : List Nat) (last : Nat), memB last l = true → ∀ x ∈ l, last < x ∧ x ≤ 7
  | [], _, _ => by simp
  | y :: r, last, h => by
    unfold memB at h
    split at h
    · simp at h
    · rename_i hy
      intro x hx
      rcases List.mem_cons.1 hx with rfl | hx
      · omega
      · have := memB_le r y h x hx; omega
theorem memB_ne (l : List Nat) (h : memB 0 l = true) : l ≠ [] := by
  rintro rfl
  simp [memB] at h
/-- The bits of members. -/
def setF (l : List Nat) : Nat := l.foldl (fun s x => s ||| 2 ^ x) 0
def setP (l : List Nat) : Nat := if memB 0 l = true then setF l else 0
theorem setF_snoc (l : List Nat) (k y : Nat) (h : l[k]? = some y) : setF (l.take (k + 1)) = setF (l.take k) ||| 2 ^ y := by
  unfold setF
  rw [List.take_add_one, h, Option.toList_some, List.foldl_append]; rfl
theorem setF_lt (l : List Nat) (h : ∀ x ∈ l, x ≤ 7) : setF l < 256 := by
  unfold setF
  have : ∀ (l : List Nat) (s : Nat), (∀ x ∈ l, x ≤ 7) → s < 2 ^ 8 → l.foldl (fun s x => s ||| 2 ^ x) s < 2 ^ 8 := by
    intro l
    induction l with
    | nil => intro s _ hs; exact hs
    | cons y r ih =>
      intro s hl hs
      exact ih _ (fun x hx => hl x (by simp [hx])) (Nat.or_lt_two_pow hs (Nat.pow_lt_pow_right (by omega) (by have := hl y (by simp); omega)))
  exact this l 0 h (by decide)
theorem setP_lt (l : List Nat) : setP l < 256 := by
  unfold setP
  split
  · rename_i h; exact setF_lt l (fun x hx => (memB_le l 0 h x hx).2)
  · decide

set_option maxHeartbeats 1000000 in
theorem set_any (v : Value) (l : List Nat) (w : World) (hl : l.length ≤ 140737488355328) (hr : Rd w 1 v l.length (uv l)) :
    Calls Tryd.prog 21 #[v] w fun e w' => e = .returned (.int .u64 (setP l)) ∧ Below w.heap.size w w' := by
  obtain ⟨a, c, rfl⟩ := hr.form
  have hM := Members_any (.slice a l.length c) l w hl hr
  cases hm : memB 0 l with
  | false =>
    have hP : setP l = 0 := by unfold setP; rw [hm]; rfl
    rw [hP]
    rw [hm] at hM
    clear hm hP
    go_enter Tryd.func21, Tryd.ntmps21
    go_wp2_with fail
    refine hM.mono ?_
    rintro e w1 ⟨rfl, hb1⟩
    go_wp2_with fail
    go_ret
    exact ⟨rfl, hb1⟩
  | true =>
    have hle := memB_le l 0 hm
    have hP : setP l = setF l := by unfold setP; rw [hm]; rfl
    rw [hP]
    rw [hm] at hM
    clear hm hP
    go_enter Tryd.func21, Tryd.ntmps21
    go_wp2_with fail
    refine hM.mono ?_
    rintro e w1 ⟨rfl, hb1⟩
    clear hM
    go_wp2_with fail
    go_loopw [2, 9] (fun s2 s9 wr => ∃ k : Nat, k ≤ l.length ∧ s9 = .int .i64 k ∧ s2 = .int .u64 (setF (l.take k)) ∧ Below w.heap.size w wr) (fun _ i _ => l.length - (intOf i).toNat)
    case atStart => exact ⟨0, by omega, rfl, rfl, hb1⟩
    case round =>
      obtain ⟨k, hk, rfl, rfl, hbr⟩ := hrel
      by_cases hlt : k < l.length
      · have hkz : (k : Int) < (l.length : Int) := by omega
        have hk0 : (0 : Int) ≤ (k : Int) := by omega
        obtain ⟨q, o, c', hv, _, hcell⟩ := (hr.keep hbr).at (by omega)
        simp only [Value.slice.injEq, true_and] at hv
        obtain ⟨rfl, rfl⟩ := hv
        obtain ⟨y, hy⟩ : ∃ y, l[k]? = some y := ⟨l[k], List.getElem?_eq_getElem hlt⟩
        have hc := hcell k (.int .u64 y) (by simp [uv, hy])
        have hsn := setF_snoc l k y hy
        have hy7 := (hle y (List.mem_of_getElem? hy)).2
        have hs8 := setF_lt (l.take k) (fun x hx => (hle x (List.mem_of_mem_take hx)).2)
        obtain ⟨m, hm⟩ : ∃ m, m = setF (l.take k) := ⟨_, rfl⟩
        rw [← hm] at hs8 hsn ⊢
        have HSN := Lib.hid hsn
        have hbo : bits .or .u64 (m : Int) (IntKind.u64.wrap (2 ^ y)) = ((m ||| 2 ^ y : Nat) : Int) := by
          have h2 : 2 ^ y < 18446744073709551616 := Nat.lt_of_le_of_lt (Nat.pow_le_pow_right (by omega) hy7) (by decide)
          have e : (2 : Int) ^ y = ((2 ^ y : Nat) : Int) := by simp
          rw [e]
          generalize 2 ^ y = q at h2 ⊢
          rw [IntWalk.u64_in _ (by omega)]
          exact bits_or_u64_nat m q (by omega) h2
        have HBO := Lib.hid hbo
        clear hcell hr hy hsn hm hle hbo
        go_wp2_with fail
        go_roundw
        case rel => exact ⟨k + 1, by omega, by go_num, by rw [HBO.out, HSN.out], hbr⟩
        case measure => simp [intOf]; omega
      · have hkz : ¬ (k : Int) < (l.length : Int) := by omega
        rw [List.take_of_length_le (by omega)]
        clear hr hle
        go_wp2_with fail
        go_ret
        exact ⟨rfl, hbr⟩


/-- May these members be followed by those? -/
def mayP (l r : List Nat) : Bool := decide (setP l ≠ 0) && (decide (setP r ≠ 0) && decide (pop 64 (setP l ^^^ setP r) = 1))
set_option maxHeartbeats 2000000 in
theorem May_any (v u : Value) (l r : List Nat) (w : World) (hl : l.length ≤ 140737488355328) (hi : r.length ≤ 140737488355328) (hr : Rd w 1 v l.length (uv l)) (hu : Rd w 1 u r.length (uv r)) :
    Calls Tryd.prog 8 #[v, u] w fun e w' => e = .returned (.bool (mayP l r)) ∧ Below w.heap.size w w' := by
  have hA := set_any v l w hl hr
  have hB := fun w1 (h : Below w.heap.size w w1) => set_any u r w1 hi (hu.keep h)
  have hae := setP_lt l
  have hbe := setP_lt r
  unfold mayP
  generalize setP l = A at *
  generalize setP r = B at *
  have hx : bits .xor .u64 (A : Int) (B : Int) = ((A ^^^ B : Nat) : Int) := bits_xor_u64_nat A B (by omega) (by omega)
  have hC := fun w1 => OnesCount_any (A ^^^ B) (Nat.lt_of_lt_of_le (Nat.xor_lt_two_pow (n := 8) hae hbe) (by decide)) w1
  generalize A ^^^ B = C at *
  go_enter Tryd.func8, Tryd.ntmps8
  go_wp2_with fail
  refine hA.mono ?_
  rintro e w1 ⟨rfl, hb1⟩
  go_wp2_with fail
  refine (hB w1 hb1).mono ?_
  rintro e w2 ⟨rfl, hb2⟩
  have hb := hb1.trans (hb2.mono hb1.size)
  clear hA hB hr hu hb1 hb2
  by_cases hA0 : A = 0
  · subst hA0
    go_wp2_with fail
    go_ret
    exact ⟨by simp, hb⟩
  · have hA1 : ¬ (A : Int) = 0 := by omega
    by_cases hB0 : B = 0
    · subst hB0
      go_wp2_with fail
      go_ret
      exact ⟨by simp, hb⟩
    · have hB1 : ¬ (B : Int) = 0 := by omega
      go_wp2_with fail
      refine (hC _).mono ?_
      rintro e w3 ⟨rfl, hb3⟩
      obtain ⟨k, hk⟩ : ∃ k, k = pop 64 C := ⟨_, rfl⟩
      rw [← hk]
      have HK := Lib.hid hk
      clear hk hC hx
      go_wp2_with fail
      go_ret
      refine ⟨?_, hb.trans (hb3.mono hb.size)⟩
      rw [← HK.out]
      refine congrArg (fun b => Ending.returned (Value.bool b)) ?_
      rw [Bool.eq_iff_iff]
      simp [hA0, hB0]
      omega

/-- The list of bits: some list. -/
theorem and_pred_le (s : Nat) (h : 0 < s) : s &&& (s - 1) < s := by
  have := @Nat.and_le_right s (s - 1)
  omega
set_option maxHeartbeats 2000000 in
theorem list_any (s : Nat) (hs : s < 4294967296) (w : World) (hT : TabD w) :
    Calls Tryd.prog 29 #[.int .u64 s] w fun e w' => (∃ a n c, e = .returned (.slice a n c)) ∧ Below w.heap.size w w' := by
  have hinfo : (Tryd.prog.info? 25).map (fun i => (i.zero, i.size, i.bytes)) = some (some (.int .u64 0), 1, 8) := by kernel_rfl
  go_enter Tryd.func29, Tryd.ntmps29
  go_wp2_with fail
  go_loopw [0, 2] (fun s0 s2 wr => ∃ (x n : Nat) (xs : List Value), s0 = .int .u64 x ∧ n + x ≤ s ∧ wr.ownsRow w.heap.size 25 1 s2 n xs ∧ Below w.heap.size w wr) (fun s0 _ _ => (intOf s0).toNat)
  case atStart => exact ⟨s, 0, [], rfl, by omega, World.ownsRow_nil _ _ _ _, Below.refl _ _⟩
  case round =>
    obtain ⟨x, n, xs, rfl, hn, ho, hbr⟩ := hrel
    obtain ⟨ra, rc, rfl⟩ := own_form ho
    by_cases hx0 : x = 0
    · subst hx0
      go_wp2_with fail
      go_ret
      exact ⟨⟨_, _, _, rfl⟩, hbr⟩
    · have hx1 : ¬ (x : Int) = 0 := by omega
      have hsub : IntKind.u64.wrap ((x : Int) - 1) = ((x - 1 : Nat) : Int) := (IntWalk.u64_in _ (by omega)).trans (by omega)
      have hand : bits .and .u64 (x : Int) ((x - 1 : Nat) : Int) = ((x &&& (x - 1) : Nat) : Int) := bits_and_u64_nat x (x - 1) (by omega) (by omega)
      have hlt := and_pred_le x (by omega)
      have hz := tz_any x (by omega) hx0 wr (hT.keepB hbr)
      obtain ⟨y, hy⟩ : ∃ y, y = x &&& (x - 1) := ⟨_, rfl⟩
      rw [← hy] at hand hlt
      go_wp2_with fail
      refine hz.mono ?_
      rintro e w1 ⟨rfl, hb1⟩
      obtain ⟨k, hk⟩ : ∃ k, k = Lib.ctz 64 x := ⟨_, rfl⟩
      rw [← hk]
      have hk64 : k < 64 := by rw [hk]; exact (Lib.lowest_bit 64 x hx0 (by omega)).2
      have hkw : IntKind.u64.wrap (k : Int) = (k : Int) := IntWalk.u64_in _ (by omega)
      have ho1 := own_keep ho hb1
      have hbr1 := hbr.trans (hb1.mono hbr.size)
      have HBR := Lib.hid hbr1
      have HO1 := Lib.hid ho1
      clear hz hy hk hb1 ho ho1
      go_wp2_with (at_builtin; refine wpList_app (o := ⟨some 14, _, _, _, _, _⟩) Tryd.underlying22 hinfo rfl (by decide) rfl _ _ rfl rfl rfl (own_keep HO1.out ((Below.refl _ _).alloc (Nat.le_refl _) _)) (Rd.one w1 (.int .u64 k) 25 rfl) (by omega) (by omega) (by have := HBR.out.size; simp; omega) ?_; intro v5 w5 ho5 hg5 _)
      have hb5 : Below w.heap.size w w5 := HBR.out.trans (hg5.alloc.below HBR.out.size (own_block HO1.out))
      have HB5 := Lib.hid hb5
      have HO5 := Lib.hid ho5
      clear hb5 ho5 hg5
      go_wp2_with fail
      go_roundw
      case rel => exact ⟨y, n + 1, _, rfl, by omega, HO5.out, HB5.out⟩
      case measure => simp [intOf]; omega
end Go.Proofs.YtckpnihpobfggaaDoor
