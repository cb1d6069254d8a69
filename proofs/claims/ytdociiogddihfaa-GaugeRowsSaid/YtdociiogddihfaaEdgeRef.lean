/- Contracts: the reference's reading and writing of floats as bytes. -/
import Derived.Test.YtdociiogddihfaaEdgeGet
namespace Go.Proofs.Ytdociiogddihfaa
open Go.RowKit

set_option maxHeartbeats 1000000 in
theorem RGet_any (v : Value) (l : List UInt8) (w : World) (hl : l.length ≤ 140737488355328) (hr : Rd w 1 v l.length (bv l)) :
    Calls Try.prog 43 #[v] w fun e w' => e = .returned (.tuple #[.float .f64 (getP l).1, .int .i64 (getP l).2]) ∧ w = w' := by
  obtain ⟨a, c, rfl⟩ := hr.form
  by_cases h1 : l.length < 8
  · rw [getP_short l h1]
    have h1z : (l.length : Int) < 8 := by omega
    go_enter Try.func43, Try.ntmps43
    go_wp2_with fail
    go_ret2
    exact ⟨rfl, rfl⟩
  · by_cases h2 : 8 < l.length
    · rw [getP_long l h2]
      have h1z : ¬ (l.length : Int) < 8 := by omega
      have h2z : (8 : Int) < (l.length : Int) := by omega
      go_enter Try.func43, Try.ntmps43
      go_wp2_with fail
      go_ret2
      exact ⟨rfl, rfl⟩
    · have h8 : l.length = 8 := by omega
      have hg := getP_eight l h8
      have hvl := vl_lt l
      rw [h8] at hvl hr
      have hfrom := run_frombits
      have HG := Lib.hid hg
      have H8 := Lib.hid h8
      clear hg h1 h2 hl
      rw [h8]
      clear h8
      go_enter Try.func43, Try.ntmps43
      go_wp2_with fail
      go_loop [4, 5] (fun s4 s5 => ∃ k : Nat, k ≤ 8 ∧ s5 = .int .i64 k ∧ s4 = .int .u64 (vl (l.take k))) (fun _ i => 8 - (intOf i).toNat)
      case atStart => exact ⟨0, by omega, rfl, rfl⟩
      case round =>
        obtain ⟨k, hk, rfl, rfl⟩ := hrel
        by_cases hlt : k < 8
        · have hkz : (k : Int) < 8 := by omega
          have hk0 : (0 : Int) ≤ (k : Int) := by omega
          obtain ⟨q, o, c', hv, _, hcell⟩ := hr.at (by omega)
          simp only [Value.slice.injEq, true_and] at hv
          obtain ⟨rfl, rfl⟩ := hv
          obtain ⟨y, hy⟩ : ∃ y, l[k]? = some y := ⟨l[k]'(by have := H8.out; omega), List.getElem?_eq_getElem _⟩
          have hc := hcell k (.int .u8 y.toNat) (by simp [bv, hy])
          have hsn := vl_take_succ l k y hy
          have hlt2 := vl_take_lt l k hlt
          have hyl := y.toNat_lt
          generalize y.toNat = z at *
          generalize vl (l.take k) = m at *
          have ho := or_shl8 m z hlt2 hyl
          have HSN := Lib.hid hsn
          clear hcell hr hy hsn
          go_wp2_with fail
          go_round
          case rel => exact ⟨k + 1, by omega, by go_num, by rw [HSN.out]; go_num⟩
          case measure => simp [intOf]; omega
        · have hkz : ¬ (k : Int) < 8 := by omega
          obtain rfl : k = 8 := by omega
          rw [List.take_of_length_le (by have := H8.out; omega)] at *
          generalize hn : vl l = n at *
          have o1 := ne_order n hvl
          clear hr hn
          cases h3 : fnan n with
          | false =>
            rw [h3] at HG o1
            have HF : Hid (getP l = (n, 0)) := by unfold Hid; rw [HG.out, if_pos (Or.inl rfl)]
            clear HG
            go_wp2_with fail
            go_ret2
            exact ⟨by rw [HF.out]; rfl, rfl⟩
          | true =>
            rw [h3] at HG o1
            by_cases h4 : n = 9221120237041090560
            · have h5 : ((n : Int) != 9221120237041090560) = false := by simp; omega
              have HF : Hid (getP l = (n, 0)) := by unfold Hid; rw [HG.out, if_pos (Or.inr h4)]
              clear HG
              clear h4
              go_wp2_with fail
              go_ret2
              exact ⟨by rw [HF.out]; rfl, rfl⟩
            · have h5 : ((n : Int) != 9221120237041090560) = true := by simp; omega
              have HF : Hid (getP l = (0, 3)) := by unfold Hid; rw [HG.out, if_neg (by simp [h4])]
              clear HG
              clear h4
              go_wp2_with fail
              go_ret2
              exact ⟨by rw [HF.out]; rfl, rfl⟩

theorem info8' : (Try.prog.info? 5).map (fun i => (i.zero, i.size, i.bytes)) = some (some (.int .u8 0), 1, 1) := by kernel_rfl

set_option maxHeartbeats 1000000 in
theorem RPut_any (x : Nat) (w : World) (hx : x < 18446744073709551616) : Calls Try.prog 45 #[.float .f64 x] w fun e w' =>
    ∃ v, e = .returned v ∧ Rd w' 1 v (be 8 (canB x)).length (bv (be 8 (canB x))) ∧ Below w.heap.size w w' := by
  have hb : ∀ w, Calls Try.prog 30 #[.float .f64 x] w fun e w' => e = .returned (.int .u64 (canB x)) ∧ w = w' := fun w => Bits_any x w hx
  have hc := canB_lt x hx
  have HB := Lib.hid hb
  clear hb
  generalize canB x = n at *
  go_enter Try.func45, Try.ntmps45
  go_wp2_with fail
  go_loopw [3, 4] (fun v' i wr => ∃ j : Nat, j ≤ 8 ∧ i = .int .i64 ((j : Int) - 1) ∧ wr.ownsRow w.heap.size 5 1 v' (be (8 - j) (n / 256 ^ j)).length (bv (be (8 - j) (n / 256 ^ j))) ∧ Below w.heap.size w wr) (fun _ i _ => (intOf i + 1).toNat)
  case atStart => exact ⟨8, Nat.le_refl _, rfl, World.ownsRow_nil _ _ _ _, Below.refl _ _⟩
  case round =>
    obtain ⟨j, hj, rfl, hownr, hgr⟩ := hrel
    by_cases hj0 : j = 0
    · subst hj0
      go_wp2_with fail
      go_ret
      refine ⟨_, rfl, ?_, hgr⟩
      have := own_rd hownr (bv_one _)
      simpa using this
    · obtain ⟨q, rfl⟩ : ∃ q, j = q + 1 := ⟨j - 1, by omega⟩
      have hq : IntKind.i64.wrap (((q + 1 : Nat) : Int) - 1) = (q : Int) := by rw [IntWalk.i64_in _ (by omega)]; omega
      have hz := hgr.size
      rw [show (((q + 1 : Nat) : Int) - 1) = (q : Int) by omega]
      have hownr' := Lib.hid hownr
      have HJ := Lib.hid hj
      have hq7 : q ≤ 7 := by omega
      clear hownr hq hj hj0
      go_wp2_with fail
      refine (HB.out _).mono ?_
      rintro e w' ⟨rfl, rfl⟩
      go_wp2_with (at_builtin; refine wpList_app Try.underlying44 info8' rfl (by decide) rfl _ _ rfl rfl rfl (hownr'.out.alloc _) (Rd.one _ _ _ rfl) (by simp [be_length]; omega) (by simp [be_length]; omega) (by simp; omega) ?_)
      intro v2 w2 hown2 hg2 _
      have hb2 := (hg2.alloc).below hz (own_block hownr'.out)
      have hown3 : w2.ownsRow w.heap.size 5 1 v2 (be (8 - q) (n / 256 ^ q)).length (bv (be (8 - q) (n / 256 ^ q))) := by
        rw [be_step _ _ _ HJ.out]
        have e : (2 : Int) ^ (8 * q) = ((256 ^ q : Nat) : Int) := by rw [Int.pow_mul]; simp
        rw [e] at hown2
        have e2 : ((UInt8.ofNat (n / 256 ^ q % 256)).toNat : Int) = (n : Int) / ((256 ^ q : Nat) : Int) % 256 := by
          rw [u8_nat _ (by omega)]; simp
        rw [show 8 - (q + 1) = 7 - q by omega, bv_append, List.length_append]
        simp only [bv, List.map_cons, List.map_nil, e2, List.length_cons, List.length_nil] at hown2 ⊢
        exact hown2
      clear hown2
      go_wp2_with fail
      go_roundw
      case rel => exact ⟨q, by omega, by congr 1, hown3, hgr.trans hb2⟩
      case measure => simp [intOf]
end Go.Proofs.Ytdociiogddihfaa
