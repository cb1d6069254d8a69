/- Contracts of the package slices at []uint8. -/
import Derived.Test.YtdociiogddihfaaBase
import Derived.Test.YtdociiogddihfaaProg
import Derived.Lib.AppendZeros
namespace Go.Proofs.Ytdociiogddihfaa
open Go.RowKit

theorem infoC8 : (Try.prog.info? 5).map (fun i => (i.zero, i.size, i.bytes)) = some (some (.int .u8 0), 1, 1) := by kernel_rfl

set_option maxHeartbeats 1000000 in
set_option maxRecDepth 100000 in
theorem GrowC8_nil (n : Nat) (w : World) (hn : n * 1 ≤ 140737488355328) :
    Calls Try.prog 54 #[.slice none 0 0, .int .i64 n] w fun e w' => ∃ v', e = .returned v' ∧ w'.ownsRow w.heap.size 5 1 v' 0 [] ∧ Below w.heap.size w w' := by
  have hn0 : ¬ (n : Int) < 0 := by omega
  by_cases h0 : n = 0
  · subst h0
    go_enter Try.func54, Try.ntmps54
    go_wp2_with fail
    go_ret
    exact ⟨_, rfl, World.ownsRow_nil _ _ _ _, Below.refl _ _⟩
  · obtain ⟨i, hi, hz, hsize, hby⟩ := info_parts infoC8
    have h48 : n * i.bytes ≤ 281474976710656 := by rw [hby]; omega
    have hrun := Lib.run_append_nil_zeros (P := Try.prog) w 44 3 44 5 i (.int .u8 0) .i64 .i64 Try.underlying44 Try.underlying3 hi hz n (by omega) (by rw [hsize]; decide) (by omega) h48
    have hge := grownCap_ge w n 0 5
    have hcm : grownCap w n 0 5 ≤ maxLen := grownCap_le_maxLen w n 0 5 (by unfold maxLen; omega)
    have hpos : (0 : Int) < (n : Int) := by omega
    generalize grownCap w n 0 5 = C at *
    have HCM := Lib.hid (And.intro hcm hge)
    clear hcm hge
    have hn2 : (n : Int) ≤ 1000000000000000 := by omega
    clear h48 hn
    go_enter Try.func54, Try.ntmps54
    have hd : ∀ w : World, (Instr.slice 44 (.slice none 0 0) none (some (.int .i64 0)) none).run Try.prog w = .ok (.slice none 0 0) w := fun _ => by kernel_rfl
    go_wp2_with (at_builtin; refine Lib.wpList_append_run _ rfl _ _ _ _ rfl _ _ rfl rfl _ _ hrun ?_)
    clear hrun
    go_wp2_with fail
    go_ret
    refine ⟨_, rfl, ⟨by simp, .inr ⟨w.heap.size, C, _, rfl, Nat.le_refl _, heap_alloc_new w.drew _, Nat.zero_le _, HCM.out.1, ?_, by simp⟩⟩, (Below.refl _ _).drew.alloc (by simp) _⟩
    simp only [Array.size_append, size_zeroCells, ← Nat.add_mul]
    show (n + (C - n)) * 1 = C * 1
    have := HCM.out.2
    congr 1
    omega

/-- How many elements there are in all. -/
def sumNC8 (ps : List (Value × Nat × List Value)) : Nat := (ps.map (·.2.1)).sum
theorem sumNC8_take (ps : List (Value × Nat × List Value)) (k : Nat) (p : Value × Nat × List Value) (h : ps[k]? = some p) : sumNC8 (ps.take (k + 1)) = sumNC8 (ps.take k) + p.2.1 := by
  unfold sumNC8; rw [List.take_add_one, h]; simp
theorem sumNC8_le (ps : List (Value × Nat × List Value)) (k : Nat) : sumNC8 (ps.take k) ≤ sumNC8 ps := by
  have h : ps.take k ++ ps.drop k = ps := List.take_append_drop k ps
  have h2 : sumNC8 ps = sumNC8 (ps.take k) + sumNC8 (ps.drop k) := by
    conv => lhs; rw [← h]
    unfold sumNC8; rw [List.map_append, List.sum_append]
  omega

set_option maxHeartbeats 2000000 in
theorem ConcatC8_any (v : Value) (ps : List (Value × Nat × List Value)) (w : World) (hv : Rd w 1 v ps.length (ps.map (·.1))) (hps : ∀ p ∈ ps, Rd w 1 p.1 p.2.1 p.2.2) (hsum : sumNC8 ps * 1 ≤ 140737488355328) (hlen : ps.length ≤ 1000000) :
    Calls Try.prog 34 #[v] w fun e w' => ∃ v', e = .returned v' ∧ w'.ownsRow w.heap.size 5 1 v' (sumNC8 ps) (ps.flatMap (·.2.2)) ∧ Below w.heap.size w w' := by
  obtain ⟨a, c, rfl⟩ := hv.form
  go_enter Try.func34, Try.ntmps34
  go_wp2_with fail
  go_loop [3, 11] (fun s3 s11 => ∃ k : Nat, k ≤ ps.length ∧ s11 = .int .i64 k ∧ s3 = .int .i64 (sumNC8 (ps.take k) : Nat)) (fun _ i => ps.length - (intOf i).toNat)
  case atStart => exact ⟨0, by omega, rfl, rfl⟩
  case round =>
    obtain ⟨k, hk, rfl, rfl⟩ := hrel
    by_cases hlt : k < ps.length
    · have hkz : (k : Int) < (ps.length : Int) := by omega
      have hk0 : (0 : Int) ≤ (k : Int) := by omega
      obtain ⟨q, o, c', hva, _, hcell⟩ := hv.at (by omega)
      simp only [Value.slice.injEq, true_and] at hva
      obtain ⟨rfl, rfl⟩ := hva
      obtain ⟨p, hp⟩ : ∃ p, ps[k]? = some p := ⟨ps[k], List.getElem?_eq_getElem hlt⟩
      have hpr := hps p (List.mem_of_getElem? hp)
      have hsn := sumNC8_take ps k p hp
      have hle := sumNC8_le ps (k + 1)
      have hc := hcell k p.1 (by simp [hp])
      obtain ⟨pv, pn, px⟩ := p
      simp only at hpr hsn hc
      obtain ⟨pa, pc, rfl⟩ := hpr.form
      rw [hsn] at hle
      have HSN := Lib.hid hsn
      clear hsn
      generalize sumNC8 (ps.take k) = m at *
      have hw : IntKind.i64.wrap ((m : Int) + (pn : Int)) = (m : Int) + (pn : Int) := IntWalk.i64_in _ (by omega)
      have hw0 : ¬ ((m : Int) + (pn : Int)) < 0 := by omega
      clear hcell hp hle
      go_wp2_with fail
      go_round
      case rel => exact ⟨k + 1, by omega, by go_num, by rw [HSN.out]; go_num⟩
      case measure => simp [intOf]; omega
    · have hkz : ¬ (k : Int) < (ps.length : Int) := by omega
      rw [List.take_of_length_le (by omega)] at *
      have hge := GrowC8_nil (sumNC8 ps) w hsum
      obtain ⟨N, hN⟩ : ∃ N, N = sumNC8 ps := ⟨_, rfl⟩
      rw [← hN] at hge hsum ⊢
      have HG := Lib.hid hge
      have HN := Lib.hid hN
      have HPS := Lib.hid hps
      clear hge hN hps
      go_wp2_with fail
      refine HG.out.mono ?_
      rintro e w1 ⟨v1, rfl, hown1, hb1⟩
      clear hkz
      go_wp2_with fail
      go_loopw [6, 27] (fun s6 s27 wr => ∃ k : Nat, k ≤ ps.length ∧ s27 = .int .i64 k ∧ wr.ownsRow w.heap.size 5 1 s6 (sumNC8 (ps.take k)) ((ps.take k).flatMap (·.2.2)) ∧ Below w.heap.size w wr) (fun _ i _ => ps.length - (intOf i).toNat)
      case atStart => exact ⟨0, by omega, rfl, by simpa [sumNC8] using hown1, hb1⟩
      case round =>
        obtain ⟨k, hk, rfl, hownr, hbr⟩ := hrel
        have hzr := hbr.size
        by_cases hlt : k < ps.length
        · have hkz : (k : Int) < (ps.length : Int) := by omega
          have hk0 : (0 : Int) ≤ (k : Int) := by omega
          obtain ⟨q, o, c', hva, _, hcell⟩ := (hv.keep hbr).at (by omega)
          simp only [Value.slice.injEq, true_and] at hva
          obtain ⟨rfl, rfl⟩ := hva
          obtain ⟨p, hp⟩ : ∃ p, ps[k]? = some p := ⟨ps[k], List.getElem?_eq_getElem hlt⟩
          have hpr := (HPS.out p (List.mem_of_getElem? hp)).keep hbr
          have hsn := sumNC8_take ps k p hp
          have hle := sumNC8_le ps (k + 1)
          have hfl : (ps.take (k + 1)).flatMap (·.2.2) = (ps.take k).flatMap (·.2.2) ++ p.2.2 := by rw [List.take_add_one, hp]; simp
          have hc := hcell k p.1 (by simp [hp])
          obtain ⟨pv, pn, px⟩ := p
          simp only at hpr hsn hc hfl
          obtain ⟨pa, pc, rfl⟩ := hpr.form
          have hN2 := HN.out
          generalize sumNC8 (ps.take k) = m at *
          generalize hm2 : sumNC8 (ps.take (k + 1)) = m2 at *
          generalize (ps.take k).flatMap (·.2.2) = xs at *
          generalize hx2 : (ps.take (k + 1)).flatMap (·.2.2) = xs2 at *
          subst hsn hfl
          have HM2 := Lib.hid hm2
          have HX2 := Lib.hid hx2
          clear hcell hp hm2 hx2 hv
          have hle2 : (m + pn) * 1 ≤ 140737488355328 := by omega
          clear hle hN2
          go_wp2_with (at_builtin; refine wpList_app Try.underlying44 infoC8 rfl (by decide) rfl _ _ rfl rfl rfl hownr hpr (by omega) hle2 hzr ?_)
          intro v2 w2 hown2 hg2 _
          have hb2 := hg2.below hzr (own_block hownr)
          clear hownr hg2 hpr
          go_wp2_with fail
          go_roundw
          case rel => exact ⟨k + 1, by omega, by go_num, by rw [HM2.out, HX2.out]; exact hown2, hbr.trans hb2⟩
          case measure => simp [intOf]; omega
        · have hkz : ¬ (k : Int) < (ps.length : Int) := by omega
          rw [List.take_of_length_le (by omega)] at hownr
          clear HG hown1
          go_wp2_with fail
          go_ret
          exact ⟨_, rfl, by rw [HN.out]; exact hownr, hbr⟩
end Go.Proofs.Ytdociiogddihfaa
