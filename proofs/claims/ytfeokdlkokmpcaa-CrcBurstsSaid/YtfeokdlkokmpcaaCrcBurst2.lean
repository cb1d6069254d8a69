/- The law CrcBursts: a text of which a run of at most 32 bits is turned has another sum. -/
import Derived.Test.YtfeokdlkokmpcaaCrcLaw
import Derived.Test.YtfeokdlkokmpcaaCrcBurst
import Derived.Deep.DeepCutAuto
import Derived.Deep.CutBlock
namespace Go.Proofs.Ytfeokdlkokmpcaa
open Go.ChangeShapes Go.WideShapes Go.ChangeAt Go.RowKit

theorem bit_some (t i : Nat) (h : (t / 2 ^ i) % 2 = 1) : t % 2 ^ (i + 1) ≠ 0 := by
  rw [Nat.pow_succ, Nat.mod_mul, h]
  have := Nat.two_pow_pos i
  omega
theorem infoU8b : (Try.prog.info? 5).map (fun i => (i.zero, i.size, i.bytes)) = some (some (.int .u8 0), 1, 1) := by kernel_rfl

set_option maxHeartbeats 4000000 in
set_option maxRecDepth 100000 in
theorem crcBursts_walk (v : Value) (b : List UInt8) (fr : Int) (t : Nat) (w : World) (ht : t < 4294967296) (hl : b.length ≤ 140737488351232) (hr : Rd w 1 v b.length (bv b)) :
    Calls Try.prog 7 #[v, .int .i64 fr, .int .u32 t] w fun e w' => e = .returned (.bool true) ∧ Below w.heap.size w w' := by
  obtain ⟨a, c, rfl⟩ := hr.form
  by_cases h0 : b.length = 0
  · have h0z : (b.length : Int) = 0 := by omega
    go_enter Try.func7, Try.ntmps7
    go_wp2_with fail
    refine (awake02_any _).mono ?_
    rintro e w1 ⟨rfl, hb1⟩
    go_wp2_with fail
    all_goals go_ret
    all_goals exact ⟨rfl, hb1⟩
  have h0z : ¬ (b.length : Int) = 0 := by omega
  have hpos : 0 < b.length := by omega
  go_enter Try.func7, Try.ntmps7
  go_wp2_with fail
  refine (awake02_any _).mono ?_
  rintro e w1 ⟨rfl, hb1⟩
  have hr1 := hr.keep hb1
  clear hr
  have hsn := hb1.size
  go_upto_region 5 with fail
  go_cut [1] (fun s1 wq => (∃ f : Nat, f < 8 * b.length ∧ s1 = .int .i64 f) ∧ wq = w1)
  case first =>
    obtain ⟨m, hm⟩ : ∃ m : Nat, IntKind.u64.wrap fr = m := ⟨(IntKind.u64.wrap fr).toNat, by rw [IntKind.wrap_u64]; omega⟩
    have hw1 : IntKind.i64.wrap (8 * (b.length : Int)) = 8 * (b.length : Int) := IntWalk.i64_in _ (by omega)
    have hw2 : IntKind.u64.wrap (8 * (b.length : Int)) = 8 * (b.length : Int) := IntWalk.u64_in _ (by omega)
    have hz : ¬ 8 * (b.length : Int) = 0 := by omega
    go_wp2_with fail
    all_goals go_meet
    have hml : m % (8 * b.length) < 8 * b.length := Nat.mod_lt _ (by omega)
    refine ⟨⟨m % (8 * b.length), hml, ?_⟩, rfl⟩
    have hq : (m : Int) % (8 * (b.length : Int)) = ((m % (8 * b.length) : Nat) : Int) := by push_cast; rfl
    have hq2 : wrap64 (((m % (8 * b.length) : Nat) : Int)) = ((m % (8 * b.length) : Nat) : Int) := by unfold wrap64; omega
    rw [hq, hq2]
  case rest =>
    obtain ⟨⟨f, hf, rfl⟩, rfl⟩ := hcut
    have hown0 := own_new wc 5 1 0 wc.heap.size [] rfl (by omega) (Nat.le_refl _)
    have hra := hr1.alloc (.cells #[] 5)
    go_wp2_with (at_builtin; refine wpList_app Try.underlying22 infoU8b rfl (by decide) rfl _ _ rfl rfl rfl hown0 hra (by omega) (by omega) (by simp) ?_)
    intro v' wy ho hg _
    have hba : Below wc.heap.size wc wy := ((Below.refl _ _).alloc (Nat.le_refl _) _).trans (hg.below (by simp) (own_block hown0))
    obtain ⟨g, cap, rfl, hgB, hnc, _, hgy⟩ := own_at ho hpos
    have hry := own_rd ho (bv_one _)
    have hry0 := hr1.keep hba
    obtain ⟨g', o', c', hv', _, hcy⟩ := hry.at hpos
    simp only [Value.slice.injEq, Option.some.injEq, Addr.mk.injEq, true_and, and_true] at hv'
    obtain ⟨⟨rfl, rfl⟩, rfl⟩ := hv'
    have hfy : ∀ j, wy.frozen? ⟨g, j, none⟩ = false := fun j => ho.frozenAt j
    have hbw := hb1.trans (hba.mono hsn)
    clear ho hown0 hra hg hry hbw
    simp only [Nat.zero_add] at hcy
    go_wp2_with fail
    have h8 : IntKind.i64.wrap (8 * (b.length : Int)) = 8 * (b.length : Int) := IntWalk.i64_in _ (by omega)
    go_loopw [8, 9] (fun s8 s9 wr => ∃ (i : Nat) (cs : List UInt8), i ≤ 32 ∧ s9 = .int .i64 i ∧ s8 = .bool (decide (t % 2 ^ i ≠ 0)) ∧ Crc.Turned b cs f t i ∧
        (∀ j u, (bv cs)[j]? = some u → wr.cell? ⟨g, j, none⟩ = some u) ∧ (∀ j, wr.frozen? ⟨g, j, none⟩ = false) ∧ Below wc.heap.size wc wr) (fun _ i _ => 32 - (intOf i).toNat)
    case atStart => exact ⟨0, b, by omega, rfl, by simp [Nat.mod_one], Crc.Turned.start b f t, hcy, hfy, hba⟩
    case round =>
      obtain ⟨i, cs, hi, rfl, rfl, hT, hcr, hfr, hbr⟩ := hrel
      obtain ⟨sm, hsm⟩ : ∃ sm : Bool, sm = decide (t % 2 ^ i ≠ 0) := ⟨_, rfl⟩
      rw [← hsm]
      have HT := Lib.hid hT
      have HS := Lib.hid hsm
      have hi0 : (0 : Int) ≤ (i : Int) := by omega
      by_cases hgo : i < 32 ∧ f + i < 8 * b.length
      · obtain ⟨hi32, hfi⟩ := hgo
        have hiz : (i : Int) < 32 := by omega
        have hfz : (f : Int) + (i : Int) < 8 * (b.length : Int) := by omega
        have hwf : IntKind.i64.wrap ((f : Int) + (i : Int)) = (f : Int) + (i : Int) := IntWalk.i64_in _ (by omega)
        have hui : IntKind.u64.wrap (i : Int) = (i : Int) := IntWalk.u64_in _ (by omega)
        clear hsm hT
        have ha := and1 (t / 2 ^ i) (Nat.lt_of_le_of_lt (Nat.div_le_self _ _) ht)
        have hq : ((t / 2 ^ i : Nat) : Int) = (t : Int) / 2 ^ i := by push_cast; rfl
        rw [hq] at ha
        clear hq
        by_cases hbit : (t / 2 ^ i) % 2 = 1
        · have e1 : (bits .and .u32 ((t : Int) / 2 ^ i) 1 == 1) = true := by rw [ha, hbit]; rfl
          have hbt : bits .and .u32 ((t : Int) / 2 ^ i) 1 = 1 := by rw [ha, hbit]; rfl
          have HBit := Lib.hid hbit
          clear ha hbit
          obtain ⟨q, hq⟩ : ∃ q, q = (f + i) / 8 := ⟨_, rfl⟩
          obtain ⟨x, hx⟩ : ∃ x, cs[q]? = some x := ⟨cs[q]'(by rw [HT.out.1]; omega), List.getElem?_eq_getElem _⟩
          obtain ⟨r, hr8⟩ : ∃ r, r = (f + i) % 8 := ⟨_, rfl⟩
          have hr8l : r < 8 := by omega
          have hqz : ((f : Int) + (i : Int)) / 8 = (q : Int) := by omega
          have hrz : ((f : Int) + (i : Int)) % 8 = (r : Int) := by omega
          have hqz2 : ((f : Int) + (i : Int)).tdiv 8 = (q : Int) := by rw [Int.tdiv_eq_ediv_of_nonneg (by omega)]; exact hqz
          have hrz2 : ((f : Int) + (i : Int)).tmod 8 = (r : Int) := by rw [Int.tmod_eq_emod_of_nonneg (by omega)]; exact hrz
          have hqb : (q : Int) < (b.length : Int) := by omega
          have hcq := hcr q (.int .u8 x.toNat) (by simp [bv, hx])
          have hfq := hfr q
          have hur : IntKind.u64.wrap (r : Int) = (r : Int) := IntWalk.u64_in _ (by omega)
          have HX := Lib.hid hx
          have HQ := Lib.hid hq
          have HR := Lib.hid hr8
          clear hx hq hr8
          go_upto_region 12 with fail
          go_wp2_with fail
          go_roundw
          case rel =>
            have hp : 2 ^ r < 256 := Nat.lt_of_lt_of_le (Nat.pow_lt_pow_right (by omega) hr8l) (by decide)
            obtain ⟨d, hd⟩ : ∃ d : UInt8, d.toNat = 2 ^ r := ⟨UInt8.ofNat (2 ^ r), by simp; omega⟩
            have hval : bits BinOp.xor IntKind.u8 (x.toNat : Int) (2 ^ r % 256) = ((x ^^^ d).toNat : Int) := by
              have h1 := u8_xor_nat x.toNat (2 ^ r) x.toNat_lt hp
              have h2 : ((2 : Int) ^ r % 256) = ((2 ^ r : Nat) : Int) := by
                have : ((2 ^ r : Nat) : Int) = (2 : Int) ^ r := by push_cast; rfl
                rw [← this]; omega
              rw [h2, h1, UInt8.toNat_xor, hd]
            simp only [hval]
            have hturn := HT.out.turn HBit.out hfi (x := x) (d := d) (by rw [← HQ.out]; exact HX.out) (by rw [hd, HR.out])
            rw [← HQ.out] at hturn
            refine ⟨i + 1, cs.set q (x ^^^ d), by omega, by go_num, by simp [bit_some t i HBit.out], hturn, ?_, ?_, ?_⟩
            · intro j u hu
              simp only [bv, List.map_set, List.getElem?_set] at hu
              by_cases hj : q = j
              · subst hj
                rw [if_pos rfl] at hu
                split at hu
                · simp only [Option.some.injEq] at hu
                  rw [← hu]; exact World.cell?_setCell_same _ _ _ hcq
                · cases hu
              · rw [if_neg hj] at hu
                exact (World.cell?_setCell_other _ _ _ _ (by simp <;> omega)).trans (hcr j u hu)
            · intro j; rw [World.frozen?_setCell]; exact hfr j
            · exact hbr.setCell (p := ⟨g, q, none⟩) hgB _
          case measure => simp [intOf]; omega
        · have e1 : (bits .and .u32 ((t : Int) / 2 ^ i) 1 == 1) = false := by rw [ha, show (t / 2 ^ i) % 2 = 0 by omega]; rfl
          clear ha
          go_wp2_with fail
          go_roundw
          case rel => exact ⟨i + 1, cs, by omega, by go_num, by rw [HS.out, Crc.word_step, if_neg hbit], HT.out.skip hbit, hcr, hfr, hbr⟩
          case measure => simp [intOf]; omega
      · have hstop : ¬ ((i : Int) < 32 ∧ (f : Int) + (i : Int) < 8 * (b.length : Int)) := by omega
        have hwf : IntKind.i64.wrap ((f : Int) + (i : Int)) = (f : Int) + (i : Int) := IntWalk.i64_in _ (by omega)
        have hrc : Rd wr 1 (.slice (some ⟨g, 0, none⟩) b.length cap) cs.length (bv cs) := by
          refine ⟨by simp [bv], (bv_one cs), .inr ⟨_, _, by rw [hT.1], by rw [hT.1]; exact hnc, fun j u hu => ?_⟩⟩
          rw [Addr.add_lit, Nat.zero_add]; exact hcr j u hu
        have hrb := hr1.keep hbr
        have hlc : cs.length ≤ 140737488355328 := by rw [hT.1]; omega
        have hsum := Crc.turned_sum hT hi
        have hans : ∀ x : Bool, x = decide (Crc.sum cs ≠ Crc.sum b) → x = sm := by intro x hx; rw [hx, hsm]; exact decide_eq_decide.2 hsum
        have hx : ((Crc.sum cs : Int) != (Crc.sum b : Int)) = decide (Crc.sum cs ≠ Crc.sum b) := by rw [Bool.eq_iff_iff]; simp; omega
        have hfin : (((Crc.sum cs : Int) != (Crc.sum b : Int)) == sm) = true := by rw [hans _ hx]; exact beq_self_eq_true sm
        have HA := Lib.hid hfin
        have HU := Lib.hid hsum
        clear hsum hans hx hfin hsm hT hcr hfr hry0
        by_cases h32 : (i : Int) < 32
        · have hfz : ¬ (f : Int) + (i : Int) < 8 * (b.length : Int) := by omega
          clear hstop
          go_wp2_with fail
          refine (Sum_any _ cs _ hlc hrc).mono ?_
          rintro e w5 ⟨rfl, hb5⟩
          go_wp2_with fail
          refine (Sum_any _ b _ (by omega) (hrb.keep hb5)).mono ?_
          rintro e w6 ⟨rfl, hb6⟩
          have hbe := hb1.trans ((hbr.trans ((hb5.trans (hb6.mono hb5.size)).mono hbr.size)).mono hsn)
          go_wp2_with fail
          go_ret
          exact ⟨congrArg (fun x => Ending.returned (Value.bool x)) HA.out, hbe⟩
        · clear hstop
          go_wp2_with fail
          refine (Sum_any _ cs _ hlc hrc).mono ?_
          rintro e w5 ⟨rfl, hb5⟩
          go_wp2_with fail
          refine (Sum_any _ b _ (by omega) (hrb.keep hb5)).mono ?_
          rintro e w6 ⟨rfl, hb6⟩
          have hbe := hb1.trans ((hbr.trans ((hb5.trans (hb6.mono hb5.size)).mono hbr.size)).mono hsn)
          go_wp2_with fail
          go_ret
          exact ⟨congrArg (fun x => Ending.returned (Value.bool x)) HA.out, hbe⟩
end Go.Proofs.Ytfeokdlkokmpcaa
