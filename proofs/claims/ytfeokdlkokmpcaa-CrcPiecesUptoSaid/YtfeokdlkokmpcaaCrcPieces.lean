/- The law CrcPieces: the sum of a text put together of pieces is what its pieces' sums join to, from the left and from the right. -/
import Derived.Test.YtfeokdlkokmpcaaCrcLaw
import Derived.Deep.DeepCutAuto
import Derived.Deep.CutBlock
namespace Go.Proofs.Ytfeokdlkokmpcaa
open Go.ChangeShapes Go.WideShapes Go.ChangeAt Go.RowKit

theorem flat_snoc (ls : List (List UInt8)) (k : Nat) (l : List UInt8) (h : ls[k]? = some l) : (ls.take (k + 1)).flatten = (ls.take k).flatten ++ l := by
  rw [List.take_add_one, h, List.flatten_append]; simp
theorem flat_cons (ls : List (List UInt8)) (k : Nat) (l : List UInt8) (h : ls[k]? = some l) : (ls.drop k).flatten = l ++ (ls.drop (k + 1)).flatten := by
  obtain ⟨hk, h⟩ := List.getElem?_eq_some_iff.1 h
  rw [List.drop_eq_getElem_cons hk, List.flatten_cons, h]
theorem flat_take_le (ls : List (List UInt8)) (k : Nat) : (ls.take k).flatten.length ≤ ls.flatten.length := by
  have h : ls.flatten = (ls.take k).flatten ++ (ls.drop k).flatten := by rw [← List.flatten_append, List.take_append_drop]
  rw [h, List.length_append]; omega
theorem flat_drop_le (ls : List (List UInt8)) (k : Nat) : (ls.drop k).flatten.length ≤ ls.flatten.length := by
  have h : ls.flatten = (ls.take k).flatten ++ (ls.drop k).flatten := by rw [← List.flatten_append, List.take_append_drop]
  rw [h, List.length_append]; omega
theorem infoU8p : (Try.prog.info? 5).map (fun i => (i.zero, i.size, i.bytes)) = some (some (.int .u8 0), 1, 1) := by kernel_rfl
theorem own_formp {w : World} {B : Nat} {e : TypeId} {size : Nat} {v : Value} {n : Nat} {xs : List Value} (h : w.ownsRow B e size v n xs) : ∃ a c, v = .slice a n c := by
  obtain ⟨hl, ⟨rfl, rfl⟩ | ⟨g, cap, cur, hv, _⟩⟩ := h
  · exact ⟨_, _, rfl⟩
  · exact ⟨_, _, hv⟩
/-- What each operation hands on. -/
def pieces12F (m c q o k : Nat) (pa : Option Addr) (ca F : Nat) (l : List UInt8) : Nat → Value → World → Prop
  | 0, v, _ => v = .int .u32 ((F : Nat) : Int)
  | 1, v, _ => v = .slice (some ⟨q, o, none⟩) m c
  | 2, v, _ => v = .int .i64 k
  | 3, v, _ => v = .pointer (some ⟨q, o + k, none⟩)
  | 4, v, _ => v = .slice pa l.length ca
  | 5, v, _ => v = .int .u32 ((Crc.sum l : Nat) : Int)
  | 6, v, _ => v = .slice (some ⟨q, o, none⟩) m c
  | 7, v, _ => v = .int .i64 k
  | 8, v, _ => v = .pointer (some ⟨q, o + k, none⟩)
  | 9, v, _ => v = .slice pa l.length ca
  | 10, v, _ => v = .int .i64 l.length
  | 11, v, _ => v = .int .u64 l.length
  | 12, v, _ => v = .int .u32 ((Crc.join F (Crc.sum l) l.length : Nat) : Int)
  | 13, v, _ => v = .int .u32 ((Crc.join F (Crc.sum l) l.length : Nat) : Int)
  | _, _, _ => True

set_option maxHeartbeats 4000000 in
set_option maxRecDepth 100000 in
theorem crcPieces_walk (v : Value) (vs : List Value) (ls : List (List UInt8)) (w : World) (hr : Rd w 1 v vs.length vs) (hn : ls.length = vs.length)
    (hel : ∀ (i : Nat) (l : List UInt8) (u : Value), ls[i]? = some l → vs[i]? = some u → Rd w 1 u l.length (bv l)) (hflat : ls.flatten.length ≤ 1048576) (hvl : vs.length ≤ 1048576) :
    Calls Try.prog 5 #[v] w fun e w' => e = .returned (.bool true) ∧ Below w.heap.size w w' := by
  obtain ⟨a, c, rfl⟩ := hr.form
  have hcap : vs.length ≤ c := by
    obtain ⟨_, _, h⟩ := hr
    rcases h with ⟨e, h⟩ | ⟨ad, c', e, h, _⟩
    · omega
    · simp only [Value.slice.injEq, true_and] at e; omega
  go_enter Try.func5, Try.ntmps5
  go_wp2_with fail
  refine (awake02_any _).mono ?_
  rintro e w1 ⟨rfl, hb1⟩
  have hr1 := hr.keep hb1
  have hel1 : ∀ (i : Nat) (l : List UInt8) (u : Value), ls[i]? = some l → vs[i]? = some u → Rd w1 1 u l.length (bv l) := fun i l u h1 h2 => (hel i l u h1 h2).keep hb1
  clear hr hel
  have hsn := hb1.size
  go_upto_if 14 with fail
  go_cut [0] (fun s0 wq => (∃ m : Nat, m ≤ 200 ∧ m ≤ vs.length ∧ s0 = .slice a m c) ∧ wq = w1)
  case first =>
    by_cases h200 : 200 < vs.length
    · have h2z : (200 : Int) < (vs.length : Int) := by omega
      have hcz : 200 ≤ c := by omega
      go_wp2_with fail
      all_goals go_meet
      all_goals exact ⟨⟨200, by omega, by omega, by rfl⟩, rfl⟩
    · have h2z : ¬ (200 : Int) < (vs.length : Int) := by omega
      go_wp2_with fail
      all_goals go_meet
      all_goals exact ⟨⟨vs.length, by omega, by omega, by rfl⟩, rfl⟩
  case rest =>
    obtain ⟨⟨m, hm2, hmv, rfl⟩, rfl⟩ := hcut
    have hr2 := hr1.take' m hmv
    obtain ⟨us, hus⟩ : ∃ us, us = vs.take m := ⟨_, rfl⟩
    obtain ⟨ks, hks⟩ : ∃ ks, ks = ls.take m := ⟨_, rfl⟩
    have hul : us.length = m := by rw [hus, List.length_take]; omega
    have hkl : ks.length = m := by rw [hks, List.length_take]; omega
    have hel2 : ∀ (i : Nat) (l : List UInt8) (u : Value), ks[i]? = some l → us[i]? = some u → Rd wc 1 u l.length (bv l) := by
      intro i l u h1 h2
      rw [hks, List.getElem?_take] at h1
      rw [hus, List.getElem?_take] at h2
      split at h1
      · rename_i hi; rw [if_pos hi] at h2; exact hel1 i l u h1 h2
      · cases h1
    have hfl : ks.flatten.length ≤ 1048576 := by rw [hks]; exact Nat.le_trans (flat_take_le ls m) hflat
    rw [← hus] at hr2
    clear hus hks hel1 hr1 hmv hcap hn hflat hvl
    go_wp2_with fail
    refine (Sum_any (.slice none 0 0) [] _ (by simp) (Rd.nil _ _)).mono ?_
    rintro e w2 ⟨rfl, hb2⟩
    have hb12 := hb1.trans (hb2.mono (by first | omega | simp))
    have hr3 := hr2.keep hb2
    have hel3 : ∀ (i : Nat) (l : List UInt8) (u : Value), ks[i]? = some l → us[i]? = some u → Rd w2 1 u l.length (bv l) := fun i l u h1 h2 => (hel2 i l u h1 h2).keep hb2
    clear hr2 hel2
    have hs2 := hb2.size
    go_wp2_with fail
    obtain ⟨B, hBe⟩ : ∃ B, B = w2.heap.size := ⟨_, rfl⟩
    have hBw : B ≤ w2.heap.size := by omega
    go_loopw [3, 4, 5, 6] (fun s3 s4 s5 s6 wr => ∃ k : Nat, k ≤ m ∧ s6 = .int .i64 k ∧ wr.ownsRow B 5 1 s3 (ks.take k).flatten.length (bv (ks.take k).flatten) ∧
        s4 = .int .u32 ((Crc.sum (ks.take k).flatten : Nat) : Int) ∧ s5 = .int .u32 ((Crc.sum (ks.take k).flatten : Nat) : Int) ∧ Below B w2 wr ∧ B ≤ wr.heap.size) (fun _ _ _ i _ => m - (intOf i).toNat)
    case atStart => exact ⟨0, Nat.zero_le _, rfl, by simpa [bv] using World.ownsRow_nil w2 B 5 1, by simp [Crc.sum_nil], by simp [Crc.sum_nil], Below.refl _ _, hBw⟩
    case round =>
      obtain ⟨k, hk, rfl, hown, rfl, rfl, hbr, hBr⟩ := hrel
      obtain ⟨fl, hfk⟩ : ∃ fl, fl = (ks.take k).flatten := ⟨_, rfl⟩
      rw [← hfk] at hown ⊢
      obtain ⟨F, hF⟩ : ∃ F, F = Crc.sum fl := ⟨_, rfl⟩
      have hF32 : F < 4294967296 := by rw [hF]; exact Crc.sum_lt _
      by_cases hlt : k < m
      · have hkz : (k : Int) < (m : Int) := by omega
        have hk0 : (0 : Int) ≤ (k : Int) := by omega
        rw [← hF]
        obtain ⟨l, hl⟩ : ∃ l, ks[k]? = some l := ⟨ks[k], List.getElem?_eq_getElem (by omega)⟩
        obtain ⟨u, hu⟩ : ∃ u, us[k]? = some u := ⟨us[k], List.getElem?_eq_getElem (by omega)⟩
        have hrl0 := hel3 k l u hl hu
        obtain ⟨pa, ca, rfl⟩ := hrl0.form
        obtain ⟨q, o, c', hva, _, cella⟩ := hr3.at (by omega)
        simp only [Value.slice.injEq, true_and] at hva
        obtain ⟨rfl, rfl⟩ := hva
        have hc0 := cella k _ hu
        have bq : q < B := by rw [hBe]; exact World.block_lt_of_cell? _ _ hc0
        have hcr0 := (hbr.cell (p := ⟨q, o + k, none⟩) bq).trans hc0
        have hrl1 := hrl0.keepB hbr (by omega)
        have hsn1 := flat_snoc ks k l hl
        rw [← hfk] at hsn1
        have hlenl : fl.length + l.length ≤ 1048576 := by
          have := flat_take_le ks (k + 1); rw [hsn1, List.length_append] at this; omega
        have hll : l.length ≤ 1048576 := by omega
        have hjoin : Crc.sum (ks.take (k + 1)).flatten = Crc.join F (Crc.sum l) l.length := by rw [hsn1, Crc.sum_append, ← hF]
        have hmore : Crc.sum (ks.take (k + 1)).flatten = Crc.more F l := by rw [hsn1, Crc.sum, Crc.more_append, hF]; rfl
        have HJ := Lib.hid hjoin
        have HM := Lib.hid hmore
        have HF := Lib.hid hF
        have HFK := Lib.hid hfk
        have HS := Lib.hid hsn1
        have HU := Lib.hid hul
        have HK := Lib.hid hkl
        have HB := Lib.hid hBe
        clear cella hc0 hjoin hmore hF hfk hsn1 hul hkl hBe hl hu hr3 hel3
        go_wp2_with (at_builtin; refine wpList_app Try.underlying22 infoU8p rfl (by decide) rfl _ _ rfl rfl rfl hown hrl1 (by omega) (by omega) (by omega) ?_)
        intro v' wy ho hg _
        have hbg := hg.below hBr (own_block hown)
        have hby := hbr.trans hbg
        have hcr := (hbg.cell (p := ⟨q, o + k, none⟩) bq).trans hcr0
        have hrl := hrl0.keepB hby (Nat.le_of_eq (HB.out.symm))
        have hBy := Nat.le_trans hBr hg.grown.size
        clear hrl0 hrl1 hcr0 hbr hbg hg hown
        obtain ⟨av, cv, rfl⟩ := own_formp ho
        go_wp2_with fail
        refine wp_region_steps [some 30, some 31, some 32, some 33, some 34, some 35, some 36, some 37, some 38, some 39, some 40, some 41, some 42, some 4] [(0, 4)] (pieces12F m c q o k pa ca F l) (fun _ wx wy => Below wx.heap.size wx wy) (fun wx => Below wy.heap.size wy wx) (by kernel_rfl) (by kernel_rfl) rfl (by kernel_rfl) (Below.refl _ _).drew (fun _ wx => Below.refl _ _) (fun _ wx wy h k => h.trans (k.mono h.size)) ?hF ?hstep ?hend
        case hF =>
          exact ⟨fun _ _ _ _ _ _ h => h, ⟨fun _ _ _ _ _ _ h => h, ⟨fun _ _ _ _ _ _ h => h, ⟨fun _ _ _ _ _ _ h => h, ⟨fun _ _ _ _ _ _ h => h, ⟨fun _ _ _ _ _ _ h => h, ⟨fun _ _ _ _ _ _ h => h, ⟨fun _ _ _ _ _ _ h => h, ⟨fun _ _ _ _ _ _ h => h, ⟨fun _ _ _ _ _ _ h => h, ⟨fun _ _ _ _ _ _ h => h, ⟨fun _ _ _ _ _ _ h => h, ⟨fun _ _ _ _ _ _ h => h, ⟨fun _ _ _ _ _ _ h => h, trivial⟩⟩⟩⟩⟩⟩⟩⟩⟩⟩⟩⟩⟩⟩
        case hstep =>
          -- operation 0: Op.move (tmp 4)
          refine ⟨fun r wx hG hs hq hf => ?_, ?_⟩
          · have e4 : r 4 = .int .u32 ((F : Nat) : Int) := hs 4 rfl
            refine (if_pos rfl).symm ▸ ?_
            clear hs hq hf
            unfold gives
            go_simp
            exact ⟨Below.refl _ _, rfl⟩
          -- operation 1: Op.move (tmp 0)
          refine ⟨fun r wx hG hs hq hf => ?_, ?_⟩
          · have e0 : r 0 = .slice (some ⟨q, o, none⟩) m c := hs 0 rfl
            refine (if_pos rfl).symm ▸ ?_
            clear hs hq hf
            unfold gives
            go_simp
            exact ⟨Below.refl _ _, rfl⟩
          -- operation 2: Op.move (tmp 6)
          refine ⟨fun r wx hG hs hq hf => ?_, ?_⟩
          · have e6 : r 6 = .int .i64 k := hs 6 rfl
            refine (if_pos rfl).symm ▸ ?_
            clear hs hq hf
            unfold gives
            go_simp
            exact ⟨Below.refl _ _, rfl⟩
          -- operation 3: Op.indexAddr 31 (tmp 31) (tmp 32)
          refine ⟨fun r wx hG hs hq hf => ?_, ?_⟩
          · have h1 : r 31 = .slice (some ⟨q, o, none⟩) m c := hf.1
            have h2 : r 32 = .int .i64 k := hf.2.1
            refine (if_pos rfl).symm ▸ ?_
            clear hs hq hf
            unfold gives
            go_simp
            exact ⟨Below.refl _ _, rfl⟩
          -- operation 4: Op.load 22 (tmp 33)
          refine ⟨fun r wx hG hs hq hf => ?_, ?_⟩
          · have h3 : r 33 = .pointer (some ⟨q, o + k, none⟩) := hf.1
            refine (if_pos rfl).symm ▸ ?_
            clear hs hq hf
            unfold gives
            have hcl := (hG.cell (p := ⟨q, o + k, none⟩) (by show q < _; omega)).trans hcr
            go_simp
            exact ⟨Below.refl _ _, rfl⟩
          -- operation 5: Op.call ( callee := Callee.value (func 10), args := #[tmp 34], argTypes := #[22] )
          refine ⟨fun r wx hG hs hq hf => ?_, ?_⟩
          · have h4 : r 34 = .slice pa l.length ca := hf.1
            refine (if_pos rfl).symm ▸ ?_
            clear hs hq hf
            unfold gives
            go_simp
            refine (Sum_any _ l wx (by omega) (hrl.keep hG)).mono ?_
            rintro e wy ⟨rfl, hb⟩
            exact ⟨_, rfl, hb, rfl⟩
          -- operation 6: Op.move (tmp 0)
          refine ⟨fun r wx hG hs hq hf => ?_, ?_⟩
          · have e0 : r 0 = .slice (some ⟨q, o, none⟩) m c := hs 0 rfl
            refine (if_pos rfl).symm ▸ ?_
            clear hs hq hf
            unfold gives
            go_simp
            exact ⟨Below.refl _ _, rfl⟩
          -- operation 7: Op.move (tmp 6)
          refine ⟨fun r wx hG hs hq hf => ?_, ?_⟩
          · have e6 : r 6 = .int .i64 k := hs 6 rfl
            refine (if_pos rfl).symm ▸ ?_
            clear hs hq hf
            unfold gives
            go_simp
            exact ⟨Below.refl _ _, rfl⟩
          -- operation 8: Op.indexAddr 31 (tmp 36) (tmp 37)
          refine ⟨fun r wx hG hs hq hf => ?_, ?_⟩
          · have h6 : r 36 = .slice (some ⟨q, o, none⟩) m c := hf.1
            have h7 : r 37 = .int .i64 k := hf.2.1
            refine (if_pos rfl).symm ▸ ?_
            clear hs hq hf
            unfold gives
            go_simp
            exact ⟨Below.refl _ _, rfl⟩
          -- operation 9: Op.load 22 (tmp 38)
          refine ⟨fun r wx hG hs hq hf => ?_, ?_⟩
          · have h8 : r 38 = .pointer (some ⟨q, o + k, none⟩) := hf.1
            refine (if_pos rfl).symm ▸ ?_
            clear hs hq hf
            unfold gives
            have hcl := (hG.cell (p := ⟨q, o + k, none⟩) (by show q < _; omega)).trans hcr
            go_simp
            exact ⟨Below.refl _ _, rfl⟩
          -- operation 10: Op.call ( callee := Callee.builtin Builtin.len, args := #[tmp 39], argTypes := #[22] )
          refine ⟨fun r wx hG hs hq hf => ?_, ?_⟩
          · have h9 : r 39 = .slice pa l.length ca := hf.1
            refine (if_pos rfl).symm ▸ ?_
            clear hs hq hf
            unfold gives
            go_simp
            exact ⟨Below.refl _ _, rfl⟩
          -- operation 11: Op.convert 3 28 (tmp 40)
          refine ⟨fun r wx hG hs hq hf => ?_, ?_⟩
          · have h10 : r 40 = .int .i64 l.length := hf.1
            refine (if_pos rfl).symm ▸ ?_
            clear hs hq hf
            unfold gives
            have hw : IntKind.u64.wrap (l.length : Int) = l.length := IntWalk.u64_in _ (by omega)
            go_simp
            exact ⟨Below.refl _ _, rfl⟩
          -- operation 12: Op.call ( callee := Callee.value (func 14), args := #[tmp 30, tmp 35, tmp 41], argTypes := #[23, 23, 28] )
          refine ⟨fun r wx hG hs hq hf => ?_, ?_⟩
          · have h0 : r 30 = .int .u32 ((F : Nat) : Int) := hf.1
            have h5 : r 35 = .int .u32 ((Crc.sum l : Nat) : Int) := hf.2.1
            have h11 : r 41 = .int .u64 l.length := hf.2.2.1
            refine (if_pos rfl).symm ▸ ?_
            clear hs hq hf
            unfold gives
            go_simp
            refine (Join_any F (Crc.sum l) l.length wx hF32 (Crc.sum_lt _) (by omega)).mono ?_
            rintro e wy ⟨rfl, hb⟩
            exact ⟨_, rfl, hb, rfl⟩
          -- operation 13: Op.assign (tmp 42)
          refine ⟨fun r wx hG hs hq hf => ?_, ?_⟩
          · have h12 : r 42 = .int .u32 ((Crc.join F (Crc.sum l) l.length : Nat) : Int) := hf.1
            refine (if_pos rfl).symm ▸ ?_
            clear hs hq hf
            unfold gives
            go_simp
            exact ⟨Below.refl _ _, rfl⟩
          exact trivial
        case hend =>
          intro u wz hG hfin
          have z13 : u 13 = .int .u32 ((Crc.join F (Crc.sum l) l.length : Nat) : Int) := hfin 13 (by decide) (by kernel_rfl)
          clear hfin
          simp only [fill]
          have hcrz := (hG.cell (p := ⟨q, o + k, none⟩) (by show q < _; omega)).trans hcr
          have hrlz := hrl.keep hG
          go_simp
          go_wp2_with fail
          refine (More_any F _ l _ hF32 (by omega) hrlz).mono ?_
          rintro e w5 ⟨rfl, hb5⟩
          have ho5 := own_keep (own_keep ho hG) hb5
          have hb25 := hby.trans ((hG.mono hBy).trans (hb5.mono (Nat.le_trans hBy hG.size)))
          have hB5 := Nat.le_trans hBy (Nat.le_trans hG.size hb5.size)
          go_wp2_with fail
          go_roundw
          case rel => exact ⟨k + 1, by omega, by go_num, by rw [HS.out, List.length_append, bv_append]; exact ho5, by rw [HJ.out], by rw [HM.out], hb25, hB5⟩
          case measure => simp [intOf]; omega
      · obtain rfl : m = k := by omega
        have hkz : ¬ (m : Int) < (m : Int) := by omega
        obtain ⟨av, cv, rfl⟩ := own_formp hown
        have hr4 := hr3.keepB hbr (by omega)
        have hel4 : ∀ (i : Nat) (l : List UInt8) (u : Value), ks[i]? = some l → us[i]? = some u → Rd wr 1 u l.length (bv l) := fun i l u h1 h2 => (hel3 i l u h1 h2).keepB hbr (by omega)
        have hbw : Below w.heap.size w wr := hb12.trans (hbr.mono (by omega))
        have hflk : fl = (ks.drop 0).flatten := by rw [hfk, List.take_of_length_le (by omega)]; rfl
        have hfll : fl.length ≤ 1048576 := by rw [hfk]; exact Nat.le_trans (flat_take_le ks m) hfl
        have hmz : (m : Int) ≤ 200 := by omega
        have hws : wr.heap.size ≥ w.heap.size := hbw.size
        clear hr3 hel3 hbr hb12 hb1 hb2 hfk
        have HFK := Lib.hid hflk
        have HU := Lib.hid hul
        have HK := Lib.hid hkl
        have HB := Lib.hid hBe
        clear hflk hul hkl hBe hF hF32 F
        have hk64 : IntKind.i64.wrap ((m : Int) - 1) = (m : Int) - 1 := IntWalk.i64_in _ (by omega)
        go_wp2_with fail
        go_loopw [7, 8, 9] (fun s7 s8 s9 ws => ∃ j : Nat, j ≤ m ∧ (j = 0 ∧ s9 = .int .i64 (-1) ∨ ∃ i : Nat, j = i + 1 ∧ s9 = .int .i64 i) ∧ s8 = .int .u64 (((ks.drop j).flatten.length : Nat) : Int) ∧
          s7 = .int .u32 ((Crc.sum (ks.drop j).flatten : Nat) : Int) ∧ Below wr.heap.size wr ws) (fun _ _ i _ => (intOf i + 1).toNat)
        case atStart =>
          have hd : ks.drop m = [] := List.drop_of_length_le (by rw [HK.out]; exact Nat.le_refl _)
          refine ⟨m, Nat.le_refl _, ?_, by rw [hd]; rfl, by rw [hd]; rfl, Below.refl _ _⟩
          rcases Nat.eq_zero_or_pos m with rfl | h
          · exact .inl ⟨rfl, rfl⟩
          · exact .inr ⟨m - 1, by omega, by congr 1; omega⟩
        case round =>
          obtain ⟨j, hj, hj9, rfl, rfl, hbs⟩ := hrel
          rcases hj9 with ⟨rfl, rfl⟩ | ⟨k, rfl, rfl⟩
          · rw [← HFK.out]
            have hown2 := own_keep hown hbs
            have hbw2 := hbw.trans (hbs.mono hws)
            clear hown hbs hr4 hel4
            go_wp2_with fail
            refine (Sum_any _ fl _ (by omega) (own_rd hown2 (bv_one _))).mono ?_
            rintro e wx ⟨rfl, hbx⟩
            go_wp2_with fail
            go_ret
            exact ⟨rfl, hbw2.trans (hbx.mono hbw2.size)⟩
          · obtain ⟨f2, hf2⟩ : ∃ f2, f2 = (ks.drop (k + 1)).flatten := ⟨_, rfl⟩
            rw [← hf2]
            obtain ⟨n, hn⟩ : ∃ n, n = f2.length := ⟨_, rfl⟩
            obtain ⟨F, hF2⟩ : ∃ F2, F2 = Crc.sum f2 := ⟨_, rfl⟩
            have hF32 : F < 4294967296 := by rw [hF2]; exact Crc.sum_lt _
            rw [← hn, ← hF2]
            have hkz : (k : Int) < (m : Int) := by omega
            have hk0 : (0 : Int) ≤ (k : Int) := by omega
            obtain ⟨l, hl⟩ : ∃ l, ks[k]? = some l := ⟨ks[k]'(by rw [HK.out]; omega), List.getElem?_eq_getElem _⟩
            obtain ⟨u, hu⟩ : ∃ u, us[k]? = some u := ⟨us[k]'(by rw [HU.out]; omega), List.getElem?_eq_getElem _⟩
            have hrl := (hel4 k l u hl hu).keep hbs
            obtain ⟨pa, ca, rfl⟩ := hrl.form
            obtain ⟨q, o, c', hva, _, cella⟩ := hr4.at (by omega)
            simp only [Value.slice.injEq, true_and] at hva
            obtain ⟨rfl, rfl⟩ := hva
            have hc0 := cella k _ hu
            have hcr := (hbs.cell (p := ⟨q, o + k, none⟩) (World.block_lt_of_cell? _ _ hc0)).trans hc0
            have bq : q < wr.heap.size := World.block_lt_of_cell? _ _ hcr
            have hsn1 := flat_cons ks k l hl
            rw [← hf2] at hsn1
            have hlen2 : l.length + n ≤ 1048576 := by
              have := Nat.le_trans (flat_drop_le ks k) hfl; rw [hsn1, List.length_append] at this; omega
            have hll : l.length ≤ 1048576 := by omega
            have HN := Lib.hid hn
            have HF := Lib.hid hF2
            have HS := Lib.hid hsn1
            clear cella hc0 hl hu hr4 hel4 hsn1 hn hF2 hf2 hown
            go_wp2_with fail
            refine (Sum_any _ l _ (by omega) hrl).mono ?_
            rintro e w6 ⟨rfl, hb6⟩
            go_wp2_with fail
            refine (Join_any (Crc.sum l) F n _ (Crc.sum_lt _) hF32 (by omega)).mono ?_
            rintro e w7 ⟨rfl, hb7⟩
            have hG := hb6.trans (hb7.mono hb6.size)
            have hcrz := (hG.cell (p := ⟨q, o + k, none⟩) (by show q < _; omega)).trans hcr
            have hbz := hbs.trans (hG.mono hbs.size)
            have hw1 : IntKind.u64.wrap (l.length : Int) = l.length := IntWalk.u64_in _ (by omega)
            have hw2 : IntKind.u64.wrap ((n : Int) + (l.length : Int)) = (n : Int) + (l.length : Int) := IntWalk.u64_in _ (by omega)
            have hw3 : IntKind.i64.wrap ((k : Int) - 1) = (k : Int) - 1 := IntWalk.i64_in _ (by omega)
            clear hbs hG hrl hb6 hb7 hcr
            go_wp2_with fail
            go_roundw
            case rel =>
              refine ⟨k, by omega, ?_, by rw [HS.out, List.length_append, ← HN.out]; congr 1; push_cast; omega, by rw [HS.out, Crc.sum_append, ← HF.out, ← HN.out], hbz⟩
              rcases Nat.eq_zero_or_pos k with h | h
              · subst h; exact .inl ⟨rfl, rfl⟩
              · exact .inr ⟨k - 1, by omega, by congr 1; omega⟩
            case measure => simp [intOf]
end Go.Proofs.Ytfeokdlkokmpcaa
