/- The law GrowthPasses: the walk. (printed by gen/grm.py) -/
import Derived.Test.YtjlligpdkkfmaaaDoorGrK
import Derived.Test.YtjlligpdkkfmaaaDoorGrD
namespace Go.Proofs.YtjlligpdkkfmaaaDoor
open Go.RowKit Sha Root Path Growth

/-- The proof of the first m of n. -/
def gP (W : Int) (ls : List (List UInt8)) (m n : Nat) : List (List UInt8) := if m = 0 then [] else Growth.part (nodeH W) (emptyH W) (ls.take n) m true
/-- What such a proof is. -/
theorem gp_len (W : Int) (ls : List (List UInt8)) (m n : Nat) (hn : n ≤ ls.length) (hm : m ≤ n) : (gP W ls m n).length = (if m = 0 ∨ n < m then 0 else szG m n true) := by
  unfold gP
  by_cases h0 : m = 0
  · rw [if_pos h0, if_pos (.inl h0)]; rfl
  · have hl : (ls.take n).length = n := by rw [List.length_take]; omega
    rw [if_neg h0, if_neg (by omega)]
    have := part_length (nodeH W) (emptyH W) n (ls.take n) m true (by omega) (by omega) (by omega)
    rwa [hl] at this
theorem gp_show (W : Int) (ls : List (List UInt8)) (m n : Nat) (hn : n ≤ ls.length) (hm : m ≤ n) (h1 : 1 ≤ m) : gE m n (gP W ls m n).length = 0 ∧ gS W m n (rootH W (ls.take m)) (gP W ls m n) = (rootH W (ls.take m), rootH W (ls.take n)) := by
  have hl : (ls.take n).length = n := by rw [List.length_take]; omega
  have hlen := gp_len W ls m n hn hm
  rw [if_neg (by omega)] at hlen
  have hE : gE m n (gP W ls m n).length = 0 := by rw [gE, if_neg (by omega), hlen, if_neg (Nat.lt_irrefl _), if_neg (Nat.lt_irrefl _)]
  refine ⟨hE, ?_⟩
  rw [gS, if_pos hE]
  have htt : (ls.take n).take m = ls.take m := by rw [List.take_take, Nat.min_eq_left hm]
  have := show_part (nodeH W) (emptyH W) n (ls.take n) m true (rootH W (ls.take m)) (by omega) h1 (by omega) (fun _ => by rw [htt]; rfl)
  rw [hl, htt] at this
  unfold gP
  rw [if_neg (by omega)]
  exact this
theorem gp_pass (W : Int) (ls : List (List UInt8)) (m n : Nat) (hn : n ≤ ls.length) (hm : m ≤ n) : gB W m n (rootH W (ls.take m)) (rootH W (ls.take n)) (gP W ls m n) = true := by
  rw [gB, if_neg (by omega)]
  by_cases h0 : m = 0
  · subst h0
    rw [if_pos rfl, gP, if_pos rfl]
    have e0 : rootH W (ls.take 0) = emptyH W := by rw [List.take_zero]; rfl
    rw [e0]
    by_cases hn0 : 0 < n
    · simp [hn0]
    · have : n = 0 := by omega
      subst this
      rw [e0]; simp
  · rw [if_neg h0]
    obtain ⟨h1, h2⟩ := gp_show W ls m n hn hm (by omega)
    rw [h1, h2]; simp
theorem gP_32 (W : Int) (ls : List (List UInt8)) (m n : Nat) (hn : n ≤ ls.length) (hm : m ≤ n) (h32 : ∀ p ∈ ls, p.length = 32) : ∀ p ∈ gP W ls m n, p.length = 32 := by
  unfold gP
  by_cases h0 : m = 0
  · rw [if_pos h0]; simp
  · have hl : (ls.take n).length = n := by rw [List.length_take]; omega
    rw [if_neg h0]
    exact part_32 W n (ls.take n) m true (by omega) (by omega) (by omega) (fun p hp => h32 p (List.mem_of_mem_take hp))
/-- growth.Prove at any first m of n leaves. -/
theorem gProve_any (W : Int) (ls : List (List UInt8)) (m n : Nat) (a : Option Addr) (c : Nat) (w : World) (hW : -9223372036854775808 ≤ W ∧ W ≤ 9223372036854775807) (h32 : ∀ p ∈ ls, p.length = 32) (hl : ls.length * 32 ≤ 140737488351232) (hmn : m ≤ n) (hn : n ≤ ls.length)
    (hr : Rd w 32 (.slice a ls.length c) ls.length (ls.flatMap bv)) (hT : Tabs w) (hD : TabD w) :
    Calls Tryd.prog 33 #[.int .i64 W, .slice a ls.length c, .int .i64 m, .int .i64 n] w fun e w' => ∃ va vc, e = .returned (.tuple #[.slice va (gP W ls m n).length vc, .int .i64 0]) ∧
      w'.ownsRow w.heap.size 35 32 (.slice va (gP W ls m n).length vc) (gP W ls m n).length ((gP W ls m n).flatMap bv) ∧ Below w.heap.size w w' := by
  unfold gP
  by_cases h0 : m = 0
  · subst h0
    rw [if_pos rfl]
    refine (gProve_zero W n a ls.length c w (by omega) (by omega)).mono ?_
    rintro e w' ⟨rfl, hb⟩
    exact ⟨none, 0, rfl, World.ownsRow_nil _ _ _ _, hb⟩
  · rw [if_neg h0]
    have hlk : (ls.take n).length = n := by rw [List.length_take]; omega
    obtain ⟨b, off, c', hv, hcap, hcell⟩ := hr.atN (by omega) (by omega)
    simp only [Value.slice.injEq, true_and] at hv
    obtain ⟨rfl, rfl⟩ := hv
    have := gProve_good W (ls.take n) b off c m ls.length w hW (fun p hp => h32 p (List.mem_of_mem_take hp)) (by omega) (by omega) (by omega) (by omega) hcap (by rw [hlk, flat_take32 _ _ h32]; exact rd_take hr n hn) hT hD
    rw [hlk] at this
    exact this
/-- What each operation hands on. -/
def gpa13P (W : Int) (M c m n L vc _b6 : Nat) (a va : Option Addr) (rm rt : List UInt8) : Nat → Value → Prop
  | 0, v => v = .int .i64 0
  | 1, v => v = .bool false
  | 2, v => v = .bool false
  | 3, v => v = .slice va L vc
  | 4, v => v = .int .i64 (L : Nat)
  | 5, v => v = .int .i64 (m : Nat)
  | 6, v => v = .int .u64 (m : Nat)
  | 7, v => v = .int .i64 (n : Nat)
  | 8, v => v = .int .u64 (n : Nat)
  | 9, v => v = .int .i64 (L : Nat)
  | 10, v => v = .bool false
  | 11, v => v = .bool false
  | 12, v => v = .bool false
  | 13, v => v = .int .i64 W
  | 14, v => v = .int .i64 (m : Nat)
  | 15, v => v = .int .u64 (m : Nat)
  | 16, v => v = .int .i64 (n : Nat)
  | 17, v => v = .int .u64 (n : Nat)
  | 18, v => v = .int .i64 W
  | 19, v => v = .slice a M c
  | 20, v => v = .int .i64 (m : Nat)
  | 21, v => v = .slice a m c
  | 22, v => v = .agg (bv rm).toArray
  | 23, v => v = .agg (bv rt).toArray
  | 24, v => v = .slice va L vc
  | 25, v => v = .bool true
  | 26, v => v = .bool false
  | 27, v => v = .bool false
  | _, _ => True

set_option maxHeartbeats 16000000 in
set_option maxRecDepth 100000 in
theorem growthPasses_walk (W : Int) (a : Option Addr) (c : Nat) (ls0 : List (List UInt8)) (w : World) (hW : -9223372036854775808 ≤ W ∧ W ≤ 9223372036854775807) (h32a : ∀ p ∈ ls0, p.length = 32) (hl : ls0.length * 32 ≤ 140737488351232) (hr : Rd w 32 (.slice a ls0.length c) ls0.length (ls0.flatMap bv)) (hT : Tabs w) (hD : TabD w) :
    Calls Tryd.prog 8 #[.int .i64 W, .slice a ls0.length c] w fun e w' => e = .returned (.bool true) ∧ Below w.heap.size w w' := by
  have hz := (zero_of_info info32).1
  have hcap : ls0.length ≤ c := by
    obtain ⟨_, _, ⟨hv, h0⟩ | ⟨ad, c', hv, hc, _⟩⟩ := hr
    · simp at hv; omega
    · simp at hv; omega
  have HR := Lib.hid hr
  have HT := Lib.hid (And.intro hT (And.intro hD h32a))
  have HN := Lib.hid hW
  clear hr hT hD h32a hW
  go_enter Tryd.func8, Tryd.ntmps8
  go_wp2_with fail
  refine (awake16_any w HT.out.1 HT.out.2.1).mono ?_
  rintro e w1 ⟨rfl, hb1⟩
  have HB1 := Lib.hid hb1
  clear hb1
  go_upto_if 14 with fail
  go_cut [1] (fun s1 wz => s1 = .slice a (min ls0.length 24) c ∧ wz = w1)
  case first =>
    by_cases hgt : 24 < ls0.length
    · have z2 : (24 : Int) < (ls0.length : Int) := by omega
      have z4 : (24 : Int) ≤ (c : Int) := by omega
      go_wp2_with fail
      go_meet
      exact ⟨by rw [show min ls0.length 24 = 24 by omega], rfl⟩
    · have z2 : ¬ (24 : Int) < (ls0.length : Int) := by omega
      go_wp2_with fail
      go_meet
      exact ⟨by rw [show min ls0.length 24 = ls0.length by omega], rfl⟩
  case rest =>
    obtain ⟨rfl, rfl⟩ := hcut
    obtain ⟨M, hM⟩ : ∃ m, m = min ls0.length 24 := ⟨_, rfl⟩
    rw [← hM]
    have hm3 : M ≤ ls0.length := by omega
    have hm4 : M ≤ 24 := by omega
    have h32 : ∀ q ∈ ls0.take M, q.length = 32 := fun q hq => HT.out.2.2 q (List.mem_of_mem_take hq)
    have hR : Rd w 32 (.slice a M c) M ((ls0.take M).flatMap bv) := by
      rw [flat_take32 _ _ HT.out.2.2]; exact rd_take HR.out M hm3
    have hlm : (ls0.take M).length = M := by rw [List.length_take]; omega
    have hmc : M ≤ c := by omega
    obtain ⟨ls, hls⟩ : ∃ l, l = ls0.take M := ⟨_, rfl⟩
    rw [← hls] at hR h32 hlm
    have hroot := fun k (hk : k ≤ M) wx (hb : Below w.heap.size w wx) => Root_any W (ls.take k) (.slice a k c) wx HN.out (fun p hp => h32 p (List.mem_of_mem_take hp)) (by rw [List.length_take]; omega) (by
      rw [List.length_take, hlm, Nat.min_eq_left hk, flat_take32 _ _ h32]; exact (rd_take hR k hk).keep hb) (HT.out.1.keepB hb) (HT.out.2.1.keepB hb)
    have hrt32 := fun k => rootH_32 W (ls.take k) (fun p hp => h32 p (List.mem_of_mem_take hp))
    have HROOT := Lib.hid (And.intro hroot hrt32)
    have HRD := Lib.hid hR
    have H32 := Lib.hid (And.intro h32 hlm)
    clear hR h32 hls hM hm3 hlm hcap hroot hrt32
    go_wp2_with fail
    go_loopw [5] (fun s5 wr => ∃ n : Nat, n ≤ M + 1 ∧ s5 = .int .i64 n ∧ Below w.heap.size w wr) (fun s5 _ => M + 1 - (intOf s5).toNat)
    case atStart => exact ⟨0, by omega, rfl, HB1.out⟩
    case round =>
      obtain ⟨n, hnM, rfl, hbw⟩ := hrel
      by_cases hlt : n ≤ M
      · have z1 : (n : Int) ≤ (M : Int) := by omega
        have z2 : (0 : Int) ≤ (n : Int) := by omega
        have z3 : (n : Int) ≤ (c : Int) := by omega
        have hroot := HROOT.out.1 n hlt wr hbw
        have hrt32 := HROOT.out.2 n
        obtain ⟨rt, hrt⟩ : ∃ r, r = rootH W (ls.take n) := ⟨_, rfl⟩
        rw [← hrt] at hroot hrt32
        have HRT := Lib.hid hroot
        have HR32 := Lib.hid (And.intro hrt32 hrt)
        have HBW := Lib.hid hbw
        clear hroot hrt32 hrt hbw
        go_wp2_with fail
        refine HRT.out.mono ?_
        rintro e w2 ⟨rfl, hb2⟩
        have H2 := Lib.hid (HBW.out.trans (hb2.mono HBW.out.size))
        have H2n := Lib.hid (heap_alloc_new w2 (.cells (bv (zs 32)).toArray 35))
        clear hb2
        go_upto_region 9 with (with_reducible show wpList _ _ _ (⟨none, Op.store _ _ _, _, _, _, _⟩ :: _) _ _; refine wpList_store_whole rfl _ _ _ rfl w2.heap.size (bv rt) rfl rfl (bv (zs 32)) _ H2n.out (hInfo' _ HR32.out.1) (by rw [bv_length, bv_length, HR32.out.1]; simp [zs]) (bv_one _) ?_; intro w4 HG4 hg4)
        have k4 : Below w2.heap.size w2 w4 := below_grow ((Below.refl _ _).alloc (Nat.le_refl _) _) hg4 (Nat.le_refl _) (by simp)
        obtain ⟨b6, hb6⟩ : ∃ g, g = w2.heap.size := ⟨_, rfl⟩
        have hrow4 := HG4.out
        rw [← hb6] at hrow4 ⊢
        have H4 := Lib.hid (And.intro hrow4 (H2.out.trans (k4.mono H2.out.size)))
        clear hrow4 k4 HG4 hg4 hb6
        go_wp2_with fail
        go_loopw [7] (fun s7 wr2 => ∃ m : Nat, m ≤ n + 1 ∧ s7 = .int .i64 m ∧ wr2.heap[b6]? = some (.cells (bv rt).toArray 35 (0, 0)) ∧ Below w.heap.size w wr2) (fun s7 _ => n + 1 - (intOf s7).toNat)
        case atStart => exact ⟨0, by omega, rfl, H4.out.1, H4.out.2⟩
        case round =>
          obtain ⟨m, hmn, rfl, hrow, hbw2⟩ := hrel
          by_cases hm : m ≤ n
          · have z4 : (m : Int) ≤ (n : Int) := by omega
            have hpv := gProve_any W ls m n a c wr HN.out H32.out.1 (by rw [H32.out.2]; omega) hm (by rw [H32.out.2]; exact hlt) (by rw [H32.out.2]; exact HRD.out.keep hbw2) (HT.out.1.keepB hbw2) (HT.out.2.1.keepB hbw2)
            have hpl := gp_len W ls m n (by rw [H32.out.2]; exact hlt) hm
            have hpb := gp_pass W ls m n (by rw [H32.out.2]; exact hlt) hm
            have hp32 := gP_32 W ls m n (by rw [H32.out.2]; exact hlt) hm H32.out.1
            rw [H32.out.2] at hpv
            rw [← HR32.out.2] at hpb
            have hrm32 := HROOT.out.2 m
            have hroot := fun wx (hb : Below w.heap.size w wx) => HROOT.out.1 m (by omega) wx hb
            obtain ⟨rm, hrm⟩ : ∃ r, r = rootH W (ls.take m) := ⟨_, rfl⟩
            rw [← hrm] at hpb hrm32 hroot
            obtain ⟨P, hP⟩ : ∃ p, p = gP W ls m n := ⟨_, rfl⟩
            rw [← hP] at hpl hpv hp32 hpb
            have hszb : P.length ≤ 65 := by
              rw [hpl]
              by_cases h0 : m = 0 ∨ n < m
              · rw [if_pos h0]; omega
              · rw [if_neg h0]; exact szG_le m n true (by omega) (by omega) (by omega)
            have HPV := Lib.hid hpv
            have HPF := Lib.hid (And.intro hpl (And.intro hpb hp32))
            have HLN := Lib.hid (And.intro hrm32 HR32.out.1)
            have HRM0 := Lib.hid hroot
            have H5 := Lib.hid (And.intro hrow hbw2)
            clear hpl hpb hpv hp32 hP hrow hbw2 hrm32 hroot hrm
            go_wp2_with fail
            refine HPV.out.mono ?_
            rintro e w3 ⟨va, vc, rfl, ho3, hb3⟩
            obtain ⟨L, hL⟩ : ∃ l, l = P.length := ⟨_, rfl⟩
            have hrd3 := own_rd ho3 (flat_one32 _)
            have hrow3 := (hb3.block _ (Array.getElem?_eq_some_iff.1 H5.out.1).1).trans H5.out.1
            have hbw3 := H5.out.2.trans (hb3.mono H5.out.2.size)
            have HSZ := Lib.hid (fun wx (_ : KeptT [] w3 wx) => by
              have := gSize_any m n wx (by omega) (by omega)
              rw [← HPF.out.1, ← hL] at this
              exact this)
            have HRM := Lib.hid (fun wx (h : KeptT [] w3 wx) => HRM0.out wx (hbw3.trans (h.bel.mono hbw3.size)))
            have HCK := Lib.hid (fun wx (h : KeptT [] w3 wx) => by
              have := gCheck_any W m n rm rt P va vc wx HN.out HLN.out.1 HLN.out.2 (by omega) (by omega) HPF.out.2.2 (by omega) (hrd3.keep h.bel) (HT.out.1.keepB (hbw3.trans (h.bel.mono hbw3.size)))
              rw [HPF.out.2.1, ← hL] at this
              exact this)
            have H3 := Lib.hid (And.intro hrow3 hbw3)
            rw [← hL] at hszb ⊢
            clear ho3 hrd3 hrow3 hbw3 hb3 hL
            go_upto_region 13 with fail
            refine wp_region_desc [some 41, some 42, some 43, some 44, some 45, some 46, some 47, some 48, some 49, some 50, some 51, some 52, some 53, some 54, some 55, some 56, some 57, some 58, some 59, some 60, some 61, some 62, some 63, some 64, some 65, some 66, some 67, some 68] [] [] [(0, 0), (0, 0), (0, 0), (0, 0), (0, 0), (0, 0), (0, 0), (0, 0), (0, 0), (0, 0), (0, 0), (0, 0), (0, 0), (0, 0), (0, 0), (0, 0), (0, 0), (0, 0), (0, 0), (0, 0), (0, 0), (0, 0), (0, 0), (0, 0), (0, 0), (0, 0), (0, 0), (0, 0)] [] [] [] [] (gpa13P W M c m n L vc b6 a va rm rt) (fun _ _ _ => True) (fun _ => default) (by kernel_rfl) (by kernel_rfl) rfl (by kernel_rfl) (by kernel_rfl) (by kernel_rfl) rfl trivial (by simp; try omega) rfl (fun i hi => (no4 (by kernel_rfl) i hi).elim) ?hstep ?hend
            case hstep =>
              -- operation 0: Op.move (tmp 9)
              refine ⟨fun r wx hG hs hq hf => ?_, ?_⟩
              · have e9 : r 9 = .int .i64 0 := hs 9 rfl
                clear hs hq hf
                refine wanted_pos rfl ?_
                unfold gives
                go_simp
                exact obC_q (Below.refl _ _) rfl
              -- operation 1: Op.binOp BinOp.neq 28 (tmp 41) (const (Value.int IntKind.i64 0)) 28
              refine ⟨fun r wx hG hs hq hf => ?_, ?_⟩
              · have h0 : r 41 = .int .i64 0 := hf.1
                clear hs hq hf
                refine wanted_pos rfl ?_
                unfold gives
                go_simp
                exact obC_q (Below.refl _ _) rfl
              -- operation 2: Op.move (tmp 42)
              refine ⟨fun r wx hG hs hq hf => ?_, ?_⟩
              · have h1 : r 42 = .bool false := hf.1
                clear hs hq hf
                refine wanted_pos rfl ?_
                unfold gives
                go_simp
                exact obC_q (Below.refl _ _) rfl
              -- operation 3: Op.move (tmp 8)
              refine ⟨fun r wx hG hs hq hf => ?_, ?_⟩
              · have e8 : r 8 = .slice va L vc := hs 8 rfl
                have h2 : r 43 = .bool false := hf.1
                have hy : ydD [some 41, some 42, some 43, some 44, some 45, some 46, some 47, some 48, some 49, some 50, some 51, some 52, some 53, some 54, some 55, some 56, some 57, some 58, some 59, some 60, some 61, some 62, some 63, some 64, some 65, some 66, some 67, some 68] r 2 = some false := by show (match r 43 with | .bool b => some b | _ => none) = some false; rw [h2]
                clear hs hq hf
                refine wanted_pos (by simp only [Region.wanted, hy]; rfl) ?_
                unfold gives
                go_simp
                exact obC_q (Below.refl _ _) rfl
              -- operation 4: Op.call ( callee := Callee.builtin Builtin.len, args := #[tmp 44], argTypes := #[44] )
              refine ⟨fun r wx hG hs hq hf => ?_, ?_⟩
              · have h3 : r 44 = .slice va L vc := hf.1
                have h2 : r 43 = .bool false := hf.2.1
                have hy : ydD [some 41, some 42, some 43, some 44, some 45, some 46, some 47, some 48, some 49, some 50, some 51, some 52, some 53, some 54, some 55, some 56, some 57, some 58, some 59, some 60, some 61, some 62, some 63, some 64, some 65, some 66, some 67, some 68] r 2 = some false := by show (match r 43 with | .bool b => some b | _ => none) = some false; rw [h2]
                clear hs hq hf
                refine wanted_pos (by simp only [Region.wanted, hy]; rfl) ?_
                unfold gives
                go_simp
                exact obC_q (Below.refl _ _) rfl
              -- operation 5: Op.move (tmp 7)
              refine ⟨fun r wx hG hs hq hf => ?_, ?_⟩
              · have e7 : r 7 = .int .i64 (m : Nat) := hs 7 rfl
                have h2 : r 43 = .bool false := hf.1
                have hy : ydD [some 41, some 42, some 43, some 44, some 45, some 46, some 47, some 48, some 49, some 50, some 51, some 52, some 53, some 54, some 55, some 56, some 57, some 58, some 59, some 60, some 61, some 62, some 63, some 64, some 65, some 66, some 67, some 68] r 2 = some false := by show (match r 43 with | .bool b => some b | _ => none) = some false; rw [h2]
                clear hs hq hf
                refine wanted_pos (by simp only [Region.wanted, hy]; rfl) ?_
                unfold gives
                go_simp
                exact obC_q (Below.refl _ _) rfl
              -- operation 6: Op.convert 3 33 (tmp 46)
              refine ⟨fun r wx hG hs hq hf => ?_, ?_⟩
              · have h5 : r 46 = .int .i64 (m : Nat) := hf.1
                have h2 : r 43 = .bool false := hf.2.1
                have hy : ydD [some 41, some 42, some 43, some 44, some 45, some 46, some 47, some 48, some 49, some 50, some 51, some 52, some 53, some 54, some 55, some 56, some 57, some 58, some 59, some 60, some 61, some 62, some 63, some 64, some 65, some 66, some 67, some 68] r 2 = some false := by show (match r 43 with | .bool b => some b | _ => none) = some false; rw [h2]
                clear hs hq hf
                refine wanted_pos (by simp only [Region.wanted, hy]; rfl) ?_
                unfold gives
                have zw : IntKind.u64.wrap (m : Int) = (m : Int) := IntWalk.u64_in _ (by omega)
                go_simp
                exact obC_q (Below.refl _ _) rfl
              -- operation 7: Op.move (tmp 5)
              refine ⟨fun r wx hG hs hq hf => ?_, ?_⟩
              · have e5 : r 5 = .int .i64 (n : Nat) := hs 5 rfl
                have h2 : r 43 = .bool false := hf.1
                have hy : ydD [some 41, some 42, some 43, some 44, some 45, some 46, some 47, some 48, some 49, some 50, some 51, some 52, some 53, some 54, some 55, some 56, some 57, some 58, some 59, some 60, some 61, some 62, some 63, some 64, some 65, some 66, some 67, some 68] r 2 = some false := by show (match r 43 with | .bool b => some b | _ => none) = some false; rw [h2]
                clear hs hq hf
                refine wanted_pos (by simp only [Region.wanted, hy]; rfl) ?_
                unfold gives
                go_simp
                exact obC_q (Below.refl _ _) rfl
              -- operation 8: Op.convert 3 33 (tmp 48)
              refine ⟨fun r wx hG hs hq hf => ?_, ?_⟩
              · have h7 : r 48 = .int .i64 (n : Nat) := hf.1
                have h2 : r 43 = .bool false := hf.2.1
                have hy : ydD [some 41, some 42, some 43, some 44, some 45, some 46, some 47, some 48, some 49, some 50, some 51, some 52, some 53, some 54, some 55, some 56, some 57, some 58, some 59, some 60, some 61, some 62, some 63, some 64, some 65, some 66, some 67, some 68] r 2 = some false := by show (match r 43 with | .bool b => some b | _ => none) = some false; rw [h2]
                clear hs hq hf
                refine wanted_pos (by simp only [Region.wanted, hy]; rfl) ?_
                unfold gives
                have zw : IntKind.u64.wrap (n : Int) = (n : Int) := IntWalk.u64_in _ (by omega)
                go_simp
                exact obC_q (Below.refl _ _) rfl
              -- operation 9: Op.call ( callee := Callee.value (func 31), args := #[tmp 47, tmp 49], argTypes := #[33, 33] )
              refine ⟨fun r wx hG hs hq hf => ?_, ?_⟩
              · have h6 : r 47 = .int .u64 (m : Nat) := hf.1
                have h8 : r 49 = .int .u64 (n : Nat) := hf.2.1
                have h2 : r 43 = .bool false := hf.2.2.1
                have hy : ydD [some 41, some 42, some 43, some 44, some 45, some 46, some 47, some 48, some 49, some 50, some 51, some 52, some 53, some 54, some 55, some 56, some 57, some 58, some 59, some 60, some 61, some 62, some 63, some 64, some 65, some 66, some 67, some 68] r 2 = some false := by show (match r 43 with | .bool b => some b | _ => none) = some false; rw [h2]
                clear hs hq hf
                refine wanted_pos (by simp only [Region.wanted, hy]; rfl) ?_
                unfold gives
                go_simp
                refine (HSZ.out wx hG).mono ?_
                rintro e wy ⟨rfl, hb1⟩
                exact ⟨_, rfl, obC_q hb1 rfl⟩
              -- operation 10: Op.binOp BinOp.neq 3 (tmp 45) (tmp 50) 3
              refine ⟨fun r wx hG hs hq hf => ?_, ?_⟩
              · have h4 : r 45 = .int .i64 (L : Nat) := hf.1
                have h9 : r 50 = .int .i64 (L : Nat) := hf.2.1
                have h2 : r 43 = .bool false := hf.2.2.1
                have hy : ydD [some 41, some 42, some 43, some 44, some 45, some 46, some 47, some 48, some 49, some 50, some 51, some 52, some 53, some 54, some 55, some 56, some 57, some 58, some 59, some 60, some 61, some 62, some 63, some 64, some 65, some 66, some 67, some 68] r 2 = some false := by show (match r 43 with | .bool b => some b | _ => none) = some false; rw [h2]
                clear hs hq hf
                refine wanted_pos (by simp only [Region.wanted, hy]; rfl) ?_
                unfold gives
                go_simp
                exact obC_q (Below.refl _ _) rfl
              -- operation 11: Op.pick (tmp 43) (const (Value.bool true)) (tmp 51)
              refine ⟨fun r wx hG hs hq hf => ?_, ?_⟩
              · have h2 : r 43 = .bool false := hf.1
                have h10 : r 51 = .bool false := hf.2.1
                clear hs hq hf
                refine wanted_pos rfl ?_
                unfold gives
                go_simp
                exact obC_q (Below.refl _ _) rfl
              -- operation 12: Op.move (tmp 52)
              refine ⟨fun r wx hG hs hq hf => ?_, ?_⟩
              · have h11 : r 52 = .bool false := hf.1
                clear hs hq hf
                refine wanted_pos rfl ?_
                unfold gives
                go_simp
                exact obC_q (Below.refl _ _) rfl
              -- operation 13: Op.move (tmp 0)
              refine ⟨fun r wx hG hs hq hf => ?_, ?_⟩
              · have e0 : r 0 = .int .i64 W := hs 0 rfl
                have h12 : r 53 = .bool false := hf.1
                have hy : ydD [some 41, some 42, some 43, some 44, some 45, some 46, some 47, some 48, some 49, some 50, some 51, some 52, some 53, some 54, some 55, some 56, some 57, some 58, some 59, some 60, some 61, some 62, some 63, some 64, some 65, some 66, some 67, some 68] r 12 = some false := by show (match r 53 with | .bool b => some b | _ => none) = some false; rw [h12]
                clear hs hq hf
                refine wanted_pos (by simp only [Region.wanted, hy]; rfl) ?_
                unfold gives
                go_simp
                exact obC_q (Below.refl _ _) rfl
              -- operation 14: Op.move (tmp 7)
              refine ⟨fun r wx hG hs hq hf => ?_, ?_⟩
              · have e7 : r 7 = .int .i64 (m : Nat) := hs 7 rfl
                have h12 : r 53 = .bool false := hf.1
                have hy : ydD [some 41, some 42, some 43, some 44, some 45, some 46, some 47, some 48, some 49, some 50, some 51, some 52, some 53, some 54, some 55, some 56, some 57, some 58, some 59, some 60, some 61, some 62, some 63, some 64, some 65, some 66, some 67, some 68] r 12 = some false := by show (match r 53 with | .bool b => some b | _ => none) = some false; rw [h12]
                clear hs hq hf
                refine wanted_pos (by simp only [Region.wanted, hy]; rfl) ?_
                unfold gives
                go_simp
                exact obC_q (Below.refl _ _) rfl
              -- operation 15: Op.convert 3 33 (tmp 55)
              refine ⟨fun r wx hG hs hq hf => ?_, ?_⟩
              · have h14 : r 55 = .int .i64 (m : Nat) := hf.1
                have h12 : r 53 = .bool false := hf.2.1
                have hy : ydD [some 41, some 42, some 43, some 44, some 45, some 46, some 47, some 48, some 49, some 50, some 51, some 52, some 53, some 54, some 55, some 56, some 57, some 58, some 59, some 60, some 61, some 62, some 63, some 64, some 65, some 66, some 67, some 68] r 12 = some false := by show (match r 53 with | .bool b => some b | _ => none) = some false; rw [h12]
                clear hs hq hf
                refine wanted_pos (by simp only [Region.wanted, hy]; rfl) ?_
                unfold gives
                have zw : IntKind.u64.wrap (m : Int) = (m : Int) := IntWalk.u64_in _ (by omega)
                go_simp
                exact obC_q (Below.refl _ _) rfl
              -- operation 16: Op.move (tmp 5)
              refine ⟨fun r wx hG hs hq hf => ?_, ?_⟩
              · have e5 : r 5 = .int .i64 (n : Nat) := hs 5 rfl
                have h12 : r 53 = .bool false := hf.1
                have hy : ydD [some 41, some 42, some 43, some 44, some 45, some 46, some 47, some 48, some 49, some 50, some 51, some 52, some 53, some 54, some 55, some 56, some 57, some 58, some 59, some 60, some 61, some 62, some 63, some 64, some 65, some 66, some 67, some 68] r 12 = some false := by show (match r 53 with | .bool b => some b | _ => none) = some false; rw [h12]
                clear hs hq hf
                refine wanted_pos (by simp only [Region.wanted, hy]; rfl) ?_
                unfold gives
                go_simp
                exact obC_q (Below.refl _ _) rfl
              -- operation 17: Op.convert 3 33 (tmp 57)
              refine ⟨fun r wx hG hs hq hf => ?_, ?_⟩
              · have h16 : r 57 = .int .i64 (n : Nat) := hf.1
                have h12 : r 53 = .bool false := hf.2.1
                have hy : ydD [some 41, some 42, some 43, some 44, some 45, some 46, some 47, some 48, some 49, some 50, some 51, some 52, some 53, some 54, some 55, some 56, some 57, some 58, some 59, some 60, some 61, some 62, some 63, some 64, some 65, some 66, some 67, some 68] r 12 = some false := by show (match r 53 with | .bool b => some b | _ => none) = some false; rw [h12]
                clear hs hq hf
                refine wanted_pos (by simp only [Region.wanted, hy]; rfl) ?_
                unfold gives
                have zw : IntKind.u64.wrap (n : Int) = (n : Int) := IntWalk.u64_in _ (by omega)
                go_simp
                exact obC_q (Below.refl _ _) rfl
              -- operation 18: Op.move (tmp 0)
              refine ⟨fun r wx hG hs hq hf => ?_, ?_⟩
              · have e0 : r 0 = .int .i64 W := hs 0 rfl
                have h12 : r 53 = .bool false := hf.1
                have hy : ydD [some 41, some 42, some 43, some 44, some 45, some 46, some 47, some 48, some 49, some 50, some 51, some 52, some 53, some 54, some 55, some 56, some 57, some 58, some 59, some 60, some 61, some 62, some 63, some 64, some 65, some 66, some 67, some 68] r 12 = some false := by show (match r 53 with | .bool b => some b | _ => none) = some false; rw [h12]
                clear hs hq hf
                refine wanted_pos (by simp only [Region.wanted, hy]; rfl) ?_
                unfold gives
                go_simp
                exact obC_q (Below.refl _ _) rfl
              -- operation 19: Op.move (tmp 1)
              refine ⟨fun r wx hG hs hq hf => ?_, ?_⟩
              · have e1 : r 1 = .slice a M c := hs 1 rfl
                have h12 : r 53 = .bool false := hf.1
                have hy : ydD [some 41, some 42, some 43, some 44, some 45, some 46, some 47, some 48, some 49, some 50, some 51, some 52, some 53, some 54, some 55, some 56, some 57, some 58, some 59, some 60, some 61, some 62, some 63, some 64, some 65, some 66, some 67, some 68] r 12 = some false := by show (match r 53 with | .bool b => some b | _ => none) = some false; rw [h12]
                clear hs hq hf
                refine wanted_pos (by simp only [Region.wanted, hy]; rfl) ?_
                unfold gives
                go_simp
                exact obC_q (Below.refl _ _) rfl
              -- operation 20: Op.move (tmp 7)
              refine ⟨fun r wx hG hs hq hf => ?_, ?_⟩
              · have e7 : r 7 = .int .i64 (m : Nat) := hs 7 rfl
                have h12 : r 53 = .bool false := hf.1
                have hy : ydD [some 41, some 42, some 43, some 44, some 45, some 46, some 47, some 48, some 49, some 50, some 51, some 52, some 53, some 54, some 55, some 56, some 57, some 58, some 59, some 60, some 61, some 62, some 63, some 64, some 65, some 66, some 67, some 68] r 12 = some false := by show (match r 53 with | .bool b => some b | _ => none) = some false; rw [h12]
                clear hs hq hf
                refine wanted_pos (by simp only [Region.wanted, hy]; rfl) ?_
                unfold gives
                go_simp
                exact obC_q (Below.refl _ _) rfl
              -- operation 21: Op.slice 44 (tmp 60) none (some (tmp 61)) none
              refine ⟨fun r wx hG hs hq hf => ?_, ?_⟩
              · have h19 : r 60 = .slice a M c := hf.1
                have h20 : r 61 = .int .i64 (m : Nat) := hf.2.1
                have h12 : r 53 = .bool false := hf.2.2.1
                have hy : ydD [some 41, some 42, some 43, some 44, some 45, some 46, some 47, some 48, some 49, some 50, some 51, some 52, some 53, some 54, some 55, some 56, some 57, some 58, some 59, some 60, some 61, some 62, some 63, some 64, some 65, some 66, some 67, some 68] r 12 = some false := by show (match r 53 with | .bool b => some b | _ => none) = some false; rw [h12]
                clear hs hq hf
                refine wanted_pos (by simp only [Region.wanted, hy]; rfl) ?_
                unfold gives
                have z0 : (0 : Int) ≤ (m : Int) := by omega
                have z1 : (m : Int) ≤ (c : Int) := by omega
                go_simp
                exact obC_q (Below.refl _ _) rfl
              -- operation 22: Op.call ( callee := Callee.value (func 32), args := #[tmp 59, tmp 62], argTypes := #[3, 44] )
              refine ⟨fun r wx hG hs hq hf => ?_, ?_⟩
              · have h18 : r 59 = .int .i64 W := hf.1
                have h21 : r 62 = .slice a m c := hf.2.1
                have h12 : r 53 = .bool false := hf.2.2.1
                have hy : ydD [some 41, some 42, some 43, some 44, some 45, some 46, some 47, some 48, some 49, some 50, some 51, some 52, some 53, some 54, some 55, some 56, some 57, some 58, some 59, some 60, some 61, some 62, some 63, some 64, some 65, some 66, some 67, some 68] r 12 = some false := by show (match r 53 with | .bool b => some b | _ => none) = some false; rw [h12]
                clear hs hq hf
                refine wanted_pos (by simp only [Region.wanted, hy]; rfl) ?_
                unfold gives
                go_simp
                refine (HRM.out wx hG).mono ?_
                rintro e wy ⟨rfl, hb1⟩
                exact ⟨_, rfl, obC_q hb1 rfl⟩
              -- operation 23: Op.load 35 (tmp 6)
              refine ⟨fun r wx hG hs hq hf => ?_, ?_⟩
              · have e6 : r 6 = .pointer (some ⟨b6, 0, none⟩) := hs 6 rfl
                have h12 : r 53 = .bool false := hf.1
                have hy : ydD [some 41, some 42, some 43, some 44, some 45, some 46, some 47, some 48, some 49, some 50, some 51, some 52, some 53, some 54, some 55, some 56, some 57, some 58, some 59, some 60, some 61, some 62, some 63, some 64, some 65, some 66, some 67, some 68] r 12 = some false := by show (match r 53 with | .bool b => some b | _ => none) = some false; rw [h12]
                clear hs hq hf
                refine wanted_pos (by simp only [Region.wanted, hy]; rfl) ?_
                unfold gives
                refine gives_load_row 35 _ rfl b6 e6 35 _ (0, 0) _ (hG.row (by simp; try omega) H3.out.1) Tryd.underlying35 rfl (hInfo _ HLN.out.2) ?_
                exact obC_q (Below.refl _ _) rfl
              -- operation 24: Op.move (tmp 8)
              refine ⟨fun r wx hG hs hq hf => ?_, ?_⟩
              · have e8 : r 8 = .slice va L vc := hs 8 rfl
                have h12 : r 53 = .bool false := hf.1
                have hy : ydD [some 41, some 42, some 43, some 44, some 45, some 46, some 47, some 48, some 49, some 50, some 51, some 52, some 53, some 54, some 55, some 56, some 57, some 58, some 59, some 60, some 61, some 62, some 63, some 64, some 65, some 66, some 67, some 68] r 12 = some false := by show (match r 53 with | .bool b => some b | _ => none) = some false; rw [h12]
                clear hs hq hf
                refine wanted_pos (by simp only [Region.wanted, hy]; rfl) ?_
                unfold gives
                go_simp
                exact obC_q (Below.refl _ _) rfl
              -- operation 25: Op.call ( callee := Callee.value (func 37), args := #[tmp 54, tmp 56, tmp 58, tmp 63, tmp 64, tmp 65
              refine ⟨fun r wx hG hs hq hf => ?_, ?_⟩
              · have h13 : r 54 = .int .i64 W := hf.1
                have h15 : r 56 = .int .u64 (m : Nat) := hf.2.1
                have h17 : r 58 = .int .u64 (n : Nat) := hf.2.2.1
                have h22 : r 63 = .agg (bv rm).toArray := hf.2.2.2.1
                have h23 : r 64 = .agg (bv rt).toArray := hf.2.2.2.2.1
                have h24 : r 65 = .slice va L vc := hf.2.2.2.2.2.1
                have h12 : r 53 = .bool false := hf.2.2.2.2.2.2.2.1
                have hy : ydD [some 41, some 42, some 43, some 44, some 45, some 46, some 47, some 48, some 49, some 50, some 51, some 52, some 53, some 54, some 55, some 56, some 57, some 58, some 59, some 60, some 61, some 62, some 63, some 64, some 65, some 66, some 67, some 68] r 12 = some false := by show (match r 53 with | .bool b => some b | _ => none) = some false; rw [h12]
                clear hs hq hf
                refine wanted_pos (by simp only [Region.wanted, hy]; rfl) ?_
                unfold gives
                go_simp
                refine (HCK.out wx hG).mono ?_
                rintro e wy ⟨rfl, hb1⟩
                exact ⟨_, rfl, obC_q hb1 rfl⟩
              -- operation 26: Op.unOp UnOp.not 4 (tmp 66)
              refine ⟨fun r wx hG hs hq hf => ?_, ?_⟩
              · have h25 : r 66 = .bool true := hf.1
                have h12 : r 53 = .bool false := hf.2.1
                have hy : ydD [some 41, some 42, some 43, some 44, some 45, some 46, some 47, some 48, some 49, some 50, some 51, some 52, some 53, some 54, some 55, some 56, some 57, some 58, some 59, some 60, some 61, some 62, some 63, some 64, some 65, some 66, some 67, some 68] r 12 = some false := by show (match r 53 with | .bool b => some b | _ => none) = some false; rw [h12]
                clear hs hq hf
                refine wanted_pos (by simp only [Region.wanted, hy]; rfl) ?_
                unfold gives
                go_simp
                exact obC_q (Below.refl _ _) rfl
              -- operation 27: Op.pick (tmp 53) (const (Value.bool true)) (tmp 67)
              refine ⟨fun r wx hG hs hq hf => ?_, ?_⟩
              · have h12 : r 53 = .bool false := hf.1
                have h26 : r 67 = .bool false := hf.2.1
                clear hs hq hf
                refine wanted_pos rfl ?_
                unfold gives
                go_simp
                exact obC_q (Below.refl _ _) rfl
              exact trivial
            case hend =>
              intro u wz hG hfin
              have z27 : u 27 = .bool false := hfin 27 (by decide) (by kernel_rfl)
              clear hfin
              simp only [fill]
              have HG3 := Lib.hid hG
              clear hG
              go_simp
              go_wp2_with fail
              go_roundw
              case rel => exact ⟨m + 1, by omega, by go_num, HG3.out.row (by simp) H3.out.1, H3.out.2.trans (HG3.out.below H3.out.2.size (by simp))⟩
              case measure => simp [intOf]; omega
          · have z4 : ¬ (m : Int) ≤ (n : Int) := by omega
            have H5 := Lib.hid hbw2
            clear hrow hbw2
            go_wp2_with fail
            go_roundw
            case rel => exact ⟨n + 1, by omega, by go_num, H5.out⟩
            case measure => simp [intOf]; omega
      · have z1 : ¬ (n : Int) ≤ (M : Int) := by omega
        have HBW := Lib.hid hbw
        clear hbw
        go_wp2_with fail
        go_ret
        exact ⟨rfl, HBW.out⟩
end Go.Proofs.YtjlligpdkkfmaaaDoor
