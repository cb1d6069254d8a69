/- The law PathPasses: the walk. (printed by gen/pathj.py) -/
import Derived.Test.YtdjmebfjanophaaDoorPathF
import Derived.Test.YtdjmebfjanophaaDoorPathE
namespace Go.Proofs.YtdjmebfjanophaaDoor
open Go.RowKit Sha Root Ones Path

/-- What a leaf's own proof is. -/
theorem pass_facts (W : Int) (ls : List (List UInt8)) (k i : Nat) (x : List UInt8) (hk : k ≤ ls.length) (hi : i < k) (hx : ls[i]? = some x) (h64 : ls.length ≤ 140737488355328) :
    (prL (nodeH W) (ls.take k) i).length = sizeN i k ∧ climbE i k (prL (nodeH W) (ls.take k) i).length = 0 ∧ climbH W x i k (prL (nodeH W) (ls.take k) i) = rootH W (ls.take k) := by
  have hl : (ls.take k).length = k := by rw [List.length_take]; omega
  have h1 := pr_length (nodeH W) k 64 (ls.take k) i (by omega) (by omega) (by omega)
  rw [hl] at h1
  have h2 : sizeN i k = sz 64 i (k - 1) := if_pos hi
  have h3 := pr_root (nodeH W) (emptyH W) k 64 (ls.take k) i x (by omega) (by rw [List.getElem?_take_of_lt hi]; exact hx) (by omega)
  rw [hl] at h3
  have h4 : climbE i k (prL (nodeH W) (ls.take k) i).length = 0 := by
    rw [climbE, if_neg (by omega), h2, h1, if_neg (Nat.lt_irrefl _), if_neg (Nat.lt_irrefl _)]
  exact ⟨by rw [h1, h2], h4, by rw [climbH, if_pos h4]; exact h3⟩
/-- What each operation hands on. -/
def pp13F (W : Int) (b off m c k i b6 L vc : Nat) (va : Option Addr) (x rt : List UInt8) : Nat → Value → World → Prop
  | 0, v, _ => v = .int .i64 0
  | 1, v, _ => v = .bool false
  | 2, v, _ => v = .bool false
  | 3, v, _ => v = .slice va L vc
  | 4, v, _ => v = .int .i64 (L : Nat)
  | 5, v, _ => v = .int .i64 (i : Nat)
  | 6, v, _ => v = .int .u64 (i : Nat)
  | 7, v, _ => v = .int .i64 (k : Nat)
  | 8, v, _ => v = .int .u64 (k : Nat)
  | 9, v, _ => v = .int .i64 (L : Nat)
  | 10, v, _ => v = .bool false
  | 11, v, _ => v = .bool false
  | 12, v, _ => v = .bool false
  | 13, v, _ => v = .int .i64 W
  | 14, v, _ => v = .slice (some ⟨b, off, none⟩) m c
  | 15, v, _ => v = .int .i64 (i : Nat)
  | 16, v, _ => v = .pointer (some ⟨b, off + i * 32, none⟩)
  | 17, v, _ => v = .agg (bv x).toArray
  | 18, v, _ => v = .int .i64 (i : Nat)
  | 19, v, _ => v = .int .u64 (i : Nat)
  | 20, v, _ => v = .int .i64 (k : Nat)
  | 21, v, _ => v = .int .u64 (k : Nat)
  | 22, v, _ => v = .slice va L vc
  | 23, v, _ => v = .agg (bv rt).toArray
  | 24, v, _ => v = .bool true
  | 25, v, _ => v = .bool false
  | 26, v, _ => v = .bool false
  | _, _, _ => True

set_option maxHeartbeats 16000000 in
set_option maxRecDepth 100000 in
theorem pathPasses_walk (W : Int) (a : Option Addr) (c : Nat) (ls0 : List (List UInt8)) (w : World) (hW : -9223372036854775808 ≤ W ∧ W ≤ 9223372036854775807) (h32a : ∀ p ∈ ls0, p.length = 32) (hl : ls0.length * 32 ≤ 140737488351232) (hr : Rd w 32 (.slice a ls0.length c) ls0.length (ls0.flatMap bv)) (hT : Tabs w) (hD : TabD w) :
    Calls Tryd.prog 10 #[.int .i64 W, .slice a ls0.length c] w fun e w' => e = .returned (.bool true) ∧ Below w.heap.size w w' := by
  have hz := (zero_of_info info32).1
  have hcap : ls0.length ≤ c := by
    obtain ⟨_, _, ⟨hv, h0⟩ | ⟨ad, c', hv, hc, _⟩⟩ := hr
    · simp at hv; omega
    · simp at hv; omega
  have HR := Lib.hid hr
  have HT := Lib.hid (And.intro hT (And.intro hD h32a))
  have HN := Lib.hid hW
  clear hr hT hD h32a hW
  go_enter Tryd.func10, Tryd.ntmps10
  go_wp2_with fail
  refine (awake15_any w HT.out.1).mono ?_
  rintro e w1 ⟨rfl, hb1⟩
  have HB1 := Lib.hid hb1
  clear hb1
  go_upto_if 14 with fail
  go_cut [1] (fun s1 wz => s1 = .slice a (min ls0.length 40) c ∧ wz = w1)
  case first =>
    by_cases hgt : 40 < ls0.length
    · have z2 : (40 : Int) < (ls0.length : Int) := by omega
      have z4 : (40 : Int) ≤ (c : Int) := by omega
      go_wp2_with fail
      go_meet
      exact ⟨by rw [show min ls0.length 40 = 40 by omega], rfl⟩
    · have z2 : ¬ (40 : Int) < (ls0.length : Int) := by omega
      go_wp2_with fail
      go_meet
      exact ⟨by rw [show min ls0.length 40 = ls0.length by omega], rfl⟩
  case rest =>
    obtain ⟨rfl, rfl⟩ := hcut
    obtain ⟨m, hm⟩ : ∃ m, m = min ls0.length 40 := ⟨_, rfl⟩
    rw [← hm]
    have hm3 : m ≤ ls0.length := by omega
    have hm4 : m ≤ 40 := by omega
    have h32 : ∀ q ∈ ls0.take m, q.length = 32 := fun q hq => HT.out.2.2 q (List.mem_of_mem_take hq)
    have hR : Rd w 32 (.slice a m c) m ((ls0.take m).flatMap bv) := by
      rw [flat_take32 _ _ HT.out.2.2]; exact rd_take HR.out m hm3
    have hlm : (ls0.take m).length = m := by rw [List.length_take]; omega
    have hmc : m ≤ c := by omega
    obtain ⟨ls, hls⟩ : ∃ l, l = ls0.take m := ⟨_, rfl⟩
    rw [← hls] at hR h32 hlm
    have HRD := Lib.hid hR
    have H32 := Lib.hid (And.intro h32 hlm)
    clear hR h32 hls hm hm3 hlm hcap
    go_wp2_with fail
    go_loopw [5] (fun s5 wr => ∃ k : Nat, 1 ≤ k ∧ k ≤ m + 1 ∧ s5 = .int .i64 k ∧ Below w.heap.size w wr) (fun s5 _ => m + 1 - (intOf s5).toNat)
    case atStart => exact ⟨1, by omega, by omega, rfl, HB1.out⟩
    case round =>
      obtain ⟨k, hk1, hkm, rfl, hbw⟩ := hrel
      by_cases hlt : k ≤ m
      · have z1 : (k : Int) ≤ (m : Int) := by omega
        have z2 : (0 : Int) ≤ (k : Int) := by omega
        have z3 : (k : Int) ≤ (c : Int) := by omega
        have hlk : (ls.take k).length = k := by rw [List.length_take, H32.out.2]; omega
        have hk32 : ∀ p ∈ ls.take k, p.length = 32 := fun p hp => H32.out.1 p (List.mem_of_mem_take hp)
        obtain ⟨b, off, c', hv, _, hcell⟩ := HRD.out.atN (by omega) (by omega)
        simp only [Value.slice.injEq, true_and] at hv
        obtain ⟨rfl, rfl⟩ := hv
        have hRk : Rd w 32 (.slice (some ⟨b, off, none⟩) k c) k ((ls.take k).flatMap bv) := by
          rw [flat_take32 _ _ H32.out.1]; exact rd_take HRD.out k hlt
        have hroot := Root_any W (ls.take k) (.slice (some ⟨b, off, none⟩) k c) wr HN.out hk32 (by omega) (by rw [hlk]; exact hRk.keep hbw) (HT.out.1.keepB hbw) (HT.out.2.1.keepB hbw)
        have hrt32 := rootH_32 W (ls.take k) hk32
        obtain ⟨rt, hrt⟩ : ∃ r, r = rootH W (ls.take k) := ⟨_, rfl⟩
        rw [← hrt] at hroot hrt32
        have HRT := Lib.hid hroot
        have HR32 := Lib.hid (And.intro hrt32 hrt)
        have HC := Lib.hid hcell
        have HBW := Lib.hid hbw
        clear hlk hk32 hRk hroot hrt32 hrt hcell hbw
        go_wp2_with fail
        refine HRT.out.mono ?_
        rintro e w2 ⟨rfl, hb2⟩
        have H2 := Lib.hid (HBW.out.trans (hb2.mono HBW.out.size))
        have H2n := Lib.hid (heap_alloc_new w2 (.cells (bv (zs 32)).toArray 33))
        clear hb2
        go_upto_region 9 with (with_reducible show wpList _ _ _ (⟨none, Op.store _ _ _, _, _, _, _⟩ :: _) _ _; refine wpList_store_whole rfl _ _ _ rfl w2.heap.size (bv rt) rfl rfl (bv (zs 32)) _ H2n.out (hInfo' _ HR32.out.1) (by rw [bv_length, bv_length, HR32.out.1]; simp [zs]) (bv_one _) ?_; intro w4 HG4 hg4)
        have k4 : Below w2.heap.size w2 w4 := below_grow ((Below.refl _ _).alloc (Nat.le_refl _) _) hg4 (Nat.le_refl _) (by simp)
        obtain ⟨b6, hb6⟩ : ∃ g, g = w2.heap.size := ⟨_, rfl⟩
        have hrow4 := HG4.out
        rw [← hb6] at hrow4 ⊢
        have H4 := Lib.hid (And.intro hrow4 (H2.out.trans (k4.mono H2.out.size)))
        clear hrow4 k4 HG4 hg4 hb6
        go_wp2_with fail
        go_loopw [7] (fun s7 wr2 => ∃ i : Nat, i ≤ k ∧ s7 = .int .i64 i ∧ wr2.heap[b6]? = some (.cells (bv rt).toArray 33 (0, 0)) ∧ Below w.heap.size w wr2) (fun s7 _ => k - (intOf s7).toNat)
        case atStart => exact ⟨0, by omega, rfl, H4.out.1, H4.out.2⟩
        case round =>
          obtain ⟨i, hik, rfl, hrow, hbw2⟩ := hrel
          by_cases hi : i < k
          · have z4 : (i : Int) < (k : Int) := by omega
            obtain ⟨x, hx⟩ : ∃ x, ls[i]? = some x := ⟨ls[i]'(by rw [H32.out.2]; omega), List.getElem?_eq_getElem _⟩
            have hx32 := H32.out.1 x (List.mem_of_getElem? hx)
            have hpf := pass_facts W ls k i x (by rw [H32.out.2]; exact hlt) hi hx (by rw [H32.out.2]; omega)
            have hpv := Prove_good W ls i k (some ⟨b, off, none⟩) c wr HN.out H32.out.1 (by rw [H32.out.2]; omega) hi (by rw [H32.out.2]; exact hlt) (by rw [H32.out.2]; exact HRD.out.keep hbw2) (HT.out.1.keepB hbw2)
            have hp32 := prL_32 W (ls.take k) i (fun p hp => H32.out.1 p (List.mem_of_mem_take hp))
            rw [H32.out.2] at hpv
            obtain ⟨P, hP⟩ : ∃ p, p = prL (nodeH W) (ls.take k) i := ⟨_, rfl⟩
            rw [← hP] at hpf hpv hp32
            rw [← HR32.out.2] at hpf
            have hrg := range_at (w := w) H32.out.1 hx HC.out
            have HPV := Lib.hid hpv
            have HPF := Lib.hid (And.intro hpf (And.intro hp32 hrg))
            have HLN := Lib.hid (And.intro hx32 HR32.out.1)
            have H5 := Lib.hid (And.intro hrow hbw2)
            clear hx hx32 hpf hpv hp32 hP hrg hrow hbw2
            have y1 : (k : Int) ≤ (m : Int) := by omega
            go_wp2_with fail
            refine HPV.out.mono ?_
            rintro e w3 ⟨va, vc, rfl, ho3, hb3⟩
            obtain ⟨L, hL⟩ : ∃ l, l = P.length := ⟨_, rfl⟩
            have hrd3 := own_rd ho3 (flat_one32 _)
            have hrow3 := (hb3.block _ (Array.getElem?_eq_some_iff.1 H5.out.1).1).trans H5.out.1
            have hbw3 := H5.out.2.trans (hb3.mono H5.out.2.size)
            have hLs := HPF.out.1.1
            have hLb : L ≤ 64 := by rw [hL, hLs]; exact sizeN_le i k
            have HSZ := Lib.hid (fun wx (h : Below w3.heap.size w3 wx) => by
              have := pathSize_any i k wx (by omega) (by omega)
              rw [← hLs, ← hL] at this
              exact this)
            have HCK := Lib.hid (fun wx (h : Below w3.heap.size w3 wx) => by
              have := Check_any W x rt i k P va vc wx HN.out HLN.out.1 HLN.out.2 (by omega) (by omega) HPF.out.2.1 (by omega) (hrd3.keep h) (HT.out.1.keepB (hbw3.trans (h.mono hbw3.size)))
              rw [HPF.out.1.2.1, HPF.out.1.2.2, ← hL] at this
              simp only [beq_self_eq_true, Bool.and_self] at this
              exact this)
            have HRG := Lib.hid (fun wx (h : Below w3.heap.size w3 wx) => show wx.rangeAt b (off + i * 32) (bv x) from fun q u hu => ((hbw3.trans (h.mono hbw3.size)).cell (World.block_lt_of_cell? w _ (HPF.out.2.2 q u hu))).trans (HPF.out.2.2 q u hu))
            have HBX := Lib.hid (fun wx (h : Below w3.heap.size w3 wx) => (h.block b6 (Array.getElem?_eq_some_iff.1 hrow3).1).trans hrow3)
            have H3 := Lib.hid (And.intro hrow3 hbw3)
            rw [← hL]
            clear ho3 hrd3 hrow3 hbw3 hb3 hLs hL
            go_upto_region 13 with fail
            refine wp_region_steps [some 41, some 42, some 43, some 44, some 45, some 46, some 47, some 48, some 49, some 50, some 51, some 52, some 53, some 54, some 55, some 56, some 57, some 58, some 59, some 60, some 61, some 62, some 63, some 64, some 65, some 66, some 67] [] (pp13F W b off m c k i b6 L vc va x rt) (fun _ wx wy => Below wx.heap.size wx wy) (fun wx => Below w3.heap.size w3 wx) (by kernel_rfl) (by kernel_rfl) rfl (by kernel_rfl) (Below.refl _ _).drew (fun _ wx => Below.refl _ _) (fun _ wx wy h k => h.trans (k.mono h.size)) ?hF ?hstep ?hend
            case hF =>
              exact ⟨fun _ _ _ _ _ _ h => h, ⟨fun _ _ _ _ _ _ h => h, ⟨fun _ _ _ _ _ _ h => h, ⟨fun _ _ _ _ _ _ h => h, ⟨fun _ _ _ _ _ _ h => h, ⟨fun _ _ _ _ _ _ h => h, ⟨fun _ _ _ _ _ _ h => h, ⟨fun _ _ _ _ _ _ h => h, ⟨fun _ _ _ _ _ _ h => h, ⟨fun _ _ _ _ _ _ h => h, ⟨fun _ _ _ _ _ _ h => h, ⟨fun _ _ _ _ _ _ h => h, ⟨fun _ _ _ _ _ _ h => h, ⟨fun _ _ _ _ _ _ h => h, ⟨fun _ _ _ _ _ _ h => h, ⟨fun _ _ _ _ _ _ h => h, ⟨fun _ _ _ _ _ _ h => h, ⟨fun _ _ _ _ _ _ h => h, ⟨fun _ _ _ _ _ _ h => h, ⟨fun _ _ _ _ _ _ h => h, ⟨fun _ _ _ _ _ _ h => h, ⟨fun _ _ _ _ _ _ h => h, ⟨fun _ _ _ _ _ _ h => h, ⟨fun _ _ _ _ _ _ h => h, ⟨fun _ _ _ _ _ _ h => h, ⟨fun _ _ _ _ _ _ h => h, ⟨fun _ _ _ _ _ _ h => h, trivial⟩⟩⟩⟩⟩⟩⟩⟩⟩⟩⟩⟩⟩⟩⟩⟩⟩⟩⟩⟩⟩⟩⟩⟩⟩⟩⟩
            case hstep =>
              -- operation 0: Op.move (tmp 9)
              refine ⟨fun r wx hG hs hq hf => ?_, ?_⟩
              · have e9 : r 9 = .int .i64 0 := hs 9 rfl
                refine (if_pos rfl).symm ▸ ?_
                clear hs hq hf
                unfold gives
                go_simp
                exact ⟨Below.refl _ _, rfl⟩
              -- operation 1: Op.binOp BinOp.neq 24 (tmp 41) (const (Value.int IntKind.i64 0)) 24
              refine ⟨fun r wx hG hs hq hf => ?_, ?_⟩
              · have h0 : r 41 = .int .i64 0 := hf.1
                refine (if_pos rfl).symm ▸ ?_
                clear hs hq hf
                unfold gives
                go_simp
                exact ⟨Below.refl _ _, rfl⟩
              -- operation 2: Op.move (tmp 42)
              refine ⟨fun r wx hG hs hq hf => ?_, ?_⟩
              · have h1 : r 42 = .bool false := hf.1
                refine (if_pos rfl).symm ▸ ?_
                clear hs hq hf
                unfold gives
                go_simp
                exact ⟨Below.refl _ _, rfl⟩
              -- operation 3: Op.move (tmp 8)
              refine ⟨fun r wx hG hs hq hf => ?_, ?_⟩
              · have e8 : r 8 = .slice va L vc := hs 8 rfl
                have h2 : r 43 = .bool false := hf.1
                have hy : ydD [some 41, some 42, some 43, some 44, some 45, some 46, some 47, some 48, some 49, some 50, some 51, some 52, some 53, some 54, some 55, some 56, some 57, some 58, some 59, some 60, some 61, some 62, some 63, some 64, some 65, some 66, some 67] r 2 = some false := by show (match r 43 with | .bool b => some b | _ => none) = some false; rw [h2]
                simp only [Region.wanted, hy, beq_self_eq_true, if_true]
                clear hs hq hf hy
                unfold gives
                go_simp
                exact ⟨Below.refl _ _, rfl⟩
              -- operation 4: Op.call ( callee := Callee.builtin Builtin.len, args := #[tmp 44], argTypes := #[22] )
              refine ⟨fun r wx hG hs hq hf => ?_, ?_⟩
              · have h3 : r 44 = .slice va L vc := hf.1
                have h2 : r 43 = .bool false := hf.2.1
                have hy : ydD [some 41, some 42, some 43, some 44, some 45, some 46, some 47, some 48, some 49, some 50, some 51, some 52, some 53, some 54, some 55, some 56, some 57, some 58, some 59, some 60, some 61, some 62, some 63, some 64, some 65, some 66, some 67] r 2 = some false := by show (match r 43 with | .bool b => some b | _ => none) = some false; rw [h2]
                simp only [Region.wanted, hy, beq_self_eq_true, if_true]
                clear hs hq hf hy
                unfold gives
                go_simp
                exact ⟨Below.refl _ _, rfl⟩
              -- operation 5: Op.move (tmp 7)
              refine ⟨fun r wx hG hs hq hf => ?_, ?_⟩
              · have e7 : r 7 = .int .i64 (i : Nat) := hs 7 rfl
                have h2 : r 43 = .bool false := hf.1
                have hy : ydD [some 41, some 42, some 43, some 44, some 45, some 46, some 47, some 48, some 49, some 50, some 51, some 52, some 53, some 54, some 55, some 56, some 57, some 58, some 59, some 60, some 61, some 62, some 63, some 64, some 65, some 66, some 67] r 2 = some false := by show (match r 43 with | .bool b => some b | _ => none) = some false; rw [h2]
                simp only [Region.wanted, hy, beq_self_eq_true, if_true]
                clear hs hq hf hy
                unfold gives
                go_simp
                exact ⟨Below.refl _ _, rfl⟩
              -- operation 6: Op.convert 3 29 (tmp 46)
              refine ⟨fun r wx hG hs hq hf => ?_, ?_⟩
              · have h5 : r 46 = .int .i64 (i : Nat) := hf.1
                have h2 : r 43 = .bool false := hf.2.1
                have hy : ydD [some 41, some 42, some 43, some 44, some 45, some 46, some 47, some 48, some 49, some 50, some 51, some 52, some 53, some 54, some 55, some 56, some 57, some 58, some 59, some 60, some 61, some 62, some 63, some 64, some 65, some 66, some 67] r 2 = some false := by show (match r 43 with | .bool b => some b | _ => none) = some false; rw [h2]
                simp only [Region.wanted, hy, beq_self_eq_true, if_true]
                clear hs hq hf hy
                unfold gives
                have zw : IntKind.u64.wrap (i : Int) = (i : Int) := IntWalk.u64_in _ (by omega)
                go_simp
                exact ⟨Below.refl _ _, rfl⟩
              -- operation 7: Op.move (tmp 5)
              refine ⟨fun r wx hG hs hq hf => ?_, ?_⟩
              · have e5 : r 5 = .int .i64 (k : Nat) := hs 5 rfl
                have h2 : r 43 = .bool false := hf.1
                have hy : ydD [some 41, some 42, some 43, some 44, some 45, some 46, some 47, some 48, some 49, some 50, some 51, some 52, some 53, some 54, some 55, some 56, some 57, some 58, some 59, some 60, some 61, some 62, some 63, some 64, some 65, some 66, some 67] r 2 = some false := by show (match r 43 with | .bool b => some b | _ => none) = some false; rw [h2]
                simp only [Region.wanted, hy, beq_self_eq_true, if_true]
                clear hs hq hf hy
                unfold gives
                go_simp
                exact ⟨Below.refl _ _, rfl⟩
              -- operation 8: Op.convert 3 29 (tmp 48)
              refine ⟨fun r wx hG hs hq hf => ?_, ?_⟩
              · have h7 : r 48 = .int .i64 (k : Nat) := hf.1
                have h2 : r 43 = .bool false := hf.2.1
                have hy : ydD [some 41, some 42, some 43, some 44, some 45, some 46, some 47, some 48, some 49, some 50, some 51, some 52, some 53, some 54, some 55, some 56, some 57, some 58, some 59, some 60, some 61, some 62, some 63, some 64, some 65, some 66, some 67] r 2 = some false := by show (match r 43 with | .bool b => some b | _ => none) = some false; rw [h2]
                simp only [Region.wanted, hy, beq_self_eq_true, if_true]
                clear hs hq hf hy
                unfold gives
                have zw : IntKind.u64.wrap (k : Int) = (k : Int) := IntWalk.u64_in _ (by omega)
                go_simp
                exact ⟨Below.refl _ _, rfl⟩
              -- operation 9: Op.call ( callee := Callee.value (func 28), args := #[tmp 47, tmp 49], argTypes := #[29, 29] )
              refine ⟨fun r wx hG hs hq hf => ?_, ?_⟩
              · have h6 : r 47 = .int .u64 (i : Nat) := hf.1
                have h8 : r 49 = .int .u64 (k : Nat) := hf.2.1
                have h2 : r 43 = .bool false := hf.2.2.1
                have hy : ydD [some 41, some 42, some 43, some 44, some 45, some 46, some 47, some 48, some 49, some 50, some 51, some 52, some 53, some 54, some 55, some 56, some 57, some 58, some 59, some 60, some 61, some 62, some 63, some 64, some 65, some 66, some 67] r 2 = some false := by show (match r 43 with | .bool b => some b | _ => none) = some false; rw [h2]
                simp only [Region.wanted, hy, beq_self_eq_true, if_true]
                clear hs hq hf hy
                unfold gives
                go_simp
                refine (HSZ.out wx hG).mono ?_
                rintro e wy ⟨rfl, hb1⟩
                exact ⟨_, rfl, hb1, rfl⟩
              -- operation 10: Op.binOp BinOp.neq 3 (tmp 45) (tmp 50) 3
              refine ⟨fun r wx hG hs hq hf => ?_, ?_⟩
              · have h4 : r 45 = .int .i64 (L : Nat) := hf.1
                have h9 : r 50 = .int .i64 (L : Nat) := hf.2.1
                have h2 : r 43 = .bool false := hf.2.2.1
                have hy : ydD [some 41, some 42, some 43, some 44, some 45, some 46, some 47, some 48, some 49, some 50, some 51, some 52, some 53, some 54, some 55, some 56, some 57, some 58, some 59, some 60, some 61, some 62, some 63, some 64, some 65, some 66, some 67] r 2 = some false := by show (match r 43 with | .bool b => some b | _ => none) = some false; rw [h2]
                simp only [Region.wanted, hy, beq_self_eq_true, if_true]
                clear hs hq hf hy
                unfold gives
                go_simp
                exact ⟨Below.refl _ _, rfl⟩
              -- operation 11: Op.pick (tmp 43) (const (Value.bool true)) (tmp 51)
              refine ⟨fun r wx hG hs hq hf => ?_, ?_⟩
              · have h2 : r 43 = .bool false := hf.1
                have h10 : r 51 = .bool false := hf.2.1
                refine (if_pos rfl).symm ▸ ?_
                clear hs hq hf
                unfold gives
                go_simp
                exact ⟨Below.refl _ _, rfl⟩
              -- operation 12: Op.move (tmp 52)
              refine ⟨fun r wx hG hs hq hf => ?_, ?_⟩
              · have h11 : r 52 = .bool false := hf.1
                refine (if_pos rfl).symm ▸ ?_
                clear hs hq hf
                unfold gives
                go_simp
                exact ⟨Below.refl _ _, rfl⟩
              -- operation 13: Op.move (tmp 0)
              refine ⟨fun r wx hG hs hq hf => ?_, ?_⟩
              · have e0 : r 0 = .int .i64 W := hs 0 rfl
                have h12 : r 53 = .bool false := hf.1
                have hy : ydD [some 41, some 42, some 43, some 44, some 45, some 46, some 47, some 48, some 49, some 50, some 51, some 52, some 53, some 54, some 55, some 56, some 57, some 58, some 59, some 60, some 61, some 62, some 63, some 64, some 65, some 66, some 67] r 12 = some false := by show (match r 53 with | .bool b => some b | _ => none) = some false; rw [h12]
                simp only [Region.wanted, hy, beq_self_eq_true, if_true]
                clear hs hq hf hy
                unfold gives
                go_simp
                exact ⟨Below.refl _ _, rfl⟩
              -- operation 14: Op.move (tmp 1)
              refine ⟨fun r wx hG hs hq hf => ?_, ?_⟩
              · have e1 : r 1 = .slice (some ⟨b, off, none⟩) m c := hs 1 rfl
                have h12 : r 53 = .bool false := hf.1
                have hy : ydD [some 41, some 42, some 43, some 44, some 45, some 46, some 47, some 48, some 49, some 50, some 51, some 52, some 53, some 54, some 55, some 56, some 57, some 58, some 59, some 60, some 61, some 62, some 63, some 64, some 65, some 66, some 67] r 12 = some false := by show (match r 53 with | .bool b => some b | _ => none) = some false; rw [h12]
                simp only [Region.wanted, hy, beq_self_eq_true, if_true]
                clear hs hq hf hy
                unfold gives
                go_simp
                exact ⟨Below.refl _ _, rfl⟩
              -- operation 15: Op.move (tmp 7)
              refine ⟨fun r wx hG hs hq hf => ?_, ?_⟩
              · have e7 : r 7 = .int .i64 (i : Nat) := hs 7 rfl
                have h12 : r 53 = .bool false := hf.1
                have hy : ydD [some 41, some 42, some 43, some 44, some 45, some 46, some 47, some 48, some 49, some 50, some 51, some 52, some 53, some 54, some 55, some 56, some 57, some 58, some 59, some 60, some 61, some 62, some 63, some 64, some 65, some 66, some 67] r 12 = some false := by show (match r 53 with | .bool b => some b | _ => none) = some false; rw [h12]
                simp only [Region.wanted, hy, beq_self_eq_true, if_true]
                clear hs hq hf hy
                unfold gives
                go_simp
                exact ⟨Below.refl _ _, rfl⟩
              -- operation 16: Op.indexAddr 22 (tmp 55) (tmp 56)
              refine ⟨fun r wx hG hs hq hf => ?_, ?_⟩
              · have h14 : r 55 = .slice (some ⟨b, off, none⟩) m c := hf.1
                have h15 : r 56 = .int .i64 (i : Nat) := hf.2.1
                have h12 : r 53 = .bool false := hf.2.2.1
                have hy : ydD [some 41, some 42, some 43, some 44, some 45, some 46, some 47, some 48, some 49, some 50, some 51, some 52, some 53, some 54, some 55, some 56, some 57, some 58, some 59, some 60, some 61, some 62, some 63, some 64, some 65, some 66, some 67] r 12 = some false := by show (match r 53 with | .bool b => some b | _ => none) = some false; rw [h12]
                simp only [Region.wanted, hy, beq_self_eq_true, if_true]
                clear hs hq hf hy
                unfold gives
                have z0 : (0 : Int) ≤ (i : Int) := by omega
                have z1 : (i : Int) < (m : Int) := by omega
                go_simp
                exact ⟨Below.refl _ _, rfl⟩
              -- operation 17: Op.load 33 (tmp 57)
              refine ⟨fun r wx hG hs hq hf => ?_, ?_⟩
              · have h16 : r 57 = .pointer (some ⟨b, off + i * 32, none⟩) := hf.1
                have h12 : r 53 = .bool false := hf.2.1
                have hy : ydD [some 41, some 42, some 43, some 44, some 45, some 46, some 47, some 48, some 49, some 50, some 51, some 52, some 53, some 54, some 55, some 56, some 57, some 58, some 59, some 60, some 61, some 62, some 63, some 64, some 65, some 66, some 67] r 12 = some false := by show (match r 53 with | .bool b => some b | _ => none) = some false; rw [h12]
                simp only [Region.wanted, hy, beq_self_eq_true, if_true]
                clear hs hq hf hy
                unfold gives
                refine gives_load_mid 33 _ rfl b (off + i * 32) h16 (bv x) _ (HRG.out wx hG) Tryd.underlying33 rfl (hInfo' _ HLN.out.1) ⟨Below.refl _ _, rfl⟩
              -- operation 18: Op.move (tmp 7)
              refine ⟨fun r wx hG hs hq hf => ?_, ?_⟩
              · have e7 : r 7 = .int .i64 (i : Nat) := hs 7 rfl
                have h12 : r 53 = .bool false := hf.1
                have hy : ydD [some 41, some 42, some 43, some 44, some 45, some 46, some 47, some 48, some 49, some 50, some 51, some 52, some 53, some 54, some 55, some 56, some 57, some 58, some 59, some 60, some 61, some 62, some 63, some 64, some 65, some 66, some 67] r 12 = some false := by show (match r 53 with | .bool b => some b | _ => none) = some false; rw [h12]
                simp only [Region.wanted, hy, beq_self_eq_true, if_true]
                clear hs hq hf hy
                unfold gives
                go_simp
                exact ⟨Below.refl _ _, rfl⟩
              -- operation 19: Op.convert 3 29 (tmp 59)
              refine ⟨fun r wx hG hs hq hf => ?_, ?_⟩
              · have h18 : r 59 = .int .i64 (i : Nat) := hf.1
                have h12 : r 53 = .bool false := hf.2.1
                have hy : ydD [some 41, some 42, some 43, some 44, some 45, some 46, some 47, some 48, some 49, some 50, some 51, some 52, some 53, some 54, some 55, some 56, some 57, some 58, some 59, some 60, some 61, some 62, some 63, some 64, some 65, some 66, some 67] r 12 = some false := by show (match r 53 with | .bool b => some b | _ => none) = some false; rw [h12]
                simp only [Region.wanted, hy, beq_self_eq_true, if_true]
                clear hs hq hf hy
                unfold gives
                have zw : IntKind.u64.wrap (i : Int) = (i : Int) := IntWalk.u64_in _ (by omega)
                go_simp
                exact ⟨Below.refl _ _, rfl⟩
              -- operation 20: Op.move (tmp 5)
              refine ⟨fun r wx hG hs hq hf => ?_, ?_⟩
              · have e5 : r 5 = .int .i64 (k : Nat) := hs 5 rfl
                have h12 : r 53 = .bool false := hf.1
                have hy : ydD [some 41, some 42, some 43, some 44, some 45, some 46, some 47, some 48, some 49, some 50, some 51, some 52, some 53, some 54, some 55, some 56, some 57, some 58, some 59, some 60, some 61, some 62, some 63, some 64, some 65, some 66, some 67] r 12 = some false := by show (match r 53 with | .bool b => some b | _ => none) = some false; rw [h12]
                simp only [Region.wanted, hy, beq_self_eq_true, if_true]
                clear hs hq hf hy
                unfold gives
                go_simp
                exact ⟨Below.refl _ _, rfl⟩
              -- operation 21: Op.convert 3 29 (tmp 61)
              refine ⟨fun r wx hG hs hq hf => ?_, ?_⟩
              · have h20 : r 61 = .int .i64 (k : Nat) := hf.1
                have h12 : r 53 = .bool false := hf.2.1
                have hy : ydD [some 41, some 42, some 43, some 44, some 45, some 46, some 47, some 48, some 49, some 50, some 51, some 52, some 53, some 54, some 55, some 56, some 57, some 58, some 59, some 60, some 61, some 62, some 63, some 64, some 65, some 66, some 67] r 12 = some false := by show (match r 53 with | .bool b => some b | _ => none) = some false; rw [h12]
                simp only [Region.wanted, hy, beq_self_eq_true, if_true]
                clear hs hq hf hy
                unfold gives
                have zw : IntKind.u64.wrap (k : Int) = (k : Int) := IntWalk.u64_in _ (by omega)
                go_simp
                exact ⟨Below.refl _ _, rfl⟩
              -- operation 22: Op.move (tmp 8)
              refine ⟨fun r wx hG hs hq hf => ?_, ?_⟩
              · have e8 : r 8 = .slice va L vc := hs 8 rfl
                have h12 : r 53 = .bool false := hf.1
                have hy : ydD [some 41, some 42, some 43, some 44, some 45, some 46, some 47, some 48, some 49, some 50, some 51, some 52, some 53, some 54, some 55, some 56, some 57, some 58, some 59, some 60, some 61, some 62, some 63, some 64, some 65, some 66, some 67] r 12 = some false := by show (match r 53 with | .bool b => some b | _ => none) = some false; rw [h12]
                simp only [Region.wanted, hy, beq_self_eq_true, if_true]
                clear hs hq hf hy
                unfold gives
                go_simp
                exact ⟨Below.refl _ _, rfl⟩
              -- operation 23: Op.load 33 (tmp 6)
              refine ⟨fun r wx hG hs hq hf => ?_, ?_⟩
              · have e6 : r 6 = .pointer (some ⟨b6, 0, none⟩) := hs 6 rfl
                have h12 : r 53 = .bool false := hf.1
                have hy : ydD [some 41, some 42, some 43, some 44, some 45, some 46, some 47, some 48, some 49, some 50, some 51, some 52, some 53, some 54, some 55, some 56, some 57, some 58, some 59, some 60, some 61, some 62, some 63, some 64, some 65, some 66, some 67] r 12 = some false := by show (match r 53 with | .bool b => some b | _ => none) = some false; rw [h12]
                simp only [Region.wanted, hy, beq_self_eq_true, if_true]
                clear hs hq hf hy
                unfold gives
                refine gives_load_row 33 _ rfl b6 e6 33 _ (0, 0) _ (HBX.out wx hG) Tryd.underlying33 rfl (hInfo _ HLN.out.2) ?_
                exact ⟨Below.refl _ _, rfl⟩
              -- operation 24: Op.call ( callee := Callee.value (func 32), args := #[tmp 54, tmp 58, tmp 60, tmp 62, tmp 63, tmp 64], argTypes := #[3, 
              refine ⟨fun r wx hG hs hq hf => ?_, ?_⟩
              · have h13 : r 54 = .int .i64 W := hf.1
                have h17 : r 58 = .agg (bv x).toArray := hf.2.1
                have h19 : r 60 = .int .u64 (i : Nat) := hf.2.2.1
                have h21 : r 62 = .int .u64 (k : Nat) := hf.2.2.2.1
                have h22 : r 63 = .slice va L vc := hf.2.2.2.2.1
                have h23 : r 64 = .agg (bv rt).toArray := hf.2.2.2.2.2.1
                have h12 : r 53 = .bool false := hf.2.2.2.2.2.2.1
                have hy : ydD [some 41, some 42, some 43, some 44, some 45, some 46, some 47, some 48, some 49, some 50, some 51, some 52, some 53, some 54, some 55, some 56, some 57, some 58, some 59, some 60, some 61, some 62, some 63, some 64, some 65, some 66, some 67] r 12 = some false := by show (match r 53 with | .bool b => some b | _ => none) = some false; rw [h12]
                simp only [Region.wanted, hy, beq_self_eq_true, if_true]
                clear hs hq hf hy
                unfold gives
                go_simp
                refine (HCK.out wx hG).mono ?_
                rintro e wy ⟨rfl, hb1⟩
                exact ⟨_, rfl, hb1, rfl⟩
              -- operation 25: Op.unOp UnOp.not 4 (tmp 65)
              refine ⟨fun r wx hG hs hq hf => ?_, ?_⟩
              · have h24 : r 65 = .bool true := hf.1
                have h12 : r 53 = .bool false := hf.2.1
                have hy : ydD [some 41, some 42, some 43, some 44, some 45, some 46, some 47, some 48, some 49, some 50, some 51, some 52, some 53, some 54, some 55, some 56, some 57, some 58, some 59, some 60, some 61, some 62, some 63, some 64, some 65, some 66, some 67] r 12 = some false := by show (match r 53 with | .bool b => some b | _ => none) = some false; rw [h12]
                simp only [Region.wanted, hy, beq_self_eq_true, if_true]
                clear hs hq hf hy
                unfold gives
                go_simp
                exact ⟨Below.refl _ _, rfl⟩
              -- operation 26: Op.pick (tmp 53) (const (Value.bool true)) (tmp 66)
              refine ⟨fun r wx hG hs hq hf => ?_, ?_⟩
              · have h12 : r 53 = .bool false := hf.1
                have h25 : r 66 = .bool false := hf.2.1
                refine (if_pos rfl).symm ▸ ?_
                clear hs hq hf
                unfold gives
                go_simp
                exact ⟨Below.refl _ _, rfl⟩
              exact trivial
            case hend =>
              intro u wz hG hfin
              have z26 : u 26 = .bool false := hfin 26 (by decide) (by kernel_rfl)
              clear hfin
              simp only [fill]
              have HG3 := Lib.hid hG
              clear hG
              go_simp
              go_wp2_with fail
              go_roundw
              case rel => exact ⟨i + 1, by omega, by go_num, (HG3.out.block _ (Array.getElem?_eq_some_iff.1 H3.out.1).1).trans H3.out.1, H3.out.2.trans (HG3.out.mono H3.out.2.size)⟩
              case measure => simp [intOf]; omega
          · have z4 : ¬ (i : Int) < (k : Int) := by omega
            have H5 := Lib.hid hbw2
            clear hrow hbw2
            go_wp2_with fail
            go_roundw
            case rel => exact ⟨k + 1, by omega, by omega, by go_num, H5.out⟩
            case measure => simp [intOf]; omega
      · have z1 : ¬ (k : Int) ≤ (m : Int) := by omega
        have HBW := Lib.hid hbw
        clear hbw
        go_wp2_with fail
        go_ret
        exact ⟨rfl, HBW.out⟩
end Go.Proofs.YtdjmebfjanophaaDoor
