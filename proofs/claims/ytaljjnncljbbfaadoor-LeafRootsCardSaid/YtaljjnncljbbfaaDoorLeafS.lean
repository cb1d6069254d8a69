/- The law LeafSplits: the walk. (printed by gen/leafs.py) -/
import Derived.Test.YtaljjnncljbbfaaDoorLeafI
import Derived.Test.YtaljjnncljbbfaaDoorLeafL
import Derived.Deep.CutBlock
namespace Go.Proofs.YtaljjnncljbbfaaDoor
open Go.RowKit Sha Root

theorem rd_take {w : World} {size : Nat} {a : Option Addr} {n c : Nat} {xs : List Value} (h : Rd w size (.slice a n c) n xs) (k : Nat) (hk : k ≤ n) : Rd w size (.slice a k c) k (xs.take (k * size)) := by
  obtain ⟨hl, h1, ⟨hv, h0⟩ | ⟨ad, c', hv, hc, hcell⟩⟩ := h
  · simp only [Value.slice.injEq] at hv
    obtain ⟨rfl, h2, rfl⟩ := hv
    obtain rfl : k = 0 := by omega
    exact ⟨by simp, by simp, .inl ⟨rfl, rfl⟩⟩
  · simp only [Value.slice.injEq, true_and] at hv
    obtain ⟨rfl, rfl⟩ := hv
    have hle : k * size ≤ n * size := Nat.mul_le_mul_right _ hk
    refine ⟨by rw [List.length_take]; omega, fun u hu => h1 u (List.mem_of_mem_take hu), .inr ⟨ad, c, rfl, by omega, fun j u hu => hcell j u ?_⟩⟩
    have hj : j < k * size := by have := (List.getElem?_eq_some_iff.1 hu).1; rw [List.length_take] at this; omega
    rwa [List.getElem?_take_of_lt hj] at hu
theorem rd_drop {w : World} {size b off n c : Nat} {xs : List Value} (h : Rd w size (.slice (some ⟨b, off, none⟩) n c) n xs) (k : Nat) (hk : k ≤ n) : Rd w size (.slice (some ⟨b, off + k * size, none⟩) (n - k) (c - k)) (n - k) (xs.drop (k * size)) := by
  obtain ⟨hl, h1, ⟨hv, h0⟩ | ⟨ad, c', hv, hc, hcell⟩⟩ := h
  · simp at hv
  · simp only [Value.slice.injEq, Option.some.injEq, true_and] at hv
    obtain ⟨rfl, rfl⟩ := hv
    refine ⟨by rw [List.length_drop, hl, Nat.sub_mul], fun u hu => h1 u (List.mem_of_mem_drop hu), .inr ⟨_, _, rfl, by omega, fun j u hu => ?_⟩⟩
    rw [List.getElem?_drop] at hu
    have := hcell (k * size + j) u hu
    rw [Addr.add_lit] at this ⊢
    rwa [← Nat.add_assoc] at this
theorem take_one_eq {α : Type} {l : List α} {x : α} (h : l[0]? = some x) : l.take 1 = [x] := by
  cases l with
  | nil => simp at h
  | cons a l => simp at h; subst h; rfl
theorem top_of (p m : Nat) (h1 : 2 ^ p < m) (h2 : m ≤ 2 * 2 ^ p) : top m = 2 ^ p := by
  unfold top
  exact hi_unique (m - 1) p (by omega) (by rw [Nat.pow_succ]; omega)

/-- What each operation hands on. -/
def lsF (n : Int) (b off m c N : Nat) (rt ra rb x0 : List UInt8) : Nat → Value → World → Prop
  | 0, v, _ => v = .int .i64 n
  | 1, v, _ => v = .slice (some ⟨b, off, none⟩) m c
  | 2, v, _ => v = .agg (bv rt).toArray
  | 3, v, _ => v = .int .i64 n
  | 4, v, _ => v = .int .i64 n
  | 5, v, _ => v = .slice (some ⟨b, off, none⟩) m c
  | 6, v, _ => v = .int .i64 (N : Nat)
  | 7, v, _ => v = .slice (some ⟨b, off, none⟩) N c
  | 8, v, _ => v = .agg (bv ra).toArray
  | 9, v, _ => v = .int .i64 n
  | 10, v, _ => v = .slice (some ⟨b, off, none⟩) m c
  | 11, v, _ => v = .int .i64 (N : Nat)
  | 12, v, _ => v = .slice (some ⟨b, off + N * 32, none⟩) (m - N) (c - N)
  | 13, v, _ => v = .agg (bv rb).toArray
  | 14, v, _ => v = .agg (bv rt).toArray
  | 15, v, _ => v = .bool true
  | 16, v, _ => v = .bool true
  | 17, v, _ => v = .int .i64 n
  | 18, v, _ => v = .slice (some ⟨b, off, none⟩) m c
  | 19, v, _ => v = .slice (some ⟨b, off, none⟩) 1 c
  | 20, v, _ => v = .agg (bv x0).toArray
  | 21, v, _ => v = .slice (some ⟨b, off, none⟩) m c
  | 22, v, _ => v = .pointer (some ⟨b, off, none⟩)
  | 23, v, _ => v = .agg (bv x0).toArray
  | 24, v, _ => v = .bool true
  | 25, v, _ => v = .bool true
  | 26, v, _ => v = .bool true
  | _, _, _ => True

set_option maxHeartbeats 8000000 in
set_option maxRecDepth 100000 in
theorem leafSplits_walk (n : Int) (k : Nat) (v : Value) (ls0 : List (List UInt8)) (w : World) (hn : -9223372036854775808 ≤ n ∧ n ≤ 9223372036854775807) (hk : k < 256) (h32a : ∀ p ∈ ls0, p.length = 32) (hl : ls0.length * 32 ≤ 140737488351232) (hr : Rd w 32 v ls0.length (ls0.flatMap bv)) (hT : Tabs w) (hD : TabD w) :
    Calls Tryd.prog 5 #[.int .i64 n, .int .u8 k, v] w fun e w' => e = .returned (.bool true) ∧ Below w.heap.size w w' := by
  obtain ⟨a, c, rfl⟩ := hr.form
  have HR := Lib.hid hr
  have HT := Lib.hid (And.intro hT (And.intro hD h32a))
  clear hr hT hD h32a
  go_enter Tryd.func5, Tryd.ntmps5
  go_wp2_with fail
  refine (awake14_any w HT.out.1).mono ?_
  rintro e w1 ⟨rfl, hb1⟩
  have HB1 := Lib.hid hb1
  clear hb1
  obtain ⟨p, hp⟩ : ∃ p, p = k % 7 := ⟨_, rfl⟩
  have hp6 : p ≤ 6 := by omega
  go_upto_region 3 with fail
  go_cut [7] (fun s7 wz => s7 = .int .i64 ((2 ^ p : Nat) : Int) ∧ wz = w1)
  case first =>
    have hz : (k : Int) % 7 = (p : Int) := by omega
    rcases (show p = 0 ∨ p = 1 ∨ p = 2 ∨ p = 3 ∨ p = 4 ∨ p = 5 ∨ p = 6 by omega) with rfl | rfl | rfl | rfl | rfl | rfl | rfl
    all_goals clear hp hp6
    all_goals go_wp2_with fail
    all_goals go_meet
    all_goals exact ⟨rfl, rfl⟩
  case rest =>
    obtain ⟨rfl, rfl⟩ := hcut
    obtain ⟨N, hN⟩ : ∃ N, N = 2 ^ p := ⟨_, rfl⟩
    have hN1 : 1 ≤ N := by rw [hN]; exact Nat.pow_pos (by omega)
    have hN64 : N ≤ 64 := by rw [hN]; exact (Nat.pow_le_pow_right (by omega) hp6 : 2 ^ p ≤ 2 ^ 6)
    rw [← hN]
    have HNP := Lib.hid hN
    clear hN hp
    by_cases hle : ls0.length ≤ N
    · have z1 : (ls0.length : Int) ≤ (N : Int) := by omega
      go_wp2_with fail
      go_ret
      exact ⟨rfl, HB1.out⟩
    · have z1 : ¬ (ls0.length : Int) ≤ (N : Int) := by omega
      have zw : IntKind.i64.wrap (2 * (N : Int)) = 2 * (N : Int) := IntWalk.i64_in _ (by omega)
      obtain ⟨b, off, c', hv, hcap, _⟩ := (HR.out.keep HB1.out).atN (by omega) (by omega)
      simp only [Value.slice.injEq, true_and] at hv
      obtain ⟨rfl, rfl⟩ := hv
      go_upto_if 21 with fail
      go_cut [2] (fun s2 wz => s2 = .slice (some ⟨b, off, none⟩) (min ls0.length (2 * N)) c ∧ wz = wc)
      case first =>
        by_cases hgt : 2 * N < ls0.length
        · have z2 : 2 * (N : Int) < (ls0.length : Int) := by omega
          have z3 : (0 : Int) ≤ 2 * (N : Int) := by omega
          have z4 : 2 * (N : Int) ≤ (c : Int) := by omega
          have z5 : (2 * (N : Int)).toNat = 2 * N := by omega
          have z6 : min ls0.length (2 * N) = 2 * N := by omega
          clear z6
          go_wp2_with fail
          go_meet
          exact ⟨by rw [show min ls0.length (2 * N) = 2 * N by omega], rfl⟩
        · have z2 : ¬ 2 * (N : Int) < (ls0.length : Int) := by omega
          have z6 : min ls0.length (2 * N) = ls0.length := by omega
          clear z6
          go_wp2_with fail
          go_meet
          exact ⟨by rw [show min ls0.length (2 * N) = ls0.length by omega], rfl⟩
      case rest =>
        obtain ⟨rfl, rfl⟩ := hcut
        obtain ⟨m, hm⟩ : ∃ m, m = min ls0.length (2 * N) := ⟨_, rfl⟩
        rw [← hm]
        have hm1 : N < m := by omega
        have hm2 : m ≤ 2 * N := by omega
        have hm3 : m ≤ ls0.length := by omega
        have hmc : m ≤ c := by omega
        have h32 : ∀ q ∈ ls0.take m, q.length = 32 := fun q hq => HT.out.2.2 q (List.mem_of_mem_take hq)
        have hR : Rd wc 32 (.slice (some ⟨b, off, none⟩) m c) m ((ls0.take m).flatMap bv) := by
          rw [flat_take32 _ _ HT.out.2.2]; exact rd_take (HR.out.keep HB1.out) m hm3
        have hlm : (ls0.take m).length = m := by rw [List.length_take]; omega
        obtain ⟨ls, hls⟩ : ∃ l, l = ls0.take m := ⟨_, rfl⟩
        rw [← hls] at hR h32 hlm
        have hRA : Rd wc 32 (.slice (some ⟨b, off, none⟩) N c) N ((ls.take N).flatMap bv) := by
          rw [flat_take32 _ _ h32]; exact rd_take hR N (by omega)
        have hRB : Rd wc 32 (.slice (some ⟨b, off + N * 32, none⟩) (m - N) (c - N)) (m - N) ((ls.drop N).flatMap bv) := by
          rw [flat_drop32 _ _ h32]; exact rd_drop hR N (by omega)
        have hR1 : Rd wc 32 (.slice (some ⟨b, off, none⟩) 1 c) 1 ((ls.take 1).flatMap bv) := by
          rw [flat_take32 _ _ h32]; exact rd_take hR 1 (by omega)
        obtain ⟨x0, hx0⟩ : ∃ x, ls[0]? = some x := ⟨ls[0], List.getElem?_eq_getElem (by omega)⟩
        have hx32 := h32 x0 (List.mem_of_getElem? hx0)
        have hbw : b < wc.heap.size := by
          obtain ⟨b2, o2, c2, hv2, _, hc2⟩ := hR.atN (by omega) (by omega)
          simp only [Value.slice.injEq, Option.some.injEq, Addr.mk.injEq, and_true, true_and] at hv2
          obtain ⟨⟨rfl, rfl⟩, rfl⟩ := hv2
          have := hR.1
          exact World.block_lt_of_cell? wc _ (hc2 0 _ (List.getElem?_eq_getElem (by omega)))
        have hrg : wc.rangeAt b off (bv x0) := fun j u hu => by
          obtain ⟨b2, o2, c2, hv2, _, hc2⟩ := hR.atN (by omega) (by omega)
          simp only [Value.slice.injEq, Option.some.injEq, Addr.mk.injEq, and_true, true_and] at hv2
          obtain ⟨⟨rfl, rfl⟩, rfl⟩ := hv2
          have hj : j < 32 := by have := (List.getElem?_eq_some_iff.1 hu).1; rwa [bv_length, hx32] at this
          refine hc2 j u ?_
          have := flat_at32 ls 0 j x0 h32 hx0 hj
          rw [Nat.zero_mul, Nat.zero_add] at this
          rw [this]; exact hu
        have hlt1 : (ls.take 1) = [x0] := by rw [take_one_eq hx0]
        have hTw := HT.out.1.keepB HB1.out
        have hDw := HT.out.2.1.keepB HB1.out
        have hroot : rootH n ls = nodeH n (rootH n (ls.take N)) (rootH n (ls.drop N)) := by
          have := rootL_node (nodeH n) (emptyH n) ls (by omega)
          rw [hlm, top_of p m (by rw [← HNP.out]; exact hm1) (by rw [← HNP.out]; exact hm2), ← HNP.out] at this
          exact this
        have hrt := fun wx (h : Below wc.heap.size wc wx) => Root_any n ls (.slice (some ⟨b, off, none⟩) m c) wx hn h32 (by omega) (by rw [hlm]; exact hR.keep h) (hTw.keepB h) (hDw.keepB h)
        have hra := fun wx (h : Below wc.heap.size wc wx) => Root_any n (ls.take N) (.slice (some ⟨b, off, none⟩) N c) wx hn (fun q hq => h32 q (List.mem_of_mem_take hq)) (by rw [List.length_take]; omega) (by rw [show (ls.take N).length = N by rw [List.length_take]; omega]; exact hRA.keep h) (hTw.keepB h) (hDw.keepB h)
        have hrb := fun wx (h : Below wc.heap.size wc wx) => Root_any n (ls.drop N) (.slice (some ⟨b, off + N * 32, none⟩) (m - N) (c - N)) wx hn (fun q hq => h32 q (List.mem_of_mem_drop hq)) (by rw [List.length_drop]; omega) (by rw [show (ls.drop N).length = m - N by rw [List.length_drop]; omega]; exact hRB.keep h) (hTw.keepB h) (hDw.keepB h)
        have hr1 := fun wx (h : Below wc.heap.size wc wx) => Root_any n (ls.take 1) (.slice (some ⟨b, off, none⟩) 1 c) wx hn (fun q hq => h32 q (List.mem_of_mem_take hq)) (by rw [List.length_take]; omega) (by rw [show (ls.take 1).length = 1 by rw [List.length_take]; omega]; exact hR1.keep h) (hTw.keepB h) (hDw.keepB h)
        rw [hlt1, show rootH n [x0] = x0 from rfl] at hr1
        have l1 := rootH_32 n (ls.take N) (fun q hq => h32 q (List.mem_of_mem_take hq))
        have l2 := rootH_32 n (ls.drop N) (fun q hq => h32 q (List.mem_of_mem_drop hq))
        have l3 := rootH_32 n ls h32
        have hnd := fun wx (h : Below wc.heap.size wc wx) => Node_any n _ _ wx l1 l2 hn (hTw.keepB h)
        rw [← hroot] at hnd
        have hqt := fun w => eqIn_hash (rootH n ls) (rootH n ls) l3 l3 w
        have hq0 := fun w => eqIn_hash x0 x0 hx32 hx32 w
        simp only [beq_self_eq_true] at hqt hq0
        generalize rootH n ls = rt at *
        generalize rootH n (ls.take N) = ra at *
        generalize rootH n (ls.drop N) = rb at *
        have HRT := Lib.hid hrt
        have HRA := Lib.hid hra
        have HRB := Lib.hid hrb
        have HR1 := Lib.hid hr1
        have HND := Lib.hid hnd
        have HQT := Lib.hid hqt
        have HQ0 := Lib.hid hq0
        have HX0 := Lib.hid (And.intro hx32 hrg)
        have HBW := HB1
        clear hrt hra hrb hr1 hnd hqt hq0 hR hRA hRB hR1 hx0 hrg hx32 hlt1 hTw hDw hroot l1 l2 l3 h32 hls hlm hm z1 zw
        go_upto_region 8 with fail
        refine wp_region_steps [some 26, some 27, some 28, some 29, some 30, some 31, some 32, some 33, some 34, some 35, some 36, some 37, some 38, some 39, some 40, some 41, some 42, some 43, some 44, some 45, some 46, some 47, some 48, some 49, some 50, some 51, some 6] [] (lsF n b off m c N rt ra rb x0) (fun _ wx wy => Below wx.heap.size wx wy) (fun wx => Below wc.heap.size wc wx) (by kernel_rfl) (by kernel_rfl) rfl (by kernel_rfl) (Below.refl _ _).drew (fun _ wx => Below.refl _ _) (fun _ wx wy h k => h.trans (k.mono h.size)) ?hF ?hstep ?hend
        case hF =>
          exact ⟨fun _ _ _ _ _ _ h => h, ⟨fun _ _ _ _ _ _ h => h, ⟨fun _ _ _ _ _ _ h => h, ⟨fun _ _ _ _ _ _ h => h, ⟨fun _ _ _ _ _ _ h => h, ⟨fun _ _ _ _ _ _ h => h, ⟨fun _ _ _ _ _ _ h => h, ⟨fun _ _ _ _ _ _ h => h, ⟨fun _ _ _ _ _ _ h => h, ⟨fun _ _ _ _ _ _ h => h, ⟨fun _ _ _ _ _ _ h => h, ⟨fun _ _ _ _ _ _ h => h, ⟨fun _ _ _ _ _ _ h => h, ⟨fun _ _ _ _ _ _ h => h, ⟨fun _ _ _ _ _ _ h => h, ⟨fun _ _ _ _ _ _ h => h, ⟨fun _ _ _ _ _ _ h => h, ⟨fun _ _ _ _ _ _ h => h, ⟨fun _ _ _ _ _ _ h => h, ⟨fun _ _ _ _ _ _ h => h, ⟨fun _ _ _ _ _ _ h => h, ⟨fun _ _ _ _ _ _ h => h, ⟨fun _ _ _ _ _ _ h => h, ⟨fun _ _ _ _ _ _ h => h, ⟨fun _ _ _ _ _ _ h => h, ⟨fun _ _ _ _ _ _ h => h, ⟨fun _ _ _ _ _ _ h => h, trivial⟩⟩⟩⟩⟩⟩⟩⟩⟩⟩⟩⟩⟩⟩⟩⟩⟩⟩⟩⟩⟩⟩⟩⟩⟩⟩⟩
        case hstep =>
          -- operation 0: Op.move (tmp 0)
          refine ⟨fun r wx hG hs hq hf => ?_, ?_⟩
          · have e0 : r 0 = .int .i64 n := hs 0 rfl
            refine (if_pos rfl).symm ▸ ?_
            clear hs hq hf
            unfold gives
            go_simp
            exact ⟨Below.refl _ _, rfl⟩
          -- operation 1: Op.move (tmp 2)
          refine ⟨fun r wx hG hs hq hf => ?_, ?_⟩
          · have e2 : r 2 = .slice (some ⟨b, off, none⟩) m c := hs 2 rfl
            refine (if_pos rfl).symm ▸ ?_
            clear hs hq hf
            unfold gives
            go_simp
            exact ⟨Below.refl _ _, rfl⟩
          -- operation 2: Op.call ( callee := Callee.value (func 16), args := #[tmp 26, tmp 27], argTypes := #[3, 30] )
          refine ⟨fun r wx hG hs hq hf => ?_, ?_⟩
          · have h0 : r 26 = .int .i64 n := hf.1
            have h1 : r 27 = .slice (some ⟨b, off, none⟩) m c := hf.2.1
            refine (if_pos rfl).symm ▸ ?_
            clear hs hq hf
            unfold gives
            go_simp
            refine (HRT.out wx hG).mono ?_
            rintro e wy ⟨rfl, hb1⟩
            exact ⟨_, rfl, hb1, rfl⟩
          -- operation 3: Op.move (tmp 0)
          refine ⟨fun r wx hG hs hq hf => ?_, ?_⟩
          · have e0 : r 0 = .int .i64 n := hs 0 rfl
            refine (if_pos rfl).symm ▸ ?_
            clear hs hq hf
            unfold gives
            go_simp
            exact ⟨Below.refl _ _, rfl⟩
          -- operation 4: Op.move (tmp 0)
          refine ⟨fun r wx hG hs hq hf => ?_, ?_⟩
          · have e0 : r 0 = .int .i64 n := hs 0 rfl
            refine (if_pos rfl).symm ▸ ?_
            clear hs hq hf
            unfold gives
            go_simp
            exact ⟨Below.refl _ _, rfl⟩
          -- operation 5: Op.move (tmp 2)
          refine ⟨fun r wx hG hs hq hf => ?_, ?_⟩
          · have e2 : r 2 = .slice (some ⟨b, off, none⟩) m c := hs 2 rfl
            refine (if_pos rfl).symm ▸ ?_
            clear hs hq hf
            unfold gives
            go_simp
            exact ⟨Below.refl _ _, rfl⟩
          -- operation 6: Op.move (tmp 7)
          refine ⟨fun r wx hG hs hq hf => ?_, ?_⟩
          · have e7 : r 7 = .int .i64 N := hs 7 rfl
            refine (if_pos rfl).symm ▸ ?_
            clear hs hq hf
            unfold gives
            go_simp
            exact ⟨Below.refl _ _, rfl⟩
          -- operation 7: Op.slice 30 (tmp 31) none (some (tmp 32)) none
          refine ⟨fun r wx hG hs hq hf => ?_, ?_⟩
          · have h5 : r 31 = .slice (some ⟨b, off, none⟩) m c := hf.1
            have h6 : r 32 = .int .i64 (N : Nat) := hf.2.1
            refine (if_pos rfl).symm ▸ ?_
            clear hs hq hf
            unfold gives
            have z0 : (0 : Int) ≤ (N : Int) := by omega
            have z1 : (N : Int) ≤ (c : Int) := by omega
            go_simp
            exact ⟨Below.refl _ _, rfl⟩
          -- operation 8: Op.call ( callee := Callee.value (func 16), args := #[tmp 30, tmp 33], argTypes := #[3, 30] )
          refine ⟨fun r wx hG hs hq hf => ?_, ?_⟩
          · have h4 : r 30 = .int .i64 n := hf.1
            have h7 : r 33 = .slice (some ⟨b, off, none⟩) N c := hf.2.1
            refine (if_pos rfl).symm ▸ ?_
            clear hs hq hf
            unfold gives
            go_simp
            refine (HRA.out wx hG).mono ?_
            rintro e wy ⟨rfl, hb1⟩
            exact ⟨_, rfl, hb1, rfl⟩
          -- operation 9: Op.move (tmp 0)
          refine ⟨fun r wx hG hs hq hf => ?_, ?_⟩
          · have e0 : r 0 = .int .i64 n := hs 0 rfl
            refine (if_pos rfl).symm ▸ ?_
            clear hs hq hf
            unfold gives
            go_simp
            exact ⟨Below.refl _ _, rfl⟩
          -- operation 10: Op.move (tmp 2)
          refine ⟨fun r wx hG hs hq hf => ?_, ?_⟩
          · have e2 : r 2 = .slice (some ⟨b, off, none⟩) m c := hs 2 rfl
            refine (if_pos rfl).symm ▸ ?_
            clear hs hq hf
            unfold gives
            go_simp
            exact ⟨Below.refl _ _, rfl⟩
          -- operation 11: Op.move (tmp 7)
          refine ⟨fun r wx hG hs hq hf => ?_, ?_⟩
          · have e7 : r 7 = .int .i64 N := hs 7 rfl
            refine (if_pos rfl).symm ▸ ?_
            clear hs hq hf
            unfold gives
            go_simp
            exact ⟨Below.refl _ _, rfl⟩
          -- operation 12: Op.slice 30 (tmp 36) (some (tmp 37)) none none
          refine ⟨fun r wx hG hs hq hf => ?_, ?_⟩
          · have h10 : r 36 = .slice (some ⟨b, off, none⟩) m c := hf.1
            have h11 : r 37 = .int .i64 (N : Nat) := hf.2.1
            refine (if_pos rfl).symm ▸ ?_
            clear hs hq hf
            unfold gives
            have z0 : (0 : Int) ≤ (N : Int) := by omega
            have z1 : (N : Int) ≤ (m : Int) := by omega
            have z2 : (m : Int) ≤ (c : Int) := by omega
            have z3 : ¬ c = N := by omega
            have z4 : ((m : Int) - (N : Int)).toNat = m - N := by omega
            have z5 : ((c : Int) - (N : Int)).toNat = c - N := by omega
            go_simp
            exact ⟨Below.refl _ _, rfl⟩
          -- operation 13: Op.call ( callee := Callee.value (func 16), args := #[tmp 35, tmp 38], argTypes := #[3, 30] )
          refine ⟨fun r wx hG hs hq hf => ?_, ?_⟩
          · have h9 : r 35 = .int .i64 n := hf.1
            have h12 : r 38 = .slice (some ⟨b, off + N * 32, none⟩) (m - N) (c - N) := hf.2.1
            refine (if_pos rfl).symm ▸ ?_
            clear hs hq hf
            unfold gives
            go_simp
            refine (HRB.out wx hG).mono ?_
            rintro e wy ⟨rfl, hb1⟩
            exact ⟨_, rfl, hb1, rfl⟩
          -- operation 14: Op.call ( callee := Callee.value (func 14), args := #[tmp 29, tmp 34, tmp 39], argTypes := #[3, 24, 24] )
          refine ⟨fun r wx hG hs hq hf => ?_, ?_⟩
          · have h3 : r 29 = .int .i64 n := hf.1
            have h8 : r 34 = .agg (bv ra).toArray := hf.2.1
            have h13 : r 39 = .agg (bv rb).toArray := hf.2.2.1
            refine (if_pos rfl).symm ▸ ?_
            clear hs hq hf
            unfold gives
            go_simp
            refine (HND.out wx hG).mono ?_
            rintro e wy ⟨rfl, hb1⟩
            exact ⟨_, rfl, hb1, rfl⟩
          -- operation 15: Op.binOp BinOp.eql 24 (tmp 28) (tmp 40) 24
          refine ⟨fun r wx hG hs hq hf => ?_, ?_⟩
          · have h2 : r 28 = .agg (bv rt).toArray := hf.1
            have h14 : r 40 = .agg (bv rt).toArray := hf.2.1
            refine (if_pos rfl).symm ▸ ?_
            clear hs hq hf
            unfold gives
            have hgd := eq_guard
            have he := HQT.out wx
            go_simp
            exact ⟨Below.refl _ _, rfl⟩
          -- operation 16: Op.move (tmp 41)
          refine ⟨fun r wx hG hs hq hf => ?_, ?_⟩
          · have h15 : r 41 = .bool true := hf.1
            refine (if_pos rfl).symm ▸ ?_
            clear hs hq hf
            unfold gives
            go_simp
            exact ⟨Below.refl _ _, rfl⟩
          -- operation 17: Op.move (tmp 0)
          refine ⟨fun r wx hG hs hq hf => ?_, ?_⟩
          · have e0 : r 0 = .int .i64 n := hs 0 rfl
            have h16 : r 42 = .bool true := hf.1
            have hy : ydD [some 26, some 27, some 28, some 29, some 30, some 31, some 32, some 33, some 34, some 35, some 36, some 37, some 38, some 39, some 40, some 41, some 42, some 43, some 44, some 45, some 46, some 47, some 48, some 49, some 50, some 51, some 6] r 16 = some true := by show (match r 42 with | .bool b => some b | _ => none) = some true; rw [h16]
            simp only [Region.wanted, hy, beq_self_eq_true, if_true]
            clear hs hq hf hy
            unfold gives
            go_simp
            exact ⟨Below.refl _ _, rfl⟩
          -- operation 18: Op.move (tmp 2)
          refine ⟨fun r wx hG hs hq hf => ?_, ?_⟩
          · have e2 : r 2 = .slice (some ⟨b, off, none⟩) m c := hs 2 rfl
            have h16 : r 42 = .bool true := hf.1
            have hy : ydD [some 26, some 27, some 28, some 29, some 30, some 31, some 32, some 33, some 34, some 35, some 36, some 37, some 38, some 39, some 40, some 41, some 42, some 43, some 44, some 45, some 46, some 47, some 48, some 49, some 50, some 51, some 6] r 16 = some true := by show (match r 42 with | .bool b => some b | _ => none) = some true; rw [h16]
            simp only [Region.wanted, hy, beq_self_eq_true, if_true]
            clear hs hq hf hy
            unfold gives
            go_simp
            exact ⟨Below.refl _ _, rfl⟩
          -- operation 19: Op.slice 30 (tmp 44) none (some (const (Value.int IntKind.i64 1))) none
          refine ⟨fun r wx hG hs hq hf => ?_, ?_⟩
          · have h18 : r 44 = .slice (some ⟨b, off, none⟩) m c := hf.1
            have h16 : r 42 = .bool true := hf.2.1
            have hy : ydD [some 26, some 27, some 28, some 29, some 30, some 31, some 32, some 33, some 34, some 35, some 36, some 37, some 38, some 39, some 40, some 41, some 42, some 43, some 44, some 45, some 46, some 47, some 48, some 49, some 50, some 51, some 6] r 16 = some true := by show (match r 42 with | .bool b => some b | _ => none) = some true; rw [h16]
            simp only [Region.wanted, hy, beq_self_eq_true, if_true]
            clear hs hq hf hy
            unfold gives
            have z1 : (1 : Int) ≤ (c : Int) := by omega
            go_simp
            exact ⟨Below.refl _ _, rfl⟩
          -- operation 20: Op.call ( callee := Callee.value (func 16), args := #[tmp 43, tmp 45], argTypes := #[3, 30] )
          refine ⟨fun r wx hG hs hq hf => ?_, ?_⟩
          · have h17 : r 43 = .int .i64 n := hf.1
            have h19 : r 45 = .slice (some ⟨b, off, none⟩) 1 c := hf.2.1
            have h16 : r 42 = .bool true := hf.2.2.1
            have hy : ydD [some 26, some 27, some 28, some 29, some 30, some 31, some 32, some 33, some 34, some 35, some 36, some 37, some 38, some 39, some 40, some 41, some 42, some 43, some 44, some 45, some 46, some 47, some 48, some 49, some 50, some 51, some 6] r 16 = some true := by show (match r 42 with | .bool b => some b | _ => none) = some true; rw [h16]
            simp only [Region.wanted, hy, beq_self_eq_true, if_true]
            clear hs hq hf hy
            unfold gives
            go_simp
            refine (HR1.out wx hG).mono ?_
            rintro e wy ⟨rfl, hb1⟩
            exact ⟨_, rfl, hb1, rfl⟩
          -- operation 21: Op.move (tmp 2)
          refine ⟨fun r wx hG hs hq hf => ?_, ?_⟩
          · have e2 : r 2 = .slice (some ⟨b, off, none⟩) m c := hs 2 rfl
            have h16 : r 42 = .bool true := hf.1
            have hy : ydD [some 26, some 27, some 28, some 29, some 30, some 31, some 32, some 33, some 34, some 35, some 36, some 37, some 38, some 39, some 40, some 41, some 42, some 43, some 44, some 45, some 46, some 47, some 48, some 49, some 50, some 51, some 6] r 16 = some true := by show (match r 42 with | .bool b => some b | _ => none) = some true; rw [h16]
            simp only [Region.wanted, hy, beq_self_eq_true, if_true]
            clear hs hq hf hy
            unfold gives
            go_simp
            exact ⟨Below.refl _ _, rfl⟩
          -- operation 22: Op.indexAddr 30 (tmp 47) (const (Value.int IntKind.i64 0))
          refine ⟨fun r wx hG hs hq hf => ?_, ?_⟩
          · have h21 : r 47 = .slice (some ⟨b, off, none⟩) m c := hf.1
            have h16 : r 42 = .bool true := hf.2.1
            have hy : ydD [some 26, some 27, some 28, some 29, some 30, some 31, some 32, some 33, some 34, some 35, some 36, some 37, some 38, some 39, some 40, some 41, some 42, some 43, some 44, some 45, some 46, some 47, some 48, some 49, some 50, some 51, some 6] r 16 = some true := by show (match r 42 with | .bool b => some b | _ => none) = some true; rw [h16]
            simp only [Region.wanted, hy, beq_self_eq_true, if_true]
            clear hs hq hf hy
            unfold gives
            have z1 : 0 < m := by omega
            go_simp
            exact ⟨Below.refl _ _, rfl⟩
          -- operation 23: Op.load 24 (tmp 48)
          refine ⟨fun r wx hG hs hq hf => ?_, ?_⟩
          · have h22 : r 48 = .pointer (some ⟨b, off, none⟩) := hf.1
            have h16 : r 42 = .bool true := hf.2.1
            have hy : ydD [some 26, some 27, some 28, some 29, some 30, some 31, some 32, some 33, some 34, some 35, some 36, some 37, some 38, some 39, some 40, some 41, some 42, some 43, some 44, some 45, some 46, some 47, some 48, some 49, some 50, some 51, some 6] r 16 = some true := by show (match r 42 with | .bool b => some b | _ => none) = some true; rw [h16]
            simp only [Region.wanted, hy, beq_self_eq_true, if_true]
            clear hs hq hf hy
            unfold gives
            refine gives_load_mid 24 _ rfl b off h22 (bv x0) _ (fun q u hu => (hG.cell (p := ⟨b, off + q, none⟩) hbw).trans (HX0.out.2 q u hu)) Tryd.underlying24 rfl (hInfo' _ HX0.out.1) ⟨Below.refl _ _, rfl⟩
          -- operation 24: Op.binOp BinOp.eql 24 (tmp 46) (tmp 49) 24
          refine ⟨fun r wx hG hs hq hf => ?_, ?_⟩
          · have h20 : r 46 = .agg (bv x0).toArray := hf.1
            have h23 : r 49 = .agg (bv x0).toArray := hf.2.1
            have h16 : r 42 = .bool true := hf.2.2.1
            have hy : ydD [some 26, some 27, some 28, some 29, some 30, some 31, some 32, some 33, some 34, some 35, some 36, some 37, some 38, some 39, some 40, some 41, some 42, some 43, some 44, some 45, some 46, some 47, some 48, some 49, some 50, some 51, some 6] r 16 = some true := by show (match r 42 with | .bool b => some b | _ => none) = some true; rw [h16]
            simp only [Region.wanted, hy, beq_self_eq_true, if_true]
            clear hs hq hf hy
            unfold gives
            have hgd := eq_guard
            have he := HQ0.out wx
            go_simp
            exact ⟨Below.refl _ _, rfl⟩
          -- operation 25: Op.pick (tmp 42) (tmp 50) (const (Value.bool false))
          refine ⟨fun r wx hG hs hq hf => ?_, ?_⟩
          · have h16 : r 42 = .bool true := hf.1
            have h24 : r 50 = .bool true := hf.2.1
            refine (if_pos rfl).symm ▸ ?_
            clear hs hq hf
            unfold gives
            go_simp
            exact ⟨Below.refl _ _, rfl⟩
          -- operation 26: Op.assign (tmp 51)
          refine ⟨fun r wx hG hs hq hf => ?_, ?_⟩
          · have h25 : r 51 = .bool true := hf.1
            refine (if_pos rfl).symm ▸ ?_
            clear hs hq hf
            unfold gives
            go_simp
            exact ⟨Below.refl _ _, rfl⟩
          exact trivial
        case hend =>
          intro u wz hG hfin
          have z26 : u 26 = .bool true := hfin 26 (by decide) (by kernel_rfl)
          clear hfin
          simp only [fill]
          go_simp
          go_wp2_with fail
          go_ret
          exact ⟨by simp, HBW.out.trans (hG.mono HBW.out.size)⟩

end Go.Proofs.YtaljjnncljbbfaaDoor
