/- The contract of crc.Join. -/
import Derived.Test.YtpdlocdlnoibbaaCrc3
import Derived.Laws.Tables
namespace Go.Proofs.Ytpdlocdlnoibbaa
open Go.RowKit

/-- A grid of which the first k cells are laid. -/
def gridAt (L : Nat → Nat) (k : Nat) : Array Value := ((List.range 32).map fun i => Value.int .u32 (if i < k then (L (2 ^ i) : Nat) else (0 : Nat) : Nat)).toArray
theorem gridAt_size (L : Nat → Nat) (k : Nat) : (gridAt L k).size = 32 := by simp [gridAt]
theorem gridAt_get (L : Nat → Nat) (k i : Nat) (h : i < 32) : (gridAt L k)[i]? = some (.int .u32 (if i < k then (L (2 ^ i) : Nat) else (0 : Nat) : Nat)) := by simp [gridAt, h]
theorem gridAt_set (L : Nat → Nat) (k : Nat) : (gridAt L k).setIfInBounds k (.int .u32 (L (2 ^ k) : Nat)) = gridAt L (k + 1) := by
  apply Array.ext_getElem?
  intro i
  by_cases hi : i < 32
  · rw [gridAt_get _ _ _ hi, Array.getElem?_setIfInBounds]
    by_cases hik : k = i
    · subst hik; simp [gridAt_size, hi]
    · rw [if_neg hik, gridAt_get _ _ _ hi]
      by_cases h1 : i < k
      · simp [h1, show i < k + 1 by omega]
      · simp [h1, show ¬ i < k + 1 by omega]
  · rw [Array.getElem?_eq_none (by simp [gridAt_size]; omega), Array.getElem?_eq_none (by simp [gridAt_size]; omega)]
theorem gridAt_zero (L : Nat → Nat) : gridAt L 0 = #[.int .u32 0, .int .u32 0, .int .u32 0, .int .u32 0, .int .u32 0, .int .u32 0, .int .u32 0, .int .u32 0, .int .u32 0, .int .u32 0, .int .u32 0, .int .u32 0, .int .u32 0, .int .u32 0, .int .u32 0, .int .u32 0, .int .u32 0, .int .u32 0, .int .u32 0, .int .u32 0, .int .u32 0, .int .u32 0, .int .u32 0, .int .u32 0, .int .u32 0, .int .u32 0, .int .u32 0, .int .u32 0, .int .u32 0, .int .u32 0, .int .u32 0, .int .u32 0] := by rfl
theorem gridAt_one (L : Nat → Nat) (k : Nat) : (gridAt L k).all (·.oneCell') = true := by
  rw [Array.all_eq_true]
  intro i hi
  have hi' : i < 32 := by simpa [gridAt_size] using hi
  have := gridAt_get L k i hi'
  rw [Array.getElem?_eq_getElem hi] at this
  rw [Option.some.inj this]; rfl

theorem arith8 (p q : Nat) : 8 * (p * 2) * q = 8 * p * (2 * q) := by rw [Nat.mul_assoc 8, Nat.mul_assoc p, ← Nat.mul_assoc 8]
theorem below_setRow {B g : Nat} {w w' : World} (h : Below B w w') (hg : B ≤ g) (cs : Array Value) : Below B w (w'.setRow g cs) :=
  h.trans ⟨rfl, rfl, rfl, by simp, fun k hk => setRow_other w' g k cs (by omega)⟩

set_option maxHeartbeats 4000000 in
theorem Join_any (a b n : Nat) (w : World) (ha : a < 4294967296) (hb : b < 4294967296) (hn : n < 18446744073709551616) :
    Calls Try.prog 44 #[.int .u32 a, .int .u32 b, .int .u64 n] w fun e w' => e = .returned (.int .u32 (Crc.join a b n)) ∧ Below w.heap.size w w' := by
  go_enter Try.func44, Try.ntmps44
  go_wp2_with fail
  refine (nibbles_any w).mono ?_
  rintro e w1 ⟨rfl, hb1⟩
  go_wp2_with fail
  obtain ⟨wt, hwt⟩ : ∃ wt : World, wt = (w1.alloc (.cells #[.int .u32 0, .int .u32 274646895, .int .u32 549293790, .int .u32 820201905, .int .u32 1098587580, .int .u32 1361435347, .int .u32 1640403810, .int .u32 1905808397, .int .u32 2197175160, .int .u32 2460548119, .int .u32 2722870694, .int .u32 2987750089, .int .u32 3280807620, .int .u32 3553878443, .int .u32 3811616794, .int .u32 4084100981] 73)).alloc (.cells #[.int .u32 0, .int .u32 0, .int .u32 0, .int .u32 0, .int .u32 0, .int .u32 0, .int .u32 0, .int .u32 0, .int .u32 0, .int .u32 0, .int .u32 0, .int .u32 0, .int .u32 0, .int .u32 0, .int .u32 0, .int .u32 0, .int .u32 0, .int .u32 0, .int .u32 0, .int .u32 0, .int .u32 0, .int .u32 0, .int .u32 0, .int .u32 0, .int .u32 0, .int .u32 0, .int .u32 0, .int .u32 0, .int .u32 0, .int .u32 0, .int .u32 0, .int .u32 0] 76) := ⟨_, rfl⟩

  rw [← hwt]
  have hbt : Below w.heap.size w wt := by rw [hwt]; exact (hb1.alloc hb1.size _).alloc (by simp; have := hb1.size; omega) _
  have hz : w1.heap.size + 2 = wt.heap.size := by rw [hwt]; simp
  have hcellT : ∀ i, i < 16 → wt.cell? ⟨w1.heap.size, i, none⟩ = some (.int .u32 ((Crc.sn 4 i : Nat) : Int)) := fun i hi => by
    rw [hwt, World.cell?_alloc_past _ _ _ (by simp), World.cell?_alloc_at _ _ _ _ rfl]; exact lit_get i hi
  have hgt : wt.heap[w1.heap.size + 1]? = some (.cells (gridAt (Crc.sn 8) 0) 76 (0, 0)) := by
    rw [gridAt_zero, hwt]
    have := heap_alloc_new (w1.alloc (.cells #[.int .u32 0, .int .u32 274646895, .int .u32 549293790, .int .u32 820201905, .int .u32 1098587580, .int .u32 1361435347, .int .u32 1640403810, .int .u32 1905808397, .int .u32 2197175160, .int .u32 2460548119, .int .u32 2722870694, .int .u32 2987750089, .int .u32 3280807620, .int .u32 3553878443, .int .u32 3811616794, .int .u32 4084100981] 73)) (.cells #[.int .u32 0, .int .u32 0, .int .u32 0, .int .u32 0, .int .u32 0, .int .u32 0, .int .u32 0, .int .u32 0, .int .u32 0, .int .u32 0, .int .u32 0, .int .u32 0, .int .u32 0, .int .u32 0, .int .u32 0, .int .u32 0, .int .u32 0, .int .u32 0, .int .u32 0, .int .u32 0, .int .u32 0, .int .u32 0, .int .u32 0, .int .u32 0, .int .u32 0, .int .u32 0, .int .u32 0, .int .u32 0, .int .u32 0, .int .u32 0, .int .u32 0, .int .u32 0] 76)
    simpa using this
  clear hwt
  have hw1 := hb1.size
  go_loopw [14] (fun s14 wr => ∃ k : Nat, k ≤ 32 ∧ s14 = .int .i64 k ∧ wr.heap[w1.heap.size + 1]? = some (.cells (gridAt (Crc.sn 8) k) 76 (0, 0)) ∧ (∀ i, i < 16 → wr.cell? ⟨w1.heap.size, i, none⟩ = some (.int .u32 ((Crc.sn 4 i : Nat) : Int))) ∧ Below w.heap.size w wr) (fun i _ => 32 - (intOf i).toNat)
  case atStart => exact ⟨0, by omega, rfl, hgt, hcellT, hbt⟩
  case round =>
    obtain ⟨k, hk, rfl, hgr, hcr, hbr⟩ := hrel
    clear hgt hcellT hbt
    by_cases hlt : k < 32
    · have hkz : (k : Int) < 32 := by omega
      have hk0 : (0 : Int) ≤ (k : Int) := by omega
      have hD : 2 ^ k < 4294967296 := pow2_lt k hlt
      have hsh : (2 : Int) ^ k % 4294967296 = ((2 ^ k : Nat) : Int) := by
        rw [show (2 : Int) ^ k = ((2 ^ k : Nat) : Int) by simp]; exact Int.emod_eq_of_lt (Int.natCast_nonneg _) (Int.ofNat_lt.2 hD)
      have hc1 : wr.cell? ⟨w1.heap.size + 1, k, none⟩ = some (.int .u32 ((0 : Nat) : Int)) := by
        rw [cell_of_row wr _ k _ _ _ hgr, gridAt_get _ _ _ hlt, if_neg (by omega)]
      have hf1 := frozen_of_row wr _ k _ _ hgr
      have hset := gridAt_set (Crc.sn 8) k
      generalize 2 ^ k = D at *
      have hE : Crc.sn 4 D < 4294967296 := Crc.sn_lt 4 hD
      have ha1 := and15 D hD
      have hx1 := nib4 D hD
      have ht1 := hcr (D % 16) (by omega)
      have hq1 : D % 16 < 16 := by omega
      have hF8 : Crc.sn 8 D = Crc.sn 4 (Crc.sn 4 D) := Crc.sn_add 4 4 D
      generalize Crc.sn 4 D = E at *
      have ha2 := and15 E hE
      have hx2 := nib4 E hE
      have ht2 := hcr (E % 16) (by omega)
      have hq2 : E % 16 < 16 := by omega
      rw [hF8] at hset
      have HSET := Lib.hid hset
      have HCR := Lib.hid hcr
      have HGR := Lib.hid hgr
      clear hset hF8 hcr hgr
      generalize Crc.sn 4 E = F at *
      generalize hT1 : Crc.sn 4 (D % 16) = T1 at *
      generalize hT2 : Crc.sn 4 (E % 16) = T2 at *
      clear hT1 hT2
      generalize D % 16 = d1 at *
      generalize E % 16 = d2 at *
      go_wp2_with fail
      go_roundw
      case rel =>
        refine ⟨k + 1, by omega, by go_num, ?_, fun i hi => ?_, hbr.setCell (by show w.heap.size ≤ w1.heap.size + 1; omega) _⟩
        · rw [← HSET.out]; exact heap_setCell_same _ _ _ _ _ _ HGR.out
        · exact (World.cell?_setCell_other _ _ _ _ (by simp)).trans (HCR.out i hi)
      case measure => simp [intOf]; omega
    · have hkz : ¬ (k : Int) < 32 := by omega
      obtain rfl : k = 32 := by omega
      have HCR := Lib.hid hcr
      clear hcr
      go_wp2_with fail
      have hgL : wr.heap[w1.heap.size + 1]? = some (.cells (gridAt (Crc.sn (8 * 2 ^ 0)) 32) 76 (0, 0)) := hgr
      clear hgr HCR
      have hB : w.heap.size ≤ w1.heap.size + 1 := by omega
      generalize w1.heap.size + 1 = Bg at *
      obtain ⟨wo, rfl⟩ : ∃ wo : World, wo = wr := ⟨_, rfl⟩
      go_loopw [0, 2] (fun s0 s2 wr => ∃ j a' n' : Nat, a' < 4294967296 ∧ n' < 18446744073709551616 ∧ s0 = .int .u32 a' ∧ s2 = .int .u64 n' ∧ Crc.sn (8 * 2 ^ j * n') a' = Crc.sn (8 * n) a ∧
        wr.heap[Bg]? = some (.cells (gridAt (Crc.sn (8 * 2 ^ j)) 32) 76 (0, 0)) ∧ Below w.heap.size w wr) (fun _ s2 _ => (intOf s2).toNat)
      case atStart => exact ⟨0, a, n, ha, hn, rfl, rfl, by simp, hgL, hbr⟩
      case round =>
        obtain ⟨j, a', n', ha', hn', rfl, rfl, hsn, hgj, hbj⟩ := hrel
        clear hgL hbr
        have hL := Crc.lin_sn (8 * 2 ^ j)
        have hLL : ∀ x, Crc.sn (8 * 2 ^ (j + 1)) x = Crc.sn (8 * 2 ^ j) (Crc.sn (8 * 2 ^ j) x) := fun x => by rw [← Crc.sn_add]; congr 1; rw [Nat.pow_succ]; omega
        by_cases h0 : 0 < n'
        · have h0z : (0 : Int) < (n' : Int) := by omega
          have hcg : ∀ i, i < 32 → wr.cell? ⟨Bg, i, none⟩ = some (.int .u32 ((Crc.sn (8 * 2 ^ j) (2 ^ i) : Nat) : Int)) := fun i hi => by
            rw [cell_of_row wr _ i _ _ _ hgj, gridAt_get _ _ _ hi, if_pos hi]
          have HCG := Lib.hid hcg
          have HSN := Lib.hid hsn
          have HGJ := Lib.hid hgj
          have HLL := Lib.hid hLL
          clear hcg hsn hgj hLL
          by_cases h1 : n' % 2 = 1
          · have e1 : (bits .and .u64 (n' : Int) 1 == 1) = true := by
              have := u64_and_nat n' 1 hn' (by omega)
              rw [Nat.and_one_is_mod, h1] at this
              rw [show (1 : Int) = ((1 : Nat) : Int) from rfl, this]; rfl
            go_wp2_with fail
            refine (of_any _ hL Bg a' _ ha' HCG.out).mono ?_
            rintro e w' ⟨rfl, rfl⟩
            go_wp2_with fail
            generalize hA : Crc.sn (8 * 2 ^ j) a' = A
            have hAl : A < 4294967296 := by rw [← hA]; exact hL.lt _ ha'
            have hres : Crc.sn (8 * 2 ^ (j + 1) * (n' / 2)) A = Crc.sn (8 * n) a := by
              rw [← HSN.out, ← hA]; rw [← Crc.sn_add]; congr 1; rw [Nat.pow_succ]; have : n' = 2 * (n' / 2) + 1 := by omega
              conv => rhs; rw [this]
              rw [Nat.mul_add, Nat.mul_one, Nat.add_comm (8 * 2 ^ j), arith8]
            have HRES := Lib.hid hres
            clear hres hA
            have hBg : Bg < wr.heap.size := (Array.getElem?_eq_some_iff.1 HGJ.out).1
            obtain ⟨wq, rfl⟩ : ∃ wq : World, wq = wr := ⟨_, rfl⟩
            go_loopw [45] (fun s45 wx => ∃ k : Nat, k ≤ 32 ∧ s45 = .int .i64 k ∧ wx = wq.alloc (.cells (gridAt (Crc.sn (8 * 2 ^ (j + 1))) k) 76)) (fun i _ => 32 - (intOf i).toNat)
            case atStart => exact ⟨0, by omega, rfl, by rw [gridAt_zero]⟩
            case round =>
              obtain ⟨k, hk, rfl, rfl⟩ := hrel
              by_cases hlt : k < 32
              · have hkz : (k : Int) < 32 := by omega
                have hk0 : (0 : Int) ≤ (k : Int) := by omega
                have hck := HCG.out k hlt
                have hnew : (wq.alloc (.cells (gridAt (Crc.sn (8 * 2 ^ (j + 1))) k) 76)).cell? ⟨wq.heap.size, k, none⟩ = some (.int .u32 ((0 : Nat) : Int)) := by
                  rw [World.cell?_alloc_at _ _ _ _ rfl, gridAt_get _ _ _ hlt, if_neg (by omega)]
                have hset := gridAt_set (Crc.sn (8 * 2 ^ (j + 1))) k
                rw [HLL.out] at hset
                have hTl := hL.lt _ (pow2_lt k hlt)
                generalize Crc.sn (8 * 2 ^ j) (2 ^ k) = T at *
                have HSET := Lib.hid hset
                clear hset
                go_wp2_with fail
                refine (of_any _ hL Bg T _ hTl (fun i hi => ?_)).mono ?_
                · rw [World.cell?_alloc_past _ _ _ hBg]; exact HCG.out i hi
                rintro e w' ⟨rfl, rfl⟩
                go_wp2_with fail
                go_roundw
                case rel => exact ⟨k + 1, by omega, by go_num, by rw [HSET.out]⟩
                case measure => simp [intOf]; omega
              · have hkz : ¬ (k : Int) < 32 := by omega
                obtain rfl : k = 32 := by omega
                have hg1 : (wq.alloc (.cells (gridAt (Crc.sn (8 * 2 ^ (j + 1))) 32) 76)).heap[wq.heap.size]? = some (.cells (gridAt (Crc.sn (8 * 2 ^ (j + 1))) 32) 76 (0, 0)) := heap_alloc_new _ _
                have hg2 : (wq.alloc (.cells (gridAt (Crc.sn (8 * 2 ^ (j + 1))) 32) 76)).heap[Bg]? = some (.cells (gridAt (Crc.sn (8 * 2 ^ j)) 32) 76 (0, 0)) := (Below.heap_alloc _ _ _ hBg).trans HGJ.out
                have HG1 := Lib.hid hg1
                have HG2 := Lib.hid hg2
                clear hg1 hg2
                go_wp2_with (first | (refine wpList_load_row rfl 76 _ rfl wq.heap.size rfl 76 (gridAt (Crc.sn (8 * 2 ^ (j + 1))) 32) (0, 0) _ HG1.out Try.underlying76 rfl (by rw [gridAt_size]; kernel_rfl) ?_) | (refine wpList_store_row rfl 76 _ _ rfl Bg (gridAt (Crc.sn (8 * 2 ^ (j + 1))) 32) rfl rfl 76 (gridAt (Crc.sn (8 * 2 ^ j)) 32) HG2.out (by rw [gridAt_size]; kernel_rfl) (by rw [gridAt_size, gridAt_size]) (gridAt_one _ _) ?_))
                go_roundw
                case rel => exact ⟨j + 1, A, n' / 2, hAl, by omega, rfl, rfl, HRES.out, setRow_heap _ _ _ _ _ _ HG2.out, below_setRow ((hbj.trans ((Below.refl wq.heap.size _).alloc (Nat.le_refl _) _ |>.mono hbj.size))) hB _⟩
                case measure => simp [intOf]; omega
          · have e1 : (bits .and .u64 (n' : Int) 1 == 1) = false := by
              have := u64_and_nat n' 1 hn' (by omega)
              rw [Nat.and_one_is_mod, show n' % 2 = 0 by omega] at this
              rw [show (1 : Int) = ((1 : Nat) : Int) from rfl, this]; rfl
            go_wp2_with fail
            obtain ⟨A, hA⟩ : ∃ A, a' = A := ⟨_, rfl⟩
            rw [hA]
            have hAl : A < 4294967296 := by rw [← hA]; exact ha'
            have hres : Crc.sn (8 * 2 ^ (j + 1) * (n' / 2)) A = Crc.sn (8 * n) a := by
              rw [← HSN.out, ← hA]; congr 1; rw [Nat.pow_succ]; have : n' = 2 * (n' / 2) := by omega
              conv => rhs; rw [this]
              rw [arith8]
            have HRES := Lib.hid hres
            clear hres hA
            have hBg : Bg < wr.heap.size := (Array.getElem?_eq_some_iff.1 HGJ.out).1
            obtain ⟨wq, rfl⟩ : ∃ wq : World, wq = wr := ⟨_, rfl⟩
            go_loopw [45] (fun s45 wx => ∃ k : Nat, k ≤ 32 ∧ s45 = .int .i64 k ∧ wx = wq.alloc (.cells (gridAt (Crc.sn (8 * 2 ^ (j + 1))) k) 76)) (fun i _ => 32 - (intOf i).toNat)
            case atStart => exact ⟨0, by omega, rfl, by rw [gridAt_zero]⟩
            case round =>
              obtain ⟨k, hk, rfl, rfl⟩ := hrel
              by_cases hlt : k < 32
              · have hkz : (k : Int) < 32 := by omega
                have hk0 : (0 : Int) ≤ (k : Int) := by omega
                have hck := HCG.out k hlt
                have hnew : (wq.alloc (.cells (gridAt (Crc.sn (8 * 2 ^ (j + 1))) k) 76)).cell? ⟨wq.heap.size, k, none⟩ = some (.int .u32 ((0 : Nat) : Int)) := by
                  rw [World.cell?_alloc_at _ _ _ _ rfl, gridAt_get _ _ _ hlt, if_neg (by omega)]
                have hset := gridAt_set (Crc.sn (8 * 2 ^ (j + 1))) k
                rw [HLL.out] at hset
                have hTl := hL.lt _ (pow2_lt k hlt)
                generalize Crc.sn (8 * 2 ^ j) (2 ^ k) = T at *
                have HSET := Lib.hid hset
                clear hset
                go_wp2_with fail
                refine (of_any _ hL Bg T _ hTl (fun i hi => ?_)).mono ?_
                · rw [World.cell?_alloc_past _ _ _ hBg]; exact HCG.out i hi
                rintro e w' ⟨rfl, rfl⟩
                go_wp2_with fail
                go_roundw
                case rel => exact ⟨k + 1, by omega, by go_num, by rw [HSET.out]⟩
                case measure => simp [intOf]; omega
              · have hkz : ¬ (k : Int) < 32 := by omega
                obtain rfl : k = 32 := by omega
                have hg1 : (wq.alloc (.cells (gridAt (Crc.sn (8 * 2 ^ (j + 1))) 32) 76)).heap[wq.heap.size]? = some (.cells (gridAt (Crc.sn (8 * 2 ^ (j + 1))) 32) 76 (0, 0)) := heap_alloc_new _ _
                have hg2 : (wq.alloc (.cells (gridAt (Crc.sn (8 * 2 ^ (j + 1))) 32) 76)).heap[Bg]? = some (.cells (gridAt (Crc.sn (8 * 2 ^ j)) 32) 76 (0, 0)) := (Below.heap_alloc _ _ _ hBg).trans HGJ.out
                have HG1 := Lib.hid hg1
                have HG2 := Lib.hid hg2
                clear hg1 hg2
                go_wp2_with (first | (refine wpList_load_row rfl 76 _ rfl wq.heap.size rfl 76 (gridAt (Crc.sn (8 * 2 ^ (j + 1))) 32) (0, 0) _ HG1.out Try.underlying76 rfl (by rw [gridAt_size]; kernel_rfl) ?_) | (refine wpList_store_row rfl 76 _ _ rfl Bg (gridAt (Crc.sn (8 * 2 ^ (j + 1))) 32) rfl rfl 76 (gridAt (Crc.sn (8 * 2 ^ j)) 32) HG2.out (by rw [gridAt_size]; kernel_rfl) (by rw [gridAt_size, gridAt_size]) (gridAt_one _ _) ?_))
                go_roundw
                case rel => exact ⟨j + 1, A, n' / 2, hAl, by omega, rfl, rfl, HRES.out, setRow_heap _ _ _ _ _ _ HG2.out, below_setRow ((hbj.trans ((Below.refl wq.heap.size _).alloc (Nat.le_refl _) _ |>.mono hbj.size))) hB _⟩
                case measure => simp [intOf]; omega
        · have h0z : ¬ (0 : Int) < (n' : Int) := by omega
          have hx := u32_xor_nat a' b ha' hb
          have hfin : ((a' ^^^ b : Nat) : Int) = ((Crc.join a b n : Nat) : Int) := by unfold Crc.join; rw [← hsn, show n' = 0 by omega]; rfl
          have HF := Lib.hid hfin
          clear hfin hsn hgj hLL
          go_wp2_with fail
          go_ret
          exact ⟨ret_int HF.out, hbj⟩
end Go.Proofs.Ytpdlocdlnoibbaa
