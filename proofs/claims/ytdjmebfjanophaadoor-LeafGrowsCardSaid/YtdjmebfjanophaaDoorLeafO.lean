/- How many ones: bits.OnesCount64, the reference's; leaf.Right. (printed by gen/leafo.py) -/
import Derived.Test.YtdjmebfjanophaaDoorLeafI
import Derived.Test.YtdjmebfjanophaaDoorOnesP
namespace Go.Proofs.YtdjmebfjanophaaDoor
open Go.RowKit Sha Ones

theorem and127 (n : Int) : bits .and .i64 n 127 = n % 128 := by
  have hm : (BitVec.ofInt 64 127).toNat = 2 ^ 7 - 1 := by decide
  have key : (BitVec.ofInt 64 n &&& BitVec.ofInt 64 127).toNat = (n % ((2 ^ 64 : Nat) : Int)).toNat % 2 ^ 7 := by
    rw [BitVec.toNat_and, BitVec.toNat_ofInt, hm, Nat.and_two_pow_sub_one_eq_mod]
  show IntKind.i64.wrap ((BitVec.ofInt 64 n &&& BitVec.ofInt 64 127).toNat : Nat) = n % 128
  rw [key, IntKind.wrap_i64]
  omega
set_option maxHeartbeats 4000000 in
theorem OnesCount64_any (x : Nat) (hx : x < 18446744073709551616) (w : World) :
    Calls Tryd.prog 53 #[.int .u64 x] w fun e w' => e = .returned (.int .i64 (pop 64 x)) ∧ Below w.heap.size w w' := by
  obtain ⟨X1, X2, X3, X4, X5, X6, e1, b1, e2, b2, b23, e3, e4, e5, e6, b6, b3, b4, b5, e7⟩ := ones64 x hx
  have a1 : bits .and .u64 ((x : Int) / 2) 6148914691236517205 = ((x / 2 &&& 6148914691236517205 : Nat) : Int) := bits_and_u64_nat (x / 2) 6148914691236517205 (by omega) (by omega)
  have a2 : bits .and .u64 (x : Int) 6148914691236517205 = ((x &&& 6148914691236517205 : Nat) : Int) := bits_and_u64_nat x 6148914691236517205 hx (by omega)
  have a3 : bits .and .u64 ((X1 : Int) / 4) 3689348814741910323 = ((X1 / 4 &&& 3689348814741910323 : Nat) : Int) := bits_and_u64_nat (X1 / 4) 3689348814741910323 (by omega) (by omega)
  have a4 : bits .and .u64 (X1 : Int) 3689348814741910323 = ((X1 &&& 3689348814741910323 : Nat) : Int) := bits_and_u64_nat X1 3689348814741910323 b1 (by omega)
  have a5 : bits .and .u64 ((X2 / 16 + X2 : Nat) : Int) 1085102592571150095 = ((X2 / 16 + X2 &&& 1085102592571150095 : Nat) : Int) := bits_and_u64_nat (X2 / 16 + X2) 1085102592571150095 b23 (by omega)
  generalize (x / 2 &&& 6148914691236517205) = A1 at *
  generalize (x &&& 6148914691236517205) = A2 at *
  generalize (X1 / 4 &&& 3689348814741910323) = A3 at *
  generalize (X1 &&& 3689348814741910323) = A4 at *
  rw [e3] at a5
  have s1 : IntKind.u64.wrap ((A1 : Int) + (A2 : Int)) = (X1 : Int) := (IntWalk.u64_in _ (by omega)).trans (by omega)
  have s2 : IntKind.u64.wrap ((A3 : Int) + (A4 : Int)) = (X2 : Int) := (IntWalk.u64_in _ (by omega)).trans (by omega)
  have s3 : IntKind.u64.wrap ((X2 : Int) / 16 + (X2 : Int)) = ((X2 / 16 + X2 : Nat) : Int) := (IntWalk.u64_in _ (by omega)).trans (by omega)
  have s4 : IntKind.u64.wrap ((X3 : Int) + (X3 : Int) / 256) = (X4 : Int) := (IntWalk.u64_in _ (by omega)).trans (by omega)
  have s5 : IntKind.u64.wrap ((X4 : Int) + (X4 : Int) / 65536) = (X5 : Int) := (IntWalk.u64_in _ (by omega)).trans (by omega)
  have s6 : IntKind.u64.wrap ((X5 : Int) + (X5 : Int) / 4294967296) = (X6 : Int) := (IntWalk.u64_in _ (by omega)).trans (by omega)
  have E7 := Lib.hid e7
  have B6 := Lib.hid b6
  generalize hK : X2 / 16 + X2 = K at *
  clear e1 e2 e3 e4 e5 e6 e7 b1 b2 b23 b3 b4 b5 hx b6 hK
  go_enter Tryd.func53, Tryd.ntmps53
  go_upto_region 7 with fail
  clear a1 a2 a3 a4 a5 s1 s2 s3 s4 s5 s6
  have c1 : IntKind.i64.wrap (X6 : Int) = (X6 : Int) := IntWalk.i64_in _ (by have := B6.out; omega)
  have c2 := and127 (X6 : Int)
  go_wp2_with fail
  go_ret
  refine ⟨congrArg (fun q => Ending.returned (Value.int .i64 q)) ?_, Below.refl _ _⟩
  have := E7.out
  omega

theorem pop_le : ∀ f n : Nat, pop f n ≤ f
  | 0, _ => Nat.le_refl _
  | f + 1, n => by have := pop_le f (n / 2); unfold pop; omega
theorem pop_zero : ∀ f : Nat, pop f 0 = 0
  | 0 => rfl
  | f + 1 => by unfold pop; rw [show (0 : Nat) / 2 = 0 from rfl, pop_zero f]
theorem pop_more : ∀ f n : Nat, n < 2 ^ f → pop (f + 1) n = pop f n
  | 0, n, h => by
    have : n = 0 := by omega
    subst this; rfl
  | f + 1, n, h => by
    have := pop_more f (n / 2) (by rw [Nat.pow_succ] at h; omega)
    rw [pop, this, pop]
theorem pop_step (n : Nat) (h : n < 18446744073709551616) : pop 64 n = n % 2 + pop 64 (n / 2) := by
  have e := pop_more 63 (n / 2) (by omega)
  have e2 : pop (63 + 1) n = n % 2 + pop 63 (n / 2) := by rw [pop]
  exact e2.trans (by rw [← e])

set_option maxHeartbeats 2000000 in
theorem ones_any (x : Nat) (hx : x < 18446744073709551616) (w : World) :
    Calls Tryd.prog 54 #[.int .u64 x] w fun e w' => e = .returned (.int .i64 (pop 64 x)) ∧ Below w.heap.size w w' := by
  obtain ⟨P, hP⟩ : ∃ P, P = pop 64 x := ⟨_, rfl⟩
  rw [← hP]
  have hP64 : P ≤ 64 := by rw [hP]; exact pop_le 64 x
  have HP := Lib.hid hP
  clear hP
  go_enter Tryd.func54, Tryd.ntmps54
  go_wp2_with fail
  go_loopw [0, 3] (fun s0 s3 wr => ∃ n k : Nat, s0 = .int .u64 n ∧ s3 = .int .i64 k ∧ n < 18446744073709551616 ∧ k + pop 64 n = P ∧ Below w.heap.size w wr) (fun s0 _ _ => (intOf s0).toNat)
  case atStart => exact ⟨x, 0, rfl, rfl, hx, by rw [HP.out, Nat.zero_add], Below.refl _ _⟩
  case round =>
    obtain ⟨n, k, rfl, rfl, hn, hk, hb⟩ := hrel
    by_cases h0 : n = 0
    · subst h0
      rw [pop_zero] at hk
      have hk0 : k = P := by rw [Nat.add_zero] at hk; exact hk
      subst hk0
      go_wp2_with fail
      go_ret
      exact ⟨rfl, hb⟩
    · have hs := pop_step n hn
      obtain ⟨h, hh⟩ : ∃ h, h = n / 2 := ⟨_, rfl⟩
      obtain ⟨A, hA⟩ : ∃ A, A = pop 64 n := ⟨_, rfl⟩
      obtain ⟨C, hC⟩ : ∃ C, C = pop 64 h := ⟨_, rfl⟩
      rw [← hh, ← hC, ← hA] at hs
      rw [← hA] at hk
      have HC := Lib.hid hC
      clear hA hC
      have z1 : (0 : Int) < (n : Int) := by omega
      obtain ⟨q, hq⟩ : ∃ q, q = n % 2 := ⟨_, rfl⟩
      rw [← hq] at hs
      have hlt : h < n := by omega
      have hk2 : k + q + C = P := by omega
      have HK := Lib.hid hk2
      have hq2 : q < 2 := by omega
      have hkp : k ≤ 64 := by omega
      have z2 : (n : Int) % 2 = (q : Int) := by omega
      have z4 : (n : Int) / 2 = (h : Int) := by omega
      clear hs hk hk2 hq hh
      go_wp2_with fail
      go_roundw
      case rel => exact ⟨h, k + q, rfl, by go_num, by omega, by rw [← HC.out]; exact HK.out, hb⟩
      case measure => simp [intOf]; omega

/-- What each operation hands on. -/
def ltF (g m c sz po : Nat) (a : Option Addr) : Nat → Value → World → Prop
  | 0, v, _ => v = .pointer (some ⟨g, 1, none⟩)
  | 1, v, _ => v = .slice a m c
  | 2, v, _ => v = .int .i64 (m : Nat)
  | 3, v, _ => v = .pointer (some ⟨g, 0, none⟩)
  | 4, v, _ => v = .int .u64 (sz : Nat)
  | 5, v, _ => v = .int .i64 (po : Nat)
  | 6, v, _ => v = .bool (decide (m = po))
  | 7, v, _ => v = .bool (decide (m = po))
  | _, _, _ => True
set_option maxHeartbeats 4000000 in
theorem Right_any (sz : Nat) (a : Option Addr) (m c : Nat) (w : World) (hs : sz < 18446744073709551616) (_hm : m ≤ 140737488355328) :
    Calls Tryd.prog 24 #[.agg #[.int .u64 sz, .slice a m c]] w fun e w' => e = .returned (.bool (decide (m = pop 64 sz))) ∧ Below w.heap.size w w' := by
  have hpo := fun wx => OnesCount64_any sz hs wx
  have hp := pop_le 64 sz
  obtain ⟨po, hpe⟩ : ∃ p, p = pop 64 sz := ⟨_, rfl⟩
  rw [← hpe] at hpo hp ⊢
  have HON := Lib.hid hpo
  have HDE := Lib.hid (show Value.bool ((m : Int) == (po : Int)) = .bool (decide (m = po)) by
    congr 1; rw [Bool.eq_iff_iff]; simp; exact ⟨fun h => by omega, fun h => by omega⟩)
  clear hpo hpe
  go_enter Tryd.func24, Tryd.ntmps24
  go_upto_region 1 with fail
  obtain ⟨w0, hw0⟩ : ∃ x : World, x = w.alloc (.cells #[.int .u64 sz, .slice a m c] 31) := ⟨_, rfl⟩
  obtain ⟨g, hg⟩ : ∃ g, g = w.heap.size := ⟨_, rfl⟩
  have hc0 : w0.cell? ⟨g, 0, none⟩ = some (.int .u64 sz) := by rw [hw0, hg]; simp [go_sem]
  have hc1 : w0.cell? ⟨g, 1, none⟩ = some (.slice a m c) := by rw [hw0, hg]; simp [go_sem]
  have hgl : g < w0.heap.size := by rw [hw0, hg]; simp
  have hbw : Below w.heap.size w w0 := by rw [hw0]; exact (Below.refl _ _).alloc (Nat.le_refl _) _
  rw [← hw0, ← hg]
  have HC := Lib.hid (And.intro hc0 hc1)
  have HBW := Lib.hid hbw
  clear hw0 hg hc0 hc1 hbw
  refine wp_region_steps [some 3, some 4, some 5, some 6, some 7, some 8, some 9, some 2] [] (ltF g m c sz po a) (fun _ wx wy => Below wx.heap.size wx wy) (fun wx => Below w0.heap.size w0 wx) (by kernel_rfl) (by kernel_rfl) rfl (by kernel_rfl) (Below.refl _ _).drew (fun _ wx => Below.refl _ _) (fun _ wx wy h k => h.trans (k.mono h.size)) ?hF ?hstep ?hend
  case hF =>
    exact ⟨fun _ _ _ _ _ _ h => h, ⟨fun _ _ _ _ _ _ h => h, ⟨fun _ _ _ _ _ _ h => h, ⟨fun _ _ _ _ _ _ h => h, ⟨fun _ _ _ _ _ _ h => h, ⟨fun _ _ _ _ _ _ h => h, ⟨fun _ _ _ _ _ _ h => h, ⟨fun _ _ _ _ _ _ h => h, trivial⟩⟩⟩⟩⟩⟩⟩⟩
  case hstep =>
    -- operation 0: Op.fieldAddr 39 (tmp 1) 1
    refine ⟨fun r wx hG hs hq hf => ?_, ?_⟩
    · have e1 : r 1 = .pointer (some ⟨g, 0, none⟩) := hs 1 rfl
      refine (if_pos rfl).symm ▸ ?_
      clear hs hq hf
      unfold gives
      go_simp
      exact ⟨Below.refl _ _, rfl⟩
    -- operation 1: Op.load 30 (tmp 3)
    refine ⟨fun r wx hG hs hq hf => ?_, ?_⟩
    · have h0 : r 3 = .pointer (some ⟨g, 1, none⟩) := hf.1
      refine (if_pos rfl).symm ▸ ?_
      clear hs hq hf
      unfold gives
      have hc1 := (hG.cell (p := ⟨g, 1, none⟩) hgl).trans HC.out.2
      go_simp
      exact ⟨Below.refl _ _, rfl⟩
    -- operation 2: Op.call ( callee := Callee.builtin Builtin.len, args := #[tmp 4], argTypes := #[30] )
    refine ⟨fun r wx hG hs hq hf => ?_, ?_⟩
    · have h1 : r 4 = .slice a m c := hf.1
      refine (if_pos rfl).symm ▸ ?_
      clear hs hq hf
      unfold gives
      go_simp
      exact ⟨Below.refl _ _, rfl⟩
    -- operation 3: Op.fieldAddr 39 (tmp 1) 0
    refine ⟨fun r wx hG hs hq hf => ?_, ?_⟩
    · have e1 : r 1 = .pointer (some ⟨g, 0, none⟩) := hs 1 rfl
      refine (if_pos rfl).symm ▸ ?_
      clear hs hq hf
      unfold gives
      go_simp
      exact ⟨Below.refl _ _, rfl⟩
    -- operation 4: Op.load 37 (tmp 6)
    refine ⟨fun r wx hG hs hq hf => ?_, ?_⟩
    · have h3 : r 6 = .pointer (some ⟨g, 0, none⟩) := hf.1
      refine (if_pos rfl).symm ▸ ?_
      clear hs hq hf
      unfold gives
      have hc0 := (hG.cell (p := ⟨g, 0, none⟩) hgl).trans HC.out.1
      go_simp
      exact ⟨Below.refl _ _, rfl⟩
    -- operation 5: Op.call ( callee := Callee.value (func 39), args := #[tmp 7], argTypes := #[37] )
    refine ⟨fun r wx hG hs hq hf => ?_, ?_⟩
    · have h4 : r 7 = .int .u64 (sz : Nat) := hf.1
      refine (if_pos rfl).symm ▸ ?_
      clear hs hq hf
      unfold gives
      go_simp
      refine (HON.out wx).mono ?_
      rintro e wy ⟨rfl, hb1⟩
      exact ⟨_, rfl, hb1, rfl⟩
    -- operation 6: Op.binOp BinOp.eql 3 (tmp 5) (tmp 8) 3
    refine ⟨fun r wx hG hs hq hf => ?_, ?_⟩
    · have h2 : r 5 = .int .i64 (m : Nat) := hf.1
      have h5 : r 8 = .int .i64 (po : Nat) := hf.2.1
      refine (if_pos rfl).symm ▸ ?_
      clear hs hq hf
      unfold gives
      go_simp
      exact ⟨Below.refl _ _, HDE.out⟩
    -- operation 7: Op.assign (tmp 9)
    refine ⟨fun r wx hG hs hq hf => ?_, ?_⟩
    · have h6 : r 9 = .bool (decide (m = po)) := hf.1
      refine (if_pos rfl).symm ▸ ?_
      clear hs hq hf
      unfold gives
      go_simp
      exact ⟨Below.refl _ _, rfl⟩
    exact trivial
  case hend =>
    intro u wz hG hfin
    have z7 : u 7 = .bool (decide (m = po)) := hfin 7 (by decide) (by kernel_rfl)
    clear hfin
    simp only [fill]
    go_simp
    go_wp2_with fail
    go_ret
    exact ⟨rfl, HBW.out.trans (hG.mono HBW.out.size)⟩


/-- What each operation hands on. -/
def rtF (g m c sz po : Nat) (a : Option Addr) : Nat → Value → World → Prop
  | 0, v, _ => v = .pointer (some ⟨g, 1, none⟩)
  | 1, v, _ => v = .slice a m c
  | 2, v, _ => v = .int .i64 (m : Nat)
  | 3, v, _ => v = .pointer (some ⟨g, 0, none⟩)
  | 4, v, _ => v = .int .u64 (sz : Nat)
  | 5, v, _ => v = .int .i64 (po : Nat)
  | 6, v, _ => v = .bool (decide (m = po))
  | 7, v, _ => v = .bool (decide (m = po))
  | _, _, _ => True
set_option maxHeartbeats 4000000 in
theorem refRight_any (sz : Nat) (a : Option Addr) (m c : Nat) (w : World) (hs : sz < 18446744073709551616) (_hm : m ≤ 140737488355328) :
    Calls Tryd.prog 25 #[.agg #[.int .u64 sz, .slice a m c]] w fun e w' => e = .returned (.bool (decide (m = pop 64 sz))) ∧ Below w.heap.size w w' := by
  have hpo := fun wx => ones_any sz hs wx
  have hp := pop_le 64 sz
  obtain ⟨po, hpe⟩ : ∃ p, p = pop 64 sz := ⟨_, rfl⟩
  rw [← hpe] at hpo hp ⊢
  have HON := Lib.hid hpo
  have HDE := Lib.hid (show Value.bool ((m : Int) == (po : Int)) = .bool (decide (m = po)) by
    congr 1; rw [Bool.eq_iff_iff]; simp; exact ⟨fun h => by omega, fun h => by omega⟩)
  clear hpo hpe
  go_enter Tryd.func25, Tryd.ntmps25
  go_upto_region 1 with fail
  obtain ⟨w0, hw0⟩ : ∃ x : World, x = w.alloc (.cells #[.int .u64 sz, .slice a m c] 31) := ⟨_, rfl⟩
  obtain ⟨g, hg⟩ : ∃ g, g = w.heap.size := ⟨_, rfl⟩
  have hc0 : w0.cell? ⟨g, 0, none⟩ = some (.int .u64 sz) := by rw [hw0, hg]; simp [go_sem]
  have hc1 : w0.cell? ⟨g, 1, none⟩ = some (.slice a m c) := by rw [hw0, hg]; simp [go_sem]
  have hgl : g < w0.heap.size := by rw [hw0, hg]; simp
  have hbw : Below w.heap.size w w0 := by rw [hw0]; exact (Below.refl _ _).alloc (Nat.le_refl _) _
  rw [← hw0, ← hg]
  have HC := Lib.hid (And.intro hc0 hc1)
  have HBW := Lib.hid hbw
  clear hw0 hg hc0 hc1 hbw
  refine wp_region_steps [some 3, some 4, some 5, some 6, some 7, some 8, some 9, some 2] [] (rtF g m c sz po a) (fun _ wx wy => Below wx.heap.size wx wy) (fun wx => Below w0.heap.size w0 wx) (by kernel_rfl) (by kernel_rfl) rfl (by kernel_rfl) (Below.refl _ _).drew (fun _ wx => Below.refl _ _) (fun _ wx wy h k => h.trans (k.mono h.size)) ?hF ?hstep ?hend
  case hF =>
    exact ⟨fun _ _ _ _ _ _ h => h, ⟨fun _ _ _ _ _ _ h => h, ⟨fun _ _ _ _ _ _ h => h, ⟨fun _ _ _ _ _ _ h => h, ⟨fun _ _ _ _ _ _ h => h, ⟨fun _ _ _ _ _ _ h => h, ⟨fun _ _ _ _ _ _ h => h, ⟨fun _ _ _ _ _ _ h => h, trivial⟩⟩⟩⟩⟩⟩⟩⟩
  case hstep =>
    -- operation 0: Op.fieldAddr 39 (tmp 1) 1
    refine ⟨fun r wx hG hs hq hf => ?_, ?_⟩
    · have e1 : r 1 = .pointer (some ⟨g, 0, none⟩) := hs 1 rfl
      refine (if_pos rfl).symm ▸ ?_
      clear hs hq hf
      unfold gives
      go_simp
      exact ⟨Below.refl _ _, rfl⟩
    -- operation 1: Op.load 30 (tmp 3)
    refine ⟨fun r wx hG hs hq hf => ?_, ?_⟩
    · have h0 : r 3 = .pointer (some ⟨g, 1, none⟩) := hf.1
      refine (if_pos rfl).symm ▸ ?_
      clear hs hq hf
      unfold gives
      have hc1 := (hG.cell (p := ⟨g, 1, none⟩) hgl).trans HC.out.2
      go_simp
      exact ⟨Below.refl _ _, rfl⟩
    -- operation 2: Op.call ( callee := Callee.builtin Builtin.len, args := #[tmp 4], argTypes := #[30] )
    refine ⟨fun r wx hG hs hq hf => ?_, ?_⟩
    · have h1 : r 4 = .slice a m c := hf.1
      refine (if_pos rfl).symm ▸ ?_
      clear hs hq hf
      unfold gives
      go_simp
      exact ⟨Below.refl _ _, rfl⟩
    -- operation 3: Op.fieldAddr 39 (tmp 1) 0
    refine ⟨fun r wx hG hs hq hf => ?_, ?_⟩
    · have e1 : r 1 = .pointer (some ⟨g, 0, none⟩) := hs 1 rfl
      refine (if_pos rfl).symm ▸ ?_
      clear hs hq hf
      unfold gives
      go_simp
      exact ⟨Below.refl _ _, rfl⟩
    -- operation 4: Op.load 37 (tmp 6)
    refine ⟨fun r wx hG hs hq hf => ?_, ?_⟩
    · have h3 : r 6 = .pointer (some ⟨g, 0, none⟩) := hf.1
      refine (if_pos rfl).symm ▸ ?_
      clear hs hq hf
      unfold gives
      have hc0 := (hG.cell (p := ⟨g, 0, none⟩) hgl).trans HC.out.1
      go_simp
      exact ⟨Below.refl _ _, rfl⟩
    -- operation 5: Op.call ( callee := Callee.value (func 40), args := #[tmp 7], argTypes := #[37] )
    refine ⟨fun r wx hG hs hq hf => ?_, ?_⟩
    · have h4 : r 7 = .int .u64 (sz : Nat) := hf.1
      refine (if_pos rfl).symm ▸ ?_
      clear hs hq hf
      unfold gives
      go_simp
      refine (HON.out wx).mono ?_
      rintro e wy ⟨rfl, hb1⟩
      exact ⟨_, rfl, hb1, rfl⟩
    -- operation 6: Op.binOp BinOp.eql 3 (tmp 5) (tmp 8) 3
    refine ⟨fun r wx hG hs hq hf => ?_, ?_⟩
    · have h2 : r 5 = .int .i64 (m : Nat) := hf.1
      have h5 : r 8 = .int .i64 (po : Nat) := hf.2.1
      refine (if_pos rfl).symm ▸ ?_
      clear hs hq hf
      unfold gives
      go_simp
      exact ⟨Below.refl _ _, HDE.out⟩
    -- operation 7: Op.assign (tmp 9)
    refine ⟨fun r wx hG hs hq hf => ?_, ?_⟩
    · have h6 : r 9 = .bool (decide (m = po)) := hf.1
      refine (if_pos rfl).symm ▸ ?_
      clear hs hq hf
      unfold gives
      go_simp
      exact ⟨Below.refl _ _, rfl⟩
    exact trivial
  case hend =>
    intro u wz hG hfin
    have z7 : u 7 = .bool (decide (m = po)) := hfin 7 (by decide) (by kernel_rfl)
    clear hfin
    simp only [fill]
    go_simp
    go_wp2_with fail
    go_ret
    exact ⟨rfl, HBW.out.trans (hG.mono HBW.out.size)⟩

end Go.Proofs.YtdjmebfjanophaaDoor
