/- Contracts of the hash's small functions. · Contracts of the hash's small functions: a word of a block. · Rows of words in a world, and what the tables read as. -/
import Derived.Test.YtfibhmgjkooemaaDoorShaT
import Derived.Test.YtfibhmgjkooemaaDoorProg
import Derived.Outline
import Derived.Deep.QuietTactic
import Derived.BigQuiet
import Derived.StillTailTactics
import Derived.Laws.Rows
namespace Go.Proofs.YtfibhmgjkooemaaDoor
open Go.RowKit Sha

theorem or_same' (n P Q : Nat) (h : n < 4294967296) : bits .or .u32 ((n : Int) / (P : Int)) ((n : Int) * (Q : Int) % 4294967296) = ((n / P ||| n * Q % 4294967296 : Nat) : Int) := by
  have h1 : ((n : Int) * (Q : Int) % 4294967296) = ((n * Q % 4294967296 : Nat) : Int) := by rw [Int.natCast_emod, Int.natCast_mul]; rfl
  have h2 : ((n : Int) / (P : Int)) = ((n / P : Nat) : Int) := by rw [Int.natCast_ediv]
  rw [h1, h2, Go.u32_or_nat _ _ (Nat.lt_of_le_of_lt (Nat.div_le_self _ _) h) (by omega)]
theorem or_swap' (n P Q : Nat) (h : n < 4294967296) : bits .or .u32 ((n : Int) * (Q : Int) % 4294967296) ((n : Int) / (P : Int)) = ((n / P ||| n * Q % 4294967296 : Nat) : Int) := by
  have h1 : ((n : Int) * (Q : Int) % 4294967296) = ((n * Q % 4294967296 : Nat) : Int) := by rw [Int.natCast_emod, Int.natCast_mul]; rfl
  have h2 : ((n : Int) / (P : Int)) = ((n / P : Nat) : Int) := by rw [Int.natCast_ediv]
  rw [h1, h2, Go.u32_or_nat _ _ (by omega) (Nat.lt_of_le_of_lt (Nat.div_le_self _ _) h), Nat.or_comm]

theorem rot_any (x : UInt32) (k : Nat) (w : World) (hk : k ∈ [2, 6, 7, 11, 13, 17, 18, 19, 22, 25]) :
    Calls Tryd.prog 84 #[u x, .int .u64 (k : Nat)] w fun e w' => e = .returned (u (rr x k)) ∧ w' = w := by
  unfold u
  simp only [List.mem_cons, List.not_mem_nil, or_false] at hk
  rcases hk with rfl | rfl | rfl | rfl | rfl | rfl | rfl | rfl | rfl | rfl
  all_goals
    go_enter Tryd.func84, Tryd.ntmps84
    go_wp2_with fail
    go_ret
    refine ⟨ret_int ?_, rfl⟩
    rw [rr_nat]; exact or_same' x.toNat _ _ x.toNat_lt

theorem left_any (x : UInt32) (k : Nat) (w : World) (hk : k ∈ [2, 6, 7, 11, 13, 17, 18, 19, 22, 25]) :
    Calls Tryd.prog 87 #[u x, .int .i64 (-(k : Nat))] w fun e w' => e = .returned (u (rr x k)) ∧ w' = w := by
  unfold u
  simp only [List.mem_cons, List.not_mem_nil, or_false] at hk
  have e2 : bits BinOp.and IntKind.u64 (IntKind.u64.wrap (-2)) 31 = 30 := by kernel_rfl
  have e6 : bits BinOp.and IntKind.u64 (IntKind.u64.wrap (-6)) 31 = 26 := by kernel_rfl
  have e7 : bits BinOp.and IntKind.u64 (IntKind.u64.wrap (-7)) 31 = 25 := by kernel_rfl
  have e11 : bits BinOp.and IntKind.u64 (IntKind.u64.wrap (-11)) 31 = 21 := by kernel_rfl
  have e13 : bits BinOp.and IntKind.u64 (IntKind.u64.wrap (-13)) 31 = 19 := by kernel_rfl
  have e17 : bits BinOp.and IntKind.u64 (IntKind.u64.wrap (-17)) 31 = 15 := by kernel_rfl
  have e18 : bits BinOp.and IntKind.u64 (IntKind.u64.wrap (-18)) 31 = 14 := by kernel_rfl
  have e19 : bits BinOp.and IntKind.u64 (IntKind.u64.wrap (-19)) 31 = 13 := by kernel_rfl
  have e22 : bits BinOp.and IntKind.u64 (IntKind.u64.wrap (-22)) 31 = 10 := by kernel_rfl
  have e25 : bits BinOp.and IntKind.u64 (IntKind.u64.wrap (-25)) 31 = 7 := by kernel_rfl
  rcases hk with rfl | rfl | rfl | rfl | rfl | rfl | rfl | rfl | rfl | rfl
  all_goals
    go_enter Tryd.func87, Tryd.ntmps87
    go_wp2_with fail
    go_ret
    refine ⟨ret_int ?_, rfl⟩
    rw [rr_nat]; exact or_swap' x.toNat _ _ x.toNat_lt
end Go.Proofs.YtfibhmgjkooemaaDoor
namespace Go.Proofs.YtfibhmgjkooemaaDoor
open Go.RowKit Sha

theorem or4 (a b c d : Nat) (h0 : a < 256) (h1 : b < 256) (h2 : c < 256) (h3 : d < 256) :
    bits .or .u32 (bits .or .u32 (bits .or .u32 ((a : Int) * 16777216) ((b : Int) * 65536)) ((c : Int) * 256)) (d : Int) = ((UInt32.ofNat (a * 16777216 + b * 65536 + c * 256 + d)).toNat : Int) := by
  have e1 : ((a : Int) * 16777216) = ((a * 16777216 : Nat) : Int) := by omega
  have e2 : ((b : Int) * 65536) = ((b * 65536 : Nat) : Int) := by omega
  have e3 : ((c : Int) * 256) = ((c * 256 : Nat) : Int) := by omega
  rw [e1, e2, e3, Go.u32_or_nat _ _ (by omega) (by omega), Go.nat_join 24 _ _ (by omega) (by omega), Go.u32_or_nat _ _ (by omega) (by omega), Go.nat_join 16 _ _ (by omega) (by omega),
    Go.u32_or_nat _ _ (by omega) (by omega), Go.nat_join 8 _ _ (by omega) (by omega), UInt32.toNat_ofNat', Nat.mod_eq_of_lt (by omega)]

set_option maxHeartbeats 1000000 in
theorem word_any (b : Nat) (off n c : Nat) (x0 x1 x2 x3 : UInt8) (w : World) (hn : 4 ≤ n)
    (c0 : w.cell? ⟨b, off, none⟩ = some (.int .u8 x0.toNat)) (c1 : w.cell? ⟨b, off + 1, none⟩ = some (.int .u8 x1.toNat)) (c2 : w.cell? ⟨b, off + 2, none⟩ = some (.int .u8 x2.toNat)) (c3 : w.cell? ⟨b, off + 3, none⟩ = some (.int .u8 x3.toNat)) :
    Calls Tryd.prog 86 #[.slice (some ⟨b, off, none⟩) n c] w fun e w' => e = .returned (u (UInt32.ofNat (x0.toNat * 16777216 + x1.toNat * 65536 + x2.toNat * 256 + x3.toNat))) ∧ ∃ m, w' = w.drewN m := by
  have h0 : (0 : Int) < n := by omega
  have h1 : (1 : Int) < n := by omega
  have h2 : (2 : Int) < n := by omega
  have h3 : (3 : Int) < n := by omega
  have l0 := x0.toNat_lt
  have l1 := x1.toNat_lt
  have l2 := x2.toNat_lt
  have l3 := x3.toNat_lt
  go_enter Tryd.func86, Tryd.ntmps86
  go_wp2_with fail
  go_quiet (fail)
  go_wp2_with fail
  go_ret
  refine ⟨ret_int ?_, _, rfl⟩
  exact or4 _ _ _ _ l0 l1 l2 l3
end Go.Proofs.YtfibhmgjkooemaaDoor
namespace Go.Proofs.YtfibhmgjkooemaaDoor
open Go.RowKit Sha

theorem left_z (x : UInt32) (z : Int) (w : World) (hz : z ∈ [-2, -6, -7, -11, -13, -17, -18, -19, -22, -25]) :
    Calls Tryd.prog 87 #[.int .u32 x.toNat, .int .i64 z] w fun e w' => e = .returned (.int .u32 (rr x (-z).toNat).toNat) ∧ w' = w := by
  simp only [List.mem_cons, List.not_mem_nil, or_false] at hz
  rcases hz with rfl | rfl | rfl | rfl | rfl | rfl | rfl | rfl | rfl | rfl
  · exact left_any x 2 w (by decide)
  · exact left_any x 6 w (by decide)
  · exact left_any x 7 w (by decide)
  · exact left_any x 11 w (by decide)
  · exact left_any x 13 w (by decide)
  · exact left_any x 17 w (by decide)
  · exact left_any x 18 w (by decide)
  · exact left_any x 19 w (by decide)
  · exact left_any x 22 w (by decide)
  · exact left_any x 25 w (by decide)
theorem rot_z (x : UInt32) (z : Int) (w : World) (hz : z ∈ [2, 6, 7, 11, 13, 17, 18, 19, 22, 25]) :
    Calls Tryd.prog 84 #[.int .u32 x.toNat, .int .u64 z] w fun e w' => e = .returned (.int .u32 (rr x z.toNat).toNat) ∧ w' = w := by
  simp only [List.mem_cons, List.not_mem_nil, or_false] at hz
  rcases hz with rfl | rfl | rfl | rfl | rfl | rfl | rfl | rfl | rfl | rfl
  · exact rot_any x 2 w (by decide)
  · exact rot_any x 6 w (by decide)
  · exact rot_any x 7 w (by decide)
  · exact rot_any x 11 w (by decide)
  · exact rot_any x 13 w (by decide)
  · exact rot_any x 17 w (by decide)
  · exact rot_any x 18 w (by decide)
  · exact rot_any x 19 w (by decide)
  · exact rot_any x 22 w (by decide)
  · exact rot_any x 25 w (by decide)
theorem k2 : (-(-2 : Int)).toNat = 2 := rfl
theorem k6 : (-(-6 : Int)).toNat = 6 := rfl
theorem k7 : (-(-7 : Int)).toNat = 7 := rfl
theorem one_eq (h e f g k x : UInt32) :
    (((h.toNat : Int) + bits .xor .u32 (bits .xor .u32 ((rr e 6).toNat : Int) ((rr e 11).toNat : Int)) ((rr e 25).toNat : Int) + bits .xor .u32 (g.toNat : Int) (bits .and .u32 (e.toNat : Int) (bits .xor .u32 (f.toNat : Int) (g.toNat : Int))) + (k.toNat : Int)) % 4294967296 + (x.toNat : Int)) % 4294967296 = ((h + big1 e + ch e f g + k + x).toNat : Int) := by
  rw [← ch_prog]
  simp only [i_xor, i_and, big1, UInt32.toNat_add]
  omega
theorem a_eq (d h e f g k x a b c : UInt32) :
    ((h.toNat : Int) + ((big1 e).toNat : Int) + ((ch e f g).toNat : Int) + (k.toNat : Int) + (x.toNat : Int) + (bits .xor .u32 (bits .xor .u32 ((rr a 2).toNat : Int) ((rr a 13).toNat : Int)) ((rr a 22).toNat : Int) + bits .or .u32 (bits .and .u32 (a.toNat : Int) (b.toNat : Int)) (bits .and .u32 (c.toNat : Int) (bits .or .u32 (a.toNat : Int) (b.toNat : Int))))) % 4294967296 = (((rnd ⟨a, b, c, d, e, f, g, h⟩ k x).a).toNat : Int) := by
  simp only [rnd]
  rw [← maj_prog]
  simp only [i_xor, i_and, i_or, big0, UInt32.toNat_add]
  omega
theorem e_eq (d h e f g k x a b c : UInt32) :
    ((d.toNat : Int) + ((h.toNat : Int) + ((big1 e).toNat : Int) + ((ch e f g).toNat : Int) + (k.toNat : Int) + (x.toNat : Int))) % 4294967296 = (((rnd ⟨a, b, c, d, e, f, g, h⟩ k x).e).toNat : Int) := by
  simp only [rnd, UInt32.toNat_add]
  omega
theorem x_eq (x y x9 z : UInt32) :
    ((x.toNat : Int) + bits .xor .u32 (bits .xor .u32 ((rr y 7).toNat : Int) ((rr y 18).toNat : Int)) ((y.toNat : Int) / 8) + (x9.toNat : Int) + bits .xor .u32 (bits .xor .u32 ((rr z 17).toNat : Int) ((rr z 19).toNat : Int)) ((z.toNat : Int) / 1024)) % 4294967296 = ((x + sml0 y + x9 + sml1 z).toNat : Int) := by
  have e8 : ((y.toNat : Int) / 8) = ((sh y 3).toNat : Int) := by rw [sh_nat, Int.natCast_ediv]; rfl
  have e10 : ((z.toNat : Int) / 1024) = ((sh z 10).toNat : Int) := by rw [sh_nat, Int.natCast_ediv]; rfl
  rw [e8, e10]
  simp only [i_xor, sml0, sml1, UInt32.toNat_add]
  omega
/-- A row of n words. -/
def ws (f : Nat → UInt32) (n : Nat) : Array Value := ((List.range n).map fun j => u (f j)).toArray
theorem ws_size (f : Nat → UInt32) (n : Nat) : (ws f n).size = n := by simp [ws]
theorem ws_get (f : Nat → UInt32) (n i : Nat) (h : i < n) : (ws f n)[i]? = some (u (f i)) := by simp [ws, h]
theorem ws_congr (f g : Nat → UInt32) (n : Nat) (h : ∀ j, j < n → f j = g j) : ws f n = ws g n := by
  apply Array.ext_getElem?
  intro i
  by_cases hi : i < n
  · rw [ws_get _ _ _ hi, ws_get _ _ _ hi, h i hi]
  · rw [Array.getElem?_eq_none (by simp [ws_size]; omega), Array.getElem?_eq_none (by simp [ws_size]; omega)]
theorem ws_set (f g : Nat → UInt32) (n k : Nat) (x : UInt32) (hk : g k = x) (h : ∀ j, j < n → j ≠ k → g j = f j) : (ws f n).setIfInBounds k (u x) = ws g n := by
  apply Array.ext_getElem?
  intro i
  by_cases hi : i < n
  · rw [ws_get _ _ _ hi, Array.getElem?_setIfInBounds]
    by_cases hik : k = i
    · subst hik; simp [ws_size, hi, hk]
    · rw [if_neg hik, ws_get _ _ _ hi, h i hi (fun e => hik e.symm)]
  · have h1 : n ≤ i := by omega
    rw [Array.getElem?_eq_none (by simp [ws_size]; omega), Array.getElem?_eq_none (by simp [ws_size]; omega)]

theorem ws_set_app (f g : Nat → UInt32) (n k : Nat) (x : UInt32) (rest : Array Value) (hkn : k < n) (hk : g k = x) (h : ∀ j, j < n → j ≠ k → g j = f j) : (ws f n ++ rest).setIfInBounds k (u x) = ws g n ++ rest := by
  rw [Array.setIfInBounds_append_left (by rw [ws_size]; exact hkn), ws_set f g n k x hk h]
theorem ws_get_app (f : Nat → UInt32) (n i : Nat) (rest : Array Value) (h : i < n) : (ws f n ++ rest)[i]? = some (u (f i)) := by
  rw [Array.getElem?_append_left (by rw [ws_size]; exact h), ws_get _ _ _ h]
theorem l_get (v : W8) (i : Nat) (h : i < 8) : (#[Value.int .u32 v.a.toNat, .int .u32 v.b.toNat, .int .u32 v.c.toNat, .int .u32 v.d.toNat, .int .u32 v.e.toNat, .int .u32 v.f.toNat, .int .u32 v.g.toNat, .int .u32 v.h.toNat] : Array Value)[i]? = some (.int .u32 (v.l.getD i 0).toNat) := by
  match i, h with
  | 0, _ => rfl
  | 1, _ => rfl
  | 2, _ => rfl
  | 3, _ => rfl
  | 4, _ => rfl
  | 5, _ => rfl
  | 6, _ => rfl
  | 7, _ => rfl

theorem run_index_w (A : Array Value) (i : Nat) (v : Value) (w : World) (hi : i < 8) (h : A[i]? = some v) :
    (Instr.index 86 (.agg A) (.int .i64 (i : Nat))).run Tryd.prog w = .ok v w := by
  simp [Instr.index, asIntOf, part, Sem.run_bind, Tryd.runUnderlying86, Tryd.sizeOf85, Tryd.isAgg85, h, hi]

theorem grown_set {w w' : World} {g : Nat} (h : w.grownBy w' (some g)) (i : Nat) (v : Value) : w.grownBy (w'.setCell ⟨g, i, none⟩ v) (some g) :=
  ⟨h.os, h.tape, h.output, by have := h.size; simpa [World.setCell] using this, fun k hk hne => (heap_setCell_other w' ⟨g, i, none⟩ k v (fun e => hne (by rw [e]))).trans (h.block k hk hne)⟩
theorem grown_drew {w w' : World} {r : Option Nat} (h : w.grownBy w' r) : w.grownBy w'.drew r := ⟨h.os, h.tape, h.output, h.size, h.block⟩

/-- The tables, as the program lays them. -/
structure Tabs (w : World) : Prop where
  begin : ∀ j, j < 8 → w.cell? ⟨0, j, none⟩ = some (u (begin0.l.getD j 0))
  round : ∀ j, j < 64 → w.cell? ⟨4, j, none⟩ = some (u (kk j))
/-- The reference's table. -/
structure TabsR (w : World) : Prop extends Tabs w where
  cons : ∀ j, j < 64 → w.cell? ⟨1, j, none⟩ = some (u (kk j))

theorem Tabs.size {w : World} (h : Tabs w) : max 0 4 + 1 ≤ w.heap.size := by
  have h1 : 0 < w.heap.size := World.block_lt_of_cell? w _ (h.begin 0 (by omega))
  have h2 : 4 < w.heap.size := World.block_lt_of_cell? w _ (h.round 0 (by omega))
  omega
theorem Tabs.keep {w w' : World} (h : Tabs w) {r : Option Nat} (k : w.grownBy w' r) (hr : ∀ g, r = some g → max 0 4 + 1 ≤ g) : Tabs w' where
  begin j hj := by
    rw [← h.begin j hj]
    exact World.cell?_of_block (k.block 0 (by have := h.size; omega) (fun e => by have := hr 0 e.symm; omega))
  round j hj := by
    rw [← h.round j hj]
    exact World.cell?_of_block (k.block 4 (by have := h.size; omega) (fun e => by have := hr 4 e.symm; omega))
theorem below_grown {w w' : World} (h : Below w.heap.size w w') (r : Option Nat) : w.grownBy w' r := ⟨h.os, h.tape, h.output, h.size, fun k hk _ => h.block k hk⟩
theorem Tabs.keepB {w w' : World} (h : Tabs w) (k : Below w.heap.size w w') : Tabs w' := h.keep (below_grown k none) (by simp)
theorem TabsR.keepB {w w' : World} (h : TabsR w) (k : Below w.heap.size w w') : TabsR w' where
  toTabs := h.toTabs.keepB k
  cons j hj := by
    rw [← h.cons j hj]
    exact k.cell (p := ⟨1, j, none⟩) (World.block_lt_of_cell? w _ (h.cons j hj))

theorem below_drewN (w : World) (n : Nat) : Below w.heap.size w (w.drewN n) := by
  induction n with
  | zero => exact Below.refl _ _
  | succ n ih => exact ih.drew
/-- A word back and a word of the state. -/
def off8 (s : W8) (j : Nat) : UInt32 := (s.sub begin0).l.getD j 0
theorem off_add (s : W8) (j : Nat) (h : j < 8) : begin0.l.getD j 0 + off8 s j = s.l.getD j 0 := by
  unfold off8
  have : begin0.add (s.sub begin0) = s := W8.add_sub s begin0
  conv => rhs; rw [← this]
  match j, h with
  | 0, _ => rfl
  | 1, _ => rfl
  | 2, _ => rfl
  | 3, _ => rfl
  | 4, _ => rfl
  | 5, _ => rfl
  | 6, _ => rfl
  | 7, _ => rfl
theorem off_step (s v : W8) (j : Nat) (h : j < 8) : off8 s j + v.l.getD j 0 = off8 (s.add v) j := by
  unfold off8
  rw [← W8.sub_add]
  match j, h with
  | 0, _ => rfl
  | 1, _ => rfl
  | 2, _ => rfl
  | 3, _ => rfl
  | 4, _ => rfl
  | 5, _ => rfl
  | 6, _ => rfl
  | 7, _ => rfl
theorem and15 (n : Int) : bits .and .i64 n 15 = n % 16 := by
  have hm : (BitVec.ofInt 64 15).toNat = 2 ^ 4 - 1 := by decide
  have key : (BitVec.ofInt 64 n &&& BitVec.ofInt 64 15).toNat = (n % ((2 ^ 64 : Nat) : Int)).toNat % 2 ^ 4 := by
    rw [BitVec.toNat_and, BitVec.toNat_ofInt, hm, Nat.and_two_pow_sub_one_eq_mod]
  show IntKind.i64.wrap ((BitVec.ofInt 64 n &&& BitVec.ofInt 64 15).toNat : Nat) = n % 16
  rw [key, IntKind.wrap_i64]
  omega
end Go.Proofs.YtfibhmgjkooemaaDoor
