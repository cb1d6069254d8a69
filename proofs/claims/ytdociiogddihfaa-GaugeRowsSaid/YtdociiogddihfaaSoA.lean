/- A row of numbers that is sorted in place: swapRange, rotate. -/
import Derived.Test.YtdociiogddihfaaBase
import Derived.Test.YtdociiogddihfaaReg
import Derived.Test.YtdociiogddihfaaSoP
import Derived.Test.YtdociiogddihfaaProg
import Derived.Deep.QuietTactic
import Derived.BigQuiet
import Derived.LoopTactic
import Derived.Deep.DeepCutAuto
import Derived.Deep.CutBlock
import Derived.Shelf.RegionOpenPlain
import Derived.Deep.LoopGhost
namespace Go.Proofs.Ytdociiogddihfaa
open Go.RowKit

/-- Numbers as cells. -/
def sv (l : List Nat) : List Value := l.map fun (n : Nat) => .int .i64 (n : Int)
/-- A block that is a row of numbers. -/
abbrev SRow (w : World) (B : Nat) (xs : List Nat) : Prop := w.heap[B]? = some (.cells (sv xs).toArray 3 (0, 0))
theorem SRow.cell {w : World} {B : Nat} {xs : List Nat} (h : SRow w B xs) {i x : Nat} (hx : xs[i]? = some x) : w.cell? ⟨B, i, none⟩ = some (.int .i64 x) := by
  simp [World.cell?, h, sv, hx]
theorem SRow.free {w : World} {B : Nat} {xs : List Nat} (h : SRow w B xs) (i : Nat) : w.frozen? ⟨B, i, none⟩ = false := by simp [World.frozen?, h]
theorem SRow.keep {w w' : World} {B : Nat} {xs : List Nat} (h : SRow w B xs) (k : Below w.heap.size w w') : SRow w' B xs := (k.block B (Array.getElem?_eq_some_iff.1 h).1).trans h
theorem SRow.lt {w : World} {B : Nat} {xs : List Nat} (h : SRow w B xs) : B < w.heap.size := (Array.getElem?_eq_some_iff.1 h).1
theorem sv_set (xs : List Nat) (i x : Nat) : (sv xs).toArray.setIfInBounds i (.int .i64 x) = (sv (xs.set i x)).toArray := by
  apply Array.ext' 
  simp [sv, List.map_set]
theorem SRow.set {w : World} {B : Nat} {xs : List Nat} (h : SRow w B xs) (i x : Nat) : SRow (w.setCell ⟨B, i, none⟩ (.int .i64 x)) B (xs.set i x) := by
  show (w.setCell ⟨B, i, none⟩ (.int .i64 x)).heap[B]? = _
  rw [heap_setCell_same w B i _ _ _ h, sv_set]
theorem grown_set {w : World} {B : Nat} (i : Nat) (v : Value) : w.grownBy (w.setCell ⟨B, i, none⟩ v) (some B) := ⟨rfl, rfl, rfl, by simp [World.setCell], fun k _ hne => heap_setCell_other w ⟨B, i, none⟩ k v (fun e => hne (by rw [e]))⟩
theorem grown_drew {w w' : World} {r : Option Nat} (h : w.grownBy w' r) : w.grownBy w'.drew r := ⟨h.os, h.tape, h.output, h.size, h.block⟩
theorem grown_tr {w w1 w2 : World} {B : Nat} (h : w.grownBy w1 (some B)) (k : w1.grownBy w2 (some B)) : w.grownBy w2 (some B) := grown_trans h k (fun _ hj => .inl hj)
theorem grown_below {w w1 w2 : World} {r : Option Nat} (h : w.grownBy w1 r) (k : Below w1.heap.size w1 w2) : w.grownBy w2 r :=
  ⟨k.os.trans h.os, k.tape.trans h.tape, k.output.trans h.output, Nat.le_trans h.size k.size, fun i hi hne => (k.block i (Nat.lt_of_lt_of_le hi h.size)).trans (h.block i hi hne)⟩
/-- Two places turned. -/
theorem SRow.swap {w : World} {B : Nat} {xs : List Nat} (h : SRow w B xs) {i j x y : Nat} (hx : xs[i]? = some x) (hy : xs[j]? = some y) :
    SRow ((w.setCell ⟨B, i, none⟩ (.int .i64 y)).setCell ⟨B, j, none⟩ (.int .i64 x)).drew B (swapL xs i j) ∧ w.grownBy ((w.setCell ⟨B, i, none⟩ (.int .i64 y)).setCell ⟨B, j, none⟩ (.int .i64 x)).drew (some B) := by
  refine ⟨?_, grown_drew (grown_tr (grown_set i _) (grown_set j _))⟩
  have h2 := (h.set i y).set j x
  unfold swapL
  rw [hx, hy]
  exact h2
theorem SRow.cell2 {w : World} {B : Nat} {xs : List Nat} (h : SRow w B xs) {i j x : Nat} (hx : xs[j]? = some x) (y : Nat) : ∃ u, (w.setCell ⟨B, i, none⟩ (.int .i64 y)).cell? ⟨B, j, none⟩ = some u := by
  have h2 := h.set i y
  have hj := (List.getElem?_eq_some_iff.1 hx).1
  exact ⟨_, h2.cell (List.getElem?_eq_getElem (by simpa using hj))⟩
theorem get_app (a b : List Nat) (x : Nat) : (a ++ x :: b)[a.length]? = some x := by simp

set_option maxHeartbeats 8000000 in
set_option maxRecDepth 100000 in
/-- slices.swapRangeCmpFunc: two pieces of one length that lie apart, turned. -/
theorem swapRange_any (P U M V S : List Nat) (B a b n nn c : Nat) (cv : Value) (w : World) (hU : U.length = n) (hV : V.length = n) (ha : P.length = a) (hb : a + n + M.length = b) (hnn : (P ++ U ++ M ++ V ++ S).length = nn) (hbig : nn < 1000000) (hr : SRow w B (P ++ U ++ M ++ V ++ S)) :
    Calls Try.prog 69 #[.slice (some ⟨B, 0, none⟩) nn c, .int .i64 a, .int .i64 b, .int .i64 n, cv] w fun e w' => e = .returned (.tuple #[]) ∧ SRow w' B (P ++ V ++ M ++ U ++ S) ∧ w.grownBy w' (some B) := by
  simp only [List.length_append] at hnn
  have HH := Lib.hid (And.intro hU (And.intro hV (And.intro ha (And.intro hb hnn))))
  have HR := Lib.hid hr
  have hnb : n < 1000000 ∧ a < 1000000 ∧ b < 1000000 ∧ a + n ≤ b ∧ b + n ≤ nn := by omega
  clear hU hV ha hb hnn hr
  go_enter Try.func69, Try.ntmps69
  go_upto_region 1 with fail
  go_loopw [10] (fun s10 wr => ∃ (i : Nat) (U1 U2 V1 V2 : List Nat), s10 = .int .i64 i ∧ i ≤ n ∧ Hid (U = U1 ++ U2 ∧ V = V1 ++ V2 ∧ U1.length = i ∧ V1.length = i) ∧ Hid (SRow wr B (P ++ V1 ++ U2 ++ M ++ U1 ++ V2 ++ S)) ∧ Hid (w.grownBy wr (some B))) (fun i _ => n - (intOf i).toNat)
  case atStart => exact ⟨0, [], U, [], V, rfl, Nat.zero_le _, Lib.hid ⟨rfl, rfl, rfl, rfl⟩, Lib.hid (by simpa using HR.out), Lib.hid (World.grownBy.refl _ _)⟩
  case round =>
    obtain ⟨i, U1, U2, V1, V2, rfl, hi, HL, HS, HG⟩ := hrel
    by_cases hlt : i < n
    · have hz : (i : Int) < (n : Int) := by omega
      obtain ⟨x, U2', hU2⟩ : ∃ x t, U2 = x :: t := by
        cases U2 with
        | nil => exfalso; have h1 := HL.out.1; have h2 := HL.out.2.2.1; have h3 := HH.out.1; rw [h1] at h3; simp at h3; omega
        | cons x t => exact ⟨x, t, rfl⟩
      obtain ⟨y, V2', hV2⟩ : ∃ x t, V2 = x :: t := by
        cases V2 with
        | nil => exfalso; have h1 := HL.out.2.1; have h2 := HL.out.2.2.2; have h3 := HH.out.2.1; rw [h1] at h3; simp at h3; omega
        | cons x t => exact ⟨x, t, rfl⟩
      subst hU2 hV2
      have hxs : P ++ V1 ++ (x :: U2') ++ M ++ U1 ++ (y :: V2') ++ S = (P ++ V1) ++ x :: ((U2' ++ M ++ U1) ++ y :: (V2' ++ S)) := by simp
      have hl1 : (P ++ V1).length = a + i := by rw [List.length_append, HH.out.2.2.1, HL.out.2.2.2]
      have hl2 : (P ++ V1).length + 1 + (U2' ++ M ++ U1).length = b + i := by
        have h1 := HL.out.1; have h2 := HL.out.2.2.1; have h3 := HH.out.1; have h4 := HH.out.2.2.2.1
        rw [hl1]
        rw [h1] at h3
        simp at h3 ⊢
        omega
      have hrow := HS.out
      rw [hxs] at hrow
      have hx := get_app (P ++ V1) ((U2' ++ M ++ U1) ++ y :: (V2' ++ S)) x
      have hy : ((P ++ V1) ++ x :: ((U2' ++ M ++ U1) ++ y :: (V2' ++ S)))[b + i]? = some y := by
        rw [← hl2, show (P ++ V1) ++ x :: ((U2' ++ M ++ U1) ++ y :: (V2' ++ S)) = ((P ++ V1) ++ x :: (U2' ++ M ++ U1)) ++ y :: (V2' ++ S) by simp, show (P ++ V1).length + 1 + (U2' ++ M ++ U1).length = ((P ++ V1) ++ x :: (U2' ++ M ++ U1)).length by simp; omega]
        exact get_app _ _ _
      rw [hl1] at hx
      have hsw := hrow.swap hx hy
      have hswap := swap_far (P ++ V1) (U2' ++ M ++ U1) (V2' ++ S) x y
      rw [hl1] at hswap
      rw [hl1] at hl2
      rw [hl2] at hswap
      rw [hswap] at hsw
      have c1 := hrow.cell hx
      have c2 := hrow.cell hy
      have f1 := hrow.free (a + i)
      have f2 := hrow.free (b + i)
      obtain ⟨u, c3⟩ := hrow.cell2 (i := a + i) hy y
      have HSW := Lib.hid hsw
      clear hsw hrow hswap hx hy hl1 hl2 hxs
      obtain ⟨p, hp⟩ : ∃ p, p = a + i := ⟨_, rfl⟩
      obtain ⟨q, hq⟩ : ∃ q, q = b + i := ⟨_, rfl⟩
      have ep : (a : Int) + (i : Int) = (p : Int) := by omega
      have eq : (b : Int) + (i : Int) = (q : Int) := by omega
      have zp : IntKind.i64.wrap ((a : Int) + (i : Int)) = (p : Int) := by rw [IntKind.wrap_i64]; omega
      have zq : IntKind.i64.wrap ((b : Int) + (i : Int)) = (q : Int) := by rw [IntKind.wrap_i64]; omega
      have p0 : (0 : Int) ≤ (p : Int) := by omega
      have p1 : (p : Int) < (nn : Int) := by omega
      have q0 : (0 : Int) ≤ (q : Int) := by omega
      have q1 : (q : Int) < (nn : Int) := by omega
      rw [← hp] at c1 f1 c3 HSW
      rw [← hq] at c2 f2 c3 HSW
      have HPQ := Lib.hid (And.intro hp hq)
      clear hp hq ep eq
      go_upto_region 3 with fail
      have mixed : Try.prog.follows .mixedOrders = true := by kernel_rfl
      go_big_region_o
      clear c1 c2 c3 f1 f2
      generalize ((wr.setCell ⟨B, p, none⟩ (.int .i64 y)).setCell ⟨B, q, none⟩ (.int .i64 x)).drew = w3 at HSW ⊢
      go_wp2_with fail
      go_roundw
      case rel =>
        refine ⟨i + 1, U1 ++ [x], U2', V1 ++ [y], V2', by go_num, by omega, Lib.hid ⟨by rw [HL.out.1]; simp, by rw [HL.out.2.1]; simp, by have := HL.out.2.2.1; simp; omega, by have := HL.out.2.2.2; simp; omega⟩, Lib.hid ?_, Lib.hid (grown_tr HG.out HSW.out.2)⟩
        have h := HSW.out.1
        simpa using h
      case measure => simp [intOf]; omega
    · have hz : ¬ (i : Int) < (n : Int) := by omega
      go_wp2_with fail
      go_end0
      have h1 := HL.out
      have e1 : U2 = [] := by
        have h3 := HH.out.1; rw [h1.1] at h3; simp at h3
        exact List.eq_nil_of_length_eq_zero (by omega)
      have e2 : V2 = [] := by
        have h3 := HH.out.2.1; rw [h1.2.1] at h3; simp at h3
        exact List.eq_nil_of_length_eq_zero (by omega)
      subst e1 e2
      have h4 := HS.out
      simp only [List.append_nil] at h1 h4
      rw [h1.1, h1.2.1]
      exact ⟨rfl, by simpa using h4, HG.out⟩
end Go.Proofs.Ytdociiogddihfaa
