/- The reference's Reader: Raw (gen/rfw.py). -/
import Derived.Test.YtpdlocdlnoibbaaRfN
import Derived.Test.YtpdlocdlnoibbaaRdw
namespace Go.Proofs.Ytpdlocdlnoibbaa
open Go.RowKit

/-- What the reference's Raw hands back, and what it leaves. -/
def RfRaw (w w' : World) (q : Nat) (a : Option Addr) (c : Nat) (B : List UInt8) (pos : Nat) (no : Int) (R : Int × List UInt8 × List UInt8) (e : Ending) : Prop :=
  w.grownBy w' (some q) ∧ if no = 0 then
    (if R.1 = 0 then (∃ a' c', e = .returned (.tuple #[.slice a' R.2.1.length c', .int .i64 0]) ∧ Rd w' 1 (.slice a' R.2.1.length c') R.2.1.length (bv R.2.1) ∧ ∀ j, (Value.slice a' R.2.1.length c').ownBlock = some j → w.heap.size ≤ j ∧ j < w'.heap.size) ∧ ∃ pos', Rfr w' q a c B pos' 0 ∧ B.drop pos' = R.2.2 else e = .returned (.tuple #[.slice none 0 0, .int .i64 R.1]) ∧ Rfr w' q a c B pos R.1)
    else e = .returned (.tuple #[.slice none 0 0, .int .i64 no]) ∧ Rfr w' q a c B pos no
/-- What an append to a fresh row may change. -/
def kA (B0 : Nat) (j : Nat) (w w' : World) : Prop := (j ≠ 17 → Below w.heap.size w w') ∧ Below B0 w w'
theorem kA_refl (B0 j : Nat) (w : World) : kA B0 j w w := ⟨fun _ => Below.refl _ _, Below.refl _ _⟩
theorem kA_of {B0 j : Nat} {w w' : World} (h : Below w.heap.size w w') (hB : B0 ≤ w.heap.size) : kA B0 j w w' := ⟨fun _ => h, h.mono hB⟩
theorem own_emptyR {w : World} {B k : Nat} {e : TypeId} (h : w.heap[k]? = some (.cells #[] e (0, 0))) (hB : B ≤ k) : w.ownsRow B e 1 (.slice (some ⟨k, 0, none⟩) 0 0) 0 [] :=
  ⟨rfl, .inr ⟨k, 0, #[], rfl, hB, h, Nat.le_refl _, by unfold maxLen; omega, rfl, rfl⟩⟩
theorem own_formq {w : World} {B : Nat} {e : TypeId} {size : Nat} {v : Value} {n : Nat} {xs : List Value} (h : w.ownsRow B e size v n xs) : ∃ a c, v = .slice a n c := by
  obtain ⟨hl, ⟨rfl, rfl⟩ | ⟨g, cap, cur, hv, _⟩⟩ := h
  · exact ⟨_, _, rfl⟩
  · exact ⟨_, _, hv⟩
/-- Some bytes out of a slice's middle. -/
theorem slice_midB {w : World} {a : Option Addr} {n c : Nat} {T : List UInt8} (p N pe : Nat) (hpe : pe = p + N) (h : Rd w 1 (.slice a n c) n (bv T)) (hT : n = T.length) (hN : p + N ≤ n) (hb : n ≤ 140737488355328) :
    ∃ a3 c3, (∀ wx : World, (Instr.slice 22 (.slice a n c) (some (.int .i64 p)) (some (.int .i64 pe)) none).run Try.prog wx = .ok (.slice a3 N c3) wx) ∧ Rd w 1 (.slice a3 N c3) N (bv ((T.drop p).take N)) := by
  subst hpe
  have hxl : (bv ((T.drop p).take N)).length = N := by rw [bv_length, List.length_take, List.length_drop]; omega
  by_cases hn0 : n = 0
  · subst hn0
    obtain rfl : N = 0 := by omega
    obtain rfl : p = 0 := by omega
    obtain rfl : T = [] := List.eq_nil_of_length_eq_zero (by omega)
    have hrun : ∀ wx : World, (Instr.slice 22 (.slice a 0 c) (some (.int .i64 (0 : Nat))) (some (.int .i64 ((0 + 0 : Nat) : Int))) none).run Try.prog wx = .ok (.slice a 0 c) wx := fun wx => by
      cases a with
      | none => simp [go_sem]
      | some ad => simp [go_sem, Addr.add]
    exact ⟨a, c, hrun, by simpa using h⟩
  · obtain ⟨b, off, c', hv, hc, hcell⟩ := h.at (by omega)
    simp only [Value.slice.injEq] at hv
    obtain ⟨rfl, _, rfl⟩ := hv
    have e1 : ((p + N : Nat) : Int) - (p : Int) = (N : Int) := by omega
    by_cases hcN : c = p
    · subst hcN
      obtain rfl : N = 0 := by omega
      refine ⟨some ⟨b, off, none⟩, 0, fun wx => ?_, ⟨by rw [hxl], by simp [bv], .inr ⟨_, _, rfl, by omega, fun j u hu => by simp [bv] at hu⟩⟩⟩
      have e2 : n = c := by omega
      subst e2
      simp [go_sem]
    · refine ⟨some ⟨b, off + p, none⟩, c - p, fun wx => ?_, ⟨by rw [hxl, Nat.mul_one], bv_one _, .inr ⟨_, _, rfl, by omega, fun j u hu => ?_⟩⟩⟩
      · simp [go_sem, hcN]
        have e3 : ((p : Int) + (N : Int)).toNat = p + N := by omega
        rw [if_pos (by omega), if_pos (by omega), e3]
        simp
      · have hb2 : bv ((T.drop p).take N) = ((bv T).drop p).take N := by simp [bv, List.map_take, List.map_drop]
        rw [hb2] at hu
        have hj : j < N := by
          have := (List.getElem?_eq_some_iff.1 hu).1
          rw [List.length_take] at this; omega
        rw [List.getElem?_take_of_lt hj, List.getElem?_drop] at hu
        have := hcell (p + j) u hu
        rw [Addr.add_lit]
        rwa [show off + p + j = off + (p + j) by omega]

/-- What each operation hands on. -/
def rfRaw8F (q n c pos N : Nat) (a : Option Addr) : Nat → Value → World → Prop
  | 0, v, _ => v = .int .u64 N
  | 1, v, _ => v = .pointer (some ⟨q, 0, none⟩)
  | 2, v, _ => v = .pointer (some ⟨q, 0, none⟩)
  | 3, v, _ => v = .pointer (some ⟨q, 0, none⟩)
  | 4, v, _ => v = .slice a n c
  | 5, v, _ => v = .int .i64 n
  | 6, v, _ => v = .pointer (some ⟨q, 0, none⟩)
  | 7, v, _ => v = .pointer (some ⟨q, 0, none⟩)
  | 8, v, _ => v = .pointer (some ⟨q, 1, none⟩)
  | 9, v, _ => v = .int .i64 pos
  | 10, v, _ => v = .int .i64 (n - pos : Nat)
  | 11, v, _ => v = .int .u64 (n - pos : Nat)
  | 12, v, _ => v = .bool true
  | _, _, _ => True

/-- What each operation hands on. -/
def rfRawF (q n c pos N pe : Nat) (a a3 : Option Addr) (c3 B0 : Nat) (xs : List UInt8) : Nat → Value → World → Prop
  | 0, v, w => ∃ g, v = .slice (some ⟨g, 0, none⟩) 0 0 ∧ B0 ≤ g ∧ w.heap[g]? = some (.cells #[] 5 (0, 0))
  | 1, v, _ => v = .pointer (some ⟨q, 0, none⟩)
  | 2, v, _ => v = .pointer (some ⟨q, 0, none⟩)
  | 3, v, _ => v = .pointer (some ⟨q, 0, none⟩)
  | 4, v, _ => v = .slice a n c
  | 5, v, _ => v = .pointer (some ⟨q, 0, none⟩)
  | 6, v, _ => v = .pointer (some ⟨q, 0, none⟩)
  | 7, v, _ => v = .pointer (some ⟨q, 1, none⟩)
  | 8, v, _ => v = .int .i64 pos
  | 9, v, _ => v = .pointer (some ⟨q, 0, none⟩)
  | 10, v, _ => v = .pointer (some ⟨q, 0, none⟩)
  | 11, v, _ => v = .pointer (some ⟨q, 1, none⟩)
  | 12, v, _ => v = .int .i64 pos
  | 13, v, _ => v = .int .u64 N
  | 14, v, _ => v = .int .i64 N
  | 15, v, _ => v = .int .i64 pe
  | 16, v, _ => v = .slice a3 N c3
  | 17, v, w => w.ownsRow B0 5 1 v N (bv xs)
  | 18, v, w => w.ownsRow B0 5 1 v N (bv xs)
  | _, _, _ => True

/-- What each operation hands on. -/
def rfRaw8G (q n c pos N : Nat) (a : Option Addr) : Nat → Value → World → Prop
  | 0, v, _ => v = .int .u64 N
  | 1, v, _ => v = .pointer (some ⟨q, 0, none⟩)
  | 2, v, _ => v = .pointer (some ⟨q, 0, none⟩)
  | 3, v, _ => v = .pointer (some ⟨q, 0, none⟩)
  | 4, v, _ => v = .slice a n c
  | 5, v, _ => v = .int .i64 n
  | 6, v, _ => v = .pointer (some ⟨q, 0, none⟩)
  | 7, v, _ => v = .pointer (some ⟨q, 0, none⟩)
  | 8, v, _ => v = .pointer (some ⟨q, 1, none⟩)
  | 9, v, _ => v = .int .i64 pos
  | 10, v, _ => v = .int .i64 (n - pos : Nat)
  | 11, v, _ => v = .int .u64 (n - pos : Nat)
  | 12, v, _ => v = .bool false
  | _, _, _ => True

set_option maxHeartbeats 8000000 in
set_option maxRecDepth 100000 in
theorem rRaw_any (w : World) (q : Nat) (a : Option Addr) (c : Nat) (B : List UInt8) (pos0 : Nat) (no : Int) (most : Int) (h : Rfr w q a c B pos0 no) (hl : B.length ≤ 140737488355328) (hm1 : -9223372036854775808 ≤ most) (hm2 : most < 9223372036854775808) :
    Calls Try.prog 22 #[.pointer (some ⟨q, 0, none⟩), .int .i64 most] w fun e w' => RfRaw w w' q a c B pos0 no (rdR most (B.drop pos0)) e := by
  have hc1 := h.cells.2.2.1
  have hnum := rNum_any w q a c B pos0 no h hl
  have HP := Lib.hid h.le
  obtain ⟨R, hR⟩ : ∃ R, R = rdN (B.drop pos0) := ⟨_, rfl⟩
  rw [← hR] at hnum
  obtain ⟨RR, hRR⟩ : ∃ RR, RR = rdR most (B.drop pos0) := ⟨_, rfl⟩
  rw [← hRR]
  rw [rdR, ← hR] at hRR
  clear h
  go_enter Try.func22, Try.ntmps22
  go_wp2_with fail
  refine hnum.mono ?_
  rintro e w1 ⟨hg1, hres⟩
  by_cases hno : no = 0
  · subst hno
    rw [if_pos rfl] at hres
    by_cases hR0 : R.1 = 0
    · rw [if_pos hR0] at hres
      obtain ⟨rfl, pos, hr1, hdr⟩ := hres
      rw [if_neg (fun h => h hR0), ← hdr] at hRR
      obtain ⟨N, hN⟩ : ∃ N, N = R.2.1 := ⟨_, rfl⟩
      have hN64 : N < 18446744073709551616 := by
        have := rdN_ok (B.drop pos0) N R.2.2 (by rw [← hR, hN, ← hR0])
        exact this.1
      rw [← hN] at hRR ⊢
      rw [List.length_drop] at hRR
      obtain ⟨n, hn⟩ : ∃ n, n = B.length := ⟨_, rfl⟩
      have HN := Lib.hid hn
      rw [← hn] at hRR hl
      have hle : pos ≤ n := by rw [hn]; exact hr1.le
      have HC := Lib.hid hr1.cells
      rw [← hn] at HC
      have HH := Lib.hid (And.intro hr1 hg1)
      clear hr1 hg1 hnum hdr hR0 hN hn hR hc1
      by_cases hbad : max most 0 < (N : Int)
      · rw [if_pos hbad] at hRR
        have HRF := Lib.hid hRR
        have hf := rfail_any w1 q a c B pos 0 HH.out.1 4 pos0 HP.out
        rcases Int.lt_or_le most 0 with hm | hm
        · have z1 : most < 0 := hm
          have z2 : ¬ (0 ≤ most) := by omega
          have z3 : 0 < N := by omega
          have z4 : (0 : Int) < (N : Int) := by omega
          clear hRR hbad
          go_wp2_with fail
          refine hf.mono ?_
          rintro e w5 ⟨rfl, hr5, hg5⟩
          go_wp2_with fail
          go_ret2
          refine ⟨grown_trans HH.out.2 hg5 (fun j hj => .inl hj), ?_⟩
          rw [if_pos rfl, HRF.out, if_neg (by simp)]
          exact ⟨rfl, hr5⟩
        · obtain ⟨M, hM⟩ : ∃ M : Nat, (M : Int) = most := ⟨most.toNat, by omega⟩
          subst hM
          have z1 : ¬ ((M : Int) < 0) := by omega
          have z0 : IntKind.u64.wrap (M : Int) = (M : Int) := IntWalk.u64_in _ (by omega)
          have z3 : M < N := by omega
          have z4 : (M : Int) < (N : Int) := by omega
          have z5 : (0 : Int) ≤ (M : Int) := by omega
          clear hRR hbad
          go_wp2_with fail
          refine hf.mono ?_
          rintro e w5 ⟨rfl, hr5, hg5⟩
          go_wp2_with fail
          go_ret2
          refine ⟨grown_trans HH.out.2 hg5 (fun j hj => .inl hj), ?_⟩
          rw [if_pos rfl, HRF.out, if_neg (by simp)]
          exact ⟨rfl, hr5⟩
      · rw [if_neg hbad] at hRR
        obtain ⟨w2, rfl⟩ : ∃ w2 : World, w2 = w1 := ⟨_, rfl⟩
        rcases Int.lt_or_le most 0 with hm | hm
        · have z1 : most < 0 := hm
          have z2 : ¬ (0 ≤ most) := by omega
          have z3 : ¬ (0 < N) := by omega
          have z4 : ¬ ((0 : Int) < (N : Int)) := by omega
          clear hbad
          go_wp2_with fail
          by_cases hlen : n - pos < N
          · rw [if_pos hlen] at hRR
            have HRF := Lib.hid hRR
            clear hRR
            refine wp_region_steps [some 39, some 40, some 41, some 42, some 43, some 44, some 45, some 46, some 47, some 48, some 49, some 50, some 51] [] (rfRaw8F q n c pos N a) (fun _ wx wy => Below wx.heap.size wx wy) (fun wx => Below w2.heap.size w2 wx) (by kernel_rfl) (by kernel_rfl) rfl (by kernel_rfl) (Below.refl _ _).drew (fun _ wx => Below.refl _ _) (fun _ wx wy h k => h.trans (k.mono h.size)) ?hF ?hstep ?hend
            case hF =>
              exact ⟨fun _ _ _ _ _ _ h => h, ⟨fun _ _ _ _ _ _ h => h, ⟨fun _ _ _ _ _ _ h => h, ⟨fun _ _ _ _ _ _ h => h, ⟨fun _ _ _ _ _ _ h => h, ⟨fun _ _ _ _ _ _ h => h, ⟨fun _ _ _ _ _ _ h => h, ⟨fun _ _ _ _ _ _ h => h, ⟨fun _ _ _ _ _ _ h => h, ⟨fun _ _ _ _ _ _ h => h, ⟨fun _ _ _ _ _ _ h => h, ⟨fun _ _ _ _ _ _ h => h, ⟨fun _ _ _ _ _ _ h => h, trivial⟩⟩⟩⟩⟩⟩⟩⟩⟩⟩⟩⟩⟩
            case hstep =>
              -- operation 0: Op.move (tmp 7)
              refine ⟨fun r wx hG hs hq hf => ?_, ?_⟩
              · have e7 : r 7 = .int .u64 N := hs 7 rfl
                refine (if_pos rfl).symm ▸ ?_
                clear hs hq hf
                unfold gives
                go_simp
                exact ⟨Below.refl _ _, rfl⟩
              -- operation 1: Op.move (tmp 0)
              refine ⟨fun r wx hG hs hq hf => ?_, ?_⟩
              · have e0 : r 0 = .pointer (some ⟨q, 0, none⟩) := hs 0 rfl
                refine (if_pos rfl).symm ▸ ?_
                clear hs hq hf
                unfold gives
                go_simp
                exact ⟨Below.refl _ _, rfl⟩
              -- operation 2: Op.nilCheck (tmp 40)
              refine ⟨fun r wx hG hs hq hf => ?_, ?_⟩
              · have h1 : r 40 = .pointer (some ⟨q, 0, none⟩) := hf.1
                refine (if_pos rfl).symm ▸ ?_
                clear hs hq hf
                unfold gives
                go_simp
                exact ⟨Below.refl _ _, rfl⟩
              -- operation 3: Op.fieldAddr 43 (tmp 41) 0
              refine ⟨fun r wx hG hs hq hf => ?_, ?_⟩
              · have h2 : r 41 = .pointer (some ⟨q, 0, none⟩) := hf.1
                refine (if_pos rfl).symm ▸ ?_
                clear hs hq hf
                unfold gives
                go_simp
                exact ⟨Below.refl _ _, rfl⟩
              -- operation 4: Op.load 22 (tmp 42)
              refine ⟨fun r wx hG hs hq hf => ?_, ?_⟩
              · have h3 : r 42 = .pointer (some ⟨q, 0, none⟩) := hf.1
                refine (if_pos rfl).symm ▸ ?_
                clear hs hq hf
                unfold gives
                have hc := (hG.cell (p := ⟨q, 0, none⟩) HC.out.1).trans HC.out.2.1
                go_simp
                exact ⟨Below.refl _ _, rfl⟩
              -- operation 5: Op.call ( callee := Callee.builtin Builtin.len, args := #[tmp 43], argTypes := #[22] )
              refine ⟨fun r wx hG hs hq hf => ?_, ?_⟩
              · have h4 : r 43 = .slice a n c := hf.1
                refine (if_pos rfl).symm ▸ ?_
                clear hs hq hf
                unfold gives
                go_simp
                exact ⟨Below.refl _ _, rfl⟩
              -- operation 6: Op.move (tmp 0)
              refine ⟨fun r wx hG hs hq hf => ?_, ?_⟩
              · have e0 : r 0 = .pointer (some ⟨q, 0, none⟩) := hs 0 rfl
                refine (if_pos rfl).symm ▸ ?_
                clear hs hq hf
                unfold gives
                go_simp
                exact ⟨Below.refl _ _, rfl⟩
              -- operation 7: Op.nilCheck (tmp 45)
              refine ⟨fun r wx hG hs hq hf => ?_, ?_⟩
              · have h6 : r 45 = .pointer (some ⟨q, 0, none⟩) := hf.1
                refine (if_pos rfl).symm ▸ ?_
                clear hs hq hf
                unfold gives
                go_simp
                exact ⟨Below.refl _ _, rfl⟩
              -- operation 8: Op.fieldAddr 43 (tmp 46) 1
              refine ⟨fun r wx hG hs hq hf => ?_, ?_⟩
              · have h7 : r 46 = .pointer (some ⟨q, 0, none⟩) := hf.1
                refine (if_pos rfl).symm ▸ ?_
                clear hs hq hf
                unfold gives
                go_simp
                exact ⟨Below.refl _ _, rfl⟩
              -- operation 9: Op.load 3 (tmp 47)
              refine ⟨fun r wx hG hs hq hf => ?_, ?_⟩
              · have h8 : r 47 = .pointer (some ⟨q, 1, none⟩) := hf.1
                refine (if_pos rfl).symm ▸ ?_
                clear hs hq hf
                unfold gives
                have hc := (hG.cell (p := ⟨q, 1, none⟩) HC.out.1).trans HC.out.2.2.1
                go_simp
                exact ⟨Below.refl _ _, rfl⟩
              -- operation 10: Op.binOp BinOp.sub 3 (tmp 44) (tmp 48) 3
              refine ⟨fun r wx hG hs hq hf => ?_, ?_⟩
              · have h5 : r 44 = .int .i64 n := hf.1
                have h9 : r 48 = .int .i64 pos := hf.2.1
                refine (if_pos rfl).symm ▸ ?_
                clear hs hq hf
                unfold gives
                have z7 : IntKind.i64.wrap ((n : Int) - (pos : Int)) = ((n - pos : Nat) : Int) := by rw [IntWalk.i64_in _ (by omega)]; omega
                go_simp
                exact ⟨Below.refl _ _, rfl⟩
              -- operation 11: Op.convert 3 26 (tmp 49)
              refine ⟨fun r wx hG hs hq hf => ?_, ?_⟩
              · have h10 : r 49 = .int .i64 (n - pos : Nat) := hf.1
                refine (if_pos rfl).symm ▸ ?_
                clear hs hq hf
                unfold gives
                have z7 : IntKind.u64.wrap ((n - pos : Nat) : Int) = ((n - pos : Nat) : Int) := IntWalk.u64_in _ (by omega)
                go_simp
                exact ⟨Below.refl _ _, rfl⟩
              -- operation 12: Op.binOp BinOp.gtr 26 (tmp 39) (tmp 50) 26
              refine ⟨fun r wx hG hs hq hf => ?_, ?_⟩
              · have h0 : r 39 = .int .u64 N := hf.1
                have h11 : r 50 = .int .u64 (n - pos : Nat) := hf.2.1
                refine (if_pos rfl).symm ▸ ?_
                clear hs hq hf
                unfold gives
                go_simp
                exact ⟨Below.refl _ _, rfl⟩
              exact trivial
            case hend =>
              intro u wz hG hfin
              have z12 : u 12 = .bool true := hfin 12 (by decide) (by kernel_rfl)
              clear hfin
              simp only [fill]
              go_simp
              have hf := rfail_any wz q a c B pos 0 (HH.out.1.below hG) 2 pos0 (by have := HP.out; have := HN.out; omega)
              go_wp2_with fail
              refine hf.mono ?_
              rintro e w5 ⟨rfl, hr5, hg5⟩
              go_wp2_with fail
              go_ret2
              refine ⟨grown_trans (grown_trans HH.out.2 (below_grownR hG) (fun j hj => .inl hj)) hg5 (fun j hj => .inl hj), ?_⟩
              rw [if_pos rfl, HRF.out, if_neg (by simp)]
              exact ⟨rfl, hr5⟩
          · rw [if_neg hlen] at hRR
            have HRF := Lib.hid hRR
            clear hRR
            refine wp_region_steps [some 39, some 40, some 41, some 42, some 43, some 44, some 45, some 46, some 47, some 48, some 49, some 50, some 51] [] (rfRaw8G q n c pos N a) (fun _ wx wy => Below wx.heap.size wx wy) (fun wx => Below w2.heap.size w2 wx) (by kernel_rfl) (by kernel_rfl) rfl (by kernel_rfl) (Below.refl _ _).drew (fun _ wx => Below.refl _ _) (fun _ wx wy h k => h.trans (k.mono h.size)) ?hF ?hstep ?hend
            case hF =>
              exact ⟨fun _ _ _ _ _ _ h => h, ⟨fun _ _ _ _ _ _ h => h, ⟨fun _ _ _ _ _ _ h => h, ⟨fun _ _ _ _ _ _ h => h, ⟨fun _ _ _ _ _ _ h => h, ⟨fun _ _ _ _ _ _ h => h, ⟨fun _ _ _ _ _ _ h => h, ⟨fun _ _ _ _ _ _ h => h, ⟨fun _ _ _ _ _ _ h => h, ⟨fun _ _ _ _ _ _ h => h, ⟨fun _ _ _ _ _ _ h => h, ⟨fun _ _ _ _ _ _ h => h, ⟨fun _ _ _ _ _ _ h => h, trivial⟩⟩⟩⟩⟩⟩⟩⟩⟩⟩⟩⟩⟩
            case hstep =>
              -- operation 0: Op.move (tmp 7)
              refine ⟨fun r wx hG hs hq hf => ?_, ?_⟩
              · have e7 : r 7 = .int .u64 N := hs 7 rfl
                refine (if_pos rfl).symm ▸ ?_
                clear hs hq hf
                unfold gives
                go_simp
                exact ⟨Below.refl _ _, rfl⟩
              -- operation 1: Op.move (tmp 0)
              refine ⟨fun r wx hG hs hq hf => ?_, ?_⟩
              · have e0 : r 0 = .pointer (some ⟨q, 0, none⟩) := hs 0 rfl
                refine (if_pos rfl).symm ▸ ?_
                clear hs hq hf
                unfold gives
                go_simp
                exact ⟨Below.refl _ _, rfl⟩
              -- operation 2: Op.nilCheck (tmp 40)
              refine ⟨fun r wx hG hs hq hf => ?_, ?_⟩
              · have h1 : r 40 = .pointer (some ⟨q, 0, none⟩) := hf.1
                refine (if_pos rfl).symm ▸ ?_
                clear hs hq hf
                unfold gives
                go_simp
                exact ⟨Below.refl _ _, rfl⟩
              -- operation 3: Op.fieldAddr 43 (tmp 41) 0
              refine ⟨fun r wx hG hs hq hf => ?_, ?_⟩
              · have h2 : r 41 = .pointer (some ⟨q, 0, none⟩) := hf.1
                refine (if_pos rfl).symm ▸ ?_
                clear hs hq hf
                unfold gives
                go_simp
                exact ⟨Below.refl _ _, rfl⟩
              -- operation 4: Op.load 22 (tmp 42)
              refine ⟨fun r wx hG hs hq hf => ?_, ?_⟩
              · have h3 : r 42 = .pointer (some ⟨q, 0, none⟩) := hf.1
                refine (if_pos rfl).symm ▸ ?_
                clear hs hq hf
                unfold gives
                have hc := (hG.cell (p := ⟨q, 0, none⟩) HC.out.1).trans HC.out.2.1
                go_simp
                exact ⟨Below.refl _ _, rfl⟩
              -- operation 5: Op.call ( callee := Callee.builtin Builtin.len, args := #[tmp 43], argTypes := #[22] )
              refine ⟨fun r wx hG hs hq hf => ?_, ?_⟩
              · have h4 : r 43 = .slice a n c := hf.1
                refine (if_pos rfl).symm ▸ ?_
                clear hs hq hf
                unfold gives
                go_simp
                exact ⟨Below.refl _ _, rfl⟩
              -- operation 6: Op.move (tmp 0)
              refine ⟨fun r wx hG hs hq hf => ?_, ?_⟩
              · have e0 : r 0 = .pointer (some ⟨q, 0, none⟩) := hs 0 rfl
                refine (if_pos rfl).symm ▸ ?_
                clear hs hq hf
                unfold gives
                go_simp
                exact ⟨Below.refl _ _, rfl⟩
              -- operation 7: Op.nilCheck (tmp 45)
              refine ⟨fun r wx hG hs hq hf => ?_, ?_⟩
              · have h6 : r 45 = .pointer (some ⟨q, 0, none⟩) := hf.1
                refine (if_pos rfl).symm ▸ ?_
                clear hs hq hf
                unfold gives
                go_simp
                exact ⟨Below.refl _ _, rfl⟩
              -- operation 8: Op.fieldAddr 43 (tmp 46) 1
              refine ⟨fun r wx hG hs hq hf => ?_, ?_⟩
              · have h7 : r 46 = .pointer (some ⟨q, 0, none⟩) := hf.1
                refine (if_pos rfl).symm ▸ ?_
                clear hs hq hf
                unfold gives
                go_simp
                exact ⟨Below.refl _ _, rfl⟩
              -- operation 9: Op.load 3 (tmp 47)
              refine ⟨fun r wx hG hs hq hf => ?_, ?_⟩
              · have h8 : r 47 = .pointer (some ⟨q, 1, none⟩) := hf.1
                refine (if_pos rfl).symm ▸ ?_
                clear hs hq hf
                unfold gives
                have hc := (hG.cell (p := ⟨q, 1, none⟩) HC.out.1).trans HC.out.2.2.1
                go_simp
                exact ⟨Below.refl _ _, rfl⟩
              -- operation 10: Op.binOp BinOp.sub 3 (tmp 44) (tmp 48) 3
              refine ⟨fun r wx hG hs hq hf => ?_, ?_⟩
              · have h5 : r 44 = .int .i64 n := hf.1
                have h9 : r 48 = .int .i64 pos := hf.2.1
                refine (if_pos rfl).symm ▸ ?_
                clear hs hq hf
                unfold gives
                have z7 : IntKind.i64.wrap ((n : Int) - (pos : Int)) = ((n - pos : Nat) : Int) := by rw [IntWalk.i64_in _ (by omega)]; omega
                go_simp
                exact ⟨Below.refl _ _, rfl⟩
              -- operation 11: Op.convert 3 26 (tmp 49)
              refine ⟨fun r wx hG hs hq hf => ?_, ?_⟩
              · have h10 : r 49 = .int .i64 (n - pos : Nat) := hf.1
                refine (if_pos rfl).symm ▸ ?_
                clear hs hq hf
                unfold gives
                have z7 : IntKind.u64.wrap ((n - pos : Nat) : Int) = ((n - pos : Nat) : Int) := IntWalk.u64_in _ (by omega)
                go_simp
                exact ⟨Below.refl _ _, rfl⟩
              -- operation 12: Op.binOp BinOp.gtr 26 (tmp 39) (tmp 50) 26
              refine ⟨fun r wx hG hs hq hf => ?_, ?_⟩
              · have h0 : r 39 = .int .u64 N := hf.1
                have h11 : r 50 = .int .u64 (n - pos : Nat) := hf.2.1
                refine (if_pos rfl).symm ▸ ?_
                clear hs hq hf
                unfold gives
                go_simp
                exact ⟨Below.refl _ _, rfl⟩
              exact trivial
            case hend =>
              intro u wz hG hfin
              have z12 : u 12 = .bool false := hfin 12 (by decide) (by kernel_rfl)
              clear hfin
              simp only [fill]
              go_simp
              have HH3 := Lib.hid (And.intro (HH.out.1.below hG) (grown_trans HH.out.2 (below_grownR hG) (fun j hj => .inl hj)))
              obtain ⟨pe, hpe⟩ : ∃ pe, pe = pos + N := ⟨_, rfl⟩
              have hpe1 : pe ≤ 140737488355328 := by omega
              obtain ⟨a3, c3, hs1, hs2⟩ := slice_midB (T := B) pos N pe hpe (by have := HH3.out.1.rd; rw [← HN.out] at this; exact this) HN.out (by omega) (by omega)
              obtain ⟨w2, rfl⟩ : ∃ w2 : World, w2 = wz := ⟨_, rfl⟩
              have HC := Lib.hid HH3.out.1.cells
              rw [← HN.out] at HC
              obtain ⟨xs, hxs⟩ : ∃ xs, xs = (B.drop pos).take N := ⟨_, rfl⟩
              rw [← hxs] at hs2
              have HS := Lib.hid (And.intro hs1 hs2)
              have HX := Lib.hid hxs
              have HPE := Lib.hid hpe
              obtain ⟨B0, hB0⟩ : ∃ B0, B0 = w2.heap.size := ⟨_, rfl⟩
              have HB0 := Lib.hid hB0
              have hBs : B0 ≤ w2.heap.size := Nat.le_of_eq hB0
              have hcs := HH3.out.1.cells
              rw [← HN.out, ← hB0] at hcs
              have HC := Lib.hid hcs
              clear hs1 hs2 hxs hG hcs hpe hB0
              go_wp2_with fail
              refine wp_region_steps [some 55, some 56, some 57, some 58, some 59, some 60, some 61, some 62, some 63, some 64, some 65, some 66, some 67, some 68, some 69, some 70, some 71, some 72, some 9] [] (rfRawF q n c pos N pe a a3 c3 B0 xs) (kA B0) (fun wx => Below B0 w2 wx) (by kernel_rfl) (by kernel_rfl) rfl (by kernel_rfl) (Below.refl _ _).drew (kA_refl B0) (fun _ _ _ h k => h.trans k.2) ?hF ?hstep ?hend
              case hF =>
                exact ⟨fun j hg _ _ _ k h => by
                  have n17 : j ≠ 17 := fun e => by subst e; exact absurd hg (by rw [show goneB _ 0 17 = true by kernel_rfl]; simp)
                  have kb := k.1 n17
                  obtain ⟨g, h1, h2, h3⟩ := h
                  exact ⟨g, h1, h2, (kb.block g (Array.getElem?_eq_some_iff.1 h3).1).trans h3⟩, ⟨fun _ _ _ _ _ _ h => h, ⟨fun _ _ _ _ _ _ h => h, ⟨fun _ _ _ _ _ _ h => h, ⟨fun _ _ _ _ _ _ h => h, ⟨fun _ _ _ _ _ _ h => h, ⟨fun _ _ _ _ _ _ h => h, ⟨fun _ _ _ _ _ _ h => h, ⟨fun _ _ _ _ _ _ h => h, ⟨fun _ _ _ _ _ _ h => h, ⟨fun _ _ _ _ _ _ h => h, ⟨fun _ _ _ _ _ _ h => h, ⟨fun _ _ _ _ _ _ h => h, ⟨fun _ _ _ _ _ _ h => h, ⟨fun _ _ _ _ _ _ h => h, ⟨fun _ _ _ _ _ _ h => h, ⟨fun _ _ _ _ _ _ h => h, ⟨fun j hg _ _ _ k h => by
                  have n17 : j ≠ 17 := fun e => by subst e; exact absurd hg (by rw [show goneB _ 17 17 = true by kernel_rfl]; simp)
                  exact own_keep h (k.1 n17), ⟨fun j hg _ _ _ k h => by
                  have n17 : j ≠ 17 := fun e => by subst e; exact absurd hg (by rw [show goneB _ 18 17 = true by kernel_rfl]; simp)
                  exact own_keep h (k.1 n17), trivial⟩⟩⟩⟩⟩⟩⟩⟩⟩⟩⟩⟩⟩⟩⟩⟩⟩⟩⟩
              case hstep =>
                -- operation 0: Op.buildSlice 22 0 #[]
                refine ⟨fun r wx hG hs hq hf => ?_, ?_⟩
                · refine (if_pos rfl).symm ▸ ?_
                  clear hs hq hf
                  unfold gives
                  go_simp
                  exact ⟨kA_of ((Below.refl _ _).alloc (Nat.le_refl _) _) (Nat.le_trans hBs hG.size), _, rfl, Nat.le_trans hBs hG.size, heap_alloc_new _ _⟩
                -- operation 1: Op.move (tmp 0)
                refine ⟨fun r wx hG hs hq hf => ?_, ?_⟩
                · have e0 : r 0 = .pointer (some ⟨q, 0, none⟩) := hs 0 rfl
                  refine (if_pos rfl).symm ▸ ?_
                  clear hs hq hf
                  unfold gives
                  go_simp
                  exact ⟨kA_refl _ _ _, rfl⟩
                -- operation 2: Op.nilCheck (tmp 56)
                refine ⟨fun r wx hG hs hq hf => ?_, ?_⟩
                · have h1 : r 56 = .pointer (some ⟨q, 0, none⟩) := hf.1
                  refine (if_pos rfl).symm ▸ ?_
                  clear hs hq hf
                  unfold gives
                  go_simp
                  exact ⟨kA_refl _ _ _, rfl⟩
                -- operation 3: Op.fieldAddr 43 (tmp 57) 0
                refine ⟨fun r wx hG hs hq hf => ?_, ?_⟩
                · have h2 : r 57 = .pointer (some ⟨q, 0, none⟩) := hf.1
                  refine (if_pos rfl).symm ▸ ?_
                  clear hs hq hf
                  unfold gives
                  go_simp
                  exact ⟨kA_refl _ _ _, rfl⟩
                -- operation 4: Op.load 22 (tmp 58)
                refine ⟨fun r wx hG hs hq hf => ?_, ?_⟩
                · have h3 : r 58 = .pointer (some ⟨q, 0, none⟩) := hf.1
                  refine (if_pos rfl).symm ▸ ?_
                  clear hs hq hf
                  unfold gives
                  have hc := (hG.cell (p := ⟨q, 0, none⟩) HC.out.1).trans HC.out.2.1
                  go_simp
                  exact ⟨kA_refl _ _ _, rfl⟩
                -- operation 5: Op.move (tmp 0)
                refine ⟨fun r wx hG hs hq hf => ?_, ?_⟩
                · have e0 : r 0 = .pointer (some ⟨q, 0, none⟩) := hs 0 rfl
                  refine (if_pos rfl).symm ▸ ?_
                  clear hs hq hf
                  unfold gives
                  go_simp
                  exact ⟨kA_refl _ _ _, rfl⟩
                -- operation 6: Op.nilCheck (tmp 60)
                refine ⟨fun r wx hG hs hq hf => ?_, ?_⟩
                · have h5 : r 60 = .pointer (some ⟨q, 0, none⟩) := hf.1
                  refine (if_pos rfl).symm ▸ ?_
                  clear hs hq hf
                  unfold gives
                  go_simp
                  exact ⟨kA_refl _ _ _, rfl⟩
                -- operation 7: Op.fieldAddr 43 (tmp 61) 1
                refine ⟨fun r wx hG hs hq hf => ?_, ?_⟩
                · have h6 : r 61 = .pointer (some ⟨q, 0, none⟩) := hf.1
                  refine (if_pos rfl).symm ▸ ?_
                  clear hs hq hf
                  unfold gives
                  go_simp
                  exact ⟨kA_refl _ _ _, rfl⟩
                -- operation 8: Op.load 3 (tmp 62)
                refine ⟨fun r wx hG hs hq hf => ?_, ?_⟩
                · have h7 : r 62 = .pointer (some ⟨q, 1, none⟩) := hf.1
                  refine (if_pos rfl).symm ▸ ?_
                  clear hs hq hf
                  unfold gives
                  have hc := (hG.cell (p := ⟨q, 1, none⟩) HC.out.1).trans HC.out.2.2.1
                  go_simp
                  exact ⟨kA_refl _ _ _, rfl⟩
                -- operation 9: Op.move (tmp 0)
                refine ⟨fun r wx hG hs hq hf => ?_, ?_⟩
                · have e0 : r 0 = .pointer (some ⟨q, 0, none⟩) := hs 0 rfl
                  refine (if_pos rfl).symm ▸ ?_
                  clear hs hq hf
                  unfold gives
                  go_simp
                  exact ⟨kA_refl _ _ _, rfl⟩
                -- operation 10: Op.nilCheck (tmp 64)
                refine ⟨fun r wx hG hs hq hf => ?_, ?_⟩
                · have h9 : r 64 = .pointer (some ⟨q, 0, none⟩) := hf.1
                  refine (if_pos rfl).symm ▸ ?_
                  clear hs hq hf
                  unfold gives
                  go_simp
                  exact ⟨kA_refl _ _ _, rfl⟩
                -- operation 11: Op.fieldAddr 43 (tmp 65) 1
                refine ⟨fun r wx hG hs hq hf => ?_, ?_⟩
                · have h10 : r 65 = .pointer (some ⟨q, 0, none⟩) := hf.1
                  refine (if_pos rfl).symm ▸ ?_
                  clear hs hq hf
                  unfold gives
                  go_simp
                  exact ⟨kA_refl _ _ _, rfl⟩
                -- operation 12: Op.load 3 (tmp 66)
                refine ⟨fun r wx hG hs hq hf => ?_, ?_⟩
                · have h11 : r 66 = .pointer (some ⟨q, 1, none⟩) := hf.1
                  refine (if_pos rfl).symm ▸ ?_
                  clear hs hq hf
                  unfold gives
                  have hc := (hG.cell (p := ⟨q, 1, none⟩) HC.out.1).trans HC.out.2.2.1
                  go_simp
                  exact ⟨kA_refl _ _ _, rfl⟩
                -- operation 13: Op.move (tmp 7)
                refine ⟨fun r wx hG hs hq hf => ?_, ?_⟩
                · have e7 : r 7 = .int .u64 N := hs 7 rfl
                  refine (if_pos rfl).symm ▸ ?_
                  clear hs hq hf
                  unfold gives
                  go_simp
                  exact ⟨kA_refl _ _ _, rfl⟩
                -- operation 14: Op.convert 26 3 (tmp 68)
                refine ⟨fun r wx hG hs hq hf => ?_, ?_⟩
                · have h13 : r 68 = .int .u64 N := hf.1
                  refine (if_pos rfl).symm ▸ ?_
                  clear hs hq hf
                  unfold gives
                  have z7 : IntKind.i64.wrap (N : Int) = (N : Int) := IntWalk.i64_in _ (by omega)
                  go_simp
                  exact ⟨kA_refl _ _ _, rfl⟩
                -- operation 15: Op.binOp BinOp.add 3 (tmp 67) (tmp 69) 3
                refine ⟨fun r wx hG hs hq hf => ?_, ?_⟩
                · have h12 : r 67 = .int .i64 pos := hf.1
                  have h14 : r 69 = .int .i64 N := hf.2.1
                  refine (if_pos rfl).symm ▸ ?_
                  clear hs hq hf
                  unfold gives
                  have z7 : IntKind.i64.wrap ((pos : Int) + (N : Int)) = (pe : Int) := (IntWalk.i64_in _ (by omega)).trans (by have := HPE.out; omega)
                  go_simp
                  exact ⟨kA_refl _ _ _, rfl⟩
                -- operation 16: Op.slice 22 (tmp 59) (some (tmp 63)) (some (tmp 70)) none
                refine ⟨fun r wx hG hs hq hf => ?_, ?_⟩
                · have h4 : r 59 = .slice a n c := hf.1
                  have h8 : r 63 = .int .i64 pos := hf.2.1
                  have h15 : r 70 = .int .i64 pe := hf.2.2.1
                  refine (if_pos rfl).symm ▸ ?_
                  clear hs hq hf
                  unfold gives
                  have hsx := HS.out.1
                  go_simp
                  exact ⟨kA_refl _ _ _, rfl⟩
                -- operation 17: Op.call ( callee := Callee.builtin Builtin.append, args := #[tmp 55, tmp 71], argTypes := #[22, 22] )
                refine ⟨fun r wx hG hs hq hf => ?_, ?_⟩
                · have h0 : ∃ g, (r 55) = .slice (some ⟨g, 0, none⟩) 0 0 ∧ B0 ≤ g ∧ wx.heap[g]? = some (.cells #[] 5 (0, 0)) := hf.1
                  have h16 : r 71 = .slice a3 N c3 := hf.2.1
                  refine (if_pos rfl).symm ▸ ?_
                  clear hs hq hf
                  unfold gives
                  obtain ⟨g, hk, hkB, hkc⟩ := h0
                  refine gives_app Try.underlying22 info8 rfl (by decide) _ _ rfl hk h16 (own_emptyR hkc hkB) (HS.out.2.keepB hG (Nat.le_of_eq HB0.out.symm)) (by omega) (by omega) (Nat.le_trans hBs hG.size) ?_
                  intro v' wy ho hg _
                  rw [Nat.zero_add, List.nil_append] at ho
                  exact ⟨⟨fun e => absurd rfl e, hg.below (Nat.le_trans hBs hG.size) (fun j hj => by simp [Value.ownBlock] at hj; omega)⟩, ho⟩
                -- operation 18: Op.assign (tmp 72)
                refine ⟨fun r wx hG hs hq hf => ?_, ?_⟩
                · have h17 : wx.ownsRow B0 5 1 (r 72) N (bv xs) := hf.1
                  refine (if_pos rfl).symm ▸ ?_
                  clear hs hq hf
                  unfold gives
                  go_simp
                  exact ⟨kA_refl _ _ _, h17⟩
                exact trivial
              case hend =>
                intro u wz hG hfin
                have z18 : wz.ownsRow B0 5 1 (u 18) N (bv xs) := hfin 18 (by decide) (by kernel_rfl)
                clear hfin
                simp only [fill]
                go_simp
                obtain ⟨av, cv, e18⟩ := own_formq z18
                rw [e18] at z18
                rw [e18]
                have hr2 := HH3.out.1.of (w' := wz) (below_grownR (by rw [← HB0.out]; exact hG)) ((hG.block q HC.out.1).trans HH3.out.1.row) HH3.out.1.le
                have hcz : wz.cell? ⟨q, 1, none⟩ = some (.int .i64 pos) := hr2.cells.2.2.1
                have hzz : wz.frozen? ⟨q, 1, none⟩ = false := by simp [World.frozen?, hr2.row]
                have z8 : IntKind.i64.wrap (N : Int) = (N : Int) := IntWalk.i64_in _ (by omega)
                have z9 : IntKind.i64.wrap ((pos : Int) + (N : Int)) = ((pos + N : Nat) : Int) := (IntWalk.i64_in _ (by omega)).trans (by omega)
                have hrz : Rfr (wz.setCell ⟨q, 1, none⟩ (.int .i64 ((pos + N : Nat) : Int))) q a c B (pos + N) 0 := by
                  refine hr2.of (grown_set1 (World.grownBy.refl _ _) 1 _) ?_ (by have := HN.out; omega)
                  rw [heap_setCell_same wz q 1 _ _ _ hr2.row]; rfl
                have hgz : w.grownBy (wz.setCell ⟨q, 1, none⟩ (.int .i64 ((pos + N : Nat) : Int))) (some q) := grown_set1 (grown_trans HH3.out.2 (below_grownR (r := some q) (by rw [← HB0.out]; exact hG)) (fun j hj => .inl hj)) 1 _
                have hq0 := HC.out.1
                have hrd : Rd (wz.setCell ⟨q, 1, none⟩ (.int .i64 ((pos + N : Nat) : Int))) 1 (.slice av N cv) N (bv xs) := by
                  refine (own_rd z18 (bv_one _)).keepP (fun y hy => heap_setCell_other wz ⟨q, 1, none⟩ y.block _ (fun e => ?_))
                  have hb := own_block z18 y.block (by simp [Value.ownBlock, hy])
                  have e2 : y.block = q := e
                  omega
                have HF := Lib.hid (And.intro hgz (And.intro hrd hrz))
                have HU := Lib.hid z18
                have HGZ : Hid (w.heap.size ≤ w2.heap.size) := Lib.hid HH3.out.2.size
                clear hr2 hrz hgz hrd z18 hG e18
                go_wp2_with fail
                go_ret2
                have hxl : xs.length = N := by rw [HX.out, List.length_take, List.length_drop, ← HN.out]; omega
                have hcast : (pos : Int) + (N : Int) = ((pos + N : Nat) : Int) := by omega
                refine ⟨by first | exact HF.out.1 | (rw [hcast]; exact HF.out.1), ?_⟩
                rw [if_pos rfl, HRF.out, if_pos rfl]
                simp only [← HX.out, hxl]
                exact ⟨⟨_, _, rfl, by first | exact HF.out.2.1 | (rw [hcast]; exact HF.out.2.1), fun j hj => by have h1 := HU.out.lt j hj; have h2 := HB0.out; have h3 := HH.out.2.size; have h4 := HGZ.out; simp only [World.setCell, Array.size_modify]; omega⟩, _, by first | exact HF.out.2.2 | (rw [hcast]; exact HF.out.2.2), by rw [List.drop_drop]⟩
        · obtain ⟨M, hM⟩ : ∃ M : Nat, (M : Int) = most := ⟨most.toNat, by omega⟩
          subst hM
          have z1 : ¬ ((M : Int) < 0) := by omega
          have z0 : IntKind.u64.wrap (M : Int) = (M : Int) := IntWalk.u64_in _ (by omega)
          have z3 : ¬ (M < N) := by omega
          have HRX := Lib.hid hRR
          clear hbad hRR hm z1 hm1 hm2
          have z1 : ¬ ((M : Int) < 0) := by omega
          go_wp2_with fail
          have hRR := HRX.out
          by_cases hlen : n - pos < N
          · rw [if_pos hlen] at hRR
            have HRF := Lib.hid hRR
            clear hRR
            refine wp_region_steps [some 39, some 40, some 41, some 42, some 43, some 44, some 45, some 46, some 47, some 48, some 49, some 50, some 51] [] (rfRaw8F q n c pos N a) (fun _ wx wy => Below wx.heap.size wx wy) (fun wx => Below w2.heap.size w2 wx) (by kernel_rfl) (by kernel_rfl) rfl (by kernel_rfl) (Below.refl _ _).drew (fun _ wx => Below.refl _ _) (fun _ wx wy h k => h.trans (k.mono h.size)) ?hF ?hstep ?hend
            case hF =>
              exact ⟨fun _ _ _ _ _ _ h => h, ⟨fun _ _ _ _ _ _ h => h, ⟨fun _ _ _ _ _ _ h => h, ⟨fun _ _ _ _ _ _ h => h, ⟨fun _ _ _ _ _ _ h => h, ⟨fun _ _ _ _ _ _ h => h, ⟨fun _ _ _ _ _ _ h => h, ⟨fun _ _ _ _ _ _ h => h, ⟨fun _ _ _ _ _ _ h => h, ⟨fun _ _ _ _ _ _ h => h, ⟨fun _ _ _ _ _ _ h => h, ⟨fun _ _ _ _ _ _ h => h, ⟨fun _ _ _ _ _ _ h => h, trivial⟩⟩⟩⟩⟩⟩⟩⟩⟩⟩⟩⟩⟩
            case hstep =>
              -- operation 0: Op.move (tmp 7)
              refine ⟨fun r wx hG hs hq hf => ?_, ?_⟩
              · have e7 : r 7 = .int .u64 N := hs 7 rfl
                refine (if_pos rfl).symm ▸ ?_
                clear hs hq hf
                unfold gives
                go_simp
                exact ⟨Below.refl _ _, rfl⟩
              -- operation 1: Op.move (tmp 0)
              refine ⟨fun r wx hG hs hq hf => ?_, ?_⟩
              · have e0 : r 0 = .pointer (some ⟨q, 0, none⟩) := hs 0 rfl
                refine (if_pos rfl).symm ▸ ?_
                clear hs hq hf
                unfold gives
                go_simp
                exact ⟨Below.refl _ _, rfl⟩
              -- operation 2: Op.nilCheck (tmp 40)
              refine ⟨fun r wx hG hs hq hf => ?_, ?_⟩
              · have h1 : r 40 = .pointer (some ⟨q, 0, none⟩) := hf.1
                refine (if_pos rfl).symm ▸ ?_
                clear hs hq hf
                unfold gives
                go_simp
                exact ⟨Below.refl _ _, rfl⟩
              -- operation 3: Op.fieldAddr 43 (tmp 41) 0
              refine ⟨fun r wx hG hs hq hf => ?_, ?_⟩
              · have h2 : r 41 = .pointer (some ⟨q, 0, none⟩) := hf.1
                refine (if_pos rfl).symm ▸ ?_
                clear hs hq hf
                unfold gives
                go_simp
                exact ⟨Below.refl _ _, rfl⟩
              -- operation 4: Op.load 22 (tmp 42)
              refine ⟨fun r wx hG hs hq hf => ?_, ?_⟩
              · have h3 : r 42 = .pointer (some ⟨q, 0, none⟩) := hf.1
                refine (if_pos rfl).symm ▸ ?_
                clear hs hq hf
                unfold gives
                have hc := (hG.cell (p := ⟨q, 0, none⟩) HC.out.1).trans HC.out.2.1
                go_simp
                exact ⟨Below.refl _ _, rfl⟩
              -- operation 5: Op.call ( callee := Callee.builtin Builtin.len, args := #[tmp 43], argTypes := #[22] )
              refine ⟨fun r wx hG hs hq hf => ?_, ?_⟩
              · have h4 : r 43 = .slice a n c := hf.1
                refine (if_pos rfl).symm ▸ ?_
                clear hs hq hf
                unfold gives
                go_simp
                exact ⟨Below.refl _ _, rfl⟩
              -- operation 6: Op.move (tmp 0)
              refine ⟨fun r wx hG hs hq hf => ?_, ?_⟩
              · have e0 : r 0 = .pointer (some ⟨q, 0, none⟩) := hs 0 rfl
                refine (if_pos rfl).symm ▸ ?_
                clear hs hq hf
                unfold gives
                go_simp
                exact ⟨Below.refl _ _, rfl⟩
              -- operation 7: Op.nilCheck (tmp 45)
              refine ⟨fun r wx hG hs hq hf => ?_, ?_⟩
              · have h6 : r 45 = .pointer (some ⟨q, 0, none⟩) := hf.1
                refine (if_pos rfl).symm ▸ ?_
                clear hs hq hf
                unfold gives
                go_simp
                exact ⟨Below.refl _ _, rfl⟩
              -- operation 8: Op.fieldAddr 43 (tmp 46) 1
              refine ⟨fun r wx hG hs hq hf => ?_, ?_⟩
              · have h7 : r 46 = .pointer (some ⟨q, 0, none⟩) := hf.1
                refine (if_pos rfl).symm ▸ ?_
                clear hs hq hf
                unfold gives
                go_simp
                exact ⟨Below.refl _ _, rfl⟩
              -- operation 9: Op.load 3 (tmp 47)
              refine ⟨fun r wx hG hs hq hf => ?_, ?_⟩
              · have h8 : r 47 = .pointer (some ⟨q, 1, none⟩) := hf.1
                refine (if_pos rfl).symm ▸ ?_
                clear hs hq hf
                unfold gives
                have hc := (hG.cell (p := ⟨q, 1, none⟩) HC.out.1).trans HC.out.2.2.1
                go_simp
                exact ⟨Below.refl _ _, rfl⟩
              -- operation 10: Op.binOp BinOp.sub 3 (tmp 44) (tmp 48) 3
              refine ⟨fun r wx hG hs hq hf => ?_, ?_⟩
              · have h5 : r 44 = .int .i64 n := hf.1
                have h9 : r 48 = .int .i64 pos := hf.2.1
                refine (if_pos rfl).symm ▸ ?_
                clear hs hq hf
                unfold gives
                have z7 : IntKind.i64.wrap ((n : Int) - (pos : Int)) = ((n - pos : Nat) : Int) := by rw [IntWalk.i64_in _ (by omega)]; omega
                go_simp
                exact ⟨Below.refl _ _, rfl⟩
              -- operation 11: Op.convert 3 26 (tmp 49)
              refine ⟨fun r wx hG hs hq hf => ?_, ?_⟩
              · have h10 : r 49 = .int .i64 (n - pos : Nat) := hf.1
                refine (if_pos rfl).symm ▸ ?_
                clear hs hq hf
                unfold gives
                have z7 : IntKind.u64.wrap ((n - pos : Nat) : Int) = ((n - pos : Nat) : Int) := IntWalk.u64_in _ (by omega)
                go_simp
                exact ⟨Below.refl _ _, rfl⟩
              -- operation 12: Op.binOp BinOp.gtr 26 (tmp 39) (tmp 50) 26
              refine ⟨fun r wx hG hs hq hf => ?_, ?_⟩
              · have h0 : r 39 = .int .u64 N := hf.1
                have h11 : r 50 = .int .u64 (n - pos : Nat) := hf.2.1
                refine (if_pos rfl).symm ▸ ?_
                clear hs hq hf
                unfold gives
                go_simp
                exact ⟨Below.refl _ _, rfl⟩
              exact trivial
            case hend =>
              intro u wz hG hfin
              have z12 : u 12 = .bool true := hfin 12 (by decide) (by kernel_rfl)
              clear hfin
              simp only [fill]
              go_simp
              have hf := rfail_any wz q a c B pos 0 (HH.out.1.below hG) 2 pos0 (by have := HP.out; have := HN.out; omega)
              go_wp2_with fail
              refine hf.mono ?_
              rintro e w5 ⟨rfl, hr5, hg5⟩
              go_wp2_with fail
              go_ret2
              refine ⟨grown_trans (grown_trans HH.out.2 (below_grownR hG) (fun j hj => .inl hj)) hg5 (fun j hj => .inl hj), ?_⟩
              rw [if_pos rfl, HRF.out, if_neg (by simp)]
              exact ⟨rfl, hr5⟩
          · rw [if_neg hlen] at hRR
            have HRF := Lib.hid hRR
            clear hRR
            refine wp_region_steps [some 39, some 40, some 41, some 42, some 43, some 44, some 45, some 46, some 47, some 48, some 49, some 50, some 51] [] (rfRaw8G q n c pos N a) (fun _ wx wy => Below wx.heap.size wx wy) (fun wx => Below w2.heap.size w2 wx) (by kernel_rfl) (by kernel_rfl) rfl (by kernel_rfl) (Below.refl _ _).drew (fun _ wx => Below.refl _ _) (fun _ wx wy h k => h.trans (k.mono h.size)) ?hF ?hstep ?hend
            case hF =>
              exact ⟨fun _ _ _ _ _ _ h => h, ⟨fun _ _ _ _ _ _ h => h, ⟨fun _ _ _ _ _ _ h => h, ⟨fun _ _ _ _ _ _ h => h, ⟨fun _ _ _ _ _ _ h => h, ⟨fun _ _ _ _ _ _ h => h, ⟨fun _ _ _ _ _ _ h => h, ⟨fun _ _ _ _ _ _ h => h, ⟨fun _ _ _ _ _ _ h => h, ⟨fun _ _ _ _ _ _ h => h, ⟨fun _ _ _ _ _ _ h => h, ⟨fun _ _ _ _ _ _ h => h, ⟨fun _ _ _ _ _ _ h => h, trivial⟩⟩⟩⟩⟩⟩⟩⟩⟩⟩⟩⟩⟩
            case hstep =>
              -- operation 0: Op.move (tmp 7)
              refine ⟨fun r wx hG hs hq hf => ?_, ?_⟩
              · have e7 : r 7 = .int .u64 N := hs 7 rfl
                refine (if_pos rfl).symm ▸ ?_
                clear hs hq hf
                unfold gives
                go_simp
                exact ⟨Below.refl _ _, rfl⟩
              -- operation 1: Op.move (tmp 0)
              refine ⟨fun r wx hG hs hq hf => ?_, ?_⟩
              · have e0 : r 0 = .pointer (some ⟨q, 0, none⟩) := hs 0 rfl
                refine (if_pos rfl).symm ▸ ?_
                clear hs hq hf
                unfold gives
                go_simp
                exact ⟨Below.refl _ _, rfl⟩
              -- operation 2: Op.nilCheck (tmp 40)
              refine ⟨fun r wx hG hs hq hf => ?_, ?_⟩
              · have h1 : r 40 = .pointer (some ⟨q, 0, none⟩) := hf.1
                refine (if_pos rfl).symm ▸ ?_
                clear hs hq hf
                unfold gives
                go_simp
                exact ⟨Below.refl _ _, rfl⟩
              -- operation 3: Op.fieldAddr 43 (tmp 41) 0
              refine ⟨fun r wx hG hs hq hf => ?_, ?_⟩
              · have h2 : r 41 = .pointer (some ⟨q, 0, none⟩) := hf.1
                refine (if_pos rfl).symm ▸ ?_
                clear hs hq hf
                unfold gives
                go_simp
                exact ⟨Below.refl _ _, rfl⟩
              -- operation 4: Op.load 22 (tmp 42)
              refine ⟨fun r wx hG hs hq hf => ?_, ?_⟩
              · have h3 : r 42 = .pointer (some ⟨q, 0, none⟩) := hf.1
                refine (if_pos rfl).symm ▸ ?_
                clear hs hq hf
                unfold gives
                have hc := (hG.cell (p := ⟨q, 0, none⟩) HC.out.1).trans HC.out.2.1
                go_simp
                exact ⟨Below.refl _ _, rfl⟩
              -- operation 5: Op.call ( callee := Callee.builtin Builtin.len, args := #[tmp 43], argTypes := #[22] )
              refine ⟨fun r wx hG hs hq hf => ?_, ?_⟩
              · have h4 : r 43 = .slice a n c := hf.1
                refine (if_pos rfl).symm ▸ ?_
                clear hs hq hf
                unfold gives
                go_simp
                exact ⟨Below.refl _ _, rfl⟩
              -- operation 6: Op.move (tmp 0)
              refine ⟨fun r wx hG hs hq hf => ?_, ?_⟩
              · have e0 : r 0 = .pointer (some ⟨q, 0, none⟩) := hs 0 rfl
                refine (if_pos rfl).symm ▸ ?_
                clear hs hq hf
                unfold gives
                go_simp
                exact ⟨Below.refl _ _, rfl⟩
              -- operation 7: Op.nilCheck (tmp 45)
              refine ⟨fun r wx hG hs hq hf => ?_, ?_⟩
              · have h6 : r 45 = .pointer (some ⟨q, 0, none⟩) := hf.1
                refine (if_pos rfl).symm ▸ ?_
                clear hs hq hf
                unfold gives
                go_simp
                exact ⟨Below.refl _ _, rfl⟩
              -- operation 8: Op.fieldAddr 43 (tmp 46) 1
              refine ⟨fun r wx hG hs hq hf => ?_, ?_⟩
              · have h7 : r 46 = .pointer (some ⟨q, 0, none⟩) := hf.1
                refine (if_pos rfl).symm ▸ ?_
                clear hs hq hf
                unfold gives
                go_simp
                exact ⟨Below.refl _ _, rfl⟩
              -- operation 9: Op.load 3 (tmp 47)
              refine ⟨fun r wx hG hs hq hf => ?_, ?_⟩
              · have h8 : r 47 = .pointer (some ⟨q, 1, none⟩) := hf.1
                refine (if_pos rfl).symm ▸ ?_
                clear hs hq hf
                unfold gives
                have hc := (hG.cell (p := ⟨q, 1, none⟩) HC.out.1).trans HC.out.2.2.1
                go_simp
                exact ⟨Below.refl _ _, rfl⟩
              -- operation 10: Op.binOp BinOp.sub 3 (tmp 44) (tmp 48) 3
              refine ⟨fun r wx hG hs hq hf => ?_, ?_⟩
              · have h5 : r 44 = .int .i64 n := hf.1
                have h9 : r 48 = .int .i64 pos := hf.2.1
                refine (if_pos rfl).symm ▸ ?_
                clear hs hq hf
                unfold gives
                have z7 : IntKind.i64.wrap ((n : Int) - (pos : Int)) = ((n - pos : Nat) : Int) := by rw [IntWalk.i64_in _ (by omega)]; omega
                go_simp
                exact ⟨Below.refl _ _, rfl⟩
              -- operation 11: Op.convert 3 26 (tmp 49)
              refine ⟨fun r wx hG hs hq hf => ?_, ?_⟩
              · have h10 : r 49 = .int .i64 (n - pos : Nat) := hf.1
                refine (if_pos rfl).symm ▸ ?_
                clear hs hq hf
                unfold gives
                have z7 : IntKind.u64.wrap ((n - pos : Nat) : Int) = ((n - pos : Nat) : Int) := IntWalk.u64_in _ (by omega)
                go_simp
                exact ⟨Below.refl _ _, rfl⟩
              -- operation 12: Op.binOp BinOp.gtr 26 (tmp 39) (tmp 50) 26
              refine ⟨fun r wx hG hs hq hf => ?_, ?_⟩
              · have h0 : r 39 = .int .u64 N := hf.1
                have h11 : r 50 = .int .u64 (n - pos : Nat) := hf.2.1
                refine (if_pos rfl).symm ▸ ?_
                clear hs hq hf
                unfold gives
                go_simp
                exact ⟨Below.refl _ _, rfl⟩
              exact trivial
            case hend =>
              intro u wz hG hfin
              have z12 : u 12 = .bool false := hfin 12 (by decide) (by kernel_rfl)
              clear hfin
              simp only [fill]
              go_simp
              have HH3 := Lib.hid (And.intro (HH.out.1.below hG) (grown_trans HH.out.2 (below_grownR hG) (fun j hj => .inl hj)))
              obtain ⟨pe, hpe⟩ : ∃ pe, pe = pos + N := ⟨_, rfl⟩
              have hpe1 : pe ≤ 140737488355328 := by omega
              obtain ⟨a3, c3, hs1, hs2⟩ := slice_midB (T := B) pos N pe hpe (by have := HH3.out.1.rd; rw [← HN.out] at this; exact this) HN.out (by omega) (by omega)
              obtain ⟨w2, rfl⟩ : ∃ w2 : World, w2 = wz := ⟨_, rfl⟩
              have HC := Lib.hid HH3.out.1.cells
              rw [← HN.out] at HC
              obtain ⟨xs, hxs⟩ : ∃ xs, xs = (B.drop pos).take N := ⟨_, rfl⟩
              rw [← hxs] at hs2
              have HS := Lib.hid (And.intro hs1 hs2)
              have HX := Lib.hid hxs
              have HPE := Lib.hid hpe
              obtain ⟨B0, hB0⟩ : ∃ B0, B0 = w2.heap.size := ⟨_, rfl⟩
              have HB0 := Lib.hid hB0
              have hBs : B0 ≤ w2.heap.size := Nat.le_of_eq hB0
              have hcs := HH3.out.1.cells
              rw [← HN.out, ← hB0] at hcs
              have HC := Lib.hid hcs
              clear hs1 hs2 hxs hG hcs hpe hB0
              go_wp2_with fail
              refine wp_region_steps [some 55, some 56, some 57, some 58, some 59, some 60, some 61, some 62, some 63, some 64, some 65, some 66, some 67, some 68, some 69, some 70, some 71, some 72, some 9] [] (rfRawF q n c pos N pe a a3 c3 B0 xs) (kA B0) (fun wx => Below B0 w2 wx) (by kernel_rfl) (by kernel_rfl) rfl (by kernel_rfl) (Below.refl _ _).drew (kA_refl B0) (fun _ _ _ h k => h.trans k.2) ?hF ?hstep ?hend
              case hF =>
                exact ⟨fun j hg _ _ _ k h => by
                  have n17 : j ≠ 17 := fun e => by subst e; exact absurd hg (by rw [show goneB _ 0 17 = true by kernel_rfl]; simp)
                  have kb := k.1 n17
                  obtain ⟨g, h1, h2, h3⟩ := h
                  exact ⟨g, h1, h2, (kb.block g (Array.getElem?_eq_some_iff.1 h3).1).trans h3⟩, ⟨fun _ _ _ _ _ _ h => h, ⟨fun _ _ _ _ _ _ h => h, ⟨fun _ _ _ _ _ _ h => h, ⟨fun _ _ _ _ _ _ h => h, ⟨fun _ _ _ _ _ _ h => h, ⟨fun _ _ _ _ _ _ h => h, ⟨fun _ _ _ _ _ _ h => h, ⟨fun _ _ _ _ _ _ h => h, ⟨fun _ _ _ _ _ _ h => h, ⟨fun _ _ _ _ _ _ h => h, ⟨fun _ _ _ _ _ _ h => h, ⟨fun _ _ _ _ _ _ h => h, ⟨fun _ _ _ _ _ _ h => h, ⟨fun _ _ _ _ _ _ h => h, ⟨fun _ _ _ _ _ _ h => h, ⟨fun _ _ _ _ _ _ h => h, ⟨fun j hg _ _ _ k h => by
                  have n17 : j ≠ 17 := fun e => by subst e; exact absurd hg (by rw [show goneB _ 17 17 = true by kernel_rfl]; simp)
                  exact own_keep h (k.1 n17), ⟨fun j hg _ _ _ k h => by
                  have n17 : j ≠ 17 := fun e => by subst e; exact absurd hg (by rw [show goneB _ 18 17 = true by kernel_rfl]; simp)
                  exact own_keep h (k.1 n17), trivial⟩⟩⟩⟩⟩⟩⟩⟩⟩⟩⟩⟩⟩⟩⟩⟩⟩⟩⟩
              case hstep =>
                -- operation 0: Op.buildSlice 22 0 #[]
                refine ⟨fun r wx hG hs hq hf => ?_, ?_⟩
                · refine (if_pos rfl).symm ▸ ?_
                  clear hs hq hf
                  unfold gives
                  go_simp
                  exact ⟨kA_of ((Below.refl _ _).alloc (Nat.le_refl _) _) (Nat.le_trans hBs hG.size), _, rfl, Nat.le_trans hBs hG.size, heap_alloc_new _ _⟩
                -- operation 1: Op.move (tmp 0)
                refine ⟨fun r wx hG hs hq hf => ?_, ?_⟩
                · have e0 : r 0 = .pointer (some ⟨q, 0, none⟩) := hs 0 rfl
                  refine (if_pos rfl).symm ▸ ?_
                  clear hs hq hf
                  unfold gives
                  go_simp
                  exact ⟨kA_refl _ _ _, rfl⟩
                -- operation 2: Op.nilCheck (tmp 56)
                refine ⟨fun r wx hG hs hq hf => ?_, ?_⟩
                · have h1 : r 56 = .pointer (some ⟨q, 0, none⟩) := hf.1
                  refine (if_pos rfl).symm ▸ ?_
                  clear hs hq hf
                  unfold gives
                  go_simp
                  exact ⟨kA_refl _ _ _, rfl⟩
                -- operation 3: Op.fieldAddr 43 (tmp 57) 0
                refine ⟨fun r wx hG hs hq hf => ?_, ?_⟩
                · have h2 : r 57 = .pointer (some ⟨q, 0, none⟩) := hf.1
                  refine (if_pos rfl).symm ▸ ?_
                  clear hs hq hf
                  unfold gives
                  go_simp
                  exact ⟨kA_refl _ _ _, rfl⟩
                -- operation 4: Op.load 22 (tmp 58)
                refine ⟨fun r wx hG hs hq hf => ?_, ?_⟩
                · have h3 : r 58 = .pointer (some ⟨q, 0, none⟩) := hf.1
                  refine (if_pos rfl).symm ▸ ?_
                  clear hs hq hf
                  unfold gives
                  have hc := (hG.cell (p := ⟨q, 0, none⟩) HC.out.1).trans HC.out.2.1
                  go_simp
                  exact ⟨kA_refl _ _ _, rfl⟩
                -- operation 5: Op.move (tmp 0)
                refine ⟨fun r wx hG hs hq hf => ?_, ?_⟩
                · have e0 : r 0 = .pointer (some ⟨q, 0, none⟩) := hs 0 rfl
                  refine (if_pos rfl).symm ▸ ?_
                  clear hs hq hf
                  unfold gives
                  go_simp
                  exact ⟨kA_refl _ _ _, rfl⟩
                -- operation 6: Op.nilCheck (tmp 60)
                refine ⟨fun r wx hG hs hq hf => ?_, ?_⟩
                · have h5 : r 60 = .pointer (some ⟨q, 0, none⟩) := hf.1
                  refine (if_pos rfl).symm ▸ ?_
                  clear hs hq hf
                  unfold gives
                  go_simp
                  exact ⟨kA_refl _ _ _, rfl⟩
                -- operation 7: Op.fieldAddr 43 (tmp 61) 1
                refine ⟨fun r wx hG hs hq hf => ?_, ?_⟩
                · have h6 : r 61 = .pointer (some ⟨q, 0, none⟩) := hf.1
                  refine (if_pos rfl).symm ▸ ?_
                  clear hs hq hf
                  unfold gives
                  go_simp
                  exact ⟨kA_refl _ _ _, rfl⟩
                -- operation 8: Op.load 3 (tmp 62)
                refine ⟨fun r wx hG hs hq hf => ?_, ?_⟩
                · have h7 : r 62 = .pointer (some ⟨q, 1, none⟩) := hf.1
                  refine (if_pos rfl).symm ▸ ?_
                  clear hs hq hf
                  unfold gives
                  have hc := (hG.cell (p := ⟨q, 1, none⟩) HC.out.1).trans HC.out.2.2.1
                  go_simp
                  exact ⟨kA_refl _ _ _, rfl⟩
                -- operation 9: Op.move (tmp 0)
                refine ⟨fun r wx hG hs hq hf => ?_, ?_⟩
                · have e0 : r 0 = .pointer (some ⟨q, 0, none⟩) := hs 0 rfl
                  refine (if_pos rfl).symm ▸ ?_
                  clear hs hq hf
                  unfold gives
                  go_simp
                  exact ⟨kA_refl _ _ _, rfl⟩
                -- operation 10: Op.nilCheck (tmp 64)
                refine ⟨fun r wx hG hs hq hf => ?_, ?_⟩
                · have h9 : r 64 = .pointer (some ⟨q, 0, none⟩) := hf.1
                  refine (if_pos rfl).symm ▸ ?_
                  clear hs hq hf
                  unfold gives
                  go_simp
                  exact ⟨kA_refl _ _ _, rfl⟩
                -- operation 11: Op.fieldAddr 43 (tmp 65) 1
                refine ⟨fun r wx hG hs hq hf => ?_, ?_⟩
                · have h10 : r 65 = .pointer (some ⟨q, 0, none⟩) := hf.1
                  refine (if_pos rfl).symm ▸ ?_
                  clear hs hq hf
                  unfold gives
                  go_simp
                  exact ⟨kA_refl _ _ _, rfl⟩
                -- operation 12: Op.load 3 (tmp 66)
                refine ⟨fun r wx hG hs hq hf => ?_, ?_⟩
                · have h11 : r 66 = .pointer (some ⟨q, 1, none⟩) := hf.1
                  refine (if_pos rfl).symm ▸ ?_
                  clear hs hq hf
                  unfold gives
                  have hc := (hG.cell (p := ⟨q, 1, none⟩) HC.out.1).trans HC.out.2.2.1
                  go_simp
                  exact ⟨kA_refl _ _ _, rfl⟩
                -- operation 13: Op.move (tmp 7)
                refine ⟨fun r wx hG hs hq hf => ?_, ?_⟩
                · have e7 : r 7 = .int .u64 N := hs 7 rfl
                  refine (if_pos rfl).symm ▸ ?_
                  clear hs hq hf
                  unfold gives
                  go_simp
                  exact ⟨kA_refl _ _ _, rfl⟩
                -- operation 14: Op.convert 26 3 (tmp 68)
                refine ⟨fun r wx hG hs hq hf => ?_, ?_⟩
                · have h13 : r 68 = .int .u64 N := hf.1
                  refine (if_pos rfl).symm ▸ ?_
                  clear hs hq hf
                  unfold gives
                  have z7 : IntKind.i64.wrap (N : Int) = (N : Int) := IntWalk.i64_in _ (by omega)
                  go_simp
                  exact ⟨kA_refl _ _ _, rfl⟩
                -- operation 15: Op.binOp BinOp.add 3 (tmp 67) (tmp 69) 3
                refine ⟨fun r wx hG hs hq hf => ?_, ?_⟩
                · have h12 : r 67 = .int .i64 pos := hf.1
                  have h14 : r 69 = .int .i64 N := hf.2.1
                  refine (if_pos rfl).symm ▸ ?_
                  clear hs hq hf
                  unfold gives
                  have z7 : IntKind.i64.wrap ((pos : Int) + (N : Int)) = (pe : Int) := (IntWalk.i64_in _ (by omega)).trans (by have := HPE.out; omega)
                  go_simp
                  exact ⟨kA_refl _ _ _, rfl⟩
                -- operation 16: Op.slice 22 (tmp 59) (some (tmp 63)) (some (tmp 70)) none
                refine ⟨fun r wx hG hs hq hf => ?_, ?_⟩
                · have h4 : r 59 = .slice a n c := hf.1
                  have h8 : r 63 = .int .i64 pos := hf.2.1
                  have h15 : r 70 = .int .i64 pe := hf.2.2.1
                  refine (if_pos rfl).symm ▸ ?_
                  clear hs hq hf
                  unfold gives
                  have hsx := HS.out.1
                  go_simp
                  exact ⟨kA_refl _ _ _, rfl⟩
                -- operation 17: Op.call ( callee := Callee.builtin Builtin.append, args := #[tmp 55, tmp 71], argTypes := #[22, 22] )
                refine ⟨fun r wx hG hs hq hf => ?_, ?_⟩
                · have h0 : ∃ g, (r 55) = .slice (some ⟨g, 0, none⟩) 0 0 ∧ B0 ≤ g ∧ wx.heap[g]? = some (.cells #[] 5 (0, 0)) := hf.1
                  have h16 : r 71 = .slice a3 N c3 := hf.2.1
                  refine (if_pos rfl).symm ▸ ?_
                  clear hs hq hf
                  unfold gives
                  obtain ⟨g, hk, hkB, hkc⟩ := h0
                  refine gives_app Try.underlying22 info8 rfl (by decide) _ _ rfl hk h16 (own_emptyR hkc hkB) (HS.out.2.keepB hG (Nat.le_of_eq HB0.out.symm)) (by omega) (by omega) (Nat.le_trans hBs hG.size) ?_
                  intro v' wy ho hg _
                  rw [Nat.zero_add, List.nil_append] at ho
                  exact ⟨⟨fun e => absurd rfl e, hg.below (Nat.le_trans hBs hG.size) (fun j hj => by simp [Value.ownBlock] at hj; omega)⟩, ho⟩
                -- operation 18: Op.assign (tmp 72)
                refine ⟨fun r wx hG hs hq hf => ?_, ?_⟩
                · have h17 : wx.ownsRow B0 5 1 (r 72) N (bv xs) := hf.1
                  refine (if_pos rfl).symm ▸ ?_
                  clear hs hq hf
                  unfold gives
                  go_simp
                  exact ⟨kA_refl _ _ _, h17⟩
                exact trivial
              case hend =>
                intro u wz hG hfin
                have z18 : wz.ownsRow B0 5 1 (u 18) N (bv xs) := hfin 18 (by decide) (by kernel_rfl)
                clear hfin
                simp only [fill]
                go_simp
                obtain ⟨av, cv, e18⟩ := own_formq z18
                rw [e18] at z18
                rw [e18]
                have hr2 := HH3.out.1.of (w' := wz) (below_grownR (by rw [← HB0.out]; exact hG)) ((hG.block q HC.out.1).trans HH3.out.1.row) HH3.out.1.le
                have hcz : wz.cell? ⟨q, 1, none⟩ = some (.int .i64 pos) := hr2.cells.2.2.1
                have hzz : wz.frozen? ⟨q, 1, none⟩ = false := by simp [World.frozen?, hr2.row]
                have z8 : IntKind.i64.wrap (N : Int) = (N : Int) := IntWalk.i64_in _ (by omega)
                have z9 : IntKind.i64.wrap ((pos : Int) + (N : Int)) = ((pos + N : Nat) : Int) := (IntWalk.i64_in _ (by omega)).trans (by omega)
                have hrz : Rfr (wz.setCell ⟨q, 1, none⟩ (.int .i64 ((pos + N : Nat) : Int))) q a c B (pos + N) 0 := by
                  refine hr2.of (grown_set1 (World.grownBy.refl _ _) 1 _) ?_ (by have := HN.out; omega)
                  rw [heap_setCell_same wz q 1 _ _ _ hr2.row]; rfl
                have hgz : w.grownBy (wz.setCell ⟨q, 1, none⟩ (.int .i64 ((pos + N : Nat) : Int))) (some q) := grown_set1 (grown_trans HH3.out.2 (below_grownR (r := some q) (by rw [← HB0.out]; exact hG)) (fun j hj => .inl hj)) 1 _
                have hq0 := HC.out.1
                have hrd : Rd (wz.setCell ⟨q, 1, none⟩ (.int .i64 ((pos + N : Nat) : Int))) 1 (.slice av N cv) N (bv xs) := by
                  refine (own_rd z18 (bv_one _)).keepP (fun y hy => heap_setCell_other wz ⟨q, 1, none⟩ y.block _ (fun e => ?_))
                  have hb := own_block z18 y.block (by simp [Value.ownBlock, hy])
                  have e2 : y.block = q := e
                  omega
                have HF := Lib.hid (And.intro hgz (And.intro hrd hrz))
                have HU := Lib.hid z18
                have HGZ : Hid (w.heap.size ≤ w2.heap.size) := Lib.hid HH3.out.2.size
                clear hr2 hrz hgz hrd z18 hG e18
                go_wp2_with fail
                go_ret2
                have hxl : xs.length = N := by rw [HX.out, List.length_take, List.length_drop, ← HN.out]; omega
                have hcast : (pos : Int) + (N : Int) = ((pos + N : Nat) : Int) := by omega
                refine ⟨by first | exact HF.out.1 | (rw [hcast]; exact HF.out.1), ?_⟩
                rw [if_pos rfl, HRF.out, if_pos rfl]
                simp only [← HX.out, hxl]
                exact ⟨⟨_, _, rfl, by first | exact HF.out.2.1 | (rw [hcast]; exact HF.out.2.1), fun j hj => by have h1 := HU.out.lt j hj; have h2 := HB0.out; have h3 := HH.out.2.size; have h4 := HGZ.out; simp only [World.setCell, Array.size_modify]; omega⟩, _, by first | exact HF.out.2.2 | (rw [hcast]; exact HF.out.2.2), by rw [List.drop_drop]⟩
    · rw [if_neg hR0] at hres
      obtain ⟨rfl, hr1⟩ := hres
      rw [if_pos hR0] at hRR
      obtain ⟨z, hz⟩ : ∃ z, z = R.1 := ⟨_, rfl⟩
      rw [← hz] at hr1 hRR hR0 ⊢
      have z1 : (z == 0) = false := by simp [hR0]
      have HZ := Lib.hid (And.intro hr1 (And.intro hg1 (And.intro hRR hR0)))
      clear hr1 hg1 hnum hR hRR hR0 hz
      go_wp2_with fail
      go_ret2
      refine ⟨HZ.out.2.1, ?_⟩
      rw [if_pos rfl, HZ.out.2.2.1, if_neg HZ.out.2.2.2]
      exact ⟨rfl, HZ.out.1⟩
  · rw [if_neg hno] at hres
    obtain ⟨rfl, hr1⟩ := hres
    have z1 : (no == 0) = false := by simp [hno]
    have HZ := Lib.hid (And.intro hr1 hg1)
    clear hr1 hg1 hnum hR hRR
    go_wp2_with fail
    go_ret2
    refine ⟨HZ.out.2, ?_⟩
    rw [if_neg hno]
    exact ⟨rfl, HZ.out.1⟩
end Go.Proofs.Ytpdlocdlnoibbaa
