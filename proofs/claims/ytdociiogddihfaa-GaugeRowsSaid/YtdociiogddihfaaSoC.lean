/- slices.insertionSortCmpFunc. (printed by gen/soc.py) -/
import Derived.Test.YtdociiogddihfaaSoA
namespace Go.Proofs.Ytdociiogddihfaa
open Go.RowKit

/-- What is asked of the comparing function: in every world that the sort comes to, cf says it. -/
def CmpOk (base : World) (B N g : Nat) (cb : Array Value) (cf : Nat → Nat → Int) (k1 k2 : Nat → Int) : Prop :=
  ∀ wx, base.grownBy wx (some B) → ∀ x y : Nat, x < N → y < N → (decide (cf x y < 0) = kl k1 k2 x y) ∧ Calls Try.prog g (#[.int .i64 x, .int .i64 y] ++ cb) wx fun e w' => e = .returned (.int .i64 (cf x y)) ∧ Below wx.heap.size wx w'
theorem CmpOk.on {base wr : World} {B N g : Nat} {cb : Array Value} {cf : Nat → Nat → Int} {k1 k2 : Nat → Int} (h : CmpOk base B N g cb cf k1 k2) (hb : base.grownBy wr (some B)) {x y : Nat} (hx : x < N) (hy : y < N) :
    ∀ wx, Below wr.heap.size wr wx → Calls Try.prog g (#[.int .i64 x, .int .i64 y] ++ cb) wx fun e w' => e = .returned (.int .i64 (cf x y)) ∧ Below wx.heap.size wx w' := fun wx k => (h wx (grown_below hb k) x y hx hy).2
theorem CmpOk.says {base wr : World} {B N g : Nat} {cb : Array Value} {cf : Nat → Nat → Int} {k1 k2 : Nat → Int} (h : CmpOk base B N g cb cf k1 k2) (hb : base.grownBy wr (some B)) {x y : Nat} (hx : x < N) (hy : y < N) : decide (cf x y < 0) = kl k1 k2 x y := (h wr hb x y hx hy).1
/-- What each operation hands on. -/
def insF (B nn c j jp a x s g : Nat) (cb : Array Value) (cf : Nat → Nat → Int) (tv : Bool) : Nat → Value → World → Prop
  | 0, v, _ => v = .int .i64 j
  | 1, v, _ => v = .int .i64 a
  | 2, v, _ => v = .bool true
  | 3, v, _ => v = .bool true
  | 4, v, _ => v = .func (.func g) #[] cb
  | 5, v, _ => v = .slice (some ⟨B, 0, none⟩) nn c
  | 6, v, _ => v = .int .i64 j
  | 7, v, _ => v = .pointer (some ⟨B, j, none⟩)
  | 8, v, _ => v = .int .i64 x
  | 9, v, _ => v = .slice (some ⟨B, 0, none⟩) nn c
  | 10, v, _ => v = .int .i64 j
  | 11, v, _ => v = .int .i64 jp
  | 12, v, _ => v = .pointer (some ⟨B, jp, none⟩)
  | 13, v, _ => v = .int .i64 s
  | 14, v, _ => v = .int .i64 (cf x s)
  | 15, v, _ => v = .bool tv
  | 16, v, _ => v = .bool tv
  | _, _, _ => True

set_option maxHeartbeats 8000000 in
set_option maxRecDepth 100000 in
theorem insertion_any (P S0 Q : List Nat) (B a b nn c N g : Nat) (cb : Array Value) (cf : Nat → Nat → Int) (k1 k2 : Nat → Int) (base w : World) (eg : ∀ args w, (callFunc g args).run Try.prog w = .ok (.enter g args) w) (hcmp : CmpOk base B N g cb cf k1 k2) (ha : P.length = a) (hb : a + S0.length = b) (hasc : S0.Pairwise (· < ·)) (hN : ∀ x ∈ S0, x < N) (hnn : (P ++ S0 ++ Q).length = nn) (hbig : nn < 1000000) (hr : SRow w B (P ++ S0 ++ Q)) (hw : base.grownBy w (some B)) :
    Calls Try.prog 66 #[.slice (some ⟨B, 0, none⟩) nn c, .int .i64 a, .int .i64 b, .func (.func g) #[] cb] w fun e w' => e = .returned (.tuple #[]) ∧ ∃ S, S.Perm S0 ∧ Srt k1 k2 S ∧ SRow w' B (P ++ S ++ Q) ∧ base.grownBy w' (some B) := by
  simp only [List.length_append] at hnn
  have hbd : a < 1000000 ∧ b < 1000000 ∧ a ≤ b ∧ b ≤ nn := by omega
  have zi : IntKind.i64.wrap ((a : Int) + 1) = ((a : Int) + 1) := by rw [IntKind.wrap_i64]; omega
  have HH := Lib.hid (And.intro ha (And.intro hb (And.intro hnn (And.intro hasc hN))))
  have HR := Lib.hid hr
  have HW := Lib.hid hw
  have HCMP := Lib.hid hcmp
  clear ha hb hnn hasc hN hr hw hcmp
  go_enter Try.func66, Try.ntmps66
  go_upto_region 1 with fail
  clear zi
  go_loopw [8] (fun s8 wr => ∃ (i : Nat) (S D R : List Nat), s8 = .int .i64 i ∧ a < i ∧ i ≤ b + 1 ∧ Hid (S0 = D ++ R ∧ S.Perm D ∧ Srt k1 k2 S ∧ (D.length + a = i ∨ (R = [] ∧ i = b + 1))) ∧ Hid (SRow wr B (P ++ S ++ R ++ Q)) ∧ Hid (base.grownBy wr (some B))) (fun i _ => b + 1 - (intOf i).toNat)
  case atStart =>
    cases S0 with
    | nil => exact ⟨a + 1, [], [], [], by go_num, by omega, by omega, Lib.hid ⟨rfl, List.Perm.refl _, List.Pairwise.nil, .inr ⟨rfl, by have := HH.out.2.1; simp at this; omega⟩⟩, Lib.hid (by have := HR.out; simpa using this), HW⟩
    | cons x S0 => exact ⟨a + 1, [x], [x], S0, by go_num, by omega, by omega, Lib.hid ⟨rfl, List.Perm.refl _, List.pairwise_singleton _ _, .inl (by simp; omega)⟩, Lib.hid (by have := HR.out; simpa using this), HW⟩
  case round =>
    obtain ⟨i, S, D, R, rfl, hai, hib, HL, HS, HG⟩ := hrel
    by_cases hlt : i < b
    · have hz : (i : Int) < (b : Int) := by omega
      obtain ⟨x, R', hRx⟩ : ∃ x t, R = x :: t := by
        cases R with
        | nil =>
          exfalso
          have h := HL.out
          have h2 := HH.out.2.1
          rw [h.1] at h2
          simp at h2
          rcases h.2.2.2 with h3 | h3 <;> omega
        | cons x t => exact ⟨x, t, rfl⟩
      subst hRx
      have hDl : D.length + a = i := by rcases HL.out.2.2.2 with h | ⟨h, _⟩; exact h; cases h
      have hSl : P.length + S.length = i := by rw [HL.out.2.1.length_eq, HH.out.1]; omega
      have hxN : x < N := HH.out.2.2.2.2 x (by rw [HL.out.1]; simp)
      have hSx : ∀ s ∈ S, s < x ∧ s < N := fun s hs => by
        have hd := HL.out.2.1.mem_iff.1 hs
        have hp := HH.out.2.2.2.1
        rw [HL.out.1] at hp
        exact ⟨(List.pairwise_append.1 hp).2.2 s hd x (by simp), HH.out.2.2.2.2 s (by rw [HL.out.1]; exact List.mem_append_left _ hd)⟩
      have HX := Lib.hid (And.intro hDl (And.intro hSl (And.intro hxN hSx)))
      clear hDl hSl hxN hSx
      go_upto_region 4 with fail
      go_loopw [9] (fun s9 wr2 => ∃ (j : Nat) (S1 S2 : List Nat), s9 = .int .i64 j ∧ a ≤ j ∧ j ≤ i ∧ Hid (S = S1 ++ S2 ∧ P.length + S1.length = j ∧ (∀ s, S2.head? = some s → tl k1 k2 x s)) ∧ Hid (SRow wr2 B (P ++ S1 ++ x :: S2 ++ R' ++ Q)) ∧ Hid (base.grownBy wr2 (some B))) (fun j _ => (intOf j).toNat)
      case atStart => exact ⟨i, S, [], rfl, by omega, Nat.le_refl _, Lib.hid ⟨by simp, HX.out.2.1, by simp⟩, Lib.hid (by have := HS.out; simpa using this), HG⟩
      case round =>
        clear HS HG
        obtain ⟨j, S1, S2, rfl, haj, hji, HL2, HS, HG⟩ := hrel
        by_cases hja : a < j
        · have hzj : (a : Int) < (j : Int) := by omega
          obtain ⟨S1', s, hS1⟩ : ∃ t s, S1 = t ++ [s] := by
            have h := HL2.out.2.1
            have h2 := HH.out.1
            have hne : S1 ≠ [] := by rintro rfl; simp at h; omega
            exact ⟨S1.dropLast, S1.getLast hne, (List.dropLast_concat_getLast hne).symm⟩
          subst hS1
          have hjl := HL2.out.2.1
          simp only [List.length_append, List.length_singleton] at hjl
          have hrow := HS.out
          have hxs : P ++ (S1' ++ [s]) ++ x :: S2 ++ R' ++ Q = (P ++ S1') ++ s :: x :: (S2 ++ R' ++ Q) := by simp
          rw [hxs] at hrow
          obtain ⟨jp, hjp⟩ : ∃ q, q = (P ++ S1').length := ⟨_, rfl⟩
          have hjp2 : j = jp + 1 := by rw [hjp, List.length_append]; omega
          have g1 : ((P ++ S1') ++ s :: x :: (S2 ++ R' ++ Q))[jp]? = some s := by rw [hjp]; exact get_app _ _ _
          have g2 : ((P ++ S1') ++ s :: x :: (S2 ++ R' ++ Q))[j]? = some x := by
            have := get_app ((P ++ S1') ++ [s]) (S2 ++ R' ++ Q) x
            rw [List.length_append, List.length_singleton, ← hjp, ← hjp2] at this
            simpa using this
          have hsx := HX.out.2.2.2 s (by rw [HL2.out.1]; simp)
          have hadj := swap_adj (P ++ S1') (S2 ++ R' ++ Q) s x
          rw [← hjp, ← hjp2] at hadj
          have HGS := Lib.hid (And.intro g1 (And.intro g2 hadj))
          have HC1 := Lib.hid (hrow.cell g2)
          have HC2 := Lib.hid (hrow.cell g1)
          have HSX := Lib.hid hsx
          have HCM := Lib.hid (HCMP.out.on HG.out HX.out.2.2.1 hsx.2)
          obtain ⟨tv, htv⟩ : ∃ q, q = kl k1 k2 x s := ⟨_, rfl⟩
          have HTV := Lib.hid ((HCMP.out.says HG.out HX.out.2.2.1 hsx.2).trans htv.symm)
          have HTL := Lib.hid htv
          have HROW := Lib.hid hrow
          have zjp : IntKind.i64.wrap ((j : Int) - 1) = (jp : Int) := by rw [IntKind.wrap_i64]; omega
          have pj0 : (0 : Int) ≤ (j : Int) := by omega
          have pj1 : (j : Int) < (nn : Int) := by omega
          have pp0 : (0 : Int) ≤ (jp : Int) := by omega
          have pp1 : (jp : Int) < (nn : Int) := by omega
          have HJ := Lib.hid (And.intro hjp2 hjl)
          clear hsx htv hadj g1 g2 hjp hxs hrow hjl hjp2
          go_upto_region 4 with fail
          refine wp_region_steps [some 18, some 19, some 20, some 21, some 22, some 23, some 24, some 25, some 26, some 27, some 28, some 29, some 30, some 31, some 32, some 33, some 34] [] (insF B nn c j jp a x s g cb cf tv) (fun _ wx wy => Below wx.heap.size wx wy) (fun wx => Below wr.heap.size wr wx) (by kernel_rfl) (by kernel_rfl) rfl (by kernel_rfl) (Below.refl _ _).drew (fun _ wx => Below.refl _ _) (fun _ wx wy h k => h.trans (k.mono h.size)) ?hF ?hstep ?hend
          case hF =>
            exact ⟨fun _ _ _ _ _ _ h => h, ⟨fun _ _ _ _ _ _ h => h, ⟨fun _ _ _ _ _ _ h => h, ⟨fun _ _ _ _ _ _ h => h, ⟨fun _ _ _ _ _ _ h => h, ⟨fun _ _ _ _ _ _ h => h, ⟨fun _ _ _ _ _ _ h => h, ⟨fun _ _ _ _ _ _ h => h, ⟨fun _ _ _ _ _ _ h => h, ⟨fun _ _ _ _ _ _ h => h, ⟨fun _ _ _ _ _ _ h => h, ⟨fun _ _ _ _ _ _ h => h, ⟨fun _ _ _ _ _ _ h => h, ⟨fun _ _ _ _ _ _ h => h, ⟨fun _ _ _ _ _ _ h => h, ⟨fun _ _ _ _ _ _ h => h, ⟨fun _ _ _ _ _ _ h => h, trivial⟩⟩⟩⟩⟩⟩⟩⟩⟩⟩⟩⟩⟩⟩⟩⟩⟩
          case hstep =>
            refine ⟨fun r wx hG hs hq hf => ?_, ?_⟩
            · have e9 : r 9 = .int .i64 j := hs 9 rfl
              refine (if_pos rfl).symm ▸ ?_
              clear hs hq hf
              unfold gives
              go_simp
              exact ⟨Below.refl _ _, rfl⟩
            refine ⟨fun r wx hG hs hq hf => ?_, ?_⟩
            · have e1 : r 1 = .int .i64 a := hs 1 rfl
              refine (if_pos rfl).symm ▸ ?_
              clear hs hq hf
              unfold gives
              go_simp
              exact ⟨Below.refl _ _, rfl⟩
            refine ⟨fun r wx hG hs hq hf => ?_, ?_⟩
            · have h0 : r 18 = .int .i64 j := hf.1
              have h1 : r 19 = .int .i64 a := hf.2.1
              refine (if_pos rfl).symm ▸ ?_
              clear hs hq hf
              unfold gives
              go_simp
              exact ⟨Below.refl _ _, rfl⟩
            refine ⟨fun r wx hG hs hq hf => ?_, ?_⟩
            · have h2 : r 20 = .bool true := hf.1
              refine (if_pos rfl).symm ▸ ?_
              clear hs hq hf
              unfold gives
              go_simp
              exact ⟨Below.refl _ _, rfl⟩
            refine ⟨fun r wx hG hs hq hf => ?_, ?_⟩
            · have e3 : r 3 = .func (.func g) #[] cb := hs 3 rfl
              have h3 : r 21 = .bool true := hf.1
              have hy : ydD [some 18, some 19, some 20, some 21, some 22, some 23, some 24, some 25, some 26, some 27, some 28, some 29, some 30, some 31, some 32, some 33, some 34] r 3 = some true := by show (match r 21 with | .bool b => some b | _ => none) = some true; rw [h3]
              simp only [Region.wanted, hy, beq_self_eq_true, if_true]
              clear hs hq hf hy
              unfold gives
              go_simp
              exact ⟨Below.refl _ _, rfl⟩
            refine ⟨fun r wx hG hs hq hf => ?_, ?_⟩
            · have e0 : r 0 = .slice (some ⟨B, 0, none⟩) nn c := hs 0 rfl
              have h3 : r 21 = .bool true := hf.1
              have hy : ydD [some 18, some 19, some 20, some 21, some 22, some 23, some 24, some 25, some 26, some 27, some 28, some 29, some 30, some 31, some 32, some 33, some 34] r 3 = some true := by show (match r 21 with | .bool b => some b | _ => none) = some true; rw [h3]
              simp only [Region.wanted, hy, beq_self_eq_true, if_true]
              clear hs hq hf hy
              unfold gives
              go_simp
              exact ⟨Below.refl _ _, rfl⟩
            refine ⟨fun r wx hG hs hq hf => ?_, ?_⟩
            · have e9 : r 9 = .int .i64 j := hs 9 rfl
              have h3 : r 21 = .bool true := hf.1
              have hy : ydD [some 18, some 19, some 20, some 21, some 22, some 23, some 24, some 25, some 26, some 27, some 28, some 29, some 30, some 31, some 32, some 33, some 34] r 3 = some true := by show (match r 21 with | .bool b => some b | _ => none) = some true; rw [h3]
              simp only [Region.wanted, hy, beq_self_eq_true, if_true]
              clear hs hq hf hy
              unfold gives
              go_simp
              exact ⟨Below.refl _ _, rfl⟩
            refine ⟨fun r wx hG hs hq hf => ?_, ?_⟩
            · have h5 : r 23 = .slice (some ⟨B, 0, none⟩) nn c := hf.1
              have h6 : r 24 = .int .i64 j := hf.2.1
              have h3 : r 21 = .bool true := hf.2.2.1
              have hy : ydD [some 18, some 19, some 20, some 21, some 22, some 23, some 24, some 25, some 26, some 27, some 28, some 29, some 30, some 31, some 32, some 33, some 34] r 3 = some true := by show (match r 21 with | .bool b => some b | _ => none) = some true; rw [h3]
              simp only [Region.wanted, hy, beq_self_eq_true, if_true]
              clear hs hq hf hy
              unfold gives
              go_simp
              exact ⟨Below.refl _ _, rfl⟩
            refine ⟨fun r wx hG hs hq hf => ?_, ?_⟩
            · have h7 : r 25 = .pointer (some ⟨B, j, none⟩) := hf.1
              have h3 : r 21 = .bool true := hf.2.1
              have hy : ydD [some 18, some 19, some 20, some 21, some 22, some 23, some 24, some 25, some 26, some 27, some 28, some 29, some 30, some 31, some 32, some 33, some 34] r 3 = some true := by show (match r 21 with | .bool b => some b | _ => none) = some true; rw [h3]
              simp only [Region.wanted, hy, beq_self_eq_true, if_true]
              clear hs hq hf hy
              unfold gives
              have hc := (hG.cell (World.block_lt_of_cell? wr _ HC1.out)).trans HC1.out
              go_simp
              exact ⟨Below.refl _ _, rfl⟩
            refine ⟨fun r wx hG hs hq hf => ?_, ?_⟩
            · have e0 : r 0 = .slice (some ⟨B, 0, none⟩) nn c := hs 0 rfl
              have h3 : r 21 = .bool true := hf.1
              have hy : ydD [some 18, some 19, some 20, some 21, some 22, some 23, some 24, some 25, some 26, some 27, some 28, some 29, some 30, some 31, some 32, some 33, some 34] r 3 = some true := by show (match r 21 with | .bool b => some b | _ => none) = some true; rw [h3]
              simp only [Region.wanted, hy, beq_self_eq_true, if_true]
              clear hs hq hf hy
              unfold gives
              go_simp
              exact ⟨Below.refl _ _, rfl⟩
            refine ⟨fun r wx hG hs hq hf => ?_, ?_⟩
            · have e9 : r 9 = .int .i64 j := hs 9 rfl
              have h3 : r 21 = .bool true := hf.1
              have hy : ydD [some 18, some 19, some 20, some 21, some 22, some 23, some 24, some 25, some 26, some 27, some 28, some 29, some 30, some 31, some 32, some 33, some 34] r 3 = some true := by show (match r 21 with | .bool b => some b | _ => none) = some true; rw [h3]
              simp only [Region.wanted, hy, beq_self_eq_true, if_true]
              clear hs hq hf hy
              unfold gives
              go_simp
              exact ⟨Below.refl _ _, rfl⟩
            refine ⟨fun r wx hG hs hq hf => ?_, ?_⟩
            · have h10 : r 28 = .int .i64 j := hf.1
              have h3 : r 21 = .bool true := hf.2.1
              have hy : ydD [some 18, some 19, some 20, some 21, some 22, some 23, some 24, some 25, some 26, some 27, some 28, some 29, some 30, some 31, some 32, some 33, some 34] r 3 = some true := by show (match r 21 with | .bool b => some b | _ => none) = some true; rw [h3]
              simp only [Region.wanted, hy, beq_self_eq_true, if_true]
              clear hs hq hf hy
              unfold gives
              go_simp
              exact ⟨Below.refl _ _, rfl⟩
            refine ⟨fun r wx hG hs hq hf => ?_, ?_⟩
            · have h9 : r 27 = .slice (some ⟨B, 0, none⟩) nn c := hf.1
              have h11 : r 29 = .int .i64 jp := hf.2.1
              have h3 : r 21 = .bool true := hf.2.2.1
              have hy : ydD [some 18, some 19, some 20, some 21, some 22, some 23, some 24, some 25, some 26, some 27, some 28, some 29, some 30, some 31, some 32, some 33, some 34] r 3 = some true := by show (match r 21 with | .bool b => some b | _ => none) = some true; rw [h3]
              simp only [Region.wanted, hy, beq_self_eq_true, if_true]
              clear hs hq hf hy
              unfold gives
              go_simp
              exact ⟨Below.refl _ _, rfl⟩
            refine ⟨fun r wx hG hs hq hf => ?_, ?_⟩
            · have h12 : r 30 = .pointer (some ⟨B, jp, none⟩) := hf.1
              have h3 : r 21 = .bool true := hf.2.1
              have hy : ydD [some 18, some 19, some 20, some 21, some 22, some 23, some 24, some 25, some 26, some 27, some 28, some 29, some 30, some 31, some 32, some 33, some 34] r 3 = some true := by show (match r 21 with | .bool b => some b | _ => none) = some true; rw [h3]
              simp only [Region.wanted, hy, beq_self_eq_true, if_true]
              clear hs hq hf hy
              unfold gives
              have hc := (hG.cell (World.block_lt_of_cell? wr _ HC2.out)).trans HC2.out
              go_simp
              exact ⟨Below.refl _ _, rfl⟩
            refine ⟨fun r wx hG hs hq hf => ?_, ?_⟩
            · have h4 : r 22 = .func (.func g) #[] cb := hf.1
              have h8 : r 26 = .int .i64 x := hf.2.1
              have h13 : r 31 = .int .i64 s := hf.2.2.1
              have h3 : r 21 = .bool true := hf.2.2.2.1
              have hy : ydD [some 18, some 19, some 20, some 21, some 22, some 23, some 24, some 25, some 26, some 27, some 28, some 29, some 30, some 31, some 32, some 33, some 34] r 3 = some true := by show (match r 21 with | .bool b => some b | _ => none) = some true; rw [h3]
              simp only [Region.wanted, hy, beq_self_eq_true, if_true]
              clear hs hq hf hy
              unfold gives
              go_simp
              refine (HCM.out wx hG).mono ?_
              rintro e wy ⟨rfl, hb1⟩
              exact ⟨_, rfl, hb1, rfl⟩
            refine ⟨fun r wx hG hs hq hf => ?_, ?_⟩
            · have h14 : r 32 = .int .i64 (cf x s) := hf.1
              have h3 : r 21 = .bool true := hf.2.1
              have hy : ydD [some 18, some 19, some 20, some 21, some 22, some 23, some 24, some 25, some 26, some 27, some 28, some 29, some 30, some 31, some 32, some 33, some 34] r 3 = some true := by show (match r 21 with | .bool b => some b | _ => none) = some true; rw [h3]
              simp only [Region.wanted, hy, beq_self_eq_true, if_true]
              clear hs hq hf hy
              unfold gives
              go_simp
              exact ⟨Below.refl _ _, congrArg Value.bool HTV.out⟩
            refine ⟨fun r wx hG hs hq hf => ?_, ?_⟩
            · have h3 : r 21 = .bool true := hf.1
              have h15 : r 33 = .bool tv := hf.2.1
              refine (if_pos rfl).symm ▸ ?_
              clear hs hq hf
              unfold gives
              go_simp
              exact ⟨Below.refl _ _, rfl⟩
            exact trivial
          case hend =>
            intro u wz hG hfin
            have z16 : u 16 = .bool tv := hfin 16 (by decide) (by kernel_rfl)
            clear hfin
            simp only [fill]
            go_simp
            have hrz := HROW.out.keep hG
            have HGZ := Lib.hid (grown_below HG.out hG)
            have hsw := hrz.swap HGS.out.2.1 HGS.out.1
            rw [HGS.out.2.2] at hsw
            have c1 := hrz.cell HGS.out.2.1
            have c2 := hrz.cell HGS.out.1
            have f1 := hrz.free j
            have f2 := hrz.free jp
            obtain ⟨y3, c3⟩ := hrz.cell2 (i := j) HGS.out.1 s
            have HRZ := Lib.hid hrz
            have HSW := Lib.hid hsw
            clear hsw hrz hG
            cases tv with
            | true =>
              go_upto_region 6 with fail
              have mixed : Try.prog.follows .mixedOrders = true := by kernel_rfl
              go_big_region_o
              clear c1 c2 c3 f1 f2
              generalize ((wz.setCell ⟨B, j, none⟩ (.int .i64 s)).setCell ⟨B, jp, none⟩ (.int .i64 x)).drew = w3 at HSW ⊢
              go_wp2_with fail
              go_roundw
              case rel =>
                refine ⟨jp, S1', s :: S2, rfl, by have := HJ.out; have := HH.out.1; omega, by have := HJ.out; omega, Lib.hid ⟨by rw [HL2.out.1]; simp, by have := HJ.out; omega, fun r hr => by simp at hr; subst hr; exact kl_tl HTL.out.symm⟩, Lib.hid ?_, Lib.hid (grown_tr HGZ.out HSW.out.2)⟩
                have h := HSW.out.1
                simpa using h
              case measure => have := HJ.out; simp [intOf]; omega
            | false =>
              clear c1 c2 c3 f1 f2
              go_wp2_with fail
              go_roundw
              case rel =>
                refine ⟨i + 1, (S1' ++ [s]) ++ x :: S2, D ++ [x], R', by go_num, by omega, by omega, Lib.hid ⟨by rw [HL.out.1]; simp, ?_, ?_, .inl (by have := HX.out.1; simp; omega)⟩, Lib.hid ?_, HGZ⟩
                · have h1 := HL.out.2.1
                  rw [HL2.out.1] at h1
                  refine List.perm_middle.trans ?_
                  exact (List.Perm.cons x h1).trans (List.perm_append_comm (l₁ := [x]))
                · have h1 := HL.out.2.2.1
                  rw [HL2.out.1] at h1
                  refine srt_put h1 (fun r hr => ?_) HL2.out.2.2
                  simp at hr; subst hr
                  exact tl_of_not HTL.out.symm HSX.out.1
                · have h := HRZ.out
                  simpa using h
              case measure => simp [intOf]; omega
        · have hzj : ¬ (a : Int) < (j : Int) := by omega
          have mixed : Try.prog.follows .mixedOrders = true := by kernel_rfl
          go_upto_region 4 with fail
          go_big_region_o
          have HGZ := Lib.hid (grown_drew HG.out)
          have HRZ : Hid (SRow wr.drew B (P ++ S1 ++ x :: S2 ++ R' ++ Q)) := Lib.hid HS.out
          generalize wr.drew = w3 at HGZ HRZ ⊢
          go_wp2_with fail
          go_roundw
          case rel =>
            have hS1 : S1 = [] := by
              have h := HL2.out.2.1
              have h2 := HH.out.1
              exact List.eq_nil_of_length_eq_zero (by omega)
            subst hS1
            refine ⟨i + 1, x :: S2, D ++ [x], R', by go_num, by omega, by omega, Lib.hid ⟨by rw [HL.out.1]; simp, ?_, ?_, .inl (by have := HX.out.1; simp; omega)⟩, Lib.hid ?_, HGZ⟩
            · have h1 := HL.out.2.1
              rw [HL2.out.1] at h1
              exact (List.Perm.cons x h1).trans (List.perm_append_comm (l₁ := [x]))
            · have h1 := HL.out.2.2.1
              rw [HL2.out.1] at h1
              exact srt_put (a := []) h1 (by simp) HL2.out.2.2
            · have h := HRZ.out
              simpa using h
          case measure => simp [intOf]; omega
    · have hz : ¬ (i : Int) < (b : Int) := by omega
      go_wp2_with fail
      go_end0
      have h := HL.out
      have hR : R = [] := by
        rcases h.2.2.2 with h3 | h3
        · have h2 := HH.out.2.1
          rw [h.1] at h2
          simp at h2
          exact List.eq_nil_of_length_eq_zero (by omega)
        · exact h3.1
      subst hR
      refine ⟨rfl, S, ?_, h.2.2.1, ?_, HG.out⟩
      · rw [h.1]; simpa using h.2.1
      · have := HS.out; simpa using this
end Go.Proofs.Ytdociiogddihfaa
