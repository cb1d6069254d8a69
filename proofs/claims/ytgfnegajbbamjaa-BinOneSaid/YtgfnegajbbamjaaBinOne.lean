/- The law BinOne: bytes that are read as a number are that number's bytes. -/
import Derived.Test.YtgfnegajbbamjaaRdA
import Derived.Test.YtgfnegajbbamjaaTw
import Derived.Test.YtgfnegajbbamjaaReg
namespace Go.Proofs.Ytgfnegajbbamjaa
open Go.ChangeShapes Go.WideShapes Go.ChangeAt Go.RowKit

/-- What each operation hands on. -/
def oneF (N k b off c L : Nat) : Nat → Value → World → Prop
  | 0, v, _ => v = .int .i64 k
  | 1, v, _ => v = .bool true
  | 2, v, _ => v = .bool true
  | 3, v, _ => v = .int .i64 k
  | 4, v, _ => v = .slice (some ⟨b, off, none⟩) L c
  | 5, v, _ => v = .int .i64 L
  | 6, v, _ => v = .bool true
  | 7, v, _ => v = .bool true
  | 8, v, _ => v = .bool true
  | 9, v, _ => v = .int .u64 N
  | 10, v, w => Rd w 1 v (numB N).length (bv (numB N))
  | 11, v, _ => v = .string ⟨(numB N).toArray⟩
  | 12, v, _ => v = .slice (some ⟨b, off, none⟩) L c
  | 13, v, _ => v = .int .i64 k
  | 14, v, _ => v = .slice (some ⟨b, off, none⟩) k c
  | 15, v, _ => v = .string ⟨(numB N).toArray⟩
  | 16, v, _ => v = .bool true
  | 17, v, _ => v = .bool true
  | 18, v, _ => v = .bool true
  | _, _, _ => True

set_option maxHeartbeats 4000000 in
theorem binOne_walk (v : Value) (l : List UInt8) (w : World) (hr : Rd w 1 v l.length (bv l)) (hl : l.length ≤ 140737488351232) :
    Calls Try.prog 4 #[v] w fun e w' => e = .returned (.bool true) ∧ Below w.heap.size w w' := by
  obtain ⟨a, c, rfl⟩ := hr.form
  have haw := awake01_any w
  obtain ⟨L, hL⟩ : ∃ L, L = l.length := ⟨_, rfl⟩
  rw [← hL]
  have HL := Lib.hid hL
  have HR := Lib.hid hr
  clear hr hL
  go_enter Try.func4, Try.ntmps4
  go_wp2_with fail
  refine haw.mono ?_
  rintro e w1 ⟨rfl, hb1⟩
  have hnew := New_any _ l w1 (HR.out.keep hb1) (by omega)
  rw [← HL.out] at hnew
  have HB1 := Lib.hid hb1
  clear hb1 haw
  go_wp2_with fail
  refine hnew.mono ?_
  rintro e w2 ⟨p, a2, c2, rfl, hp, hrd, hb2⟩
  have hnum := RNum_any w2 p a2 c2 0 _ hrd
  have hsz1 := HB1.out.size
  have HB2 := Lib.hid (And.intro (HB1.out.trans (hb2.mono hsz1)) (Nat.le_trans hsz1 hp))
  clear hb2 hp hrd hnew hsz1
  go_wp2_with fail
  refine hnum.mono ?_
  rintro e w3 ⟨hg3, hres⟩
  rw [if_pos rfl] at hres
  have HB := Lib.hid (below_of_grown HB2.out.1 HB2.out.2 hg3)
  obtain ⟨R, hR⟩ : ∃ R, R = rdN l := ⟨_, rfl⟩
  rw [← hR] at hres
  by_cases hR0 : R.1 = 0
  · rw [if_pos hR0] at hres
    obtain ⟨rfl, a3, c3, hr3⟩ := hres
    obtain ⟨N, T, hRe⟩ : ∃ N T, R = (0, N, T) := ⟨R.2.1, R.2.2, by rw [← hR0]⟩
    have hok := rdN_ok l N T (by rw [← hRe, hR])
    have e1 : R.2.1 = N := by rw [hRe]
    have e2 : R.2.2 = T := by rw [hRe]
    rw [e2] at hr3
    rw [e1]
    have hleft := Left_any w3 p a3 c3 0 T hr3
    obtain ⟨k, hk⟩ : ∃ k, k = (numB N).length := ⟨_, rfl⟩
    have hlk : L = k + T.length := by rw [HL.out, hk, hok.2, List.length_append]
    have hk1 : 0 < k := by rw [hk, numB]; simp
    obtain ⟨b, off, c', hv, hcap, _⟩ := HR.out.at (by rw [← HL.out]; omega)
    simp only [Value.slice.injEq] at hv
    obtain ⟨rfl, _, rfl⟩ := hv
    rw [← HL.out] at hcap
    have hkl : k ≤ L := by omega
    have htk := HR.out.take' k (by rw [← HL.out]; exact hkl)
    have hbt : (bv l).take k = bv (numB N) := by
      have : l.take k = numB N := by rw [hok.2, hk]; simp
      rw [← this]; simp [bv, List.map_take]
    rw [hbt] at htk
    have htk2 : ∀ q, q = k → Rd w 1 (.slice (some ⟨b, off, none⟩) k c) q (bv (numB N)) := fun q hq => hq ▸ htk
    have HR := Lib.hid ((htk2 _ hk.symm).keep HB.out)
    have hL2 : L ≤ 140737488351232 := by rw [HL.out]; exact hl
    have hN : N < 18446744073709551616 := hok.1
    obtain ⟨m, hm⟩ : ∃ m, m = T.length := ⟨_, rfl⟩
    rw [← hm] at hleft hlk
    have HLK := Lib.hid hlk
    have z7 : IntKind.i64.wrap ((L : Int) - (m : Int)) = (k : Int) := by rw [IntWalk.i64_in _ (by omega)]; omega
    clear htk htk2 hbt hk hr3 hR hR0 hRe e1 e2 hok hnum hg3 hlk hm
    go_wp2_with fail
    refine hleft.mono ?_
    rintro e w4 ⟨rfl, rfl⟩
    go_wp2_with fail
    refine wp_region_steps [some 42, some 43, some 44, some 45, some 46, some 47, some 48, some 49, some 50, some 51, some 52, some 53, some 54, some 55, some 56, some 57, some 58, some 59, some 2] [] (oneF N k b off c L) (fun _ wx wy => Below wx.heap.size wx wy) (fun wx => Below w4.heap.size w4 wx) (by kernel_rfl) (by kernel_rfl) rfl (by kernel_rfl) (Below.refl _ _).drew (fun _ wx => Below.refl _ _) (fun _ wx wy h k => h.trans (k.mono h.size)) ?hF ?hstep ?hend
    case hF =>
      exact ⟨fun _ _ _ _ _ _ h => h, ⟨fun _ _ _ _ _ _ h => h, ⟨fun _ _ _ _ _ _ h => h, ⟨fun _ _ _ _ _ _ h => h, ⟨fun _ _ _ _ _ _ h => h, ⟨fun _ _ _ _ _ _ h => h, ⟨fun _ _ _ _ _ _ h => h, ⟨fun _ _ _ _ _ _ h => h, ⟨fun _ _ _ _ _ _ h => h, ⟨fun _ _ _ _ _ _ h => h, ⟨fun _ _ _ _ _ k h => h.keep k, ⟨fun _ _ _ _ _ _ h => h, ⟨fun _ _ _ _ _ _ h => h, ⟨fun _ _ _ _ _ _ h => h, ⟨fun _ _ _ _ _ _ h => h, ⟨fun _ _ _ _ _ _ h => h, ⟨fun _ _ _ _ _ _ h => h, ⟨fun _ _ _ _ _ _ h => h, ⟨fun _ _ _ _ _ _ h => h, trivial⟩⟩⟩⟩⟩⟩⟩⟩⟩⟩⟩⟩⟩⟩⟩⟩⟩⟩⟩
    case hstep =>
      -- operation 0: Op.move (tmp 7)
      refine ⟨fun r wx hG hs hq hf => ?_, ?_⟩
      · have e7 : r 7 = .int .i64 k := hs 7 rfl
        refine (if_pos rfl).symm ▸ ?_
        clear hs hq hf
        unfold gives
        go_simp
        exact ⟨Below.refl _ _, rfl⟩
      -- operation 1: Op.binOp BinOp.geq 3 (tmp 42) (const (Value.int IntKind.i64 0)) 3
      refine ⟨fun r wx hG hs hq hf => ?_, ?_⟩
      · have h0 : r 42 = .int .i64 k := hf.1
        refine (if_pos rfl).symm ▸ ?_
        clear hs hq hf
        unfold gives
        have z1 : (0 : Int) ≤ (k : Int) := by omega
        go_simp
        exact ⟨Below.refl _ _, rfl⟩
      -- operation 2: Op.move (tmp 43)
      refine ⟨fun r wx hG hs hq hf => ?_, ?_⟩
      · have h1 : r 43 = .bool true := hf.1
        refine (if_pos rfl).symm ▸ ?_
        clear hs hq hf
        unfold gives
        go_simp
        exact ⟨Below.refl _ _, rfl⟩
      -- operation 3: Op.move (tmp 7)
      refine ⟨fun r wx hG hs hq hf => ?_, ?_⟩
      · have e7 : r 7 = .int .i64 k := hs 7 rfl
        have h2 : r 44 = .bool true := hf.1
        have hy : ydD [some 42, some 43, some 44, some 45, some 46, some 47, some 48, some 49, some 50, some 51, some 52, some 53, some 54, some 55, some 56, some 57, some 58, some 59, some 2] r 2 = some true := by show (match r 44 with | .bool b => some b | _ => none) = some true; rw [h2]
        simp only [Region.wanted, hy, beq_self_eq_true, if_true]
        clear hs hq hf hy
        unfold gives
        go_simp
        exact ⟨Below.refl _ _, rfl⟩
      -- operation 4: Op.move (tmp 0)
      refine ⟨fun r wx hG hs hq hf => ?_, ?_⟩
      · have e0 : r 0 = .slice (some ⟨b, off, none⟩) L c := hs 0 rfl
        have h2 : r 44 = .bool true := hf.1
        have hy : ydD [some 42, some 43, some 44, some 45, some 46, some 47, some 48, some 49, some 50, some 51, some 52, some 53, some 54, some 55, some 56, some 57, some 58, some 59, some 2] r 2 = some true := by show (match r 44 with | .bool b => some b | _ => none) = some true; rw [h2]
        simp only [Region.wanted, hy, beq_self_eq_true, if_true]
        clear hs hq hf hy
        unfold gives
        go_simp
        exact ⟨Below.refl _ _, rfl⟩
      -- operation 5: Op.call ( callee := Callee.builtin Builtin.len, args := #[tmp 46], argTypes := #[24] )
      refine ⟨fun r wx hG hs hq hf => ?_, ?_⟩
      · have h4 : r 46 = .slice (some ⟨b, off, none⟩) L c := hf.1
        have h2 : r 44 = .bool true := hf.2.1
        have hy : ydD [some 42, some 43, some 44, some 45, some 46, some 47, some 48, some 49, some 50, some 51, some 52, some 53, some 54, some 55, some 56, some 57, some 58, some 59, some 2] r 2 = some true := by show (match r 44 with | .bool b => some b | _ => none) = some true; rw [h2]
        simp only [Region.wanted, hy, beq_self_eq_true, if_true]
        clear hs hq hf hy
        unfold gives
        go_simp
        exact ⟨Below.refl _ _, rfl⟩
      -- operation 6: Op.binOp BinOp.leq 3 (tmp 45) (tmp 47) 3
      refine ⟨fun r wx hG hs hq hf => ?_, ?_⟩
      · have h3 : r 45 = .int .i64 k := hf.1
        have h5 : r 47 = .int .i64 L := hf.2.1
        have h2 : r 44 = .bool true := hf.2.2.1
        have hy : ydD [some 42, some 43, some 44, some 45, some 46, some 47, some 48, some 49, some 50, some 51, some 52, some 53, some 54, some 55, some 56, some 57, some 58, some 59, some 2] r 2 = some true := by show (match r 44 with | .bool b => some b | _ => none) = some true; rw [h2]
        simp only [Region.wanted, hy, beq_self_eq_true, if_true]
        clear hs hq hf hy
        unfold gives
        have z1 : (k : Int) ≤ (L : Int) := by omega
        go_simp
        exact ⟨Below.refl _ _, rfl⟩
      -- operation 7: Op.pick (tmp 44) (tmp 48) (const (Value.bool false))
      refine ⟨fun r wx hG hs hq hf => ?_, ?_⟩
      · have h2 : r 44 = .bool true := hf.1
        have h6 : r 48 = .bool true := hf.2.1
        refine (if_pos rfl).symm ▸ ?_
        clear hs hq hf
        unfold gives
        go_simp
        exact ⟨Below.refl _ _, rfl⟩
      -- operation 8: Op.move (tmp 49)
      refine ⟨fun r wx hG hs hq hf => ?_, ?_⟩
      · have h7 : r 49 = .bool true := hf.1
        refine (if_pos rfl).symm ▸ ?_
        clear hs hq hf
        unfold gives
        go_simp
        exact ⟨Below.refl _ _, rfl⟩
      -- operation 9: Op.move (tmp 4)
      refine ⟨fun r wx hG hs hq hf => ?_, ?_⟩
      · have e4 : r 4 = .int .u64 N := hs 4 rfl
        have h8 : r 50 = .bool true := hf.1
        have hy : ydD [some 42, some 43, some 44, some 45, some 46, some 47, some 48, some 49, some 50, some 51, some 52, some 53, some 54, some 55, some 56, some 57, some 58, some 59, some 2] r 8 = some true := by show (match r 50 with | .bool b => some b | _ => none) = some true; rw [h8]
        simp only [Region.wanted, hy, beq_self_eq_true, if_true]
        clear hs hq hf hy
        unfold gives
        go_simp
        exact ⟨Below.refl _ _, rfl⟩
      -- operation 10: Op.call ( callee := Callee.value (func 20), args := #[tmp 51], argTypes := #[32] )
      refine ⟨fun r wx hG hs hq hf => ?_, ?_⟩
      · have h9 : r 51 = .int .u64 N := hf.1
        have h8 : r 50 = .bool true := hf.2.1
        have hy : ydD [some 42, some 43, some 44, some 45, some 46, some 47, some 48, some 49, some 50, some 51, some 52, some 53, some 54, some 55, some 56, some 57, some 58, some 59, some 2] r 8 = some true := by show (match r 50 with | .bool b => some b | _ => none) = some true; rw [h8]
        simp only [Region.wanted, hy, beq_self_eq_true, if_true]
        clear hs hq hf hy
        unfold gives
        go_simp
        refine (Num_any N wx hN).mono ?_
        rintro e wy ⟨v, rfl, hr1, hb1⟩
        exact ⟨v, rfl, hb1, hr1⟩
      -- operation 11: Op.convert 24 9 (tmp 52)
      refine ⟨fun r wx hG hs hq hf => ?_, ?_⟩
      · have h10 : Rd wx 1 (r 52) (numB N).length (bv (numB N)) := hf.1
        have h8 : r 50 = .bool true := hf.2.1
        have hy : ydD [some 42, some 43, some 44, some 45, some 46, some 47, some 48, some 49, some 50, some 51, some 52, some 53, some 54, some 55, some 56, some 57, some 58, some 59, some 2] r 8 = some true := by show (match r 50 with | .bool b => some b | _ => none) = some true; rw [h8]
        simp only [Region.wanted, hy, beq_self_eq_true, if_true]
        clear hs hq hf hy
        unfold gives
        have hcv := string_of_bytes (P := Try.prog) Try.underlying24 Try.underlying5 Try.underlying9 h10
        clear h10
        go_simp
        exact ⟨Below.refl _ _, rfl⟩
      -- operation 12: Op.move (tmp 0)
      refine ⟨fun r wx hG hs hq hf => ?_, ?_⟩
      · have e0 : r 0 = .slice (some ⟨b, off, none⟩) L c := hs 0 rfl
        have h8 : r 50 = .bool true := hf.1
        have hy : ydD [some 42, some 43, some 44, some 45, some 46, some 47, some 48, some 49, some 50, some 51, some 52, some 53, some 54, some 55, some 56, some 57, some 58, some 59, some 2] r 8 = some true := by show (match r 50 with | .bool b => some b | _ => none) = some true; rw [h8]
        simp only [Region.wanted, hy, beq_self_eq_true, if_true]
        clear hs hq hf hy
        unfold gives
        go_simp
        exact ⟨Below.refl _ _, rfl⟩
      -- operation 13: Op.move (tmp 7)
      refine ⟨fun r wx hG hs hq hf => ?_, ?_⟩
      · have e7 : r 7 = .int .i64 k := hs 7 rfl
        have h8 : r 50 = .bool true := hf.1
        have hy : ydD [some 42, some 43, some 44, some 45, some 46, some 47, some 48, some 49, some 50, some 51, some 52, some 53, some 54, some 55, some 56, some 57, some 58, some 59, some 2] r 8 = some true := by show (match r 50 with | .bool b => some b | _ => none) = some true; rw [h8]
        simp only [Region.wanted, hy, beq_self_eq_true, if_true]
        clear hs hq hf hy
        unfold gives
        go_simp
        exact ⟨Below.refl _ _, rfl⟩
      -- operation 14: Op.slice 24 (tmp 54) none (some (tmp 55)) none
      refine ⟨fun r wx hG hs hq hf => ?_, ?_⟩
      · have h12 : r 54 = .slice (some ⟨b, off, none⟩) L c := hf.1
        have h13 : r 55 = .int .i64 k := hf.2.1
        have h8 : r 50 = .bool true := hf.2.2.1
        have hy : ydD [some 42, some 43, some 44, some 45, some 46, some 47, some 48, some 49, some 50, some 51, some 52, some 53, some 54, some 55, some 56, some 57, some 58, some 59, some 2] r 8 = some true := by show (match r 50 with | .bool b => some b | _ => none) = some true; rw [h8]
        simp only [Region.wanted, hy, beq_self_eq_true, if_true]
        clear hs hq hf hy
        unfold gives
        have z1 : k ≤ c := by omega
        go_simp
        exact ⟨Below.refl _ _, rfl⟩
      -- operation 15: Op.convert 24 9 (tmp 56)
      refine ⟨fun r wx hG hs hq hf => ?_, ?_⟩
      · have h14 : r 56 = .slice (some ⟨b, off, none⟩) k c := hf.1
        have h8 : r 50 = .bool true := hf.2.1
        have hy : ydD [some 42, some 43, some 44, some 45, some 46, some 47, some 48, some 49, some 50, some 51, some 52, some 53, some 54, some 55, some 56, some 57, some 58, some 59, some 2] r 8 = some true := by show (match r 50 with | .bool b => some b | _ => none) = some true; rw [h8]
        simp only [Region.wanted, hy, beq_self_eq_true, if_true]
        clear hs hq hf hy
        unfold gives
        have hcv := string_of_bytes (P := Try.prog) Try.underlying24 Try.underlying5 Try.underlying9 (l := numB N) (HR.out.keep hG)
        go_simp
        exact ⟨Below.refl _ _, rfl⟩
      -- operation 16: Op.binOp BinOp.eql 9 (tmp 53) (tmp 57) 9
      refine ⟨fun r wx hG hs hq hf => ?_, ?_⟩
      · have h11 : r 53 = .string ⟨(numB N).toArray⟩ := hf.1
        have h15 : r 57 = .string ⟨(numB N).toArray⟩ := hf.2.1
        have h8 : r 50 = .bool true := hf.2.2.1
        have hy : ydD [some 42, some 43, some 44, some 45, some 46, some 47, some 48, some 49, some 50, some 51, some 52, some 53, some 54, some 55, some 56, some 57, some 58, some 59, some 2] r 8 = some true := by show (match r 50 with | .bool b => some b | _ => none) = some true; rw [h8]
        simp only [Region.wanted, hy, beq_self_eq_true, if_true]
        clear hs hq hf hy
        unfold gives
        go_simp
        exact ⟨Below.refl _ _, rfl⟩
      -- operation 17: Op.pick (tmp 50) (tmp 58) (const (Value.bool false))
      refine ⟨fun r wx hG hs hq hf => ?_, ?_⟩
      · have h8 : r 50 = .bool true := hf.1
        have h16 : r 58 = .bool true := hf.2.1
        refine (if_pos rfl).symm ▸ ?_
        clear hs hq hf
        unfold gives
        go_simp
        exact ⟨Below.refl _ _, rfl⟩
      -- operation 18: Op.assign (tmp 59)
      refine ⟨fun r wx hG hs hq hf => ?_, ?_⟩
      · have h17 : r 59 = .bool true := hf.1
        have h10 : Rd wx 1 (r 52) (numB N).length (bv (numB N)) := hf.2.1
        refine (if_pos rfl).symm ▸ ?_
        clear hs hq hf
        unfold gives
        go_simp
        exact ⟨Below.refl _ _, rfl⟩
      exact trivial
    case hend =>
      intro u wz hG hfin
      have z18 : u 18 = .bool true := hfin 18 (by decide) (by kernel_rfl)
      clear hfin
      simp only [fill]
      go_simp
      go_wp2_with fail
      go_ret
      exact ⟨rfl, HB.out.trans (hG.mono HB.out.size)⟩
  · rw [if_neg hR0] at hres
    obtain ⟨rfl, hr3⟩ := hres
    have hend := End_any w3 p a2 c2 R.1 l hr3
    rw [if_neg (fun h => hR0 h.1)] at hend
    obtain ⟨q, hq⟩ : ∃ q, q = R.1 := ⟨_, rfl⟩
    rw [← hq] at hend hR0 hr3 ⊢
    have z1 : (q == 0) = false := by simp [hR0]
    clear hR hnum hg3 hr3 hq
    go_wp2_with fail
    refine hend.mono ?_
    rintro e w4 ⟨rfl, hr4, hg4⟩
    have hleft := Left_any w4 p a2 c2 q l hr4
    rw [← HL.out] at hleft
    have HB4 := Lib.hid (below_of_grown HB.out HB2.out.2 hg4)
    clear hr4 hg4 hend
    go_wp2_with fail
    refine hleft.mono ?_
    rintro e w5 ⟨rfl, rfl⟩
    go_wp2_with fail
    go_ret
    exact ⟨rfl, HB4.out⟩

theorem binOne.law (H : Type) (enc : TypeId × Value → H) (W : World) (base : Nat)
    (v0 : Value) (d0 : DataW H) (p0 : List MemPlace) (g0 : Value.okWide Try.prog W .any base 24 v0) (h0 : DataW.Trod enc Try.prog W 0 (fun _ => true) true 24 v0 d0 p0)
    {ts : List TypeId} {es : List (DataW H)} (hsz : (DataW.weightsEach Try.prog ([24] ++ ts) ([d0] ++ es)).all (· ≤ reachBytes) = true) :
    Calls Try.prog 4 #[v0] W fun e W' => e = .returned (.bool true) ∧ Below W.heap.size W W' := by
  obtain ⟨l, hr, hd⟩ := open_bytes Try.underlying24 Try.underlying5 (by kernel_rfl) (okWide_slice Try.underlying24 g0) h0
  have hl := bytes_reach hsz (j := 0) (t := 24) rfl Try.underlying24 (by kernel_rfl) (l := l) (hd.imp (fun h => ⟨congrArg some h.1, h.2⟩) (fun ⟨s, h⟩ => ⟨s, congrArg some h⟩))
  exact binOne_walk v0 l W hr hl
end Go.Proofs.Ytgfnegajbbamjaa
