import Derived.Test.YtdociiogddihfaaGaP
import Derived.Test.YtdociiogddihfaaEdgeLA
/- gauge: New, Spread, and the reference's; Sqrt; Same. -/
namespace Go.Proofs.Ytdociiogddihfaa
open Go.RowKit

/-- What a root may give. -/
def SR (x r : Nat) : Prop := FloatKind.f64.format.sqrt x = some r ∨ (FloatKind.f64.format.sqrt x = none ∧ fnan r = true)
theorem nan_root (x : Nat) (h : fnan x = true) : FloatKind.f64.format.sqrt x = none := by
  obtain ⟨s, f, hr⟩ := read_nan x h
  show ((Ieee.double.read x).root _).map _ = none
  rw [hr]; rfl
theorem SR.same {x r x' r' : Nat} (h : SR x r) (h' : SR x' r') (hx : canB x = canB x') : canB r = canB r' := by
  rcases canB_same hx with ⟨h1, h2⟩ | ⟨_, rfl⟩
  · rcases h with h | ⟨_, h⟩
    · rw [nan_root x h1] at h; cases h
    · rcases h' with h' | ⟨_, h'⟩
      · rw [nan_root x' h2] at h'; cases h'
      · rw [canB_nan r h, canB_nan r' h']
  · rcases h with h | ⟨h0, h⟩
    · rcases h' with h' | ⟨h0', h'⟩
      · rw [h] at h'; rw [Option.some.inj h']
      · rw [h] at h0'; cases h0'
    · rcases h' with h' | ⟨_, h'⟩
      · rw [h0] at h'; cases h'
      · rw [canB_nan r h, canB_nan r' h']
theorem sqrt_run {P : Program} (x : Nat) (w : World) : (Extern.MathSqrt.sqrt #[.float .f64 x]).run P w = (match FloatKind.f64.format.sqrt x with | some r => (pure (.float .f64 r) : Sem Value) | none => (do pure (.float .f64 (← choose (.nanBits .f64 x x))) : Sem Value)).run P w := rfl
theorem run_sqrt (x : Nat) (w : World) : ∃ r n, (callFunc 53 #[.float .f64 x]).run Try.prog w = .ok (.value (.float .f64 r)) (w.drewN n) ∧ SR x r ∧ r < 18446744073709551616 := by
  have he := run_callFunc_extern (P := Try.prog) (e := Extern.MathSqrt.sqrt) Try.func53 (by kernel_rfl) (by kernel_rfl) (by kernel_rfl) (by kernel_rfl) #[.float .f64 x] w
  rw [he, sqrt_run]
  cases hb : FloatKind.f64.format.sqrt x with
  | some r => exact ⟨r, 0, rfl, .inl hb, FloatKind.f64.format.sqrt_lt hb⟩
  | none => exact ⟨(Question.nanBits .f64 x x).cut (w.tape w.drawn (.nanBits .f64 x x)), 1, rfl, .inr ⟨hb, (nan_word _).1⟩, (nan_word _).2⟩
theorem Sqrt_any (x : Nat) (w : World) : Calls Try.prog 31 #[.float .f64 x] w fun e w' => ∃ r n, e = .returned (.float .f64 r) ∧ w' = w.drewN n ∧ SR x r ∧ r < 18446744073709551616 := by
  obtain ⟨r, n, hrun, h1, h2⟩ := run_sqrt x w
  go_enter Try.func31, Try.ntmps31
  go_wp2_with fail
  go_ret
  exact ⟨r, n, rfl, rfl, h1, h2⟩
end Go.Proofs.Ytdociiogddihfaa

/- gauge: New, Spread, and the reference's; Same. -/
namespace Go.Proofs.Ytdociiogddihfaa
open Go.RowKit

@[go_sem] theorem run_store_float {P : Program} {w : World} {a : Addr} {m : Mode} (k : FloatKind) (b : Nat) : (store a (.float k b) m).run P w = stored P w a (.float k b) m := run_store P w a _ m rfl
theorem below_drewN {B : Nat} {w w' : World} (h : Below B w w') (n : Nat) : Below B w (w'.drewN n) := ⟨h.os, h.tape, h.output, h.size, h.block⟩
/-- A gauge as a value. -/
abbrev Gv (N m s l h : Nat) : Value := .agg #[.int .u64 N, .float .f64 m, .float .f64 s, .float .f64 l, .float .f64 h]
/-- What a spread's reckoning comes to. -/
def SpreadD (N s : Nat) (w w' : World) (e : Ending) : Prop :=
  ∃ r, e = .returned (.float .f64 r) ∧ Below w.heap.size w w' ∧ r < 18446744073709551616 ∧ (if N = 0 then r = 9221120237041090561 else ∃ q, FR .quo s (floatOfInt .f64 N) q ∧ SR q r)
set_option maxHeartbeats 1000000 in
theorem GNew_any (w : World) : Calls Try.prog 8 #[] w fun e w' => e = .returned (Gv 0 9221120237041090561 0 (atP (mnR [])) (atP (mxR []))) ∧ Below w.heap.size w w' := by
  go_enter Try.func8, Try.ntmps8
  go_wp2_with fail
  refine (NaN_any _).mono ?_
  rintro e w1 ⟨rfl, rfl⟩
  go_wp2_with fail
  refine (Least_any _ [] _ (fun x h => by cases h) (by simp) (Rd.nil _ _)).mono ?_
  rintro e w2 ⟨rfl, rfl⟩
  go_wp2_with fail
  refine (Most_any _ [] _ (fun x h => by cases h) (by simp) (Rd.nil _ _)).mono ?_
  rintro e w3 ⟨rfl, rfl⟩
  go_wp2_with fail
  exact bodyPost_ret (v := Gv 0 9221120237041090561 0 (atP (mnR [])) (atP (mxR []))) (by simp [results, Try.results8, go_sem]) rfl ⟨rfl, (Below.refl _ _).alloc (Nat.le_refl _) _⟩
set_option maxHeartbeats 1000000 in
theorem RGNew_any (w : World) : Calls Try.prog 9 #[] w fun e w' => e = .returned (Gv 0 9221120237041090561 0 9218868437227405312 18442240474082181120) ∧ Below w.heap.size w w' := by
  go_enter Try.func9, Try.ntmps9
  go_wp2_with fail
  refine (NaN_any _).mono ?_
  rintro e w1 ⟨rfl, rfl⟩
  go_wp2_with fail
  refine (Inf_pos _).mono ?_
  rintro e w2 ⟨rfl, rfl⟩
  go_wp2_with fail
  refine (Inf_neg _).mono ?_
  rintro e w3 ⟨rfl, rfl⟩
  go_wp2_with fail
  exact bodyPost_ret (v := Gv 0 9221120237041090561 0 9218868437227405312 18442240474082181120) (by simp [results, Try.results9, go_sem]) rfl ⟨rfl, (Below.refl _ _).alloc (Nat.le_refl _) _⟩
theorem new_ends : atP (mnR []) = 9218868437227405312 ∧ atP (mxR []) = 18442240474082181120 := by decide
set_option maxHeartbeats 1000000 in
theorem Spread_any (N m s l h : Nat) (w : World) (_hN : N < 18446744073709551616) : Calls Try.prog 15 #[Gv N m s l h] w fun e w' => SpreadD N s w w' e := by
  obtain ⟨q, n1, hq, hq1, hq2⟩ := run_fop (P := Try.prog) .quo (by simp) 25 s (floatOfInt .f64 N) (w.alloc (.cells #[.int .u64 N, .float .f64 m, .float .f64 s, .float .f64 l, .float .f64 h] 27))
  have hb : Below w.heap.size w (w.alloc (.cells #[.int .u64 N, .float .f64 m, .float .f64 s, .float .f64 l, .float .f64 h] 27)) := (Below.refl _ _).alloc (Nat.le_refl _) _
  have HB := Lib.hid (And.intro hb (And.intro hq1 hq2))
  clear hb hq1 hq2
  cases hz : ((N : Int) == 0) with
  | true =>
    have hN0 : N = 0 := by simpa using hz
    go_enter Try.func15, Try.ntmps15
    go_wp2_with fail
    refine (NaN_any _).mono ?_
    rintro e w1 ⟨rfl, rfl⟩
    go_wp2_with fail
    go_ret
    exact ⟨_, rfl, (Below.refl _ _).alloc (Nat.le_refl _) _, by omega, by rw [if_pos hN0]⟩
  | false =>
    have hN0 : N ≠ 0 := by simpa using hz
    have HN0 := Lib.hid hN0
    clear hN0
    go_enter Try.func15, Try.ntmps15
    go_wp2_with fail
    refine (Sqrt_any q _).mono ?_
    rintro e w1 ⟨r, n2, rfl, rfl, hr1, hr2⟩
    have HR := Lib.hid (And.intro hr1 hr2)
    clear hr1 hr2
    go_wp2_with fail
    go_ret
    exact ⟨_, rfl, below_drewN HB.out.1 _, HR.out.2, by rw [if_neg HN0.out]; exact ⟨q, HB.out.2.1, HR.out.1⟩⟩
set_option maxHeartbeats 1000000 in
theorem RSpread_any (N m s l h : Nat) (w : World) (_hN : N < 18446744073709551616) : Calls Try.prog 16 #[Gv N m s l h] w fun e w' => SpreadD N s w w' e := by
  obtain ⟨q, n1, hq, hq1, hq2⟩ := run_fop (P := Try.prog) .quo (by simp) 25 s (floatOfInt .f64 N) (w.alloc (.cells #[.int .u64 N, .float .f64 m, .float .f64 s, .float .f64 l, .float .f64 h] 27))
  have hb : Below w.heap.size w (w.alloc (.cells #[.int .u64 N, .float .f64 m, .float .f64 s, .float .f64 l, .float .f64 h] 27)) := (Below.refl _ _).alloc (Nat.le_refl _) _
  have HB := Lib.hid (And.intro hb (And.intro hq1 hq2))
  clear hb hq1 hq2
  cases hz : ((N : Int) == 0) with
  | true =>
    have hN0 : N = 0 := by simpa using hz
    go_enter Try.func16, Try.ntmps16
    go_wp2_with fail
    refine (NaN_any _).mono ?_
    rintro e w1 ⟨rfl, rfl⟩
    go_wp2_with fail
    go_ret
    exact ⟨_, rfl, (Below.refl _ _).alloc (Nat.le_refl _) _, by omega, by rw [if_pos hN0]⟩
  | false =>
    have hN0 : N ≠ 0 := by simpa using hz
    have HN0 := Lib.hid hN0
    clear hN0
    go_enter Try.func16, Try.ntmps16
    go_wp2_with fail
    refine (Sqrt_any q _).mono ?_
    rintro e w1 ⟨r, n2, rfl, rfl, hr1, hr2⟩
    have HR := Lib.hid (And.intro hr1 hr2)
    clear hr1 hr2
    go_wp2_with fail
    go_ret
    exact ⟨_, rfl, below_drewN HB.out.1 _, HR.out.2, by rw [if_neg HN0.out]; exact ⟨q, HB.out.2.1, HR.out.1⟩⟩
end Go.Proofs.Ytdociiogddihfaa
