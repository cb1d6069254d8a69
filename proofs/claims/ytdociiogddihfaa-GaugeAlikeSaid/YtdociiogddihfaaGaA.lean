/- gauge: New, Spread, and the reference's; Sqrt; Same. -/
import Derived.Test.YtdociiogddihfaaGaP
import Derived.Test.YtdociiogddihfaaEdgeLA
namespace Go.Proofs.Ytdociiogddihfaa
open Go.RowKit

/-- What a root may give. -/
def SR (x r : Nat) : Prop := FloatKind.f64.format.sqrt x = some r ∨ (FloatKind.f64.format.sqrt x = none ∧ fnan r = true)
theorem nan_root (x : Nat) (h : fnan x = true) : FloatKind.f64.format.sqrt x = none := by
  obtain ⟨s, f, hr⟩ := read_nan x h
  show ((Ieee.double.read x).root _).map _ = none
  rw [hr]; rfl
theorem SR.same {x r x' r' : Nat} (h : SR x r) (h' : SR x' r') (hx : canB x = canB x') : canB r = canB r' := by
  rcases canB_same hx with ⟨h1, h2⟩ | ⟨_, rfl⟩
  · rcases h with h | ⟨_, h⟩
    · rw [nan_root x h1] at h; cases h
    · rcases h' with h' | ⟨_, h'⟩
      · rw [nan_root x' h2] at h'; cases h'
      · rw [canB_nan r h, canB_nan r' h']
  · rcases h with h | ⟨h0, h⟩
    · rcases h' with h' | ⟨h0', h'⟩
      · rw [h] at h'; rw [Option.some.inj h']
      · rw [h] at h0'; cases h0'
    · rcases h' with h' | ⟨_, h'⟩
      · rw [h0] at h'; cases h'
      · rw [canB_nan r h, canB_nan r' h']
theorem sqrt_run {P : Program} (x : Nat) (w : World) : (Extern.MathSqrt.sqrt #[.float .f64 x]).run P w = (match FloatKind.f64.format.sqrt x with | some r => (pure (.float .f64 r) : Sem Value) | none => (do pure (.float .f64 (← choose (.nanBits .f64 x x))) : Sem Value)).run P w := rfl
theorem run_sqrt (x : Nat) (w : World) : ∃ r n, (callFunc 53 #[.float .f64 x]).run Try.prog w = .ok (.value (.float .f64 r)) (w.drewN n) ∧ SR x r ∧ r < 18446744073709551616 := by
  have he := run_callFunc_extern (P := Try.prog) (e := Extern.MathSqrt.sqrt) Try.func53 (by kernel_rfl) (by kernel_rfl) (by kernel_rfl) (by kernel_rfl) #[.float .f64 x] w
  rw [he, sqrt_run]
  cases hb : FloatKind.f64.format.sqrt x with
  | some r => exact ⟨r, 0, rfl, .inl hb, FloatKind.f64.format.sqrt_lt hb⟩
  | none => exact ⟨(Question.nanBits .f64 x x).cut (w.tape w.drawn (.nanBits .f64 x x)), 1, rfl, .inr ⟨hb, (nan_word _).1⟩, (nan_word _).2⟩
theorem Sqrt_any (x : Nat) (w : World) : Calls Try.prog 31 #[.float .f64 x] w fun e w' => ∃ r n, e = .returned (.float .f64 r) ∧ w' = w.drewN n ∧ SR x r ∧ r < 18446744073709551616 := by
  obtain ⟨r, n, hrun, h1, h2⟩ := run_sqrt x w
  go_enter Try.func31, Try.ntmps31
  go_wp2_with fail
  go_ret
  exact ⟨r, n, rfl, rfl, h1, h2⟩
end Go.Proofs.Ytdociiogddihfaa
