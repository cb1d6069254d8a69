import Derived.Test.YtdociiogddihfaaBase
import Derived.Test.YtdociiogddihfaaProg
import Derived.Lib.AppendZeros
import Derived.Test.YtdociiogddihfaaRdn
/- Contracts of the package slices at []uint8. -/
namespace Go.Proofs.Ytdociiogddihfaa
open Go.RowKit

theorem infoB8 : (Try.prog.info? 5).map (fun i => (i.zero, i.size, i.bytes)) = some (some (.int .u8 0), 1, 1) := by kernel_rfl

set_option maxHeartbeats 1000000 in
theorem CloneB8_any (v : Value) (n : Nat) (xs : List Value) (w : World) (hr : Rd w 1 v n xs) (hn : n * 1 ≤ 140737488355328) :
    Calls Try.prog 56 #[v] w fun e w' => ∃ v', e = .returned v' ∧ w'.ownsRow w.heap.size 5 1 v' n xs ∧ Below w.heap.size w w' := by
  have hl := hr.1
  have hr0 := hr
  obtain ⟨_, h1, ⟨rfl, rfl⟩ | ⟨ad, c, rfl, hc, hcell⟩⟩ := hr
  · obtain rfl : xs = [] := List.eq_nil_of_length_eq_zero (by simpa using hl)
    have hq : ∀ w : World, (binOp .eql 44 (.slice none 0 0) (.slice none 0 0)).run Try.prog w = .ok (.bool true) w := fun _ => by kernel_rfl
    go_enter Try.func56, Try.ntmps56
    go_wp2_with fail
    go_ret
    exact ⟨_, rfl, World.ownsRow_nil _ _ _ _, Below.refl _ _⟩
  · have hq : ∀ w : World, (binOp .eql 44 (.slice (some ad) n c) (.slice none 0 0)).run Try.prog w = .ok (.bool false) w := fun _ => by kernel_rfl
    go_enter Try.func56, Try.ntmps56
    have hown := own_new w 5 1 0 w.heap.size [] (by simp) (by omega) (Nat.le_refl _)
    have hb : Below w.heap.size w (w.alloc (.cells #[] 5)) := (Below.refl _ _).alloc (Nat.le_refl _) _
    go_wp2_with (at_builtin; refine wpList_app Try.underlying44 infoB8 rfl (by decide) rfl _ _ rfl rfl rfl hown (hr0.alloc _) (by omega) (by omega) (by simp) ?_)
    intro v' w' hown' hg _
    have hb2 := hg.below (by simp) (own_block hown)
    go_wp2_with fail
    go_ret
    exact ⟨_, rfl, hown', hb.trans hb2⟩
end Go.Proofs.Ytdociiogddihfaa

/- Cut out of XRdA. -/
namespace Go.Proofs.Ytdociiogddihfaa
open Go.RowKit

/-- A reader of its own bytes. -/
theorem New_far (v : Value) (l : List UInt8) (w : World) (hr : Rd w 1 v l.length (bv l)) (hl : l.length ≤ 140737488355328) :
    Calls Try.prog 37 #[v] w fun e w' => ∃ p a c, e = .returned (.pointer (some ⟨p, 0, none⟩)) ∧ w.heap.size ≤ p ∧ Rdr w' p a c 0 l ∧ Below w.heap.size w w' ∧ ∀ x, a = some x → w.heap.size ≤ x.block := by
  have h1 := CloneB8_any v l.length (bv l) w hr (by omega)
  go_enter Try.func37, Try.ntmps37
  go_wp2_with fail
  refine h1.mono ?_
  rintro e w1 ⟨v1, rfl, ho1, hb1⟩
  have hr1 := own_rd ho1 (bv_one _)
  obtain ⟨a, c, rfl⟩ := hr1.form
  have hs1 := hb1.size
  have hlt := ho1.lt
  obtain ⟨n, hn⟩ : ∃ n, n = l.length := ⟨_, rfl⟩
  rw [← hn] at hr1 hlt ⊢
  have HR := Lib.hid (And.intro hr1 (And.intro hn (And.intro hlt (And.intro hb1 hs1))))
  clear hr1 hb1 h1 ho1 hlt hr hl hn
  go_wp2_with fail
  go_ret
  have hb : Below w1.heap.size w1 (w1.alloc (.cells #[.slice a n c, .int .i64 0] 88)) := (Below.refl _ _).alloc (Nat.le_refl _) _
  refine ⟨w1.heap.size, a, c, rfl, HR.out.2.2.2.2, ⟨?_, ?_, ?_⟩, HR.out.2.2.2.1.trans (hb.mono HR.out.2.2.2.2), fun x hx => by subst hx; exact (HR.out.2.2.1 x.block (by simp [Value.ownBlock])).1⟩
  · rw [← HR.out.2.1]; exact heap_alloc_new _ _
  · rw [← HR.out.2.1]; exact HR.out.1.keep hb
  · intro x hx
    subst hx
    exact (HR.out.2.2.1 x.block (by simp [Value.ownBlock])).2
theorem New_any (v : Value) (l : List UInt8) (w : World) (hr : Rd w 1 v l.length (bv l)) (hl : l.length ≤ 140737488355328) :
    Calls Try.prog 37 #[v] w fun e w' => ∃ p a c, e = .returned (.pointer (some ⟨p, 0, none⟩)) ∧ w.heap.size ≤ p ∧ Rdr w' p a c 0 l ∧ Below w.heap.size w w' :=
  (New_far v l w hr hl).mono (by rintro e w' ⟨p, a, c, h1, h2, h3, h4, _⟩; exact ⟨p, a, c, h1, h2, h3, h4⟩)
end Go.Proofs.Ytdociiogddihfaa
