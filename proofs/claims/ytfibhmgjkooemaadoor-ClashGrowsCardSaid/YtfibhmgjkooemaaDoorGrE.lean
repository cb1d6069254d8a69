/- The reference's size and Size of law 16. -/
import Derived.Test.YtfibhmgjkooemaaDoorGrA
import Derived.Test.YtfibhmgjkooemaaDoorLeafRA
import Derived.Test.YtfibhmgjkooemaaDoorPathA
namespace Go.Proofs.YtfibhmgjkooemaaDoor
open Go.RowKit Sha Root Path Growth

set_option maxHeartbeats 4000000 in
theorem refGsize_any : ∀ (f m n : Nat) (old : Bool) (w : World), n ≤ f → 1 ≤ m → m ≤ n → n < 18446744073709551616 →
    Calls Tryd.prog 82 #[.int .u64 m, .int .u64 n, .bool old] w fun e w' => e = .returned (.int .i64 (szG m n old : Nat)) ∧ Below w.heap.size w w' := by
  intro f
  induction f with
  | zero => intro m n old w hf; intros; omega
  | succ f ih =>
    intro m n old w hf hm hmn hn
    by_cases heq : m = n
    · subst heq
      rw [szG_same]
      have y1 : ((m : Int) == (m : Int)) = true := by simp
      cases old
      all_goals
        go_enter Tryd.func82, Tryd.ntmps82
        go_wp2_with fail
        go_ret
        exact ⟨rfl, Below.refl _ _⟩
    · have y1 : ((m : Int) == (n : Int)) = false := by simp; omega
      have hsp := fun wx => Split64_any n wx (by omega) hn
      have htl := top_lt n (by omega)
      have htp := top_pos n
      have hle := szG_le m n old hm hmn (by omega)
      have hl := fun (h : m ≤ top n) => szG_left m n old hm (by omega) h
      have hr := fun (h : top n < m) => szG_right m n old (by omega) h
      obtain ⟨K, hK⟩ : ∃ k, k = top n := ⟨_, rfl⟩
      rw [← hK] at hsp htl htp hl
      rw [← hK] at hr
      have HS := Lib.hid hsp
      by_cases hmk : m ≤ K
      · have y2 : (m : Int) ≤ (K : Int) := by omega
        have hup := fun wx => ih m K old wx (by omega) hm hmk (by omega)
        rw [hl hmk] at hle ⊢
        obtain ⟨s, hs⟩ : ∃ s, s = szG m K old := ⟨_, rfl⟩
        rw [← hs] at hup hle ⊢
        have HU := Lib.hid hup
        clear hl hr hsp hup hs hK ih
        go_enter Tryd.func82, Tryd.ntmps82
        go_wp2_with fail
        refine (HS.out _).mono ?_
        rintro e w1 ⟨rfl, hb1⟩
        go_wp2_with fail
        refine (HU.out _).mono ?_
        rintro e w2 ⟨rfl, hb2⟩
        go_wp2_with fail
        go_ret
        exact ⟨by rw [Int.natCast_add]; rfl, hb1.trans (hb2.mono hb1.size)⟩
      · have y2 : ¬ (m : Int) ≤ (K : Int) := by omega
        have y3 : IntKind.u64.wrap ((m : Int) - (K : Int)) = ((m - K : Nat) : Int) := (IntWalk.u64_in _ (by omega)).trans (by omega)
        have y4 : IntKind.u64.wrap ((n : Int) - (K : Int)) = ((n - K : Nat) : Int) := (IntWalk.u64_in _ (by omega)).trans (by omega)
        have hup := fun wx => ih (m - K) (n - K) false wx (by omega) (by omega) (by omega) (by omega)
        rw [hr (by omega)] at hle ⊢
        obtain ⟨s, hs⟩ : ∃ s, s = szG (m - K) (n - K) false := ⟨_, rfl⟩
        rw [← hs] at hup hle ⊢
        have HU := Lib.hid hup
        clear hl hr hsp hup hs hK ih
        go_enter Tryd.func82, Tryd.ntmps82
        go_wp2_with fail
        refine (HS.out _).mono ?_
        rintro e w1 ⟨rfl, hb1⟩
        go_wp2_with fail
        refine (HU.out _).mono ?_
        rintro e w2 ⟨rfl, hb2⟩
        go_wp2_with fail
        go_ret
        exact ⟨by rw [Int.natCast_add]; rfl, hb1.trans (hb2.mono hb1.size)⟩
set_option maxHeartbeats 2000000 in
theorem refGSize_any (m n : Nat) (w : World) (hm : m < 18446744073709551616) (hn : n < 18446744073709551616) :
    Calls Tryd.prog 65 #[.int .u64 m, .int .u64 n] w fun e w' => e = .returned (.int .i64 ((if m = 0 ∨ n < m then 0 else szG m n true : Nat) : Int)) ∧ Below w.heap.size w w' := by
  by_cases h0 : m = 0
  · rw [if_pos (.inl h0)]
    have y1 : ((m : Int) == 0) = true := by simp; omega
    go_enter Tryd.func65, Tryd.ntmps65
    go_wp2_with fail
    go_ret
    exact ⟨rfl, Below.refl _ _⟩
  have y1 : ((m : Int) == 0) = false := by simp; omega
  by_cases h1 : n < m
  · rw [if_pos (.inr h1)]
    have y2 : (n : Int) < (m : Int) := by omega
    go_enter Tryd.func65, Tryd.ntmps65
    go_wp2_with fail
    go_ret
    exact ⟨rfl, Below.refl _ _⟩
  · rw [if_neg (fun h => h.elim h0 h1)]
    have y2 : ¬ (n : Int) < (m : Int) := by omega
    have ht := refGsize_any n m n true w (Nat.le_refl _) (by omega) (by omega) hn
    obtain ⟨s, hs⟩ : ∃ s, s = szG m n true := ⟨_, rfl⟩
    rw [← hs] at ht ⊢
    have HT := Lib.hid ht
    clear ht hs
    go_enter Tryd.func65, Tryd.ntmps65
    go_wp2_with fail
    refine HT.out.mono ?_
    rintro e w1 ⟨rfl, hb⟩
    go_wp2_with fail
    go_ret
    exact ⟨rfl, hb⟩
end Go.Proofs.YtfibhmgjkooemaaDoor
