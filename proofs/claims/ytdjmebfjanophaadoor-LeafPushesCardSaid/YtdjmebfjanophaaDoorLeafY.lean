/- Push and Peak, whole: what both hand back. -/
import Derived.Test.YtdjmebfjanophaaDoorLeafX
namespace Go.Proofs.YtdjmebfjanophaaDoor
open Go.RowKit Sha Root Ones

/-- May a leaf be pushed? -/
def okP (sz : Nat) (ps : List (List UInt8)) : Prop := ps.length = pop 64 sz ∧ sz < 9223372036854775808
/-- The pushed range: its size, its peaks; the error. -/
structure PushR where
  s : Nat
  l : List (List UInt8)
  e : Int
def pushR (n : Int) (sz : Nat) (ps : List (List UInt8)) (hx : List UInt8) (r : PushR) : Prop :=
  (okP sz ps ∧ r = ⟨sz + 1, foldT (nodeH n) (tz1 sz) (ps ++ [hx]), 0⟩) ∨ (¬ okP sz ps ∧ r = ⟨0, [], 1⟩)
theorem push_ex (n : Int) (sz : Nat) (ps : List (List UInt8)) (hx : List UInt8) : ∃ r, pushR n sz ps hx r := by
  by_cases h : okP sz ps
  · exact ⟨_, .inl ⟨h, rfl⟩⟩
  · exact ⟨_, .inr ⟨h, rfl⟩⟩
theorem push_len (n : Int) (sz : Nat) (ps : List (List UInt8)) (hx : List UInt8) (r : PushR) (h : pushR n sz ps hx r) (h32 : ∀ p ∈ ps, p.length = 32) (hx32 : hx.length = 32) (hl : (ps.length + 1) * 32 ≤ 140737488355328) : (∀ p ∈ r.l, p.length = 32) ∧ r.l.length ≤ 4398046511104 := by
  rcases h with ⟨⟨h1, h2⟩, rfl⟩ | ⟨_, rfl⟩
  · have h3 := tz1_le_pop 64 sz (by omega)
    refine ⟨foldT_32 n _ _ (fun p hp => ?_), ?_⟩
    · rcases List.mem_append.1 hp with hp | hp
      · exact h32 p hp
      · rw [List.mem_singleton.1 hp]; exact hx32
    · show (foldT (nodeH n) (tz1 sz) (ps ++ [hx])).length ≤ _
      rw [foldT_length _ _ _ (by simp; omega)]
      simp; omega
  · exact ⟨by simp, by simp⟩
theorem Push_any (n : Int) (sz : Nat) (a : Option Addr) (c : Nat) (ps : List (List UInt8)) (hx : List UInt8) (w : World) (r : PushR) (hP : pushR n sz ps hx r) (hn : -9223372036854775808 ≤ n ∧ n ≤ 9223372036854775807) (hs : sz < 18446744073709551616) (h32 : ∀ p ∈ ps, p.length = 32) (hl : (ps.length + 1) * 32 ≤ 140737488355328) (hx32 : hx.length = 32)
    (hr : Rd w 32 (.slice a ps.length c) ps.length (ps.flatMap bv)) (hT : Tabs w) (hD : TabD w) :
    Calls Tryd.prog 20 #[.int .i64 n, .agg #[.int .u64 sz, .slice a ps.length c], .agg (bv hx).toArray] w fun e w' =>
      (∃ va vc, e = .returned (.tuple #[.agg #[.int .u64 r.s, .slice va r.l.length vc], .int .i64 r.e]) ∧ Rd w' 32 (.slice va r.l.length vc) r.l.length (r.l.flatMap bv)) ∧ Below w.heap.size w w' := by
  rcases hP with ⟨⟨h1, h2⟩, rfl⟩ | ⟨h, rfl⟩
  · refine (Push_ok n sz a c ps hx w hn h2 h32 hl hx32 hr hT hD h1).mono ?_
    rintro e w' ⟨v', rfl, ho, hb⟩
    obtain ⟨va, vc, rfl⟩ := own_form ho
    exact ⟨⟨va, vc, rfl, own_rd ho (flat_one32 _)⟩, hb⟩
  · refine (Push_no n sz a ps.length c hx w hs (by omega) hx32 h).mono ?_
    rintro e w' ⟨rfl, hb⟩
    exact ⟨⟨none, 0, rfl, Rd.nil _ _⟩, hb⟩
theorem refPush_any (n : Int) (sz : Nat) (a : Option Addr) (c : Nat) (ps : List (List UInt8)) (hx : List UInt8) (w : World) (r : PushR) (hP : pushR n sz ps hx r) (hn : -9223372036854775808 ≤ n ∧ n ≤ 9223372036854775807) (hs : sz < 18446744073709551616) (h32 : ∀ p ∈ ps, p.length = 32) (hl : (ps.length + 1) * 32 ≤ 140737488355328) (hx32 : hx.length = 32)
    (hr : Rd w 32 (.slice a ps.length c) ps.length (ps.flatMap bv)) (hT : TabsR w) :
    Calls Tryd.prog 21 #[.int .i64 n, .agg #[.int .u64 sz, .slice a ps.length c], .agg (bv hx).toArray] w fun e w' =>
      (∃ va vc, e = .returned (.tuple #[.agg #[.int .u64 r.s, .slice va r.l.length vc], .int .i64 r.e]) ∧ Rd w' 32 (.slice va r.l.length vc) r.l.length (r.l.flatMap bv)) ∧ Below w.heap.size w w' := by
  rcases hP with ⟨⟨h1, h2⟩, rfl⟩ | ⟨h, rfl⟩
  · refine (refPush_ok n sz a c ps hx w hn h2 h32 hl hx32 hr hT h1).mono ?_
    rintro e w' ⟨v', rfl, ho, hb⟩
    obtain ⟨va, vc, rfl⟩ := own_form ho
    exact ⟨⟨va, vc, rfl, own_rd ho (flat_one32 _)⟩, hb⟩
  · refine (refPush_no n sz a ps.length c hx w hs (by omega) hx32 h).mono ?_
    rintro e w' ⟨rfl, hb⟩
    exact ⟨⟨none, 0, rfl, Rd.nil _ _⟩, hb⟩
/-- What Peak hands back, as a hash and an error. -/
theorem peak_ex (n : Int) (sz : Nat) (ps : List (List UInt8)) (h32 : ∀ p ∈ ps, p.length = 32) : ∃ (hp : List UInt8) (e : Int), peakV n sz ps = .tuple #[.agg (bv hp).toArray, .int .i64 e] ∧ hp.length = 32 := by
  unfold peakV
  split
  · exact ⟨_, _, rfl, overH_length n ps h32⟩
  · exact ⟨_, _, rfl, by simp [zs]⟩
end Go.Proofs.YtdjmebfjanophaaDoor
