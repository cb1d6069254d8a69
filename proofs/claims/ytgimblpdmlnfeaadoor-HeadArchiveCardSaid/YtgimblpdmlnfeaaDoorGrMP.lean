/- Cut out of XGrD. · Cut out of XGrM. -/
import Derived.Test.YtgimblpdmlnfeaaDoorGrB
import Derived.Test.YtgimblpdmlnfeaaDoorGrK
namespace Go.Proofs.YtgimblpdmlnfeaaDoor
open Go.RowKit Sha Root Path Growth

set_option maxHeartbeats 4000000 in
theorem gProve_bad (W m n : Int) (a : Option Addr) (la c : Nat) (w : World) (hbad : m < 0 ∨ n < m ∨ (la : Int) < n) :
    Calls Tryd.prog 38 #[.int .i64 W, .slice a la c, .int .i64 m, .int .i64 n] w fun e w' => e = .returned (.tuple #[.slice none 0 0, .int .i64 9]) ∧ Below w.heap.size w w' := by
  go_enter Tryd.func38, Tryd.ntmps38
  by_cases h1 : m < 0
  · go_wp2_with fail
    go_ret2
    exact ⟨rfl, Below.refl _ _⟩
  by_cases h2 : n < m
  · go_wp2_with fail
    go_ret2
    exact ⟨rfl, Below.refl _ _⟩
  · have h3 : (la : Int) < n := by omega
    go_wp2_with fail
    go_ret2
    exact ⟨rfl, Below.refl _ _⟩
set_option maxHeartbeats 4000000 in
theorem gProve_zero (W n : Int) (a : Option Addr) (la c : Nat) (w : World) (h0 : 0 ≤ n) (h1 : n ≤ (la : Int)) :
    Calls Tryd.prog 38 #[.int .i64 W, .slice a la c, .int .i64 0, .int .i64 n] w fun e w' => e = .returned (.tuple #[.slice none 0 0, .int .i64 0]) ∧ Below w.heap.size w w' := by
  have y1 : ¬ n < 0 := by omega
  have y2 : ¬ (la : Int) < n := by omega
  go_enter Tryd.func38, Tryd.ntmps38
  go_wp2_with fail
  go_ret2
  exact ⟨rfl, Below.refl _ _⟩
end Go.Proofs.YtgimblpdmlnfeaaDoor
namespace Go.Proofs.YtgimblpdmlnfeaaDoor
open Go.RowKit Sha Root Path Growth


/-- The proof of the first m of n. -/
def gP (W : Int) (ls : List (List UInt8)) (m n : Nat) : List (List UInt8) := if m = 0 then [] else Growth.part (nodeH W) (emptyH W) (ls.take n) m true
/-- What such a proof is. -/
theorem gp_len (W : Int) (ls : List (List UInt8)) (m n : Nat) (hn : n ≤ ls.length) (hm : m ≤ n) : (gP W ls m n).length = (if m = 0 ∨ n < m then 0 else szG m n true) := by
  unfold gP
  by_cases h0 : m = 0
  · rw [if_pos h0, if_pos (.inl h0)]; rfl
  · have hl : (ls.take n).length = n := by rw [List.length_take]; omega
    rw [if_neg h0, if_neg (by omega)]
    have := part_length (nodeH W) (emptyH W) n (ls.take n) m true (by omega) (by omega) (by omega)
    rwa [hl] at this
theorem gp_show (W : Int) (ls : List (List UInt8)) (m n : Nat) (hn : n ≤ ls.length) (hm : m ≤ n) (h1 : 1 ≤ m) : gE m n (gP W ls m n).length = 0 ∧ gS W m n (rootH W (ls.take m)) (gP W ls m n) = (rootH W (ls.take m), rootH W (ls.take n)) := by
  have hl : (ls.take n).length = n := by rw [List.length_take]; omega
  have hlen := gp_len W ls m n hn hm
  rw [if_neg (by omega)] at hlen
  have hE : gE m n (gP W ls m n).length = 0 := by rw [gE, if_neg (by omega), hlen, if_neg (Nat.lt_irrefl _), if_neg (Nat.lt_irrefl _)]
  refine ⟨hE, ?_⟩
  rw [gS, if_pos hE]
  have htt : (ls.take n).take m = ls.take m := by rw [List.take_take, Nat.min_eq_left hm]
  have := show_part (nodeH W) (emptyH W) n (ls.take n) m true (rootH W (ls.take m)) (by omega) h1 (by omega) (fun _ => by rw [htt]; rfl)
  rw [hl, htt] at this
  unfold gP
  rw [if_neg (by omega)]
  exact this
theorem gp_pass (W : Int) (ls : List (List UInt8)) (m n : Nat) (hn : n ≤ ls.length) (hm : m ≤ n) : gB W m n (rootH W (ls.take m)) (rootH W (ls.take n)) (gP W ls m n) = true := by
  rw [gB, if_neg (by omega)]
  by_cases h0 : m = 0
  · subst h0
    rw [if_pos rfl, gP, if_pos rfl]
    have e0 : rootH W (ls.take 0) = emptyH W := by rw [List.take_zero]; rfl
    rw [e0]
    by_cases hn0 : 0 < n
    · simp [hn0]
    · have : n = 0 := by omega
      subst this
      rw [e0]; simp
  · rw [if_neg h0]
    obtain ⟨h1, h2⟩ := gp_show W ls m n hn hm (by omega)
    rw [h1, h2]; simp
theorem gP_32 (W : Int) (ls : List (List UInt8)) (m n : Nat) (hn : n ≤ ls.length) (hm : m ≤ n) (h32 : ∀ p ∈ ls, p.length = 32) : ∀ p ∈ gP W ls m n, p.length = 32 := by
  unfold gP
  by_cases h0 : m = 0
  · rw [if_pos h0]; simp
  · have hl : (ls.take n).length = n := by rw [List.length_take]; omega
    rw [if_neg h0]
    exact part_32 W n (ls.take n) m true (by omega) (by omega) (by omega) (fun p hp => h32 p (List.mem_of_mem_take hp))
/-- growth.Prove at any first m of n leaves. -/
theorem gProve_any (W : Int) (ls : List (List UInt8)) (m n : Nat) (a : Option Addr) (c : Nat) (w : World) (hW : -9223372036854775808 ≤ W ∧ W ≤ 9223372036854775807) (h32 : ∀ p ∈ ls, p.length = 32) (hl : ls.length * 32 ≤ 140737488351232) (hmn : m ≤ n) (hn : n ≤ ls.length)
    (hr : Rd w 32 (.slice a ls.length c) ls.length (ls.flatMap bv)) (hT : Tabs w) (hD : TabD w) :
    Calls Tryd.prog 38 #[.int .i64 W, .slice a ls.length c, .int .i64 m, .int .i64 n] w fun e w' => ∃ va vc, e = .returned (.tuple #[.slice va (gP W ls m n).length vc, .int .i64 0]) ∧
      w'.ownsRow w.heap.size 35 32 (.slice va (gP W ls m n).length vc) (gP W ls m n).length ((gP W ls m n).flatMap bv) ∧ Below w.heap.size w w' := by
  unfold gP
  by_cases h0 : m = 0
  · subst h0
    rw [if_pos rfl]
    refine (gProve_zero W n a ls.length c w (by omega) (by omega)).mono ?_
    rintro e w' ⟨rfl, hb⟩
    exact ⟨none, 0, rfl, World.ownsRow_nil _ _ _ _, hb⟩
  · rw [if_neg h0]
    have hlk : (ls.take n).length = n := by rw [List.length_take]; omega
    obtain ⟨b, off, c', hv, hcap, hcell⟩ := hr.atN (by omega) (by omega)
    simp only [Value.slice.injEq, true_and] at hv
    obtain ⟨rfl, rfl⟩ := hv
    have := gProve_good W (ls.take n) b off c m ls.length w hW (fun p hp => h32 p (List.mem_of_mem_take hp)) (by omega) (by omega) (by omega) (by omega) hcap (by rw [hlk, flat_take32 _ _ h32]; exact rd_take hr n hn) hT hD
    rw [hlk] at this
    exact this
end Go.Proofs.YtgimblpdmlnfeaaDoor
