/- Laws: ConfCounts, ConfMays. -/
import Derived.Test.YtckpnihpobfggaaDoorConfAw
namespace Go.Proofs.YtckpnihpobfggaaDoor
open Go.RowKit Ones

set_option maxHeartbeats 4000000 in
theorem ConfCounts_any (v u : Value) (l ids : List Nat) (x : Nat) (w : World) (hl : l.length ≤ 140737488355328) (hi : ids.length ≤ 140737488355328) (hr : Rd w 1 v l.length (uv l)) (hu : Rd w 1 u ids.length (uv ids)) (hT : TabD w) :
    Calls Tryd.prog 4 #[v, u, .int .u64 x] w fun e w' => e = .returned (.bool true) ∧ Below w.heap.size w w' := by
  have hA := awake20_any w hT
  have h1 := fun wx (h : Below w.heap.size w wx) => Has_any v l x wx hl (hr.keep h)
  have h2 := fun wx (h : Below w.heap.size w wx) => refHas_any v l x wx hl (hr.keep h)
  have h3 := fun wx (h : Below w.heap.size w wx) => Majority_any v l wx hl (hr.keep h)
  have h4 := fun wx (h : Below w.heap.size w wx) => refMajority_any v l wx hl (hr.keep h)
  have h5 := fun wx (h : Below w.heap.size w wx) => Quorum_any v u l ids wx hl hi (hr.keep h) (hu.keep h)
  have h6 := fun wx (h : Below w.heap.size w wx) => refQuorum_any v u l ids wx hl hi (hr.keep h) (hu.keep h)
  generalize decide (x ∈ l) = b1 at *
  generalize l.length / 2 + 1 = m at *
  generalize decide (m ≤ among ids l) = b2 at *
  clear hr hu hT
  go_enter Tryd.func4, Tryd.ntmps4
  go_wp2_with fail
  refine hA.mono ?_
  rintro e w1 ⟨rfl, hb1⟩
  clear hA
  go_wp2_with fail
  refine (h1 w1 hb1).mono ?_
  rintro e w2 ⟨rfl, hb2⟩
  have hb2 := hb1.trans (hb2.mono hb1.size)
  clear h1 hb1
  go_wp2_with fail
  refine (h2 w2 hb2).mono ?_
  rintro e w3 ⟨rfl, hb3⟩
  have hb3 := hb2.trans (hb3.mono hb2.size)
  clear h2 hb2
  go_wp2_with fail
  refine (h3 w3 hb3).mono ?_
  rintro e w4 ⟨rfl, hb4⟩
  have hb4 := hb3.trans (hb4.mono hb3.size)
  clear h3 hb3
  go_wp2_with fail
  refine (h4 w4 hb4).mono ?_
  rintro e w5 ⟨rfl, hb5⟩
  have hb5 := hb4.trans (hb5.mono hb4.size)
  clear h4 hb4
  go_wp2_with fail
  refine (h5 w5 hb5).mono ?_
  rintro e w6 ⟨rfl, hb6⟩
  have hb6 := hb5.trans (hb6.mono hb5.size)
  clear h5 hb5
  go_wp2_with fail
  refine (h6 w6 hb6).mono ?_
  rintro e w7 ⟨rfl, hb7⟩
  have hb7 := hb6.trans (hb7.mono hb6.size)
  clear h6 hb6
  go_wp2_with fail
  go_ret
  exact ⟨rfl, hb7⟩

set_option maxHeartbeats 4000000 in
theorem ConfMays_any (v u : Value) (l r : List Nat) (w : World) (hl : l.length * 8 ≤ 140737488355328 - 8) (hi : r.length * 8 ≤ 140737488355328 - 8) (hr : Rd w 1 v l.length (uv l)) (hu : Rd w 1 u r.length (uv r)) (hT : TabD w) :
    Calls Tryd.prog 3 #[v, u] w fun e w' => e = .returned (.bool true) ∧ Below w.heap.size w w' := by
  have hA := awake20_any w hT
  have h1 := fun wx (h : Below w.heap.size w wx) => May_any v u l r wx (by omega) (by omega) (hr.keep h) (hu.keep h)
  have h2 := fun wx (h : Below w.heap.size w wx) => refMay_any v u l r wx hl hi (hr.keep h) (hu.keep h)
  have h3 := fun wx (h : Below w.heap.size w wx) => May_any u v r l wx (by omega) (by omega) (hu.keep h) (hr.keep h)
  rw [mayP_symm r l] at h3
  rw [← may_alike l r] at h2
  generalize mayP l r = b at *
  clear hr hu hT
  go_enter Tryd.func3, Tryd.ntmps3
  go_wp2_with fail
  refine hA.mono ?_
  rintro e w1 ⟨rfl, hb1⟩
  clear hA
  go_wp2_with fail
  refine (h1 w1 hb1).mono ?_
  rintro e w2 ⟨rfl, hb2⟩
  have hb2 := hb1.trans (hb2.mono hb1.size)
  clear h1 hb1
  go_wp2_with fail
  refine (h2 w2 hb2).mono ?_
  rintro e w3 ⟨rfl, hb3⟩
  have hb3 := hb2.trans (hb3.mono hb2.size)
  clear h2 hb2
  go_wp2_with fail
  refine (h3 w3 hb3).mono ?_
  rintro e w4 ⟨rfl, hb4⟩
  have hb4 := hb3.trans (hb4.mono hb3.size)
  clear h3 hb3
  go_wp2_with fail
  go_ret
  exact ⟨rfl, hb4⟩
end Go.Proofs.YtckpnihpobfggaaDoor
