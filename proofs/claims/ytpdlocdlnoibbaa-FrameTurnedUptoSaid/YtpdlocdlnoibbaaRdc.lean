/- The closures of Byte and Raw, as Num's (gen/rdc.py). -/
import Derived.Test.YtpdlocdlnoibbaaRdn
namespace Go.Proofs.Ytpdlocdlnoibbaa
open Go.RowKit

theorem close_someR (w : World) (b1 b4 b3 p : Nat) (old : Value) (aw : Option Addr) (nw cw : Nat) (no e0 err : Int) (older : List PanicEntry) (h1 : w.cell? ⟨b1, 0, none⟩ = some (.pointer (some ⟨p, 0, none⟩))) (h4 : w.cell? ⟨b4, 0, none⟩ = some (.slice aw nw cw))
    (hp : w.heap[p]? = some (.cells #[old, .int .i64 no] 61 (0, 0))) (hq : w.heap[b3]? = some (.cells #[.int .i64 e0] 27 (0, 0))) (hpq : p ≠ b3) :
    CallsD Try.prog 40 #[.pointer (some ⟨b1, 0, none⟩), .pointer (some ⟨b4, 0, none⟩), .pointer (some ⟨b3, 0, none⟩)] (.panicking ({ v := .iface 27 (.int .i64 err), recovered := false } :: older)) w fun e u' w' =>
      e = .returned (.tuple #[]) ∧ u' = .panicking ({ v := .iface 27 (.int .i64 err), recovered := true } :: older) ∧
        w' = (((w.drew.setCell ⟨p, 0, none⟩ (.slice aw nw cw)).setCell ⟨p, 1, none⟩ (.int .i64 err)).setCell ⟨b3, 0, none⟩ (.int .i64 err)) := by
  have hc := caught_some w.drew p b3 old aw nw cw no e0 err hp hq hpq
  have h1' : w.drew.cell? ⟨b1, 0, none⟩ = some (.pointer (some ⟨p, 0, none⟩)) := h1
  have h4' : w.drew.cell? ⟨b4, 0, none⟩ = some (.slice aw nw cw) := h4
  refine callsD_of_wpS Try.func40 rfl fun c₀ cs hu => ?_
  apply wpS_region_any (by kernel_rfl)
  change wpAnyR _ _ _ _ 4 (Array.replicate 4 false) _ _ w.drew
  refine wpAnyR_at (L := [0, 1, 2]) (by kernel_rfl) (by simp) ?_
  intro i hi
  simp only [List.mem_cons, List.not_mem_nil, or_false] at hi
  rcases hi with rfl | rfl | rfl
  · skip
    unfold wpOp1
    simp [go_sem, h1', Try.ntmps40, Region.wanted]
    refine wpAnyR_at (L := [1, 2]) (by kernel_rfl) (by simp) ?_
    intro i hi
    simp only [List.mem_cons, List.not_mem_nil, or_false] at hi
    rcases hi with rfl | rfl
    · skip
      unfold wpOp1
      simp [go_sem, recoverD, hu, Region.wanted]
      refine wpAnyR_at (L := [2]) (by kernel_rfl) (by simp) ?_
      intro i hi
      simp only [List.mem_cons, List.not_mem_nil, or_false] at hi
      subst hi
      unfold wpOp1
      simp [go_sem, h4', Region.wanted]
      refine wpAnyR_at (L := [3]) (by kernel_rfl) (by simp) ?_
      intro i hi
      simp only [List.mem_cons, List.not_mem_nil, or_false] at hi
      subst hi
      unfold wpOp1
      simp [go_sem, Region.wanted]
      refine hc.mono ?_
      rintro e w' ⟨rfl, rfl⟩
      refine wpAnyR_end (by kernel_rfl) ?_
      simp [bodyPostS, results, Try.results40, go_sem]
    · skip
      unfold wpOp1
      simp [go_sem, h4', Region.wanted]
      refine wpAnyR_at (L := [1]) (by kernel_rfl) (by simp) ?_
      intro i hi
      simp only [List.mem_cons, List.not_mem_nil, or_false] at hi
      subst hi
      unfold wpOp1
      simp [go_sem, recoverD, hu, Region.wanted]
      refine wpAnyR_at (L := [3]) (by kernel_rfl) (by simp) ?_
      intro i hi
      simp only [List.mem_cons, List.not_mem_nil, or_false] at hi
      subst hi
      unfold wpOp1
      simp [go_sem, Region.wanted]
      refine hc.mono ?_
      rintro e w' ⟨rfl, rfl⟩
      refine wpAnyR_end (by kernel_rfl) ?_
      simp [bodyPostS, results, Try.results40, go_sem]
  · skip
    unfold wpOp1
    simp [go_sem, recoverD, hu, Try.ntmps40, Region.wanted]
    refine wpAnyR_at (L := [0, 2]) (by kernel_rfl) (by simp) ?_
    intro i hi
    simp only [List.mem_cons, List.not_mem_nil, or_false] at hi
    rcases hi with rfl | rfl
    · skip
      unfold wpOp1
      simp [go_sem, h1', Region.wanted]
      refine wpAnyR_at (L := [2]) (by kernel_rfl) (by simp) ?_
      intro i hi
      simp only [List.mem_cons, List.not_mem_nil, or_false] at hi
      subst hi
      unfold wpOp1
      simp [go_sem, h4', Region.wanted]
      refine wpAnyR_at (L := [3]) (by kernel_rfl) (by simp) ?_
      intro i hi
      simp only [List.mem_cons, List.not_mem_nil, or_false] at hi
      subst hi
      unfold wpOp1
      simp [go_sem, Region.wanted]
      refine hc.mono ?_
      rintro e w' ⟨rfl, rfl⟩
      refine wpAnyR_end (by kernel_rfl) ?_
      simp [bodyPostS, results, Try.results40, go_sem]
    · skip
      unfold wpOp1
      simp [go_sem, h4', Region.wanted]
      refine wpAnyR_at (L := [0]) (by kernel_rfl) (by simp) ?_
      intro i hi
      simp only [List.mem_cons, List.not_mem_nil, or_false] at hi
      subst hi
      unfold wpOp1
      simp [go_sem, h1', Region.wanted]
      refine wpAnyR_at (L := [3]) (by kernel_rfl) (by simp) ?_
      intro i hi
      simp only [List.mem_cons, List.not_mem_nil, or_false] at hi
      subst hi
      unfold wpOp1
      simp [go_sem, Region.wanted]
      refine hc.mono ?_
      rintro e w' ⟨rfl, rfl⟩
      refine wpAnyR_end (by kernel_rfl) ?_
      simp [bodyPostS, results, Try.results40, go_sem]
  · skip
    unfold wpOp1
    simp [go_sem, h4', Try.ntmps40, Region.wanted]
    refine wpAnyR_at (L := [0, 1]) (by kernel_rfl) (by simp) ?_
    intro i hi
    simp only [List.mem_cons, List.not_mem_nil, or_false] at hi
    rcases hi with rfl | rfl
    · skip
      unfold wpOp1
      simp [go_sem, h1', Region.wanted]
      refine wpAnyR_at (L := [1]) (by kernel_rfl) (by simp) ?_
      intro i hi
      simp only [List.mem_cons, List.not_mem_nil, or_false] at hi
      subst hi
      unfold wpOp1
      simp [go_sem, recoverD, hu, Region.wanted]
      refine wpAnyR_at (L := [3]) (by kernel_rfl) (by simp) ?_
      intro i hi
      simp only [List.mem_cons, List.not_mem_nil, or_false] at hi
      subst hi
      unfold wpOp1
      simp [go_sem, Region.wanted]
      refine hc.mono ?_
      rintro e w' ⟨rfl, rfl⟩
      refine wpAnyR_end (by kernel_rfl) ?_
      simp [bodyPostS, results, Try.results40, go_sem]
    · skip
      unfold wpOp1
      simp [go_sem, recoverD, hu, Region.wanted]
      refine wpAnyR_at (L := [0]) (by kernel_rfl) (by simp) ?_
      intro i hi
      simp only [List.mem_cons, List.not_mem_nil, or_false] at hi
      subst hi
      unfold wpOp1
      simp [go_sem, h1', Region.wanted]
      refine wpAnyR_at (L := [3]) (by kernel_rfl) (by simp) ?_
      intro i hi
      simp only [List.mem_cons, List.not_mem_nil, or_false] at hi
      subst hi
      unfold wpOp1
      simp [go_sem, Region.wanted]
      refine hc.mono ?_
      rintro e w' ⟨rfl, rfl⟩
      refine wpAnyR_end (by kernel_rfl) ?_
      simp [bodyPostS, results, Try.results40, go_sem]
theorem close_noneR (w : World) (b1 b4 b3 p : Nat) (aw : Option Addr) (nw cw : Nat) (h1 : w.cell? ⟨b1, 0, none⟩ = some (.pointer (some ⟨p, 0, none⟩))) (h4 : w.cell? ⟨b4, 0, none⟩ = some (.slice aw nw cw)) :
    CallsD Try.prog 40 #[.pointer (some ⟨b1, 0, none⟩), .pointer (some ⟨b4, 0, none⟩), .pointer (some ⟨b3, 0, none⟩)] .returning w fun e u' w' =>
      e = .returned (.tuple #[]) ∧ u' = .returning ∧ w' = w.drew := by
  have hc := caught_none w.drew p b3 aw nw cw
  have h1' : w.drew.cell? ⟨b1, 0, none⟩ = some (.pointer (some ⟨p, 0, none⟩)) := h1
  have h4' : w.drew.cell? ⟨b4, 0, none⟩ = some (.slice aw nw cw) := h4
  refine callsD_of_wpS Try.func40 rfl fun c₀ cs hu => ?_
  apply wpS_region_any (by kernel_rfl)
  change wpAnyR _ _ _ _ 4 (Array.replicate 4 false) _ _ w.drew
  refine wpAnyR_at (L := [0, 1, 2]) (by kernel_rfl) (by simp) ?_
  intro i hi
  simp only [List.mem_cons, List.not_mem_nil, or_false] at hi
  rcases hi with rfl | rfl | rfl
  · skip
    unfold wpOp1
    simp [go_sem, h1', Try.ntmps40, Region.wanted]
    refine wpAnyR_at (L := [1, 2]) (by kernel_rfl) (by simp) ?_
    intro i hi
    simp only [List.mem_cons, List.not_mem_nil, or_false] at hi
    rcases hi with rfl | rfl
    · skip
      unfold wpOp1
      simp [go_sem, recoverD, hu, Region.wanted]
      refine wpAnyR_at (L := [2]) (by kernel_rfl) (by simp) ?_
      intro i hi
      simp only [List.mem_cons, List.not_mem_nil, or_false] at hi
      subst hi
      unfold wpOp1
      simp [go_sem, h4', Region.wanted]
      refine wpAnyR_at (L := [3]) (by kernel_rfl) (by simp) ?_
      intro i hi
      simp only [List.mem_cons, List.not_mem_nil, or_false] at hi
      subst hi
      unfold wpOp1
      simp [go_sem, Region.wanted]
      refine hc.mono ?_
      rintro e w' ⟨rfl, rfl⟩
      refine wpAnyR_end (by kernel_rfl) ?_
      (cases c₀; simp_all [bodyPostS, results, Try.results40, go_sem])
    · skip
      unfold wpOp1
      simp [go_sem, h4', Region.wanted]
      refine wpAnyR_at (L := [1]) (by kernel_rfl) (by simp) ?_
      intro i hi
      simp only [List.mem_cons, List.not_mem_nil, or_false] at hi
      subst hi
      unfold wpOp1
      simp [go_sem, recoverD, hu, Region.wanted]
      refine wpAnyR_at (L := [3]) (by kernel_rfl) (by simp) ?_
      intro i hi
      simp only [List.mem_cons, List.not_mem_nil, or_false] at hi
      subst hi
      unfold wpOp1
      simp [go_sem, Region.wanted]
      refine hc.mono ?_
      rintro e w' ⟨rfl, rfl⟩
      refine wpAnyR_end (by kernel_rfl) ?_
      (cases c₀; simp_all [bodyPostS, results, Try.results40, go_sem])
  · skip
    unfold wpOp1
    simp [go_sem, recoverD, hu, Try.ntmps40, Region.wanted]
    refine wpAnyR_at (L := [0, 2]) (by kernel_rfl) (by simp) ?_
    intro i hi
    simp only [List.mem_cons, List.not_mem_nil, or_false] at hi
    rcases hi with rfl | rfl
    · skip
      unfold wpOp1
      simp [go_sem, h1', Region.wanted]
      refine wpAnyR_at (L := [2]) (by kernel_rfl) (by simp) ?_
      intro i hi
      simp only [List.mem_cons, List.not_mem_nil, or_false] at hi
      subst hi
      unfold wpOp1
      simp [go_sem, h4', Region.wanted]
      refine wpAnyR_at (L := [3]) (by kernel_rfl) (by simp) ?_
      intro i hi
      simp only [List.mem_cons, List.not_mem_nil, or_false] at hi
      subst hi
      unfold wpOp1
      simp [go_sem, Region.wanted]
      refine hc.mono ?_
      rintro e w' ⟨rfl, rfl⟩
      refine wpAnyR_end (by kernel_rfl) ?_
      (cases c₀; simp_all [bodyPostS, results, Try.results40, go_sem])
    · skip
      unfold wpOp1
      simp [go_sem, h4', Region.wanted]
      refine wpAnyR_at (L := [0]) (by kernel_rfl) (by simp) ?_
      intro i hi
      simp only [List.mem_cons, List.not_mem_nil, or_false] at hi
      subst hi
      unfold wpOp1
      simp [go_sem, h1', Region.wanted]
      refine wpAnyR_at (L := [3]) (by kernel_rfl) (by simp) ?_
      intro i hi
      simp only [List.mem_cons, List.not_mem_nil, or_false] at hi
      subst hi
      unfold wpOp1
      simp [go_sem, Region.wanted]
      refine hc.mono ?_
      rintro e w' ⟨rfl, rfl⟩
      refine wpAnyR_end (by kernel_rfl) ?_
      (cases c₀; simp_all [bodyPostS, results, Try.results40, go_sem])
  · skip
    unfold wpOp1
    simp [go_sem, h4', Try.ntmps40, Region.wanted]
    refine wpAnyR_at (L := [0, 1]) (by kernel_rfl) (by simp) ?_
    intro i hi
    simp only [List.mem_cons, List.not_mem_nil, or_false] at hi
    rcases hi with rfl | rfl
    · skip
      unfold wpOp1
      simp [go_sem, h1', Region.wanted]
      refine wpAnyR_at (L := [1]) (by kernel_rfl) (by simp) ?_
      intro i hi
      simp only [List.mem_cons, List.not_mem_nil, or_false] at hi
      subst hi
      unfold wpOp1
      simp [go_sem, recoverD, hu, Region.wanted]
      refine wpAnyR_at (L := [3]) (by kernel_rfl) (by simp) ?_
      intro i hi
      simp only [List.mem_cons, List.not_mem_nil, or_false] at hi
      subst hi
      unfold wpOp1
      simp [go_sem, Region.wanted]
      refine hc.mono ?_
      rintro e w' ⟨rfl, rfl⟩
      refine wpAnyR_end (by kernel_rfl) ?_
      (cases c₀; simp_all [bodyPostS, results, Try.results40, go_sem])
    · skip
      unfold wpOp1
      simp [go_sem, recoverD, hu, Region.wanted]
      refine wpAnyR_at (L := [0]) (by kernel_rfl) (by simp) ?_
      intro i hi
      simp only [List.mem_cons, List.not_mem_nil, or_false] at hi
      subst hi
      unfold wpOp1
      simp [go_sem, h1', Region.wanted]
      refine wpAnyR_at (L := [3]) (by kernel_rfl) (by simp) ?_
      intro i hi
      simp only [List.mem_cons, List.not_mem_nil, or_false] at hi
      subst hi
      unfold wpOp1
      simp [go_sem, Region.wanted]
      refine hc.mono ?_
      rintro e w' ⟨rfl, rfl⟩
      refine wpAnyR_end (by kernel_rfl) ?_
      (cases c₀; simp_all [bodyPostS, results, Try.results40, go_sem])
theorem close_someB (w : World) (b1 b4 b3 p : Nat) (old : Value) (aw : Option Addr) (nw cw : Nat) (no e0 err : Int) (older : List PanicEntry) (h1 : w.cell? ⟨b1, 0, none⟩ = some (.pointer (some ⟨p, 0, none⟩))) (h4 : w.cell? ⟨b4, 0, none⟩ = some (.slice aw nw cw))
    (hp : w.heap[p]? = some (.cells #[old, .int .i64 no] 61 (0, 0))) (hq : w.heap[b3]? = some (.cells #[.int .i64 e0] 27 (0, 0))) (hpq : p ≠ b3) :
    CallsD Try.prog 41 #[.pointer (some ⟨b1, 0, none⟩), .pointer (some ⟨b4, 0, none⟩), .pointer (some ⟨b3, 0, none⟩)] (.panicking ({ v := .iface 27 (.int .i64 err), recovered := false } :: older)) w fun e u' w' =>
      e = .returned (.tuple #[]) ∧ u' = .panicking ({ v := .iface 27 (.int .i64 err), recovered := true } :: older) ∧
        w' = (((w.drew.setCell ⟨p, 0, none⟩ (.slice aw nw cw)).setCell ⟨p, 1, none⟩ (.int .i64 err)).setCell ⟨b3, 0, none⟩ (.int .i64 err)) := by
  have hc := caught_some w.drew p b3 old aw nw cw no e0 err hp hq hpq
  have h1' : w.drew.cell? ⟨b1, 0, none⟩ = some (.pointer (some ⟨p, 0, none⟩)) := h1
  have h4' : w.drew.cell? ⟨b4, 0, none⟩ = some (.slice aw nw cw) := h4
  refine callsD_of_wpS Try.func41 rfl fun c₀ cs hu => ?_
  apply wpS_region_any (by kernel_rfl)
  change wpAnyR _ _ _ _ 4 (Array.replicate 4 false) _ _ w.drew
  refine wpAnyR_at (L := [0, 1, 2]) (by kernel_rfl) (by simp) ?_
  intro i hi
  simp only [List.mem_cons, List.not_mem_nil, or_false] at hi
  rcases hi with rfl | rfl | rfl
  · skip
    unfold wpOp1
    simp [go_sem, h1', Try.ntmps41, Region.wanted]
    refine wpAnyR_at (L := [1, 2]) (by kernel_rfl) (by simp) ?_
    intro i hi
    simp only [List.mem_cons, List.not_mem_nil, or_false] at hi
    rcases hi with rfl | rfl
    · skip
      unfold wpOp1
      simp [go_sem, recoverD, hu, Region.wanted]
      refine wpAnyR_at (L := [2]) (by kernel_rfl) (by simp) ?_
      intro i hi
      simp only [List.mem_cons, List.not_mem_nil, or_false] at hi
      subst hi
      unfold wpOp1
      simp [go_sem, h4', Region.wanted]
      refine wpAnyR_at (L := [3]) (by kernel_rfl) (by simp) ?_
      intro i hi
      simp only [List.mem_cons, List.not_mem_nil, or_false] at hi
      subst hi
      unfold wpOp1
      simp [go_sem, Region.wanted]
      refine hc.mono ?_
      rintro e w' ⟨rfl, rfl⟩
      refine wpAnyR_end (by kernel_rfl) ?_
      simp [bodyPostS, results, Try.results41, go_sem]
    · skip
      unfold wpOp1
      simp [go_sem, h4', Region.wanted]
      refine wpAnyR_at (L := [1]) (by kernel_rfl) (by simp) ?_
      intro i hi
      simp only [List.mem_cons, List.not_mem_nil, or_false] at hi
      subst hi
      unfold wpOp1
      simp [go_sem, recoverD, hu, Region.wanted]
      refine wpAnyR_at (L := [3]) (by kernel_rfl) (by simp) ?_
      intro i hi
      simp only [List.mem_cons, List.not_mem_nil, or_false] at hi
      subst hi
      unfold wpOp1
      simp [go_sem, Region.wanted]
      refine hc.mono ?_
      rintro e w' ⟨rfl, rfl⟩
      refine wpAnyR_end (by kernel_rfl) ?_
      simp [bodyPostS, results, Try.results41, go_sem]
  · skip
    unfold wpOp1
    simp [go_sem, recoverD, hu, Try.ntmps41, Region.wanted]
    refine wpAnyR_at (L := [0, 2]) (by kernel_rfl) (by simp) ?_
    intro i hi
    simp only [List.mem_cons, List.not_mem_nil, or_false] at hi
    rcases hi with rfl | rfl
    · skip
      unfold wpOp1
      simp [go_sem, h1', Region.wanted]
      refine wpAnyR_at (L := [2]) (by kernel_rfl) (by simp) ?_
      intro i hi
      simp only [List.mem_cons, List.not_mem_nil, or_false] at hi
      subst hi
      unfold wpOp1
      simp [go_sem, h4', Region.wanted]
      refine wpAnyR_at (L := [3]) (by kernel_rfl) (by simp) ?_
      intro i hi
      simp only [List.mem_cons, List.not_mem_nil, or_false] at hi
      subst hi
      unfold wpOp1
      simp [go_sem, Region.wanted]
      refine hc.mono ?_
      rintro e w' ⟨rfl, rfl⟩
      refine wpAnyR_end (by kernel_rfl) ?_
      simp [bodyPostS, results, Try.results41, go_sem]
    · skip
      unfold wpOp1
      simp [go_sem, h4', Region.wanted]
      refine wpAnyR_at (L := [0]) (by kernel_rfl) (by simp) ?_
      intro i hi
      simp only [List.mem_cons, List.not_mem_nil, or_false] at hi
      subst hi
      unfold wpOp1
      simp [go_sem, h1', Region.wanted]
      refine wpAnyR_at (L := [3]) (by kernel_rfl) (by simp) ?_
      intro i hi
      simp only [List.mem_cons, List.not_mem_nil, or_false] at hi
      subst hi
      unfold wpOp1
      simp [go_sem, Region.wanted]
      refine hc.mono ?_
      rintro e w' ⟨rfl, rfl⟩
      refine wpAnyR_end (by kernel_rfl) ?_
      simp [bodyPostS, results, Try.results41, go_sem]
  · skip
    unfold wpOp1
    simp [go_sem, h4', Try.ntmps41, Region.wanted]
    refine wpAnyR_at (L := [0, 1]) (by kernel_rfl) (by simp) ?_
    intro i hi
    simp only [List.mem_cons, List.not_mem_nil, or_false] at hi
    rcases hi with rfl | rfl
    · skip
      unfold wpOp1
      simp [go_sem, h1', Region.wanted]
      refine wpAnyR_at (L := [1]) (by kernel_rfl) (by simp) ?_
      intro i hi
      simp only [List.mem_cons, List.not_mem_nil, or_false] at hi
      subst hi
      unfold wpOp1
      simp [go_sem, recoverD, hu, Region.wanted]
      refine wpAnyR_at (L := [3]) (by kernel_rfl) (by simp) ?_
      intro i hi
      simp only [List.mem_cons, List.not_mem_nil, or_false] at hi
      subst hi
      unfold wpOp1
      simp [go_sem, Region.wanted]
      refine hc.mono ?_
      rintro e w' ⟨rfl, rfl⟩
      refine wpAnyR_end (by kernel_rfl) ?_
      simp [bodyPostS, results, Try.results41, go_sem]
    · skip
      unfold wpOp1
      simp [go_sem, recoverD, hu, Region.wanted]
      refine wpAnyR_at (L := [0]) (by kernel_rfl) (by simp) ?_
      intro i hi
      simp only [List.mem_cons, List.not_mem_nil, or_false] at hi
      subst hi
      unfold wpOp1
      simp [go_sem, h1', Region.wanted]
      refine wpAnyR_at (L := [3]) (by kernel_rfl) (by simp) ?_
      intro i hi
      simp only [List.mem_cons, List.not_mem_nil, or_false] at hi
      subst hi
      unfold wpOp1
      simp [go_sem, Region.wanted]
      refine hc.mono ?_
      rintro e w' ⟨rfl, rfl⟩
      refine wpAnyR_end (by kernel_rfl) ?_
      simp [bodyPostS, results, Try.results41, go_sem]
theorem close_noneB (w : World) (b1 b4 b3 p : Nat) (aw : Option Addr) (nw cw : Nat) (h1 : w.cell? ⟨b1, 0, none⟩ = some (.pointer (some ⟨p, 0, none⟩))) (h4 : w.cell? ⟨b4, 0, none⟩ = some (.slice aw nw cw)) :
    CallsD Try.prog 41 #[.pointer (some ⟨b1, 0, none⟩), .pointer (some ⟨b4, 0, none⟩), .pointer (some ⟨b3, 0, none⟩)] .returning w fun e u' w' =>
      e = .returned (.tuple #[]) ∧ u' = .returning ∧ w' = w.drew := by
  have hc := caught_none w.drew p b3 aw nw cw
  have h1' : w.drew.cell? ⟨b1, 0, none⟩ = some (.pointer (some ⟨p, 0, none⟩)) := h1
  have h4' : w.drew.cell? ⟨b4, 0, none⟩ = some (.slice aw nw cw) := h4
  refine callsD_of_wpS Try.func41 rfl fun c₀ cs hu => ?_
  apply wpS_region_any (by kernel_rfl)
  change wpAnyR _ _ _ _ 4 (Array.replicate 4 false) _ _ w.drew
  refine wpAnyR_at (L := [0, 1, 2]) (by kernel_rfl) (by simp) ?_
  intro i hi
  simp only [List.mem_cons, List.not_mem_nil, or_false] at hi
  rcases hi with rfl | rfl | rfl
  · skip
    unfold wpOp1
    simp [go_sem, h1', Try.ntmps41, Region.wanted]
    refine wpAnyR_at (L := [1, 2]) (by kernel_rfl) (by simp) ?_
    intro i hi
    simp only [List.mem_cons, List.not_mem_nil, or_false] at hi
    rcases hi with rfl | rfl
    · skip
      unfold wpOp1
      simp [go_sem, recoverD, hu, Region.wanted]
      refine wpAnyR_at (L := [2]) (by kernel_rfl) (by simp) ?_
      intro i hi
      simp only [List.mem_cons, List.not_mem_nil, or_false] at hi
      subst hi
      unfold wpOp1
      simp [go_sem, h4', Region.wanted]
      refine wpAnyR_at (L := [3]) (by kernel_rfl) (by simp) ?_
      intro i hi
      simp only [List.mem_cons, List.not_mem_nil, or_false] at hi
      subst hi
      unfold wpOp1
      simp [go_sem, Region.wanted]
      refine hc.mono ?_
      rintro e w' ⟨rfl, rfl⟩
      refine wpAnyR_end (by kernel_rfl) ?_
      (cases c₀; simp_all [bodyPostS, results, Try.results41, go_sem])
    · skip
      unfold wpOp1
      simp [go_sem, h4', Region.wanted]
      refine wpAnyR_at (L := [1]) (by kernel_rfl) (by simp) ?_
      intro i hi
      simp only [List.mem_cons, List.not_mem_nil, or_false] at hi
      subst hi
      unfold wpOp1
      simp [go_sem, recoverD, hu, Region.wanted]
      refine wpAnyR_at (L := [3]) (by kernel_rfl) (by simp) ?_
      intro i hi
      simp only [List.mem_cons, List.not_mem_nil, or_false] at hi
      subst hi
      unfold wpOp1
      simp [go_sem, Region.wanted]
      refine hc.mono ?_
      rintro e w' ⟨rfl, rfl⟩
      refine wpAnyR_end (by kernel_rfl) ?_
      (cases c₀; simp_all [bodyPostS, results, Try.results41, go_sem])
  · skip
    unfold wpOp1
    simp [go_sem, recoverD, hu, Try.ntmps41, Region.wanted]
    refine wpAnyR_at (L := [0, 2]) (by kernel_rfl) (by simp) ?_
    intro i hi
    simp only [List.mem_cons, List.not_mem_nil, or_false] at hi
    rcases hi with rfl | rfl
    · skip
      unfold wpOp1
      simp [go_sem, h1', Region.wanted]
      refine wpAnyR_at (L := [2]) (by kernel_rfl) (by simp) ?_
      intro i hi
      simp only [List.mem_cons, List.not_mem_nil, or_false] at hi
      subst hi
      unfold wpOp1
      simp [go_sem, h4', Region.wanted]
      refine wpAnyR_at (L := [3]) (by kernel_rfl) (by simp) ?_
      intro i hi
      simp only [List.mem_cons, List.not_mem_nil, or_false] at hi
      subst hi
      unfold wpOp1
      simp [go_sem, Region.wanted]
      refine hc.mono ?_
      rintro e w' ⟨rfl, rfl⟩
      refine wpAnyR_end (by kernel_rfl) ?_
      (cases c₀; simp_all [bodyPostS, results, Try.results41, go_sem])
    · skip
      unfold wpOp1
      simp [go_sem, h4', Region.wanted]
      refine wpAnyR_at (L := [0]) (by kernel_rfl) (by simp) ?_
      intro i hi
      simp only [List.mem_cons, List.not_mem_nil, or_false] at hi
      subst hi
      unfold wpOp1
      simp [go_sem, h1', Region.wanted]
      refine wpAnyR_at (L := [3]) (by kernel_rfl) (by simp) ?_
      intro i hi
      simp only [List.mem_cons, List.not_mem_nil, or_false] at hi
      subst hi
      unfold wpOp1
      simp [go_sem, Region.wanted]
      refine hc.mono ?_
      rintro e w' ⟨rfl, rfl⟩
      refine wpAnyR_end (by kernel_rfl) ?_
      (cases c₀; simp_all [bodyPostS, results, Try.results41, go_sem])
  · skip
    unfold wpOp1
    simp [go_sem, h4', Try.ntmps41, Region.wanted]
    refine wpAnyR_at (L := [0, 1]) (by kernel_rfl) (by simp) ?_
    intro i hi
    simp only [List.mem_cons, List.not_mem_nil, or_false] at hi
    rcases hi with rfl | rfl
    · skip
      unfold wpOp1
      simp [go_sem, h1', Region.wanted]
      refine wpAnyR_at (L := [1]) (by kernel_rfl) (by simp) ?_
      intro i hi
      simp only [List.mem_cons, List.not_mem_nil, or_false] at hi
      subst hi
      unfold wpOp1
      simp [go_sem, recoverD, hu, Region.wanted]
      refine wpAnyR_at (L := [3]) (by kernel_rfl) (by simp) ?_
      intro i hi
      simp only [List.mem_cons, List.not_mem_nil, or_false] at hi
      subst hi
      unfold wpOp1
      simp [go_sem, Region.wanted]
      refine hc.mono ?_
      rintro e w' ⟨rfl, rfl⟩
      refine wpAnyR_end (by kernel_rfl) ?_
      (cases c₀; simp_all [bodyPostS, results, Try.results41, go_sem])
    · skip
      unfold wpOp1
      simp [go_sem, recoverD, hu, Region.wanted]
      refine wpAnyR_at (L := [0]) (by kernel_rfl) (by simp) ?_
      intro i hi
      simp only [List.mem_cons, List.not_mem_nil, or_false] at hi
      subst hi
      unfold wpOp1
      simp [go_sem, h1', Region.wanted]
      refine wpAnyR_at (L := [3]) (by kernel_rfl) (by simp) ?_
      intro i hi
      simp only [List.mem_cons, List.not_mem_nil, or_false] at hi
      subst hi
      unfold wpOp1
      simp [go_sem, Region.wanted]
      refine hc.mono ?_
      rintro e w' ⟨rfl, rfl⟩
      refine wpAnyR_end (by kernel_rfl) ?_
      (cases c₀; simp_all [bodyPostS, results, Try.results41, go_sem])
end Go.Proofs.Ytpdlocdlnoibbaa
