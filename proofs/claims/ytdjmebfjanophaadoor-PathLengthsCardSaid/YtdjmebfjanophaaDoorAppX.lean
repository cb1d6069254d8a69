/- An append, told closer: in place or new; regions that append to fresh rows of hashes. -/
import Derived.Test.YtdjmebfjanophaaDoorLeafI
namespace Go.Proofs.YtdjmebfjanophaaDoor
open Go.RowKit Sha

theorem run_app_x {P : Program} {w : World} (t ty : TypeId) {e : TypeId} {z : Value} {size bytes : Nat}
    (ht : P.underlying t = some (.slice e)) (hinfo : (P.info? e).map (fun i => (i.zero, i.size, i.bytes)) = some (some z, size, bytes)) (hzs : z.cells.size = size) (hsz : 0 < size)
    {B : Nat} {v xv : Value} {n m : Nat} {xs news : List Value} (hown : w.ownsRow B e size v n xs) (hr : Rd w size xv m news)
    (h63 : n + m ≤ 140737488355328) (hbytes : (n + m) * bytes ≤ 140737488355328) (hbase : B ≤ w.heap.size) :
    ∃ v' w', (Builtin.append_ #[t, t] ty #[v, xv]).run P w = .ok v' w' ∧ w'.ownsRow B e size v' (n + m) (xs ++ news) ∧ Grew w w' v v' ∧
      ((Below w.heap.size w w' ∧ (m = 0 → v' = v)) ∨ ∃ g c, v = .slice (some ⟨g, 0, none⟩) n c ∧ n + m ≤ c ∧ v' = .slice (some ⟨g, 0, none⟩) (n + m) c) := by
  obtain ⟨v', w', hrun, h2, h3, h4⟩ := run_app (P := P) (w := w) t ty ht hinfo hzs hsz hown hr h63 hbytes hbase
  refine ⟨v', w', hrun, h2, h3, ?_⟩
  obtain ⟨i, hi, hz, hsize, hby⟩ := info_parts hinfo
  obtain ⟨hl, h1, ⟨rfl, rfl⟩ | ⟨a, c, rfl, hcap, hnews⟩⟩ := hr
  · have hn : news = [] := List.eq_nil_of_length_eq_zero (by simpa using hl)
    subst hn
    have := run_append_owned_none (P := P) (w := w) B t ty e i size ht hi v n xs hown
    rw [this] at hrun
    simp only [Result.ok.injEq] at hrun
    obtain ⟨rfl, rfl⟩ := hrun
    exact .inl ⟨Below.refl _ _, fun _ => rfl⟩
  subst hsize
  subst hby
  rcases hown.2 with ⟨rfl, rfl⟩ | ⟨g, cap, cur, rfl, hbg, hg, hnc, hcm, hcs, htake⟩
  · exact .inl ⟨h3.nil, fun h => h4.2 ⟨rfl, h⟩⟩
  · by_cases hroom : n + m ≤ cap
    · have hfit : n * i.size + news.length ≤ cur.size := by rw [hl, hcs, ← Nat.add_mul]; exact Nat.mul_le_mul_right _ hroom
      have := run_append_room (P := P) w t ty e i ht hi g n cap cur hg a m c news hl hnews h1 hroom hfit
      rw [this] at hrun
      simp only [Result.ok.injEq] at hrun
      exact .inr ⟨g, cap, rfl, hroom, hrun.1.symm⟩
    · have holds : ∀ j u, xs[j]? = some u → w.cell? ((⟨g, 0, none⟩ : Addr).add j) = some u := hown.cells (g := g) rfl
      have := run_append_grow (P := P) w t ty e i z ht hi hz ⟨g, 0, none⟩ n cap xs hown.1 holds a m c news hl hnews (by omega) (by omega) (growslice_fits (by omega) hbytes)
      rw [this] at hrun
      simp only [Result.ok.injEq] at hrun
      obtain ⟨_, rfl⟩ := hrun
      exact .inl ⟨(Below.refl _ _).drew.alloc (Nat.le_refl _) _, fun h => by omega⟩
theorem gives_app_x {P : Program} {r : Nat → Value} {w : World} {o : Oper} {R : Value → World → Prop} {t e : TypeId} {z : Value} {size bytes : Nat}
    (ht : P.underlying t = some (.slice e)) (hinfo : (P.info? e).map (fun i => (i.zero, i.size, i.bytes)) = some (some z, size, bytes)) (hzs : z.cells.size = size) (hsz : 0 < size)
    (s x : Operand) (ho : o.op = .call { callee := .builtin .append, args := #[s, x], argTypes := #[t, t] })
    {B : Nat} {v xv : Value} {n m : Nat} {xs news : List Value} (hs : rd r s = v) (hx : rd r x = xv) (hown : w.ownsRow B e size v n xs) (hr : Rd w size xv m news)
    (h63 : n + m ≤ 140737488355328) (hbytes : (n + m) * bytes ≤ 140737488355328) (hB : B ≤ w.heap.size)
    (h : ∀ v' w', w'.ownsRow B e size v' (n + m) (xs ++ news) → Grew w w' v v' → ((Below w.heap.size w w' ∧ (m = 0 → v' = v)) ∨ ∃ g c, v = .slice (some ⟨g, 0, none⟩) n c ∧ n + m ≤ c ∧ v' = .slice (some ⟨g, 0, none⟩) (n + m) c) → R v' w') : gives P r o w R := by
  obtain ⟨v', w', hr, h2, h3, h4⟩ := run_app_x (P := P) (w := w) t o.type ht hinfo hzs hsz hown hr h63 hbytes hB
  unfold gives execOp
  simp only [ho, resolve, invoke, builtin, Sem.run_bind, Sem.run_pure, Result.andThen_ok, List.map_toArray, List.map_cons, List.map_nil, hs, hx, hr]
  exact h v' w' h2 h3 h4

/-- How an operation may change the world: A appends to an empty row, C to a wide one, E stores a row. -/
def kL (A C E B : Nat) (j : Nat) (w w' : World) : Prop := ∃ r, w.grownBy w' r ∧ ∀ i, r = some i → B ≤ i ∧ ∃ cs fr, w.heap[i]? = some (.cells cs 33 fr) ∧ ((j = A ∧ cs = #[]) ∨ (j = C ∧ 64 ≤ cs.size) ∨ j = E)
theorem kL_refl (A C E B j : Nat) (w : World) : kL A C E B j w w := ⟨none, World.grownBy.refl _ _, fun i e => by cases e⟩
theorem kL_of {A C E B j : Nat} {w w' : World} (h : Below w.heap.size w w') : kL A C E B j w w' := ⟨none, below_grown h none, fun i e => by cases e⟩
theorem kL_G {A C E B j : Nat} {w0 w w' : World} (hB : B ≤ w0.heap.size) (h : Below B w0 w) (k : kL A C E B j w w') : Below B w0 w' := by
  obtain ⟨r, hg, hr⟩ := k
  exact h.trans ⟨hg.os, hg.tape, hg.output, hg.size, fun i hi => hg.block i (Nat.lt_of_lt_of_le hi (Nat.le_trans hB h.size)) (fun e => by have := (hr i e.symm).1; omega)⟩
theorem kL_below {A C E B j : Nat} {w w' : World} (hA : j ≠ A) (hC : j ≠ C) (hE : j ≠ E) (k : kL A C E B j w w') : Below w.heap.size w w' := by
  obtain ⟨r, hg, hr⟩ := k
  cases r with
  | none => exact grown_below hg
  | some i => obtain ⟨_, cs, fr, _, h | h | h⟩ := hr i rfl <;> omega
theorem kL_blk {A C E B j q : Nat} {cs : Array Value} {fr : Nat × Nat} {w w' : World} (hE : j ≠ E) (hcs : cs.size = 32) (k : kL A C E B j w w') (h : w.heap[q]? = some (.cells cs 33 fr)) : w'.heap[q]? = some (.cells cs 33 fr) := by
  obtain ⟨r, hg, hr⟩ := k
  refine (hg.block q (Array.getElem?_eq_some_iff.1 h).1 fun e => ?_).trans h
  obtain ⟨_, cs2, fr2, h2, hh⟩ := hr q e.symm
  rw [h] at h2
  simp only [Option.some.injEq, Obj.cells.injEq] at h2
  rcases hh with ⟨_, h3⟩ | ⟨_, h3⟩ | h3
  · rw [h2.1, h3] at hcs; simp at hcs
  · rw [h2.1] at hcs; omega
  · exact hE h3
theorem own_row {w : World} {B : Nat} {e : TypeId} {size n : Nat} {v : Value} {xs : List Value} (h : w.ownsRow B e size v n xs) (i : Nat) (hi : v.ownBlock = some i) : B ≤ i ∧ ∃ cap cs fr, w.heap[i]? = some (.cells cs e fr) ∧ v = .slice (some ⟨i, 0, none⟩) n cap ∧ cs.size = cap * size := by
  obtain ⟨_, h2 | ⟨g, cap, cur, hv, hb, hg, _, _, hs, _⟩⟩ := h
  · rw [h2.1] at hi; cases hi
  · have hv0 := hv
    rw [hv] at hi
    simp only [Value.ownBlock, Option.some.injEq] at hi
    subst hi
    exact ⟨hb, cap, cur, _, hg, hv0, hs⟩
theorem rd_one_row {w : World} {q : Nat} {l : List UInt8} {fr : Nat × Nat} (h : w.heap[q]? = some (.cells (bv l).toArray 33 fr)) (hl : l.length = 32) : Rd w 32 (.slice (some ⟨q, 0, none⟩) 1 1) 1 (bv l) := by
  refine ⟨by rw [bv_length, hl], bv_one _, .inr ⟨⟨q, 0, none⟩, 1, rfl, Nat.le_refl _, fun j u hu => ?_⟩⟩
  rw [Addr.add_lit, Nat.zero_add, cell_of_row _ _ _ _ _ _ h]
  simpa using hu
end Go.Proofs.YtdjmebfjanophaaDoor
