/- Arguments opened, with their bulk (for statements of the Upto form). -/
import Derived.Test.YtpdlocdlnoibbaaTw
import Derived.Test.YtpdlocdlnoibbaaRows
namespace Go.Proofs.Ytpdlocdlnoibbaa
open Go.ChangeShapes Go.WideShapes Go.ChangeAt Go.RowKit

section
variable {H : Type} {enc : TypeId × Value → H} {P : Program} {W : World}
theorem bulk_pos (d : DataW H) : 1 ≤ Rows.uptoBulk d := by
  cases d with
  | lit l => cases l <;> simp [Rows.uptoBulk]
  | _ => simp [Rows.uptoBulk]
theorem bulk_mem : ∀ {l : List (DataW H)} {d : DataW H}, d ∈ l → Rows.uptoBulk d ≤ Rows.uptoBulkAll l
  | [], _, h => by cases h
  | b :: l, d, h => by
    unfold Rows.uptoBulkAll
    rcases List.mem_cons.1 h with rfl | h
    · omega
    · have := bulk_mem h; omega
theorem bulk_len : ∀ (l : List (DataW H)), l.length ≤ Rows.uptoBulkAll l
  | [] => by simp
  | b :: l => by
    have := bulk_len l
    have := bulk_pos b
    unfold Rows.uptoBulkAll
    simp; omega
/-- Cells that read as a value whose bulk is small. -/
def TB (enc : TypeId × Value → H) (P : Program) (W : World) (t : TypeId) (cs : List Value) : Prop :=
  ∃ fuel d p, DataW.trod enc P W 0 (fun _ => true) true fuel t cs = some (d, p) ∧ Rows.uptoBulk d ≤ 1048576

theorem TB.of {ds : List (DataW H)} (hsz : Rows.uptoSmall H ds = true) {t : TypeId} {v : Value} {d : DataW H} {p : List MemPlace} (h : DataW.Trod enc P W 0 (fun _ => true) true t v d p) (hd : d ∈ ds) : TB enc P W t v.cells.toList := by
  obtain ⟨f, hf⟩ := h
  have h1 := of_decide_eq_true hsz
  have := bulk_mem hd
  exact ⟨f, _, _, hf, by omega⟩
theorem TB.trd {t : TypeId} {cs : List Value} (h : TB enc P W t cs) : Trd enc P W t cs := by
  obtain ⟨f, d, p, hf, _⟩ := h
  exact ⟨f, _, hf⟩
theorem TB.field {t : TypeId} {fs : Array Field} {cs : List Value} {f : Field} {n : Nat} (h : TB enc P W t cs) (ht : P.underlying t = some (.struct fs)) (i : Nat) (hf : fs[i]? = some f) (hn : P.cellsOf f.type = n) :
    TB enc P W f.type ((cs.drop f.offset).take n) := by
  subst hn
  obtain ⟨fu, d, p, hd, hw⟩ := h
  obtain ⟨xs, n, _, hx, hl, hlen, hff⟩ := DataW.trod_struct ht hd
  have h1 := hff i f hf
  have hi2 : i < xs.length := by rw [hlen]; exact (Array.getElem?_eq_some_iff.1 hf).1
  rw [List.getElem?_eq_getElem hi2] at h1
  refine ⟨n, xs[i].1, xs[i].2, h1, ?_⟩
  simp only [Prod.mk.injEq] at hx
  rw [hx.1] at hw
  have hm : xs[i].1 ∈ xs.map (·.1) := List.mem_map.2 ⟨xs[i], List.getElem_mem _, rfl⟩
  have := bulk_mem hm
  simp only [Rows.uptoBulk] at hw
  omega
theorem TB.cells {t : TypeId} {fs : Array Field} {cs : List Value} (h : TB enc P W t cs) (ht : P.underlying t = some (.struct fs)) : cs.length = P.cellsOf t := (h.trd.struct ht).1

theorem TB.slice {t e : TypeId} {cs : List Value} (ht : P.underlying t = some (.slice e)) (h : TB enc P W t cs) :
    ∃ a n c, cs = [.slice a n c] ∧ n ≤ 1048576 ∧ ((a = none ∧ n = 0 ∧ c = 0) ∨ ∃ ad, a = some ad ∧ n ≤ c ∧ c ≤ maxLen ∧
      ∀ i, i < n → ∃ ds : List Value, ds.length = P.cellsOf e ∧ (∀ j, j < P.cellsOf e → W.cell? (ad.add (i * P.cellsOf e + j)) = ds[j]?) ∧ TB enc P W e ds) := by
  obtain ⟨f, d, p, hf, hw⟩ := h
  rcases Go.Deep.open_slice ht hf with ⟨h1, _⟩ | ⟨a, len, cap, m, n, D, Pl, h1, _, hl, hm, hmm, hx, hel⟩
  · exact ⟨_, _, _, h1, by omega, .inl ⟨rfl, rfl, rfl⟩⟩
  · simp only [Prod.mk.injEq] at hx
    rw [hx.1] at hw
    simp only [Rows.uptoBulk] at hw
    simp only [if_true] at hmm
    have hlen : len ≤ 1048576 := by
      have := bulk_len ((List.range len).map D)
      simp at this; omega
    refine ⟨_, _, _, h1, hlen, .inr ⟨a, rfl, hl, hm, fun i hi => ?_⟩⟩
    obtain ⟨ds, hd, ht2⟩ := hel i (by omega)
    obtain ⟨_, hlen, hc⟩ := World.cells?_some hd
    refine ⟨ds, hlen, fun j hj => by rw [← Go.Deep.add_add]; exact hc j hj, _, _, _, ht2, ?_⟩
    have := bulk_mem (l := (List.range len).map D) (d := D i) (List.mem_map.2 ⟨i, List.mem_range.2 hi, rfl⟩)
    omega
/-- A slice, element by element. -/
theorem TB.elems {t e : TypeId} {v : Value} {size : Nat} {α : Type} (ht : P.underlying t = some (.slice e)) (hc : P.cellsOf e = size) (f : α → List Value) (Q : α → Prop)
    (hel : ∀ ds, ds.length = size → TB enc P W e ds → ∃ a, ds = f a ∧ Q a) (h1 : ∀ a, Q a → ∀ u ∈ f a, u.oneCell' = true) (h : TB enc P W t [v]) :
    ∃ l : List α, Rd W size v l.length (l.flatMap f) ∧ l.length ≤ 1048576 ∧ ∀ a ∈ l, Q a ∧ (f a).length = size := by
  obtain ⟨a, n, c, hv, hb, h2⟩ := h.slice ht
  obtain rfl : v = .slice a n c := by simpa using hv
  rcases h2 with ⟨rfl, rfl, rfl⟩ | ⟨ad, rfl, hcap, hm, hx⟩
  · exact ⟨[], Rd.nil _ _, by simp, by simp⟩
  · rw [hc] at hx
    have hx2 : ∀ i, i < n → ∃ x : α, ((f x).length = size ∧ (∀ j, j < size → W.cell? (ad.add (i * size + j)) = (f x)[j]?)) ∧ Q x := fun i hi => by
      obtain ⟨ds, hl, hcell, htw⟩ := hx i hi
      obtain ⟨x, rfl, hq⟩ := hel ds hl htw
      exact ⟨x, ⟨hl, hcell⟩, hq⟩
    by_cases hn : n = 0
    · subst hn
      exact ⟨[], ⟨by simp, by simp, .inr ⟨ad, c, rfl, hcap, by simp⟩⟩, by simp, by simp⟩
    · obtain ⟨x0, _⟩ := hx2 0 (by omega)
      let A : Nat → α := fun i => if hi : i < n then (hx2 i hi).choose else x0
      have hA : ∀ i, i < n → ((f (A i)).length = size ∧ (∀ j, j < size → W.cell? (ad.add (i * size + j)) = (f (A i))[j]?)) ∧ Q (A i) := fun i hi => by
        simp only [A, dif_pos hi]; exact (hx2 i hi).choose_spec
      have hlen : ((List.range n).map A).length = n := by simp
      have hall : ∀ a ∈ (List.range n).map A, Q a ∧ (f a).length = size := by
        intro a ha
        obtain ⟨i, hi, rfl⟩ := List.mem_map.1 ha
        have := hA i (List.mem_range.1 hi)
        exact ⟨this.2, this.1.1⟩
      have hfl := flat_length f size ((List.range n).map A) (fun a ha => (hall a ha).2)
      refine ⟨(List.range n).map A, ⟨hfl, ?_, .inr ⟨ad, c, by rw [hlen], by rw [hlen]; exact hcap, ?_⟩⟩, by rw [hlen]; exact hb, hall⟩
      · intro u hu
        obtain ⟨a, ha, hu⟩ := List.mem_flatMap.1 hu
        exact h1 a (hall a ha).1 u hu
      · intro j u hu
        rw [hlen] at hfl
        have hj : j < n * size := by rw [← hfl]; exact (List.getElem?_eq_some_iff.1 hu).1
        have hs : 0 < size := by
          by_cases hs : size = 0
          · subst hs; simp at hj
          · omega
        have hi : j / size < n := Nat.div_lt_of_lt_mul (by rw [Nat.mul_comm]; exact hj)
        have hk : j % size < size := Nat.mod_lt _ hs
        have hg := flat_get f size ((List.range n).map A) (fun a ha => (hall a ha).2) (j / size) (A (j / size)) (by simp [hi]) (j % size) hk
        have hsum : j / size * size + j % size = j := by rw [Nat.mul_comm]; exact Nat.div_add_mod j size
        have hcell := (hA _ hi).1.2 (j % size) hk
        rw [hsum] at hg hcell
        rw [hcell, ← hg]; exact hu

theorem TB.u64 {t : TypeId} {cs : List Value} (ht : P.underlying t = some (.int .u64)) (h : TB enc P W t cs) : ∃ n : Nat, cs = [.int .u64 n] ∧ n < 18446744073709551616 := by
  obtain ⟨n, hn, wf⟩ := h.trd.int ht
  obtain ⟨m, rfl, hm⟩ := u64_nat wf
  exact ⟨m, hn, hm⟩
theorem TB.i64 {t : TypeId} {cs : List Value} (ht : P.underlying t = some (.int .i64)) (h : TB enc P W t cs) : ∃ n : Int, cs = [.int .i64 n] ∧ -9223372036854775808 ≤ n ∧ n ≤ 9223372036854775807 := by
  obtain ⟨n, hn, wf⟩ := h.trd.int ht
  have := bounds_i64 wf
  exact ⟨n, hn, this⟩
theorem TB.u8 {t : TypeId} {cs : List Value} (ht : P.underlying t = some (.int .u8)) (h : TB enc P W t cs) : ∃ n : UInt8, cs = [.int .u8 n.toNat] := by
  obtain ⟨n, hn, wf⟩ := h.trd.int ht
  exact ⟨UInt8.ofNat n.toNat, by rw [u8_of_wf wf]; exact hn⟩
theorem TB.bytes {t e : TypeId} {v : Value} (ht : P.underlying t = some (.slice e)) (he : P.underlying e = some (.int .u8)) (hc : P.cellsOf e = 1) (h : TB enc P W t [v]) :
    ∃ l : List UInt8, Rd W 1 v l.length (bv l) ∧ l.length ≤ 1048576 := by
  obtain ⟨l, hr, hl, _⟩ := h.elems ht hc (fun b : UInt8 => [Value.int .u8 b.toNat]) (fun _ => True) (fun ds _ htw => by obtain ⟨n, hn⟩ := htw.u8 he; exact ⟨n, hn, trivial⟩) (by intro a _ u hu; simp at hu; subst hu; rfl)
  refine ⟨l, ?_, by omega⟩
  have := flat_bv l
  rw [this] at hr
  exact hr
theorem TB.words {t e : TypeId} {v : Value} (ht : P.underlying t = some (.slice e)) (he : P.underlying e = some (.int .u64)) (hc : P.cellsOf e = 1) (h : TB enc P W t [v]) :
    ∃ l : List Nat, Rd W 1 v l.length (uv l) ∧ l.length ≤ 1048576 ∧ ∀ x ∈ l, x < 18446744073709551616 := by
  obtain ⟨l, hr, hl, hq⟩ := h.elems ht hc (fun n : Nat => [Value.int .u64 n]) (fun n => n < 18446744073709551616) (fun ds _ htw => htw.u64 he) (by intro a _ u hu; simp at hu; subst hu; rfl)
  refine ⟨l, ?_, by omega, fun x hx => (hq x hx).1⟩
  have := flat_uv l
  rw [this] at hr
  exact hr
end
end Go.Proofs.Ytpdlocdlnoibbaa
