/- Arguments of a law, opened: no program is named here. · Slices of 64-bit numbers: plain words, and how they come in; no program is named here. · Arguments opened, with their weights: no program is named here. -/
import Derived.Test.YtdociiogddihfaaBase
import Derived.ProofKit
import Derived.OpenShut
import Derived.SizedLaws
import Derived.Deep.CondSized
import Derived.Deep.Slices
namespace Go.Proofs.Ytdociiogddihfaa
open Go.ChangeShapes Go.WideShapes Go.ChangeAt Go.RowKit

theorem u8_of_wf {n : Int} (h : (Lit.int .u8 n).wf = true) : ((UInt8.ofNat n.toNat).toNat : Int) = n := by
  have := bounds_u8 h
  have e := u8_nat n.toNat (by omega)
  omega

theorem u64_nat {n : Int} (h : (Lit.int .u64 n).wf = true) : ∃ m : Nat, n = (m : Int) ∧ m < 18446744073709551616 := by
  simp [Lit.wf, IntKind.min, IntKind.max, IntKind.signed, IntKind.bits] at h
  exact ⟨n.toNat, by omega, by omega⟩

section
variable {H : Type} {enc : TypeId × Value → H} {P : Program} {W : World}

/-- The cells cs read as a datum of type t. -/
def Trd (enc : TypeId × Value → H) (P : Program) (W : World) (t : TypeId) (cs : List Value) : Prop := ∃ fuel x, DataW.trod enc P W 0 (fun _ => true) true fuel t cs = some x

theorem Trd.of {t : TypeId} {v : Value} {d : DataW H} {p : List MemPlace} (h : DataW.Trod enc P W 0 (fun _ => true) true t v d p) : Trd enc P W t v.cells.toList := by
  obtain ⟨f, hf⟩ := h
  exact ⟨f, _, hf⟩
theorem Trd.int {t : TypeId} {k : IntKind} {cs : List Value} (ht : P.underlying t = some (.int k)) (h : Trd enc P W t cs) : ∃ n, cs = [.int k n] ∧ (Lit.int k n).wf = true := by
  obtain ⟨f, x, hf⟩ := h
  obtain ⟨n, h1, _, h2⟩ := DataW.trod_int ht hf
  exact ⟨n, h1, h2⟩
theorem Trd.bool {t : TypeId} {cs : List Value} (ht : P.underlying t = some .bool) (h : Trd enc P W t cs) : ∃ b, cs = [.bool b] := by
  obtain ⟨f, x, hf⟩ := h
  obtain ⟨b, h1, _⟩ := DataW.trod_bool ht hf
  exact ⟨b, h1⟩
theorem Trd.struct {t : TypeId} {fs : Array Field} {cs : List Value} (ht : P.underlying t = some (.struct fs)) (h : Trd enc P W t cs) :
    cs.length = P.cellsOf t ∧ ∀ (i : Nat) (f : Field), fs[i]? = some f → Trd enc P W f.type ((cs.drop f.offset).take (P.cellsOf f.type)) := by
  obtain ⟨f, x, hf⟩ := h
  obtain ⟨xs, n, _, rfl, hl, hlen, hff⟩ := DataW.trod_struct ht hf
  refine ⟨hl, fun i f hi => ?_⟩
  have h1 := hff i f hi
  have hi2 : i < xs.length := by rw [hlen]; exact (Array.getElem?_eq_some_iff.1 hi).1
  rw [List.getElem?_eq_getElem hi2] at h1
  exact ⟨n, _, h1⟩
theorem Trd.field {t : TypeId} {fs : Array Field} {cs : List Value} {f : Field} {n : Nat} (h : Trd enc P W t cs) (ht : P.underlying t = some (.struct fs)) (i : Nat) (hf : fs[i]? = some f) (hn : P.cellsOf f.type = n) :
    Trd enc P W f.type ((cs.drop f.offset).take n) := hn ▸ (h.struct ht).2 i f hf
theorem Trd.slice {t e : TypeId} {cs : List Value} (ht : P.underlying t = some (.slice e)) (h : Trd enc P W t cs) :
    ∃ a n c, cs = [.slice a n c] ∧ ((a = none ∧ n = 0 ∧ c = 0) ∨ ∃ ad, a = some ad ∧ n ≤ c ∧ c ≤ maxLen ∧
      ∀ i, i < n → ∃ ds : List Value, ds.length = P.cellsOf e ∧ (∀ j, j < P.cellsOf e → W.cell? (ad.add (i * P.cellsOf e + j)) = ds[j]?) ∧ Trd enc P W e ds) := by
  obtain ⟨f, x, hf⟩ := h
  rcases Go.Deep.open_slice ht hf with ⟨h1, _⟩ | ⟨a, len, cap, m, n, D, Pl, h1, _, hl, hm, hmm, _, hx⟩
  · exact ⟨_, _, _, h1, .inl ⟨rfl, rfl, rfl⟩⟩
  · refine ⟨_, _, _, h1, .inr ⟨a, rfl, hl, hm, fun i hi => ?_⟩⟩
    simp only [if_true] at hmm
    obtain ⟨ds, hd, ht2⟩ := hx i (by omega)
    obtain ⟨_, hlen, hc⟩ := World.cells?_some hd
    exact ⟨ds, hlen, fun j hj => by rw [← Go.Deep.add_add]; exact hc j hj, _, _, ht2⟩
end
end Go.Proofs.Ytdociiogddihfaa
namespace Go.Proofs.Ytdociiogddihfaa
open Go.ChangeShapes Go.WideShapes Go.ChangeAt Go.RowKit

theorem own_form {w : World} {B : Nat} {e : TypeId} {size : Nat} {v : Value} {n : Nat} {xs : List Value} (h : w.ownsRow B e size v n xs) : ∃ a c, v = .slice a n c := by
  obtain ⟨hl, ⟨rfl, rfl⟩ | ⟨g, cap, cur, hv, _⟩⟩ := h
  · exact ⟨_, _, rfl⟩
  · exact ⟨_, _, hv⟩

/-- Numbers as cells. -/
def uv (l : List Nat) : List Value := l.map fun (n : Nat) => .int .u64 (n : Int)
theorem uv_length (l : List Nat) : (uv l).length = l.length := by simp [uv]
theorem uv_one (l : List Nat) : ∀ u ∈ uv l, u.oneCell' = true := by
  intro u hu
  obtain ⟨_, _, rfl⟩ := List.mem_map.1 hu
  rfl

/-- A slice of 64-bit numbers that came in. -/
theorem open_words {H : Type} {enc : TypeId × Value → H} {P : Program} {W : World} {base : Nat} {t e : TypeId} {v : Value} {d : DataW H} {p : List MemPlace}
    (ht : P.underlying t = some (.slice e)) (he : P.underlying e = some (.int .u64)) (hc : P.cellsOf e = 1)
    (hv : ∃ a n c, v = .slice a n c) (h : DataW.Trod enc P W base (fun _ => true) true t v d p) :
    ∃ l : List Nat, Rd W 1 v l.length (uv l) ∧ (∀ x ∈ l, x < 18446744073709551616) ∧ ((d = .nil ∧ l = []) ∨ ∃ spare, d = .slice (l.map fun (b : Nat) => .lit (.int .u64 (b : Int))) spare) := by
  obtain ⟨a, n, c, rfl⟩ := hv
  obtain ⟨fuel, hf⟩ := h
  rcases open_ints ht he hc hf with ⟨hcs, hx⟩ | ⟨x, len, cap, zs, hcs, _, hl, hm, hz, hx, hcell, hwz⟩
  · simp [Value.cells] at hcs
    obtain ⟨rfl, rfl, rfl⟩ := hcs
    simp only [Prod.mk.injEq] at hx
    exact ⟨[], Rd.nil _ _, by simp, .inl ⟨hx.1, rfl⟩⟩
  · simp [Value.cells] at hcs
    obtain ⟨rfl, rfl, rfl⟩ := hcs
    simp only [if_true] at hz
    simp only [Prod.mk.injEq] at hx
    have hlen : ((zs.take n).map fun z => z.toNat).length = n := by simp; omega
    have hback : ∀ z ∈ zs, ((z.toNat : Nat) : Int) = z := fun z hzm => by have := bounds_u64 (hwz z hzm); omega
    refine ⟨(zs.take n).map fun z => z.toNat, ?_, ?_, .inr ⟨lits .u64 (zs.drop n), ?_⟩⟩
    · rw [hlen]
      refine ⟨by rw [uv_length, hlen]; omega, uv_one _, .inr ⟨x, c, rfl, hl, fun j u hu => ?_⟩⟩
      simp only [uv, List.map_map, List.getElem?_map] at hu
      cases hj : (zs.take n)[j]? with
      | none => simp [hj] at hu
      | some z =>
        simp only [hj, Option.map_some, Option.some.injEq, Function.comp] at hu
        have hjl : j < n := by have := (List.getElem?_eq_some_iff.1 hj).1; simp at this; omega
        rw [List.getElem?_take_of_lt hjl] at hj
        have hzm : z ∈ zs := List.mem_of_getElem? hj
        rw [hcell j (by omega), ← hu, hback z hzm]
        simp [List.getD, hj]
    · intro y hy
      obtain ⟨z, hzm, rfl⟩ := List.mem_map.1 hy
      have := bounds_u64 (hwz z (List.mem_of_mem_take hzm))
      omega
    · rw [hx.1, List.map_map]
      congr 1
      unfold lits
      refine List.map_congr_left fun z hzm => ?_
      simp only [Function.comp]
      rw [hback z (List.mem_of_mem_take hzm)]

/-- Its length is within the form's reach. -/
theorem words_reach {H : Type} {P : Program} {ts : List TypeId} {ds : List (DataW H)} (h : (DataW.weightsEach P ts ds).all (· ≤ reachBytes) = true) {j : Nat} {t e : TypeId} (ht : ts[j]? = some t) (hu : P.underlying t = some (.slice e)) (hb : P.bytesOf e = 8) {l : List Nat}
    (hd : ds[j]? = some .nil ∧ l = [] ∨ ∃ spare, ds[j]? = some (.slice (l.map fun (b : Nat) => .lit (.int .u64 (b : Int))) spare)) : l.length * 8 ≤ 140737488351232 := by
  rcases hd with ⟨_, rfl⟩ | ⟨spare, hd⟩
  · simp
  · have := sized_slice h ht hd hu
    rw [hb] at this
    simp at this
    have e : reachBytes = 140737488351232 := by decide
    omega

end Go.Proofs.Ytdociiogddihfaa
namespace Go.Proofs.Ytdociiogddihfaa
open Go.ChangeShapes Go.WideShapes Go.ChangeAt Go.RowKit

theorem flat_get {α : Type} (f : α → List Value) (size : Nat) : ∀ (l : List α), (∀ a ∈ l, (f a).length = size) → ∀ (i : Nat) (a : α), l[i]? = some a → ∀ k, k < size → (l.flatMap f)[i * size + k]? = (f a)[k]?
  | [], _, i, a, h, _, _ => by simp at h
  | b :: l, hl, i, a, h, k, hk => by
    have hb := hl b (by simp)
    rw [List.flatMap_cons]
    cases i with
    | zero =>
      simp only [List.getElem?_cons_zero, Option.some.injEq] at h
      subst h
      rw [List.getElem?_append_left (by rw [hb]; omega), Nat.zero_mul, Nat.zero_add]
    | succ i =>
      rw [List.getElem?_append_right (by rw [hb, Nat.succ_mul]; omega)]
      have := flat_get f size l (fun x hx => hl x (by simp [hx])) i a (by simpa using h) k hk
      rw [← this]
      congr 1
      rw [hb, Nat.succ_mul]; omega
theorem flat_length {α : Type} (f : α → List Value) (size : Nat) : ∀ (l : List α), (∀ a ∈ l, (f a).length = size) → (l.flatMap f).length = l.length * size
  | [], _ => by simp
  | b :: l, hl => by
    rw [List.flatMap_cons, List.length_append, flat_length f size l (fun x hx => hl x (by simp [hx])), hl b (by simp), List.length_cons, Nat.succ_mul]; omega

theorem flat_bv : ∀ l : List UInt8, l.flatMap (fun b : UInt8 => [Value.int .u8 b.toNat]) = bv l
  | [] => rfl
  | x :: l => by rw [List.flatMap_cons, flat_bv l]; rfl
theorem flat_uv : ∀ l : List Nat, l.flatMap (fun n : Nat => [Value.int .u64 n]) = uv l
  | [] => rfl
  | x :: l => by rw [List.flatMap_cons, flat_uv l]; rfl

section
variable {H : Type} {enc : TypeId × Value → H} {P : Program} {W : World}
/-- Cells that read as a value of a type whose parts are each within reach. -/
def TW (enc : TypeId × Value → H) (P : Program) (W : World) (t : TypeId) (cs : List Value) : Prop :=
  ∃ fuel d p, DataW.trod enc P W 0 (fun _ => true) true fuel t cs = some (d, p) ∧ ∀ x ∈ d.weights P t, x ≤ 140737488351232

theorem TW.of {ts : List TypeId} {ds : List (DataW H)} (hsz : (DataW.weightsEach P ts ds).all (· ≤ reachBytes) = true) {j : Nat} {t : TypeId} {v : Value} {d : DataW H} {p : List MemPlace} (h : DataW.Trod enc P W 0 (fun _ => true) true t v d p)
    (ht : ts[j]? = some t) (hd : ds[j]? = some d) : TW enc P W t v.cells.toList := by
  obtain ⟨f, hf⟩ := h
  refine ⟨f, _, _, hf, fun x hx => ?_⟩
  have := List.all_eq_true.1 hsz _ (DataW.weights_mem_each ht hd x hx)
  have e : reachBytes = 140737488351232 := by decide
  rw [e] at this
  simpa using this
theorem TW.trd {t : TypeId} {cs : List Value} (h : TW enc P W t cs) : Trd enc P W t cs := by
  obtain ⟨f, d, p, hf, _⟩ := h
  exact ⟨f, _, hf⟩
theorem TW.field {t : TypeId} {fs : Array Field} {cs : List Value} {f : Field} {n : Nat} (h : TW enc P W t cs) (ht : P.underlying t = some (.struct fs)) (i : Nat) (hf : fs[i]? = some f) (hn : P.cellsOf f.type = n) :
    TW enc P W f.type ((cs.drop f.offset).take n) := by
  subst hn
  obtain ⟨fu, d, p, hd, hw⟩ := h
  obtain ⟨xs, n, _, hx, hl, hlen, hff⟩ := DataW.trod_struct ht hd
  have h1 := hff i f hf
  have hi2 : i < xs.length := by rw [hlen]; exact (Array.getElem?_eq_some_iff.1 hf).1
  rw [List.getElem?_eq_getElem hi2] at h1
  refine ⟨n, xs[i].1, xs[i].2, h1, fun x hxm => hw x ?_⟩
  simp only [Prod.mk.injEq] at hx
  rw [hx.1]
  simp only [DataW.weights, ht]
  exact DataW.weights_mem_each (j := i) (t := f.type) (d := xs[i].1) (by simp [hf]) (by simp [hi2]) x hxm
theorem TW.cells {t : TypeId} {fs : Array Field} {cs : List Value} (h : TW enc P W t cs) (ht : P.underlying t = some (.struct fs)) : cs.length = P.cellsOf t := (h.trd.struct ht).1

theorem weights_mem_all {e : TypeId} : ∀ {l : List (DataW H)} {d : DataW H}, d ∈ l → ∀ x ∈ d.weights P e, x ∈ DataW.weightsAll P e l
  | [], _, h, _, _ => by cases h
  | b :: l, d, h, x, hx => by
    unfold DataW.weightsAll
    rcases List.mem_cons.1 h with rfl | h
    · exact List.mem_append_left _ hx
    · exact List.mem_append_right _ (weights_mem_all h x hx)

theorem TW.slice {t e : TypeId} {cs : List Value} (ht : P.underlying t = some (.slice e)) (h : TW enc P W t cs) :
    ∃ a n c, cs = [.slice a n c] ∧ n * P.bytesOf e ≤ 140737488351232 ∧ ((a = none ∧ n = 0 ∧ c = 0) ∨ ∃ ad, a = some ad ∧ n ≤ c ∧ c ≤ maxLen ∧
      ∀ i, i < n → ∃ ds : List Value, ds.length = P.cellsOf e ∧ (∀ j, j < P.cellsOf e → W.cell? (ad.add (i * P.cellsOf e + j)) = ds[j]?) ∧ TW enc P W e ds) := by
  obtain ⟨f, d, p, hf, hw⟩ := h
  rcases Go.Deep.open_slice ht hf with ⟨h1, _⟩ | ⟨a, len, cap, m, n, D, Pl, h1, _, hl, hm, hmm, hx, hel⟩
  · exact ⟨_, _, _, h1, by simp, .inl ⟨rfl, rfl, rfl⟩⟩
  · simp only [Prod.mk.injEq] at hx
    rw [hx.1] at hw
    simp only [DataW.weights, ht] at hw
    simp only [if_true] at hmm
    have hlen : len * P.bytesOf e ≤ 140737488351232 := by
      have := hw _ (List.mem_cons_self ..)
      refine Nat.le_trans (Nat.mul_le_mul_right _ ?_) this
      simp
    refine ⟨_, _, _, h1, hlen, .inr ⟨a, rfl, hl, hm, fun i hi => ?_⟩⟩
    obtain ⟨ds, hd, ht2⟩ := hel i (by omega)
    obtain ⟨_, hlen, hc⟩ := World.cells?_some hd
    refine ⟨ds, hlen, fun j hj => by rw [← Go.Deep.add_add]; exact hc j hj, _, _, _, ht2, fun x hx => hw x ?_⟩
    refine List.mem_cons_of_mem _ (List.mem_append_left _ (weights_mem_all ?_ x hx))
    exact List.mem_map.2 ⟨i, List.mem_range.2 hi, rfl⟩

/-- A slice, element by element. -/
theorem TW.elems {t e : TypeId} {v : Value} {size : Nat} {α : Type} (ht : P.underlying t = some (.slice e)) (hc : P.cellsOf e = size) (f : α → List Value) (Q : α → Prop)
    (hel : ∀ ds, ds.length = size → TW enc P W e ds → ∃ a, ds = f a ∧ Q a) (h1 : ∀ a, Q a → ∀ u ∈ f a, u.oneCell' = true) (h : TW enc P W t [v]) :
    ∃ l : List α, Rd W size v l.length (l.flatMap f) ∧ l.length * P.bytesOf e ≤ 140737488351232 ∧ ∀ a ∈ l, Q a ∧ (f a).length = size := by
  obtain ⟨a, n, c, hv, hb, h2⟩ := h.slice ht
  obtain rfl : v = .slice a n c := by simpa using hv
  rcases h2 with ⟨rfl, rfl, rfl⟩ | ⟨ad, rfl, hcap, hm, hx⟩
  · exact ⟨[], Rd.nil _ _, by simp, by simp⟩
  · rw [hc] at hx
    have hx2 : ∀ i, i < n → ∃ x : α, ((f x).length = size ∧ (∀ j, j < size → W.cell? (ad.add (i * size + j)) = (f x)[j]?)) ∧ Q x := fun i hi => by
      obtain ⟨ds, hl, hcell, htw⟩ := hx i hi
      obtain ⟨x, rfl, hq⟩ := hel ds hl htw
      exact ⟨x, ⟨hl, hcell⟩, hq⟩
    by_cases hn : n = 0
    · subst hn
      exact ⟨[], ⟨by simp, by simp, .inr ⟨ad, c, rfl, hcap, by simp⟩⟩, by simp, by simp⟩
    · obtain ⟨x0, _⟩ := hx2 0 (by omega)
      let A : Nat → α := fun i => if hi : i < n then (hx2 i hi).choose else x0
      have hA : ∀ i, i < n → ((f (A i)).length = size ∧ (∀ j, j < size → W.cell? (ad.add (i * size + j)) = (f (A i))[j]?)) ∧ Q (A i) := fun i hi => by
        simp only [A, dif_pos hi]; exact (hx2 i hi).choose_spec
      have hlen : ((List.range n).map A).length = n := by simp
      have hall : ∀ a ∈ (List.range n).map A, Q a ∧ (f a).length = size := by
        intro a ha
        obtain ⟨i, hi, rfl⟩ := List.mem_map.1 ha
        have := hA i (List.mem_range.1 hi)
        exact ⟨this.2, this.1.1⟩
      have hfl := flat_length f size ((List.range n).map A) (fun a ha => (hall a ha).2)
      refine ⟨(List.range n).map A, ⟨hfl, ?_, .inr ⟨ad, c, by rw [hlen], by rw [hlen]; exact hcap, ?_⟩⟩, by rw [hlen]; exact hb, hall⟩
      · intro u hu
        obtain ⟨a, ha, hu⟩ := List.mem_flatMap.1 hu
        exact h1 a (hall a ha).1 u hu
      · intro j u hu
        rw [hlen] at hfl
        have hj : j < n * size := by rw [← hfl]; exact (List.getElem?_eq_some_iff.1 hu).1
        have hs : 0 < size := by
          by_cases hs : size = 0
          · subst hs; simp at hj
          · omega
        have hi : j / size < n := Nat.div_lt_of_lt_mul (by rw [Nat.mul_comm]; exact hj)
        have hk : j % size < size := Nat.mod_lt _ hs
        have hg := flat_get f size ((List.range n).map A) (fun a ha => (hall a ha).2) (j / size) (A (j / size)) (by simp [hi]) (j % size) hk
        have hsum : j / size * size + j % size = j := by rw [Nat.mul_comm]; exact Nat.div_add_mod j size
        have hcell := (hA _ hi).1.2 (j % size) hk
        rw [hsum] at hg hcell
        rw [hcell, ← hg]; exact hu

theorem TW.u64 {t : TypeId} {cs : List Value} (ht : P.underlying t = some (.int .u64)) (h : TW enc P W t cs) : ∃ n : Nat, cs = [.int .u64 n] ∧ n < 18446744073709551616 := by
  obtain ⟨n, hn, wf⟩ := h.trd.int ht
  obtain ⟨m, rfl, hm⟩ := u64_nat wf
  exact ⟨m, hn, hm⟩
theorem TW.i64 {t : TypeId} {cs : List Value} (ht : P.underlying t = some (.int .i64)) (h : TW enc P W t cs) : ∃ n : Int, cs = [.int .i64 n] ∧ -9223372036854775808 ≤ n ∧ n ≤ 9223372036854775807 := by
  obtain ⟨n, hn, wf⟩ := h.trd.int ht
  have := bounds_i64 wf
  exact ⟨n, hn, this⟩
theorem TW.u8 {t : TypeId} {cs : List Value} (ht : P.underlying t = some (.int .u8)) (h : TW enc P W t cs) : ∃ n : UInt8, cs = [.int .u8 n.toNat] := by
  obtain ⟨n, hn, wf⟩ := h.trd.int ht
  exact ⟨UInt8.ofNat n.toNat, by rw [u8_of_wf wf]; exact hn⟩
theorem TW.bytes {t e : TypeId} {v : Value} (ht : P.underlying t = some (.slice e)) (he : P.underlying e = some (.int .u8)) (hc : P.cellsOf e = 1) (hb : P.bytesOf e = 1) (h : TW enc P W t [v]) :
    ∃ l : List UInt8, Rd W 1 v l.length (bv l) ∧ l.length ≤ 140737488351232 := by
  obtain ⟨l, hr, hl, _⟩ := h.elems ht hc (fun b : UInt8 => [Value.int .u8 b.toNat]) (fun _ => True) (fun ds _ htw => by obtain ⟨n, hn⟩ := htw.u8 he; exact ⟨n, hn, trivial⟩) (by intro a _ u hu; simp at hu; subst hu; rfl)
  refine ⟨l, ?_, by rw [hb] at hl; omega⟩
  have := flat_bv l
  rw [this] at hr
  exact hr
theorem TW.words {t e : TypeId} {v : Value} (ht : P.underlying t = some (.slice e)) (he : P.underlying e = some (.int .u64)) (hc : P.cellsOf e = 1) (hb : P.bytesOf e = 8) (h : TW enc P W t [v]) :
    ∃ l : List Nat, Rd W 1 v l.length (uv l) ∧ l.length * 8 ≤ 140737488351232 ∧ ∀ x ∈ l, x < 18446744073709551616 := by
  obtain ⟨l, hr, hl, hq⟩ := h.elems ht hc (fun n : Nat => [Value.int .u64 n]) (fun n => n < 18446744073709551616) (fun ds _ htw => htw.u64 he) (by intro a _ u hu; simp at hu; subst hu; rfl)
  refine ⟨l, ?_, by rw [hb] at hl; exact hl, fun x hx => (hq x hx).1⟩
  have := flat_uv l
  rw [this] at hr
  exact hr
end
end Go.Proofs.Ytdociiogddihfaa
