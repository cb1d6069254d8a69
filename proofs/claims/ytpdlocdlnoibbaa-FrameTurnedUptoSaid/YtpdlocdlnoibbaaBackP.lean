/- BinBack, plain: numbers and texts laid one behind the other are read so. -/
import Derived.Test.YtpdlocdlnoibbaaRdw
namespace Go.Proofs.Ytpdlocdlnoibbaa

/-- One round's bytes. -/
def numO (o : Option Nat) : List UInt8 := match o with | some n => numB n | none => []
def rawO (o : Option (List UInt8)) : List UInt8 := match o with | some t => numB t.length ++ t | none => []
/-- Numbers and texts, one of each a round. -/
def layB : List Nat → List (List UInt8) → List UInt8
  | n :: ns, t :: ts => numB n ++ (numB t.length ++ t) ++ layB ns ts
  | n :: ns, [] => numB n ++ layB ns []
  | [], t :: ts => (numB t.length ++ t) ++ layB [] ts
  | [], [] => []
theorem layB_step (ns : List Nat) (ts : List (List UInt8)) : layB ns ts = numO ns.head? ++ rawO ts.head? ++ layB ns.tail ts.tail := by
  cases ns with
  | nil => cases ts with
    | nil => rfl
    | cons t ts => simp [layB, numO, rawO]
  | cons n ns => cases ts with
    | nil => simp [layB, numO, rawO]
    | cons t ts => simp [layB, numO, rawO]
/-- From one round to the next. -/
theorem layB_next (ns : List Nat) (ts : List (List UInt8)) (i : Nat) : layB (ns.drop i) (ts.drop i) = numO ns[i]? ++ rawO ts[i]? ++ layB (ns.drop (i + 1)) (ts.drop (i + 1)) := by
  rw [layB_step, List.head?_drop, List.head?_drop, List.tail_drop, List.tail_drop]
theorem layB_end (ns : List Nat) (ts : List (List UInt8)) (i : Nat) (h1 : ns.length ≤ i) (h2 : ts.length ≤ i) : layB (ns.drop i) (ts.drop i) = [] := by
  rw [List.drop_eq_nil_of_le h1, List.drop_eq_nil_of_le h2]; simp [layB]
theorem numB_len (n : Nat) (h : n < 18446744073709551616) : (numB n).length ≤ 9 := by
  have := nk_le n h
  rw [numB, List.length_cons, be_length]; omega
theorem layB_length : ∀ (ns : List Nat) (ts : List (List UInt8)), (∀ n ∈ ns, n < 18446744073709551616) → (∀ t ∈ ts, t.length < 18446744073709551616) → (layB ns ts).length ≤ 9 * ns.length + 9 * ts.length + ts.flatten.length
  | [], [], _, _ => by simp [layB]
  | [], t :: ts, h1, h2 => by
    have h := layB_length [] ts h1 (fun x hx => h2 x (by simp [hx]))
    have hn := numB_len t.length (h2 t (by simp))
    simp only [layB, List.length_append, List.flatten_cons, List.length_cons, List.length_nil] at h ⊢
    omega
  | n :: ns, [], h1, h2 => by
    have h := layB_length ns [] (fun x hx => h1 x (by simp [hx])) h2
    have hn := numB_len n (h1 n (by simp))
    simp only [layB, List.length_append, List.length_cons, List.length_nil] at h ⊢
    omega
  | n :: ns, t :: ts, h1, h2 => by
    have h := layB_length ns ts (fun x hx => h1 x (by simp [hx])) (fun x hx => h2 x (by simp [hx]))
    have hn := numB_len n (h1 n (by simp))
    have ht := numB_len t.length (h2 t (by simp))
    simp only [layB, List.length_append, List.flatten_cons, List.length_cons] at h ⊢
    omega
theorem layB_drop_le (ns : List Nat) (ts : List (List UInt8)) : ∀ j : Nat, (layB (ns.drop j) (ts.drop j)).length ≤ (layB ns ts).length
  | 0 => Nat.le_refl _
  | j + 1 => by
    have h := layB_drop_le ns ts j
    rw [layB_next, List.length_append] at h
    omega
/-- A text that was laid is read. -/
theorem rdR_of (t rest : List UInt8) (h : t.length < 18446744073709551616) : rdR t.length ((numB t.length ++ t) ++ rest) = (0, t, rest) := by
  have hn := rdN_numB t.length (t ++ rest) h
  rw [List.append_assoc, rdR, hn, if_neg (by simp), if_neg (by simp), if_neg (by simp)]
  simp
end Go.Proofs.Ytpdlocdlnoibbaa
