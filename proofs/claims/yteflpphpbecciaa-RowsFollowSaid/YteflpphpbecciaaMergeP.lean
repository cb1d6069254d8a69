/- Entries merged into a log: plain. -/
import Derived.Test.YteflpphpbecciaaEnt
namespace Go.Proofs.Yteflpphpbecciaa

/-- How far two lists agree in their terms. -/
def cp : List EE → List EE → Nat
  | e :: es, l :: ls => if e.t = l.t then cp es ls + 1 else 0
  | _, _ => 0
theorem cp_nil (es : List EE) : cp es [] = 0 := by cases es <;> rfl
theorem cp_le : ∀ (es ls : List EE), cp es ls ≤ es.length ∧ cp es ls ≤ ls.length
  | [], ls => by simp [cp]
  | e :: es, [] => by simp [cp]
  | e :: es, l :: ls => by
    have := cp_le es ls
    unfold cp
    split <;> simp <;> omega
/-- Merged behind an index that isn't ahead of the base. -/
structure MOut where
  b : Nat
  bt : Nat
  es : List EE
  fr : Nat
  end_ : Nat
  ok : Bool
def mergeQ (b bt : Nat) (es : List EE) (i t : Nat) (ls : List EE) : MOut :=
  if termP b bt es i = (t, true) then
    if cp (es.drop (i - b)) ls = ls.length then ⟨b, bt, es, b + es.length + 1, i + ls.length, true⟩
    else ⟨b, bt, es.take (i - b + cp (es.drop (i - b)) ls) ++ ls.drop (cp (es.drop (i - b)) ls), i + 1 + cp (es.drop (i - b)) ls, i + ls.length, true⟩
  else ⟨0, 0, [], 0, 0, false⟩
def mergeP (b bt : Nat) (es : List EE) (i t : Nat) (ls : List EE) : MOut :=
  if i < b then if ls.length ≤ b - i then ⟨b, bt, es, b + es.length + 1, b, true⟩ else mergeQ b bt es b bt (ls.drop (b - i))
  else mergeQ b bt es i t ls
theorem termP_true {b bt : Nat} {es : List EE} {i : Nat} (h : (termP b bt es i).2 = true) : b ≤ i ∧ i ≤ b + es.length := by
  unfold termP at h
  split at h
  · subst_vars; omega
  · split at h
    · omega
    · cases h
/-- One step further. -/
theorem cp_step (es ls : List EE) (n j : Nat) (h : cp (es.drop n) ls = j + cp (es.drop (n + j)) (ls.drop j)) (e l : EE) (he : es[n + j]? = some e) (hl : ls[j]? = some l) (ht : e.t = l.t) :
    cp (es.drop n) ls = (j + 1) + cp (es.drop (n + (j + 1))) (ls.drop (j + 1)) := by
  have h1 : es.drop (n + j) = e :: es.drop (n + (j + 1)) := by
    have hlt := (List.getElem?_eq_some_iff.1 he).1
    rw [List.drop_eq_getElem_cons hlt]; rw [List.getElem?_eq_getElem hlt] at he; injection he with he; rw [he]; rfl
  have h2 : ls.drop j = l :: ls.drop (j + 1) := by
    have hlt := (List.getElem?_eq_some_iff.1 hl).1
    rw [List.drop_eq_getElem_cons hlt]; rw [List.getElem?_eq_getElem hlt] at hl; injection hl with hl; rw [hl]
  rw [h1, h2, cp, if_pos ht] at h
  omega
/-- Here they part. -/
theorem cp_stop (es ls : List EE) (n j : Nat) (h : cp (es.drop n) ls = j + cp (es.drop (n + j)) (ls.drop j)) (hs : ls.length ≤ j ∨ es.length ≤ n + j ∨ ∃ e l, es[n + j]? = some e ∧ ls[j]? = some l ∧ e.t ≠ l.t) : cp (es.drop n) ls = j := by
  rw [h]
  rcases hs with hs | hs | ⟨e, l, he, hl, hne⟩
  · rw [List.drop_eq_nil_of_le hs, cp_nil]; rfl
  · rw [List.drop_eq_nil_of_le hs]; rfl
  · have hlt := (List.getElem?_eq_some_iff.1 he).1
    have hlt2 := (List.getElem?_eq_some_iff.1 hl).1
    rw [List.drop_eq_getElem_cons hlt, List.drop_eq_getElem_cons hlt2, cp, if_neg]
    · rfl
    · rw [List.getElem?_eq_getElem hlt] at he; rw [List.getElem?_eq_getElem hlt2] at hl
      injection he with he; injection hl with hl
      rw [he, hl]; exact hne
end Go.Proofs.Yteflpphpbecciaa
