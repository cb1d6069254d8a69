/- Gauges as bytes: what they are; the reference's Put. -/
import Derived.Test.YtdociiogddihfaaGaG
import Derived.Test.YtdociiogddihfaaRec
import Derived.Test.YtdociiogddihfaaRfN
namespace Go.Proofs.Ytdociiogddihfaa
open Go.RowKit

/-- The i-th float of a text, and its error. -/
def fl (t : List UInt8) (i : Nat) : Nat × Int := getP ((t.drop (8 * i)).take 8)
/-- The first error among k floats. -/
def feF : Nat → List UInt8 → Nat → Int
  | 0, _, _ => 0
  | k + 1, t, i => if (fl t i).2 = 0 then feF k t (i + 1) else (fl t i).2
def gaE (b : List UInt8) : Int := if (rdN b).1 ≠ 0 then (rdN b).1 else if (rdN b).2.2.length < 32 then 2 else if feF 4 (rdN b).2.2 0 ≠ 0 then feF 4 (rdN b).2.2 0 else if 32 < (rdN b).2.2.length then 5 else 0
def gaG (b : List UInt8) : Value := if gaE b = 0 then Gv (rdN b).2.1 (fl (rdN b).2.2 0).1 (fl (rdN b).2.2 1).1 (fl (rdN b).2.2 2).1 (fl (rdN b).2.2 3).1 else Gv 0 0 0 0 0
theorem fl_lt (t : List UInt8) (i : Nat) : (fl t i).1 < 18446744073709551616 := getP_lt _
theorem rd_piece {w : World} {q o n c i : Nat} {t : List UInt8} (h : Rd w 1 (.slice (some ⟨q, o, none⟩) n c) n (bv t)) (hi : 8 * i + 8 ≤ n) :
    Rd w 1 (.slice (some ⟨q, o + 8 * i, none⟩) 8 (c - 8 * i)) ((t.drop (8 * i)).take 8).length (bv ((t.drop (8 * i)).take 8)) := by
  obtain ⟨hl, h1, ⟨hv, _⟩ | ⟨ad, c', hv, hc, hcell⟩⟩ := h
  · simp at hv
  · simp only [Value.slice.injEq, Option.some.injEq, true_and] at hv
    obtain ⟨rfl, rfl⟩ := hv
    have ht : t.length = n := by rw [bv_length] at hl; omega
    have hp : ((t.drop (8 * i)).take 8).length = 8 := by simp; omega
    refine ⟨by rw [bv_length, hp], bv_one _, .inr ⟨⟨q, o + 8 * i, none⟩, c - 8 * i, by rw [hp], by rw [hp]; omega, fun j u hu => ?_⟩⟩
    have hj : j < 8 := by have := (List.getElem?_eq_some_iff.1 hu).1; rw [bv_length, hp] at this; exact this
    have := hcell (8 * i + j) u (by
      rw [← hu]
      simp only [bv, List.getElem?_map]
      rw [List.getElem?_take_of_lt hj, List.getElem?_drop])
    rw [Addr.add_lit] at this ⊢
    rwa [Nat.add_assoc]
theorem rd_rest {w : World} {q o n c p : Nat} {b : List UInt8} (h : Rd w 1 (.slice (some ⟨q, o, none⟩) n c) n (bv b)) (hp : p ≤ n) :
    Rd w 1 (.slice (some ⟨q, o + p, none⟩) (n - p) (c - p)) (n - p) (bv (b.drop p)) := by
  obtain ⟨hl, h1, ⟨hv, _⟩ | ⟨ad, c', hv, hc, hcell⟩⟩ := h
  · simp at hv
  · simp only [Value.slice.injEq, Option.some.injEq, true_and] at hv
    obtain ⟨rfl, rfl⟩ := hv
    refine ⟨by rw [bv_length] at hl ⊢; simp; omega, bv_one _, .inr ⟨⟨q, o + p, none⟩, c - p, rfl, by omega, fun j u hu => ?_⟩⟩
    have := hcell (p + j) u (by
      rw [← hu]
      simp only [bv, List.getElem?_map, List.getElem?_drop])
    rw [Addr.add_lit] at this ⊢
    rwa [Nat.add_assoc]
end Go.Proofs.Ytdociiogddihfaa
