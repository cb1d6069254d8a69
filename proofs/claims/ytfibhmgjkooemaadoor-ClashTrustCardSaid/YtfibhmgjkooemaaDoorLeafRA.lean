/- Parts of lists that are read: plain words. · The reference's Root, Split, Hashes. (printed by gen/leafr.py, then cut) -/
import Derived.Test.YtfibhmgjkooemaaDoorLeafI
namespace Go.Proofs.YtfibhmgjkooemaaDoor
open Go.RowKit Sha Root

theorem rd_take {w : World} {size : Nat} {a : Option Addr} {n c : Nat} {xs : List Value} (h : Rd w size (.slice a n c) n xs) (k : Nat) (hk : k ≤ n) : Rd w size (.slice a k c) k (xs.take (k * size)) := by
  obtain ⟨hl, h1, ⟨hv, h0⟩ | ⟨ad, c', hv, hc, hcell⟩⟩ := h
  · simp only [Value.slice.injEq] at hv
    obtain ⟨rfl, h2, rfl⟩ := hv
    obtain rfl : k = 0 := by omega
    exact ⟨by simp, by simp, .inl ⟨rfl, rfl⟩⟩
  · simp only [Value.slice.injEq, true_and] at hv
    obtain ⟨rfl, rfl⟩ := hv
    have hle : k * size ≤ n * size := Nat.mul_le_mul_right _ hk
    refine ⟨by rw [List.length_take]; omega, fun u hu => h1 u (List.mem_of_mem_take hu), .inr ⟨ad, c, rfl, by omega, fun j u hu => hcell j u ?_⟩⟩
    have hj : j < k * size := by have := (List.getElem?_eq_some_iff.1 hu).1; rw [List.length_take] at this; omega
    rwa [List.getElem?_take_of_lt hj] at hu
theorem rd_drop {w : World} {size b off n c : Nat} {xs : List Value} (h : Rd w size (.slice (some ⟨b, off, none⟩) n c) n xs) (k : Nat) (hk : k ≤ n) : Rd w size (.slice (some ⟨b, off + k * size, none⟩) (n - k) (c - k)) (n - k) (xs.drop (k * size)) := by
  obtain ⟨hl, h1, ⟨hv, h0⟩ | ⟨ad, c', hv, hc, hcell⟩⟩ := h
  · simp at hv
  · simp only [Value.slice.injEq, Option.some.injEq, true_and] at hv
    obtain ⟨rfl, rfl⟩ := hv
    refine ⟨by rw [List.length_drop, hl, Nat.sub_mul], fun u hu => h1 u (List.mem_of_mem_drop hu), .inr ⟨_, _, rfl, by omega, fun j u hu => ?_⟩⟩
    rw [List.getElem?_drop] at hu
    have := hcell (k * size + j) u hu
    rw [Addr.add_lit] at this ⊢
    rwa [← Nat.add_assoc] at this
end Go.Proofs.YtfibhmgjkooemaaDoor
namespace Go.Proofs.YtfibhmgjkooemaaDoor
open Go.RowKit Sha Root

end Go.Proofs.YtfibhmgjkooemaaDoor
