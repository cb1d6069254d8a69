/- Ways through a tree: what the steps of a climb by halves rest on: a plain law; no program is named here. -/
import Derived.Test.YtdjmebfjanophaaDoorPathP
namespace Go.Proofs.YtdjmebfjanophaaDoor.Path
open Root Ones

theorem popPos : ∀ f n : Nat, n ≠ 0 → n < 2 ^ f → 0 < pop f n
  | 0, n, h, hn => by omega
  | f + 1, n, h, hn => by
    rw [pop]
    by_cases e : n / 2 = 0
    · omega
    · have := popPos f (n / 2) e (by rw [Nat.pow_succ] at hn; omega)
      omega
theorem sz_more : ∀ f a b : Nat, a < 2 ^ f → b < 2 ^ f → sz (f + 1) a b = sz f a b
  | 0, a, b, ha, hb => by
    have : a = 0 := by omega
    have : b = 0 := by omega
    subst a b
    rw [sz_eq, popZ]; rfl
  | f + 1, a, b, ha, hb => by
    by_cases e : a = b
    · rw [e, sz_eq, sz_eq, popLt _ _ hb]
    · rw [show sz (f + 1 + 1) a b = (if a = b then pop (f + 1 + 1) a else 1 + sz (f + 1) (a / 2) (b / 2)) from rfl, show sz (f + 1) a b = (if a = b then pop (f + 1) a else 1 + sz f (a / 2) (b / 2)) from rfl, if_neg e, if_neg e, sz_more f _ _ (by rw [Nat.pow_succ] at ha; omega) (by rw [Nat.pow_succ] at hb; omega)]
theorem cl_more {α : Type} (node : α → α → α) : ∀ (f a b : Nat) (h : α) (ps : List α), a < 2 ^ f → b < 2 ^ f → cl node (f + 1) a b h ps = cl node f a b h ps
  | 0, a, b, h, ps, ha, hb => by
    have : a = 0 := by omega
    have : b = 0 := by omega
    subst a b
    rw [cl_eq, cl_eq]
  | f + 1, a, b, h, [], ha, hb => rfl
  | f + 1, a, b, h, p :: r, ha, hb => by
    by_cases e : a = b
    · rw [e, cl_eq, cl_eq]
    · rw [cl_ne _ _ _ _ _ _ _ e, cl_ne _ _ _ _ _ _ _ e, cl_more node f _ _ _ _ (by rw [Nat.pow_succ] at ha; omega) (by rw [Nat.pow_succ] at hb; omega)]
theorem sz_zero (f : Nat) : sz f 0 0 = 0 := by rw [sz_eq, popZ]
theorem sz_pos (f a b : Nat) (hab : a ≤ b) (h0 : b ≠ 0) (hb : b < 2 ^ f) : 0 < sz f a b := by
  cases f with
  | zero => omega
  | succ f =>
    rw [sz]
    by_cases e : a = b
    · rw [if_pos e]; exact popPos _ _ (by omega) (by omega)
    · rw [if_neg e]; omega
theorem sz_half (a b : Nat) (ha : a < 18446744073709551616) (hb : b < 18446744073709551616) (hn : a ≠ b) : sz 64 a b = 1 + sz 64 (a / 2) (b / 2) := by
  rw [sz_more 63 (a / 2) (b / 2) (by omega) (by omega), sz, if_neg hn]
theorem cl_half {α : Type} (node : α → α → α) (a b : Nat) (h p : α) (r : List α) (ha : a < 18446744073709551616) (hb : b < 18446744073709551616) (hn : a ≠ b) :
    cl node 64 a b h (p :: r) = cl node 64 (a / 2) (b / 2) (if a % 2 = 0 then node h p else node p h) r := by
  rw [cl_more node 63 (a / 2) (b / 2) _ _ (by omega) (by omega), cl_ne _ _ _ _ _ _ _ hn]
theorem pop_half (a : Nat) (ha : a < 18446744073709551616) : pop 64 a = a % 2 + pop 64 (a / 2) := by
  rw [popLt 63 (a / 2) (by omega), pop]
/-- Size: as the code reckons it. -/
theorem sz_code (a b : Nat) (ha : a < 18446744073709551616) : sz 64 a b = Lib.bitLen (a ^^^ b) + pop 64 (a / 2 ^ Lib.bitLen (a ^^^ b)) := by
  rw [show Lib.bitLen (a ^^^ b) = lw 64 a b from lw_xor 64 a b, sz_lw 64 a b ha]
theorem cl_code {α : Type} (node : α → α → α) (a b : Nat) (h : α) (ps : List α) : cl node 64 a b h ps = clI node (Lib.bitLen (a ^^^ b)) a 0 h ps := by
  rw [show Lib.bitLen (a ^^^ b) = lw 64 a b from lw_xor 64 a b, clI_cl]
theorem top_pow (n : Nat) : ∃ t, top n = 2 ^ t := ⟨_, rfl⟩
theorem top_t (n : Nat) (h2 : 2 ≤ n) (hn : n ≤ 18446744073709551616) : ∃ t, top n = 2 ^ t ∧ t + 1 ≤ 64 := by
  obtain ⟨t, ht⟩ := top_pow n
  refine ⟨t, ht, Nat.lt_of_not_le fun hc => ?_⟩
  have := Nat.pow_le_pow_right (show 0 < 2 by omega) hc
  have := top_lt n h2
  omega
/-- By the greatest power of two below. -/
theorem sz_top (i n : Nat) (h2 : 2 ≤ n) (hn : n ≤ 18446744073709551616) (hi : i < n) :
    sz 64 i (n - 1) = (if i < top n then sz 64 i (top n - 1) else sz 64 (i - top n) (n - top n - 1)) + 1 := by
  obtain ⟨t, ht, hf⟩ := top_t n h2 hn
  have hl := top_lt n h2
  have hle2 := top_le2 n
  by_cases h : i < top n
  · rw [if_pos h, ht]
    exact sz_left t 64 i (n - 1) hf (by omega) (by omega) (by rw [Nat.pow_succ]; omega)
  · rw [if_neg h]
    have hs := sz_right t 64 (i - 2 ^ t) (n - 1 - 2 ^ t) hf (by omega) (by omega)
    rw [show 2 ^ t + (i - 2 ^ t) = i by omega, show 2 ^ t + (n - 1 - 2 ^ t) = n - 1 by omega] at hs
    rw [hs, ht, show n - 2 ^ t - 1 = n - 1 - 2 ^ t by omega]
theorem cl_top {α : Type} (node : α → α → α) (i n : Nat) (h p : α) (q : List α) (h2 : 2 ≤ n) (hn : n ≤ 18446744073709551616) (hi : i < n) (hq : q.length + 1 = sz 64 i (n - 1)) :
    cl node 64 i (n - 1) h (q ++ [p]) = if i < top n then node (cl node 64 i (top n - 1) h q) p else node p (cl node 64 (i - top n) (n - top n - 1) h q) := by
  have hs := sz_top i n h2 hn hi
  obtain ⟨t, ht, hf⟩ := top_t n h2 hn
  have hl := top_lt n h2
  have hle2 := top_le2 n
  by_cases hc : i < top n
  · rw [if_pos hc] at hs ⊢
    rw [ht] at hs ⊢
    exact cl_left node t 64 i (n - 1) h p q hf (by omega) (by omega) (by rw [Nat.pow_succ]; omega) (by omega)
  · rw [if_neg hc] at hs ⊢
    rw [ht, show n - 2 ^ t - 1 = n - 1 - 2 ^ t by omega] at hs ⊢
    have := cl_right node t 64 (i - 2 ^ t) (n - 1 - 2 ^ t) h p q hf (by omega) (by omega) (by omega)
    rw [show 2 ^ t + (i - 2 ^ t) = i by omega, show 2 ^ t + (n - 1 - 2 ^ t) = n - 1 by omega] at this
    exact this
end Go.Proofs.YtdjmebfjanophaaDoor.Path
