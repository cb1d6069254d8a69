/- Frames of records: plain laws. -/
import Derived.Test.YtpdlocdlnoibbaaCrcPlain
import Derived.Test.YtpdlocdlnoibbaaBackP
namespace Go.Proofs.Ytpdlocdlnoibbaa
open Go.RowKit

/-- A record's frame. -/
def frm (r : List UInt8) : List UInt8 := (numB r.length ++ r) ++ be 4 (Crc.sum (numB r.length ++ r))
/-- Records one behind the other. -/
def layF : List (List UInt8) → List UInt8
  | [] => []
  | r :: l => frm r ++ layF l
theorem layF_append (a b : List (List UInt8)) : layF (a ++ b) = layF a ++ layF b := by
  induction a with
  | nil => rfl
  | cons x a ih => rw [List.cons_append, layF, layF, ih, List.append_assoc]
theorem frm_length (r : List UInt8) : (frm r).length = (numB r.length).length + r.length + 4 := by
  rw [frm, List.length_append, List.length_append, be_length]
/-- The first record: the error, the record, how many bytes its frame has. -/
def oneF (b : List UInt8) : Int × List UInt8 × Nat :=
  if (rdR 32768 b).1 ≠ 0 then ((rdR 32768 b).1, [], 0)
  else if (rdR 32768 b).2.2.length < 4 then (2, [], 0)
  else if frm (rdR 32768 b).2.1 ≠ b.take (b.length - (rdR 32768 b).2.2.length + 4) then (3, [], 0)
  else (0, (rdR 32768 b).2.1, b.length - (rdR 32768 b).2.2.length + 4)
/-- The same, as the program finds it. -/
def onP (b : List UInt8) : Int × List UInt8 × Nat :=
  if (rdN (b.take 9)).1 ≠ 0 then ((rdN (b.take 9)).1, [], 0)
  else if 32768 < (rdN (b.take 9)).2.1 then (4, [], 0)
  else if b.length < min b.length 9 - (rdN (b.take 9)).2.2.length + (rdN (b.take 9)).2.1 + 4 then (2, [], 0)
  else if Crc.sum (b.take (min b.length 9 - (rdN (b.take 9)).2.2.length + (rdN (b.take 9)).2.1)) ≠ vl ((b.drop (min b.length 9 - (rdN (b.take 9)).2.2.length + (rdN (b.take 9)).2.1)).take 4) then (3, [], 0)
  else (0, (b.drop (min b.length 9 - (rdN (b.take 9)).2.2.length)).take (rdN (b.take 9)).2.1, min b.length 9 - (rdN (b.take 9)).2.2.length + (rdN (b.take 9)).2.1 + 4)
theorem rdK_take : ∀ (k i acc m : Nat) (l : List UInt8), k ≤ m → (rdK k i acc (l.take m)).1 = (rdK k i acc l).1
  | 0, _, _, _, _, _ => rfl
  | k + 1, i, acc, m, [], _ => by simp
  | k + 1, i, acc, 0, c :: t, h => by omega
  | k + 1, i, acc, m + 1, c :: t, h => by
    rw [List.take_succ_cons, rdK, rdK]
    split
    · rfl
    · exact rdK_take k _ _ m t (by omega)
theorem rdN_take (l : List UInt8) : (rdN (l.take 9)).1 = (rdN l).1 := by
  cases l with
  | nil => rfl
  | cons c t =>
    rw [List.take_succ_cons, rdN, rdN]
    split
    · rfl
    · exact rdK_take _ _ _ 8 t (by omega)
theorem numB_pos (n : Nat) : 1 ≤ (numB n).length := by simp [numB]
theorem rdR_zero (b : List UInt8) (n : Nat) (t : List UInt8) (h : rdN b = (0, n, t)) : rdR 32768 b = if 32768 < n then (4, [], []) else if t.length < n then (2, [], []) else (0, t.take n, t.drop n) := by
  unfold rdR
  rw [h]
  simp only [ne_eq, not_true_eq_false, if_false]
  have e : (max (32768 : Int) 0 < (n : Int)) = (32768 < n) := by
    have : max (32768 : Int) 0 = 32768 := by decide
    rw [this]
    exact propext ⟨fun h => by omega, fun h => by omega⟩
  simp only [e]
theorem onP_eq (b : List UInt8) : onP b = oneF b := by
  have ht := rdN_take b
  by_cases h0 : (rdN b).1 = 0
  · obtain ⟨n, t, hb⟩ : ∃ n t, rdN b = (0, n, t) := ⟨(rdN b).2.1, (rdN b).2.2, by rw [← h0]⟩
    obtain ⟨hn, hbe⟩ := rdN_ok b n t hb
    have hk := numB_len n (by omega)
    have hk1 := numB_pos n
    obtain ⟨k, hkd⟩ : ∃ k, k = (numB n).length := ⟨_, rfl⟩
    rw [← hkd] at hk hk1
    have htk : b.take 9 = numB n ++ t.take (9 - k) := by rw [hbe, List.take_append, ← hkd, List.take_of_length_le (by omega)]
    have hN : rdN (b.take 9) = (0, n, t.take (9 - k)) := by rw [htk]; exact rdN_numB n _ hn
    have hlen : b.length = k + t.length := by rw [hbe, List.length_append, ← hkd]
    have hat : min b.length 9 - (t.take (9 - k)).length = k := by rw [List.length_take, hlen]; omega
    unfold onP oneF
    rw [hN]
    simp only [hat, ne_eq, not_true_eq_false, if_false]
    rw [rdR_zero b n t hb]
    by_cases h4 : 32768 < n
    · simp [h4]
    · simp only [h4, if_false]
      by_cases h2 : t.length < n
      · rw [if_pos (by omega), if_pos h2]
        simp
      · simp only [h2, if_false, not_true_eq_false, List.length_drop]
        have e0 : b.length - (t.length - n) = k + n := by omega
        rw [e0]
        by_cases h3 : b.length < k + n + 4
        · rw [if_pos h3, if_pos (by omega)]
        · rw [if_neg h3, if_neg (show ¬ (t.length - n < 4) by omega)]
          have hd : b.drop k = t := by rw [hbe, hkd, List.drop_left]
          have hbt : b.take (k + n) = numB n ++ t.take n := by rw [hbe, List.take_append, ← hkd, List.take_of_length_le (by omega)]; congr 2; omega
          have hln : (t.take n).length = n := by rw [List.length_take]; omega
          have hsp : b.take (k + n + 4) = b.take (k + n) ++ (b.drop (k + n)).take 4 := List.take_add
          have h4l : ((b.drop (k + n)).take 4).length = 4 := by rw [List.length_take, List.length_drop]; omega
          have hiff : (¬ Crc.sum (b.take (k + n)) = vl ((b.drop (k + n)).take 4)) ↔ (¬ frm (t.take n) = b.take (k + n + 4)) := by
            rw [hsp, frm, hln, ← hbt]
            refine not_congr ⟨fun h => ?_, fun h => ?_⟩
            · rw [h]
              have := be_vl ((b.drop (k + n)).take 4)
              rw [h4l] at this
              rw [this]
            · have h5 := List.append_cancel_left h
              rw [← h5, vl_be, Nat.mod_eq_of_lt]
              exact Crc.sum_lt _
          by_cases hs : Crc.sum (b.take (k + n)) = vl ((b.drop (k + n)).take 4)
          · have := Decidable.not_not.1 (fun h => (hiff.2 h) hs)
            simp only [hs, this, not_true_eq_false, if_false, hd]
          · have h6 := hiff.1 hs
            simp only [hs, h6, not_false_eq_true, if_true]
  · unfold onP oneF
    rw [if_pos (by rw [ht]; exact h0)]
    have hr : rdR 32768 b = ((rdN b).1, [], []) := by unfold rdR; rw [if_pos h0]
    rw [hr, if_pos h0, ht]
theorem oneF_pos (b : List UInt8) (h : (oneF b).1 = 0) : 5 ≤ (oneF b).2.2 ∧ (oneF b).2.2 ≤ b.length ∧ b = frm (oneF b).2.1 ++ b.drop (oneF b).2.2 ∧ (frm (oneF b).2.1).length = (oneF b).2.2 ∧ (oneF b).2.1.length ≤ 32768 := by
  unfold oneF at h ⊢
  by_cases h0 : (rdR 32768 b).1 = 0
  · rw [if_neg (fun h => h h0)] at h ⊢
    by_cases h1 : (rdR 32768 b).2.2.length < 4
    · rw [if_pos h1] at h; simp at h
    · rw [if_neg h1] at h ⊢
      by_cases h2 : frm (rdR 32768 b).2.1 = b.take (b.length - (rdR 32768 b).2.2.length + 4)
      · rw [if_neg (fun h => h h2)]
        have hn0 : (rdN b).1 = 0 := by
          apply Classical.byContradiction; intro hh
          unfold rdR at h0; rw [if_pos hh] at h0; exact hh h0
        obtain ⟨n, t, hb⟩ : ∃ n t, rdN b = (0, n, t) := ⟨(rdN b).2.1, (rdN b).2.2, by rw [← hn0]⟩
        obtain ⟨hn, hbe⟩ := rdN_ok b n t hb
        have hk1 := numB_pos n
        have hR := rdR_zero b n t hb
        by_cases h4 : 32768 < n
        · rw [if_pos h4] at hR; rw [hR] at h0; simp at h0
        rw [if_neg h4] at hR
        by_cases h5 : t.length < n
        · rw [if_pos h5] at hR; rw [hR] at h0; simp at h0
        rw [if_neg h5] at hR
        rw [hR] at h1 h2 ⊢
        simp only [List.length_drop] at h1 h2 ⊢
        have hlen : b.length = (numB n).length + t.length := by rw [hbe, List.length_append]
        have hfl := congrArg List.length h2
        rw [List.length_take] at hfl
        refine ⟨by omega, by omega, ?_, by omega, by rw [List.length_take]; omega⟩
        rw [h2, List.take_append_drop]
      · rw [if_pos h2] at h; simp at h
  · rw [if_pos h0] at h; exact absurd h h0
/-- A frame's record. -/
theorem oneF_frm (r rest : List UInt8) (h : r.length ≤ 32768) : oneF (frm r ++ rest) = (0, r, (frm r).length) := by
  have e : frm r ++ rest = numB r.length ++ (r ++ (be 4 (Crc.sum (numB r.length ++ r)) ++ rest)) := by
    rw [frm]; simp [List.append_assoc]
  have hb : rdN (frm r ++ rest) = (0, r.length, r ++ (be 4 (Crc.sum (numB r.length ++ r)) ++ rest)) := by
    rw [e]; exact rdN_numB _ _ (by omega)
  have hR := rdR_zero _ _ _ hb
  rw [if_neg (by omega), if_neg (by rw [List.length_append]; omega), List.take_left, List.drop_left] at hR
  unfold oneF
  rw [hR]
  have hl : (be 4 (Crc.sum (numB r.length ++ r)) ++ rest).length = 4 + rest.length := by rw [List.length_append, be_length]
  have hf := frm_length r
  have e2 : (frm r ++ rest).length - (be 4 (Crc.sum (numB r.length ++ r)) ++ rest).length + 4 = (frm r).length := by rw [hl, List.length_append]; omega
  simp only [e2]
  rw [if_neg (by simp), if_neg (by omega), if_neg (by rw [List.take_left]; simp)]
/-- The records as far as they are whole, and how many bytes their frames have. -/
def scanF : Nat → List UInt8 → List (List UInt8) × Nat
  | 0, _ => ([], 0)
  | f + 1, b => if (oneF b).1 ≠ 0 then ([], 0) else ((oneF b).2.1 :: (scanF f (b.drop (oneF b).2.2)).1, (oneF b).2.2 + (scanF f (b.drop (oneF b).2.2)).2)
def scan (b : List UInt8) : List (List UInt8) × Nat := scanF (b.length + 1) b
theorem scanF_fuel : ∀ (f g : Nat) (b : List UInt8), b.length < f → b.length < g → scanF f b = scanF g b
  | 0, _, _, h, _ => by omega
  | _, 0, _, _, h => by omega
  | f + 1, g + 1, b, h1, h2 => by
    rw [scanF, scanF]
    by_cases h0 : (oneF b).1 = 0
    · have hp := oneF_pos b h0
      rw [if_neg (fun h => h h0), if_neg (fun h => h h0), scanF_fuel f g _ (by rw [List.length_drop]; omega) (by rw [List.length_drop]; omega)]
    · rw [if_pos h0, if_pos h0]
theorem scan_eq (b : List UInt8) : scan b = if (oneF b).1 ≠ 0 then ([], 0) else ((oneF b).2.1 :: (scan (b.drop (oneF b).2.2)).1, (oneF b).2.2 + (scan (b.drop (oneF b).2.2)).2) := by
  rw [scan, scanF]
  by_cases h0 : (oneF b).1 = 0
  · have hp := oneF_pos b h0
    rw [if_neg (fun h => h h0), if_neg (fun h => h h0), scan, scanF_fuel b.length _ _ (by rw [List.length_drop]; omega) (Nat.lt_succ_self _)]
  · rw [if_pos h0, if_pos h0]
theorem scan_cons (r rest : List UInt8) (h : r.length ≤ 32768) : scan (frm r ++ rest) = (r :: (scan rest).1, (frm r).length + (scan rest).2) := by
  rw [scan_eq, oneF_frm r rest h, if_neg (by simp)]
  simp only [List.drop_left]
theorem scan_lay : ∀ (l : List (List UInt8)) (rest : List UInt8), (∀ r ∈ l, r.length ≤ 32768) → scan (layF l ++ rest) = (l ++ (scan rest).1, (layF l).length + (scan rest).2)
  | [], rest, _ => by simp [layF]
  | r :: l, rest, h => by
    rw [layF, List.append_assoc, scan_cons r _ (h r (by simp)), scan_lay l rest (fun x hx => h x (by simp [hx]))]
    simp [Nat.add_assoc]
theorem scan_le (b : List UInt8) : (scan b).2 ≤ b.length := by
  obtain ⟨n, hn⟩ : ∃ n, n = b.length := ⟨_, rfl⟩
  induction n using Nat.strongRecOn generalizing b with
  | ind n ih =>
    rw [scan_eq]
    by_cases h0 : (oneF b).1 = 0
    · have hp := oneF_pos b h0
      rw [if_neg (fun h => h h0)]
      have := ih _ (by rw [List.length_drop]; omega : (b.drop (oneF b).2.2).length < n) _ rfl
      rw [List.length_drop] at this
      simp only
      omega
    · rw [if_pos h0]; exact Nat.zero_le _
theorem scan_count (b : List UInt8) : (scan b).1.length ≤ b.length := by
  obtain ⟨n, hn⟩ : ∃ n, n = b.length := ⟨_, rfl⟩
  induction n using Nat.strongRecOn generalizing b with
  | ind n ih =>
    rw [scan_eq]
    by_cases h0 : (oneF b).1 = 0
    · have hp := oneF_pos b h0
      rw [if_neg (fun h => h h0)]
      have := ih _ (by rw [List.length_drop]; omega : (b.drop (oneF b).2.2).length < n) _ rfl
      rw [List.length_drop] at this
      simp only [List.length_cons]
      omega
    · rw [if_pos h0]; exact Nat.zero_le _
end Go.Proofs.Ytpdlocdlnoibbaa
