/- Frames of records: what is cut off, what is turned: plain laws. -/
import Derived.Test.YtpdlocdlnoibbaaFrH
import Derived.Test.YtpdlocdlnoibbaaCrcBurst
namespace Go.Proofs.Ytpdlocdlnoibbaa
open Go.RowKit

theorem scan_nil : scan [] = ([], 0) := by
  rw [scan_eq, if_pos (by decide)]
/-- A beginning of a frame is none. -/
theorem oneF_part (r rest : List UInt8) (k : Nat) (hr : r.length ≤ 32768) (hk : k < (frm r).length) : (oneF ((frm r ++ rest).take k)).1 ≠ 0 := by
  intro h0
  obtain ⟨h1, h2, h3, h4, h5⟩ := oneF_pos _ h0
  obtain ⟨P, hP⟩ : ∃ P, P = (frm r ++ rest).take k := ⟨_, rfl⟩
  rw [← hP] at h0 h1 h2 h3 h4 h5
  have hpl : P.length ≤ k := by rw [hP, List.length_take]; omega
  have hfull : frm r ++ rest = frm (oneF P).2.1 ++ (P.drop (oneF P).2.2 ++ (frm r ++ rest).drop k) := by
    rw [← List.append_assoc, ← h3, hP, List.take_append_drop]
  have e1 := oneF_frm r rest hr
  have e2 := oneF_frm (oneF P).2.1 (P.drop (oneF P).2.2 ++ (frm r ++ rest).drop k) h5
  rw [← hfull, e1] at e2
  have := congrArg (·.2.2) e2
  simp only at this
  omega
/-- What is cut off has the records whose frames are whole. -/
theorem scan_cut (ls : List (List UInt8)) (hls : ∀ r ∈ ls, r.length ≤ 32768) (at_ i : Nat) (h1 : (layF (ls.take i)).length ≤ at_) (hat : at_ ≤ (layF ls).length) (h2 : ∀ r, ls[i]? = some r → at_ < (layF (ls.take i)).length + (frm r).length) (hi : i ≤ ls.length) :
    scan ((layF ls).take at_) = (ls.take i, (layF (ls.take i)).length) := by
  have hsp : layF ls = layF (ls.take i) ++ layF (ls.drop i) := by rw [← layF_append, List.take_append_drop]
  have e : (layF ls).take at_ = layF (ls.take i) ++ (layF (ls.drop i)).take (at_ - (layF (ls.take i)).length) := by
    conv => lhs; rw [hsp]
    rw [List.take_append, List.take_of_length_le h1]
  rw [e, scan_lay _ _ (fun r hr => hls r (List.mem_of_mem_take hr))]
  have hz : scan ((layF (ls.drop i)).take (at_ - (layF (ls.take i)).length)) = ([], 0) := by
    rcases Nat.lt_or_ge i ls.length with hlt | hge
    · have hg : ls[i]? = some ls[i] := List.getElem?_eq_getElem hlt
      rw [layF_drop hg, scan_eq, if_pos (oneF_part _ _ _ (hls _ (List.getElem_mem _)) (by have := h2 _ hg; omega))]
    · rw [List.drop_of_length_le hge, layF, List.take_nil, scan_nil]
  rw [hz]
  simp
/-- A text with one byte turned has another sum. -/
theorem sum_set (l : List UInt8) (q : Nat) (x d : UInt8) (hx : l[q]? = some x) (hd : d.toNat ≠ 0) : Crc.sum (l.set q (x ^^^ d)) ≠ Crc.sum l := by
  intro h
  unfold Crc.sum Crc.more at h
  have h2 := congrArg (· ^^^ Crc.full) h
  simp only [Crc.xor_cancel] at h2
  rw [Crc.st_set l _ q x d hx] at h2
  have h3 := congrArg (Crc.st (0 ^^^ Crc.full) l ^^^ ·) h2
  simp only [← Nat.xor_assoc, Nat.xor_self, Nat.zero_xor] at h3
  exact Crc.sn_ne _ (Nat.lt_trans d.toNat_lt (by decide)) hd h3
/-- A frame with a byte of its record or sum turned is none. -/
theorem oneF_turned (r rest : List UInt8) (k : Nat) (x d : UInt8) (hr : r.length ≤ 32768) (hx : (r ++ be 4 (Crc.sum (numB r.length ++ r)))[k]? = some x) (hd : d.toNat ≠ 0) :
    (oneF (numB r.length ++ (r ++ be 4 (Crc.sum (numB r.length ++ r))).set k (x ^^^ d) ++ rest)).1 ≠ 0 := by
  obtain ⟨S, hS⟩ : ∃ S, S = Crc.sum (numB r.length ++ r) := ⟨_, rfl⟩
  rw [← hS] at hx ⊢
  obtain ⟨y, hy⟩ : ∃ y, y = (r ++ be 4 S).set k (x ^^^ d) := ⟨_, rfl⟩
  rw [← hy]
  have hyl : y.length = r.length + 4 := by rw [hy, List.length_set, List.length_append, be_length]
  have hb : rdN (numB r.length ++ y ++ rest) = (0, r.length, y ++ rest) := by rw [List.append_assoc]; exact rdN_numB _ _ (by omega)
  have hR := rdR_zero _ _ _ hb
  rw [if_neg (by omega), if_neg (by rw [List.length_append]; omega)] at hR
  have ht : (y ++ rest).take r.length = y.take r.length := by rw [List.take_append_of_le_length (by omega)]
  rw [ht] at hR
  have hlr : (y.take r.length).length = r.length := by rw [List.length_take]; omega
  have htot : (numB r.length ++ y ++ rest).length - ((y ++ rest).drop r.length).length + 4 = (numB r.length ++ y).length := by
    rw [List.length_drop, List.length_append, List.length_append, List.length_append]; omega
  unfold oneF
  rw [hR]
  simp only
  rw [if_neg (by simp), if_neg (by rw [List.length_drop, List.length_append]; omega), htot, List.take_left]
  have hne : frm (y.take r.length) ≠ numB r.length ++ y := by
    intro he
    rw [frm, hlr, List.append_assoc] at he
    have h1 := List.append_cancel_left he
    have h2 : y = y.take r.length ++ y.drop r.length := (List.take_append_drop _ _).symm
    have h3 : be 4 (Crc.sum (numB r.length ++ y.take r.length)) = y.drop r.length := by
      conv at h1 => rhs; rw [h2]
      exact List.append_cancel_left h1
    rcases Nat.lt_or_ge k r.length with hk | hk
    · have e1 : y.take r.length = r.set k (x ^^^ d) := by rw [hy, List.set_append_left _ _ hk, List.take_left' (by simp)]
      have e2 : y.drop r.length = be 4 S := by rw [hy, List.set_append_left _ _ hk, List.drop_left' (by simp)]
      rw [e1, e2] at h3
      have hx' : r[k]? = some x := by rw [List.getElem?_append_left hk] at hx; exact hx
      have h4 := congrArg vl h3
      rw [vl_be, vl_be, Nat.mod_eq_of_lt (show _ < 256 ^ 4 from Crc.sum_lt _), Nat.mod_eq_of_lt (show S < 256 ^ 4 by rw [hS]; exact Crc.sum_lt _), hS] at h4
      have hset : numB r.length ++ r.set k (x ^^^ d) = (numB r.length ++ r).set ((numB r.length).length + k) (x ^^^ d) := by
        rw [List.set_append_right _ _ (by omega)]; congr 2; omega
      rw [hset] at h4
      exact sum_set _ _ x d (by rw [List.getElem?_append_right (by omega)]; rw [show (numB r.length).length + k - (numB r.length).length = k by omega]; exact hx') hd h4
    · have e1 : y.take r.length = r := by rw [hy, List.set_append_right _ _ hk, List.take_left]
      have e2 : y.drop r.length = (be 4 S).set (k - r.length) (x ^^^ d) := by rw [hy, List.set_append_right _ _ hk, List.drop_left]
      rw [e1, e2, ← hS] at h3
      have hx' : (be 4 S)[k - r.length]? = some x := by rw [List.getElem?_append_right hk] at hx; exact hx
      have h5 : ((be 4 S).set (k - r.length) (x ^^^ d))[k - r.length]? = some (x ^^^ d) := by
        rw [List.getElem?_set_self (List.getElem?_eq_some_iff.1 hx').1]
      rw [← h3, hx'] at h5
      have h6 := Option.some.inj h5
      have h7 : d = 0 := by
        have := congrArg (x ^^^ ·) h6
        simp only [← UInt8.xor_assoc, UInt8.xor_self, UInt8.zero_xor] at this
        exact this.symm
      rw [h7] at hd
      exact hd rfl
  rw [if_pos hne]
  simp
/-- The records ahead of a turned one. -/
theorem scan_turned (ls : List (List UInt8)) (hls : ∀ r ∈ ls, r.length ≤ 32768) (i k : Nat) (r : List UInt8) (x d : UInt8) (hi : ls[i]? = some r) (hk : k < r.length + 4)
    (hx : (layF ls)[(layF (ls.take i)).length + (numB r.length).length + k]? = some x) (hd : d.toNat ≠ 0) :
    scan ((layF ls).set ((layF (ls.take i)).length + (numB r.length).length + k) (x ^^^ d)) = (ls.take i, (layF (ls.take i)).length) := by
  have hsp : layF ls = layF (ls.take i) ++ (numB r.length ++ ((r ++ be 4 (Crc.sum (numB r.length ++ r))) ++ layF (ls.drop (i + 1)))) := by
    have h0 : layF ls = layF (ls.take i) ++ layF (ls.drop i) := by rw [← layF_append, List.take_append_drop]
    rw [h0, layF_drop hi, frm]; simp only [List.append_assoc]
  have hyl : (r ++ be 4 (Crc.sum (numB r.length ++ r))).length = r.length + 4 := by rw [List.length_append, be_length]
  rw [hsp] at hx ⊢
  rw [List.getElem?_append_right (by omega), List.getElem?_append_right (by omega), List.getElem?_append_left (by omega)] at hx
  rw [show (layF (ls.take i)).length + (numB r.length).length + k - (layF (ls.take i)).length - (numB r.length).length = k by omega] at hx
  rw [List.set_append_right _ _ (by omega), List.set_append_right _ _ (by omega), List.set_append_left _ _ (by omega)]
  rw [show (layF (ls.take i)).length + (numB r.length).length + k - (layF (ls.take i)).length - (numB r.length).length = k by omega]
  rw [scan_lay _ _ (fun q hq => hls q (List.mem_of_mem_take hq)), ← List.append_assoc, scan_eq, if_pos (oneF_turned r _ k x d (hls r (List.mem_of_getElem? hi)) hx hd)]
  simp
/-- A record that is too long. -/
theorem oneF_long (r : List UInt8) (h : 32768 < r.length) (h2 : r.length < 2 ^ 63) : oneF (frm r) = (4, [], 0) := by
  have e : frm r = numB r.length ++ (r ++ be 4 (Crc.sum (numB r.length ++ r))) := by rw [frm, List.append_assoc]
  have hb : rdN (frm r) = (0, r.length, r ++ be 4 (Crc.sum (numB r.length ++ r))) := by rw [e]; exact rdN_numB _ _ (by omega)
  have hR := rdR_zero _ _ _ hb
  rw [if_pos h] at hR
  unfold oneF
  rw [hR, if_pos (by simp)]
end Go.Proofs.Ytpdlocdlnoibbaa
