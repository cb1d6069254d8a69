/- Plain laws of the end of a hash; no walk here. -/
import Derived.Test.YtdjmebfjanophaaDoorShaR
namespace Go.Proofs.YtdjmebfjanophaaDoor
open Go.RowKit Sha

theorem set_tail (l : List UInt8) : (tail64 l).set (l.length % 64) 128 = l.drop (64 * (l.length / 64)) ++ ([128] ++ zs (63 - l.length % 64)) := by
  have hd := drop_len l
  have hlt : l.length % 64 < 64 := Nat.mod_lt _ (by omega)
  unfold tail64
  rw [List.set_append_right _ _ (by omega), hd, Nat.sub_self, show zs (64 - l.length % 64) = 0 :: zs (63 - l.length % 64) by
    unfold zs; rw [show 64 - l.length % 64 = (63 - l.length % 64) + 1 by omega]; rfl]
  rfl
theorem tail_at (l : List UInt8) : (tail64 l)[l.length % 64]? = some 0 := by
  have hd := drop_len l
  have hlt : l.length % 64 < 64 := Nat.mod_lt _ (by omega)
  unfold tail64
  rw [List.getElem?_append_right (by omega), hd, Nat.sub_self, show zs (64 - l.length % 64) = 0 :: zs (63 - l.length % 64) by
    unfold zs; rw [show 64 - l.length % 64 = (63 - l.length % 64) + 1 by omega]; rfl]
  rfl
theorem pad_low (l : List UInt8) (h : l.length % 64 < 56) :
    blk (hs l (l.length / 64)) (((tail64 l).set (l.length % 64) 128).take 56 ++ be 8 (l.length * 8)) = hs (pad l) ((pad l).length / 64) := by
  have hd := drop_len l
  have hp : pad l = l ++ ([128] ++ zs (gap l.length) ++ be 8 (l.length * 8)) := by simp [pad]
  have hg : gap l.length = 55 - l.length % 64 := by unfold gap; omega
  have hl : l.length % 64 + ([128] ++ zs (gap l.length) ++ be 8 (l.length * 8) : List UInt8).length = 64 := by simp [zs, be_length, hg]; omega
  have hf := hs_fill l _ hl
  rw [hp, ← hf.1, splice_tail _ _ (by omega), set_tail, hg]
  congr 1
  generalize l.drop (64 * (l.length / 64)) = d at *
  have e : (List.replicate (63 - l.length % 64) (0 : UInt8)).take (55 - l.length % 64) = List.replicate (55 - l.length % 64) 0 := by
    rw [List.take_replicate]; congr 1; omega
  rw [List.take_append, List.take_of_length_le (by omega), hd, List.take_append, show ([128] : List UInt8).length = 1 from rfl, List.take_of_length_le (by simp; omega)]
  simp only [zs, be_length, List.length_append, List.length_replicate, List.length_cons, List.length_nil]
  rw [show 56 - l.length % 64 - 1 = 55 - l.length % 64 by omega, e, show 64 - l.length % 64 - (0 + 1 + (55 - l.length % 64) + 8) = 0 by omega]
  simp
theorem pad_high (l : List UInt8) (h : 56 ≤ l.length % 64) :
    blk (blk (hs l (l.length / 64)) ((tail64 l).set (l.length % 64) 128)) ((zs 64).take 56 ++ be 8 (l.length * 8)) = hs (pad l) ((pad l).length / 64) := by
  have hd := drop_len l
  have hlt : l.length % 64 < 64 := Nat.mod_lt _ (by omega)
  have hg : gap l.length = (63 - l.length % 64) + 56 := by unfold gap; omega
  have hz : zs (gap l.length) = zs (63 - l.length % 64) ++ zs 56 := by rw [hg]; exact (List.replicate_append_replicate ..).symm
  have hp : pad l = (l ++ ([128] ++ zs (63 - l.length % 64))) ++ (zs 56 ++ be 8 (l.length * 8)) := by unfold pad; rw [hz]; simp
  have hl : l.length % 64 + ([128] ++ zs (63 - l.length % 64) : List UInt8).length = 64 := by simp [zs]; omega
  have hf := hs_fill l _ hl
  have hn := hs_next _ (zs 56 ++ be 8 (l.length * 8)) hf.2 (by simp [zs, be_length])
  have es : splice (tail64 l) (l.length % 64) ([128] ++ zs (63 - l.length % 64)) = (tail64 l).set (l.length % 64) 128 := by
    rw [splice_tail _ _ (by omega), set_tail]
    simp [zs]
    omega
  rw [es] at hf
  rw [hp, ← hn.1, ← hf.1]
  rfl

/-- Eight bytes at the end. -/
theorem set8 (y : List UInt8) (hy : y.length = 64) (b0 b1 b2 b3 b4 b5 b6 b7 : UInt8) :
    (((((((y.set 56 b0).set 57 b1).set 58 b2).set 59 b3).set 60 b4).set 61 b5).set 62 b6).set 63 b7 = y.take 56 ++ [b0, b1, b2, b3, b4, b5, b6, b7] := by
  have h1 : (y.take 56).length = 56 := by simp [hy]
  have h2 : (y.drop 56).length = 8 := by simp [hy]
  conv => lhs; rw [← List.take_append_drop 56 y]
  generalize y.take 56 = a at *
  match y.drop 56, h2 with
  | [c0, c1, c2, c3, c4, c5, c6, c7], _ =>
    simp [h1]

/-- A row of n bytes. -/
def bs (f : Nat → UInt8) (n : Nat) : List UInt8 := (List.range n).map f
theorem bs_length (f : Nat → UInt8) (n : Nat) : (bs f n).length = n := by simp [bs]
theorem bs_get (f : Nat → UInt8) (n i : Nat) (h : i < n) : (bs f n)[i]? = some (f i) := by simp [bs, h]
theorem bs_congr (f g : Nat → UInt8) (n : Nat) (h : ∀ j, j < n → f j = g j) : bs f n = bs g n := List.map_congr_left (fun j hj => h j (List.mem_range.1 hj))
theorem bs_set (f g : Nat → UInt8) (n k : Nat) (x : UInt8) (hk : g k = x) (h : ∀ j, j < n → j ≠ k → g j = f j) : (bs f n).set k x = bs g n := by
  apply List.ext_getElem?
  intro i
  by_cases hi : i < n
  · rw [bs_get _ _ _ hi, List.getElem?_set]
    by_cases hik : k = i
    · subst hik; simp [bs_length, hi, hk]
    · rw [if_neg hik, bs_get _ _ _ hi, h i hi (fun e => hik e.symm)]
  · rw [List.getElem?_eq_none (by simp [bs_length]; omega), List.getElem?_eq_none (by simp [bs_length]; omega)]
theorem bs_self (l : List UInt8) : bs (fun j => l.getD j 0) l.length = l := by
  apply List.ext_getElem?
  intro i
  by_cases hi : i < l.length
  · rw [bs_get _ _ _ hi]; simp [hi]
  · rw [List.getElem?_eq_none (by simp [bs_length]; omega), List.getElem?_eq_none (by omega)]
theorem rowB_set (r : List UInt8) (j : Nat) (x : UInt8) : (bv r).toArray.setIfInBounds j (.int .u8 x.toNat) = (bv (r.set j x)).toArray := by
  apply Array.ext'
  simp [bv, List.map_set]
/-- The bytes of a hash, by its words. -/
theorem out_get (s : W8) (i : Nat) (h : i < 8) :
    (outB s).getD (4 * i) 0 = UInt8.ofNat ((s.l.getD i 0).toNat / 16777216 % 256) ∧ (outB s).getD (4 * i + 1) 0 = UInt8.ofNat ((s.l.getD i 0).toNat / 65536 % 256) ∧
    (outB s).getD (4 * i + 2) 0 = UInt8.ofNat ((s.l.getD i 0).toNat / 256 % 256) ∧ (outB s).getD (4 * i + 3) 0 = UInt8.ofNat ((s.l.getD i 0).toNat % 256) := by
  have e (x : UInt32) : be 4 x.toNat = [UInt8.ofNat (x.toNat / 16777216 % 256), UInt8.ofNat (x.toNat / 65536 % 256), UInt8.ofNat (x.toNat / 256 % 256), UInt8.ofNat (x.toNat % 256)] := by
    simp [be, Nat.div_div_eq_div_mul]
  have eo : outB s = be 4 s.a.toNat ++ (be 4 s.b.toNat ++ (be 4 s.c.toNat ++ (be 4 s.d.toNat ++ (be 4 s.e.toNat ++ (be 4 s.f.toNat ++ (be 4 s.g.toNat ++ (be 4 s.h.toNat ++ []))))))) := rfl
  rw [eo]
  simp only [e]
  match i, h with
  | 0, _ => exact ⟨rfl, rfl, rfl, rfl⟩
  | 1, _ => exact ⟨rfl, rfl, rfl, rfl⟩
  | 2, _ => exact ⟨rfl, rfl, rfl, rfl⟩
  | 3, _ => exact ⟨rfl, rfl, rfl, rfl⟩
  | 4, _ => exact ⟨rfl, rfl, rfl, rfl⟩
  | 5, _ => exact ⟨rfl, rfl, rfl, rfl⟩
  | 6, _ => exact ⟨rfl, rfl, rfl, rfl⟩
  | 7, _ => exact ⟨rfl, rfl, rfl, rfl⟩
theorem be8 (n : Nat) : be 8 n = [UInt8.ofNat (n / 72057594037927936 % 256), UInt8.ofNat (n / 281474976710656 % 256), UInt8.ofNat (n / 1099511627776 % 256), UInt8.ofNat (n / 4294967296 % 256), UInt8.ofNat (n / 16777216 % 256), UInt8.ofNat (n / 65536 % 256), UInt8.ofNat (n / 256 % 256), UInt8.ofNat (n % 256)] := by
  simp [be, Nat.div_div_eq_div_mul]
theorem u8_int (n : Nat) : ((UInt8.ofNat (n % 256)).toNat : Int) = (n : Int) % 256 := by
  rw [u8_nat _ (Nat.mod_lt _ (by omega))]; rfl
theorem stv_nil : (rowL begin0 (zs 64) 0).toArray = stv [] := rfl
theorem info32 : (Tryd.prog.info? 33).map (fun i => (i.zero, i.size)) = some (some (.agg (bv (zs 32)).toArray), 32) := by kernel_rfl
theorem hInfo (R : List UInt8) (h : R.length = 32) : (Tryd.prog.info? 33).map (·.size) = some (bv R).toArray.size := by
  rw [(zero_of_info info32).2, List.size_toArray, bv_length, h]
theorem hInfo' (R : List UInt8) (h : R.length = 32) : (Tryd.prog.info? 33).map (·.size) = some (bv R).length := by
  rw [(zero_of_info info32).2, bv_length, h]
end Go.Proofs.YtdjmebfjanophaaDoor
