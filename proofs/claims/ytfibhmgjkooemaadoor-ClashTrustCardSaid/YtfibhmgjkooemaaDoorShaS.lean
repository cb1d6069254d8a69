/- Rows of cells by value: laws of the walk; the row of a hash's state. · Plain laws of the end of a hash; no walk here. · The state of a hash: what a write does to it. -/
import Derived.Test.YtfibhmgjkooemaaDoorShaM
import Derived.Test.YtfibhmgjkooemaaDoorShaD
import Derived.Laws.CopyOwn
import Derived.Deep.WholeRow
import Derived.Deep.MidRow
namespace Go.Proofs.YtfibhmgjkooemaaDoor
open Go.RowKit Sha

theorem grown_setRow (w : World) (g : Nat) (cs : Array Value) : w.grownBy (w.setRow g cs) (some g) :=
  ⟨rfl, rfl, rfl, by simp, fun k _ hk => setRow_other w g k cs (fun e => hk (by rw [e]))⟩
theorem below_grow {B g : Nat} {w0 w w' : World} (hb : Below B w0 w) (h : w.grownBy w' (some g)) (hg : B ≤ g) (hgl : g < w.heap.size) : Below B w0 w' :=
  hb.trans ⟨h.os, h.tape, h.output, h.size, fun k hk => h.block k (by omega) (fun e => by simp at e; omega)⟩

/-- A value of many cells goes into the middle of a row that is known whole. -/
theorem wpList_store_splice {P : Program} {ops : Array Oper} {rest : List Oper} {op : Oper} {a : Act} {w : World} {Q : Exit → Act → World → Prop} (hgd : op.guard = none) (ty : TypeId) (x y : Operand) (ho : op.op = .store ty x y)
    (g o : Nat) (cs : List Value) (hx : a.eval x = .pointer (some ⟨g, o, none⟩)) (hy : a.eval y = .agg cs.toArray)
    (cur : List Value) (t : TypeId) (hg : w.heap[g]? = some (.cells cur.toArray t (0, 0))) (hi : (P.info? ty).map (·.size) = some cs.length) (hfit : o + cs.length ≤ cur.length) (h1 : ∀ v ∈ cs, v.oneCell' = true)
    (h : ∀ w', Hid (w'.heap[g]? = some (.cells (splice cur o cs).toArray t (0, 0))) → w.grownBy w' (some g) → wpList P ops Q rest (a.put op.dst undef) w') : wpList P ops Q (op :: rest) a w := by
  refine wpList_plain hgd fun K hK => ?_
  have hst := run_storeCells_at P g o t cs 0 cur.toArray w hg (by simpa using hfit) h1
  have hrun : (storeVar ty ⟨g, o, none⟩ (.agg cs.toArray)).run P w = .ok () (w.setRow g (splice cur o cs).toArray) := by
    cases hq : P.info? ty with
    | none => simp [hq] at hi
    | some i =>
      have hs : cs.length = i.size := by simp [hq] at hi; omega
      simp only [Nat.add_zero] at hst
      simp [storeVar, sizeOf, typeInfo, hq, Value.cells, hs, hst, splice]
  unfold Oper.wp execOp
  simp only [ho, hx, hy, Instr.storeAt, Instr.sureAddr, Sem.run_bind, Sem.run_pure, Result.andThen_ok, hrun]
  exact hK _ _ (h _ (setRow_heap w g _ _ t _ hg) (grown_setRow w g _))

/-- The kit's copy into a known row, and what it leaves alone. -/
theorem wpList_copy_grown {P : Program} {w : World} {ops : Array Oper} {rest : List Oper} {o : Oper} {a : Act} {Q : Exit → Act → World → Prop} (hgd : o.guard = none) (d s : Operand) (dT sT : TypeId)
    (ho : o.op = .call { callee := .builtin .copy, args := #[d, s], argTypes := #[dT, sT] }) (elem : TypeId) (hu : P.underlying dT = some (.slice elem)) (hsz : (P.info? elem).map (·.size) = some 1)
    (dp sp : Option Addr) (dLen dCap sLen sCap : Nat) (hd : a.eval d = .slice dp dLen dCap) (hs : a.eval s = .slice sp sLen sCap)
    (g off : Nat) (cur : List Value) (t : TypeId) (hg : w.heap[g]? = some (.cells cur.toArray t (0, 0))) (cs zs' : List Value) (hn : cs.length = Nat.min sLen dLen)
    (hdp : dp = some ⟨g, off, none⟩) (hr : Rd w 1 (.slice sp sLen sCap) sLen (cs ++ zs'))
    (hfit : off + cs.length ≤ cur.length)
    (h : ∀ w', Hid (w'.heap[g]? = some (.cells (splice cur off cs).toArray t (0, 0))) → w.grownBy w' (some g) → wpList P ops Q rest (a.put o.dst (goInt cs.length)) w') :
    wpList P ops Q (o :: rest) a w := by
  by_cases h0 : cs.length = 0
  · obtain rfl : cs = [] := List.eq_nil_of_length_eq_zero h0
    refine wpList_copy_nothing hgd d s dT sT ho elem hu hsz dp sp dLen dCap sLen sCap hd hs (by simpa using hn.symm) ?_
    exact h w (show _ = _ by simpa [splice] using hg) (World.grownBy.refl _ _)
  · obtain ⟨hl, h1, ⟨hv, hz⟩ | ⟨ad, c', hv, hc, hcell⟩⟩ := hr
    · simp at hl
      exfalso
      have : cs.length ≤ 0 := by omega
      omega
    · simp only [Value.slice.injEq] at hv
      obtain ⟨rfl, _, rfl⟩ := hv
      subst hdp
      refine wpList_copy_own hgd d s dT sT ho elem hu hsz g off dLen dCap ad sLen sCap hd hs cur.toArray t hg cs hn (fun j x hx => hcell j x ?_) (by simpa using hfit) (fun x hx => h1 x (List.mem_append_left _ hx)) ?_
      · rw [List.getElem?_append_left (List.getElem?_eq_some_iff.1 hx).1]; exact hx
      · exact h _ (show _ = _ by simpa [splice] using setRow_heap w g _ _ t _ hg) (grown_setRow w g _)

/-- A slice cut in front. -/
theorem Rd.cut {w : World} {a : Option Addr} {n c : Nat} {xs : List Value} (h : Rd w 1 (.slice a n c) n xs) (k : Nat) (hk : k ≤ n) :
    Rd w 1 (.slice (if c = k then a else Option.map (fun x => x.add k) a) (n - k) (c - k)) (n - k) (xs.drop k) := by
  obtain ⟨hl, h1, ⟨hv, h0⟩ | ⟨ad, c', hv, hc, hcell⟩⟩ := h
  · simp only [Value.slice.injEq] at hv
    obtain ⟨rfl, rfl, rfl⟩ := hv
    obtain rfl : k = 0 := by omega
    exact ⟨by simpa using hl, fun u hu => h1 u (List.mem_of_mem_drop hu), .inl ⟨by simp, rfl⟩⟩
  · simp only [Value.slice.injEq, true_and] at hv
    obtain ⟨rfl, rfl⟩ := hv
    refine ⟨by simp; omega, fun u hu => h1 u (List.mem_of_mem_drop hu), .inr ⟨if c = k then ad else ad.add k, c - k, by split <;> rfl, by omega, fun j u hu => ?_⟩⟩
    rw [List.getElem?_drop] at hu
    have hj := (List.getElem?_eq_some_iff.1 hu).1
    rw [if_neg (by omega)]
    have := hcell _ _ hu
    rwa [← Addr.add_add] at this

/-- What is left behind the whole blocks, with zeros behind it. -/
def tail64 (l : List UInt8) : List UInt8 := l.drop (64 * (l.length / 64)) ++ zs (64 - l.length % 64)
theorem tail64_length (l : List UInt8) : (tail64 l).length = 64 := by simp [tail64, zs]; omega
/-- The row of a state. -/
def rowL (s : W8) (r : List UInt8) (n : Nat) : List Value := (ws (off8 s) 8).toList ++ (bv r ++ [.int .u64 n])
theorem rowL_length (s : W8) (r : List UInt8) (n : Nat) (h : r.length = 64) : (rowL s r n).length = 73 := by simp [rowL, ws_size, bv_length, h]
theorem rowL_one (s : W8) (r : List UInt8) (n : Nat) : ∀ u ∈ rowL s r n, u.oneCell' = true := by
  intro x hx
  simp only [rowL, List.mem_append, ws, List.mem_map, List.mem_singleton] at hx
  rcases hx with ⟨_, _, rfl⟩ | hx | rfl
  · rfl
  · exact bv_one _ _ hx
  · rfl
theorem rowL_arr (s : W8) (r : List UInt8) (n : Nat) : (rowL s r n).toArray = ws (off8 s) 8 ++ (bv r ++ [Value.int .u64 n]).toArray := by simp [rowL]
theorem rowL_n (s : W8) (r : List UInt8) (n : Nat) (h : r.length = 64) : (rowL s r n)[72]? = some (.int .u64 n) := by
  unfold rowL
  rw [List.getElem?_append_right (by simp [ws_size]), List.getElem?_append_right (by simp [ws_size, bv_length, h])]
  simp [ws_size, bv_length, h]
theorem rowL_r (s : W8) (r : List UInt8) (n j : Nat) (x : UInt8) (hx : r[j]? = some x) : (rowL s r n)[8 + j]? = some (.int .u8 x.toNat) := by
  have hj := (List.getElem?_eq_some_iff.1 hx).1
  unfold rowL
  rw [List.getElem?_append_right (by simp [ws_size]), List.getElem?_append_left (by simp [ws_size, bv_length]; omega)]
  simp [ws_size, bv, hx]
theorem rowL_w (s : W8) (r : List UInt8) (n j : Nat) (hj : j < 8) : (rowL s r n)[j]? = some (u (off8 s j)) := by
  unfold rowL
  rw [List.getElem?_append_left (by simp [ws_size]; omega)]
  simpa using ws_get (off8 s) 8 j hj
theorem rowL_setN (s : W8) (r : List UInt8) (n m : Nat) (h : r.length = 64) : (rowL s r n).toArray.setIfInBounds 72 (.int .u64 m) = (rowL s r m).toArray := by
  apply Array.ext'
  simp only [Array.toList_setIfInBounds, rowL]
  rw [List.set_append_right _ _ (by simp [ws_size]), List.set_append_right _ _ (by simp [ws_size, bv_length, h])]
  simp [ws_size, bv_length, h]
theorem rowL_setR (s : W8) (r : List UInt8) (n j : Nat) (x : UInt8) (h : j < r.length) : (rowL s r n).toArray.setIfInBounds (8 + j) (.int .u8 x.toNat) = (rowL s (r.set j x) n).toArray := by
  apply Array.ext'
  simp only [Array.toList_setIfInBounds, rowL]
  rw [List.set_append_right _ _ (by simp [ws_size]), List.set_append_left _ _ (by simp [ws_size, bv_length]; omega)]
  simp [ws_size, bv, List.map_set]
theorem rowL_splice (s : W8) (r x : List UInt8) (n j : Nat) (h : j + x.length ≤ r.length) : splice (rowL s r n) (8 + j) (bv x) = rowL s (splice r j x) n := by
  have h8 : (ws (off8 s) 8).toList.length = 8 := by simp [ws_size]
  unfold splice rowL
  rw [List.take_append, List.take_of_length_le (by omega), List.drop_append, List.drop_of_length_le (by simp [bv_length, h8]; omega), h8]
  simp only [bv_length, List.nil_append, List.append_assoc]
  rw [show 8 + j - 8 = j by omega, show 8 + j + x.length - 8 = j + x.length by omega, List.take_append_of_le_length (by simp [bv_length]; omega), List.drop_append_of_le_length (by simp [bv_length]; omega)]
  simp [bv, List.map_take, List.map_drop]
/-- The value of the state behind a text. -/
def stL (l : List UInt8) : List Value := rowL (hs l (l.length / 64)) (tail64 l) l.length
def stv (l : List UInt8) : Array Value := (stL l).toArray
theorem stL_length (l : List UInt8) : (stL l).length = 73 := rowL_length _ _ _ (tail64_length l)
theorem stL_one (l : List UInt8) : ∀ u ∈ stL l, u.oneCell' = true := rowL_one _ _ _
theorem infoSt : (Tryd.prog.info? 89).map (fun i => (i.zero, i.size)) = some (some (.agg (rowL begin0 (zs 64) 0).toArray), 73) := by kernel_rfl
theorem info64 : (Tryd.prog.info? 87).map (fun i => (i.zero, i.size)) = some (some (.agg (bv (zs 64)).toArray), 64) := by kernel_rfl
theorem stInfo (R : List Value) (h : R.length = 73) : (Tryd.prog.info? 89).map (·.size) = some R.toArray.size := by
  rw [(zero_of_info infoSt).2, List.size_toArray, h]
theorem stInfo' (R : List Value) (h : R.length = 73) : (Tryd.prog.info? 89).map (·.size) = some R.length := by
  rw [(zero_of_info infoSt).2, h]
theorem splice_all {α : Type} (cur cs : List α) (h : cs.length = cur.length) : splice cur 0 cs = cs := by
  unfold splice
  rw [List.drop_of_length_le (by omega)]; simp
theorem drop_len (l : List UInt8) : (l.drop (64 * (l.length / 64))).length = l.length % 64 := by simp; omega
theorem splice_tail (l b : List UInt8) (_h : l.length % 64 + b.length ≤ 64) : splice (tail64 l) (l.length % 64) b = l.drop (64 * (l.length / 64)) ++ b ++ zs (64 - l.length % 64 - b.length) := by
  have hd := drop_len l
  unfold splice tail64
  generalize l.drop (64 * (l.length / 64)) = d at *
  rw [List.take_left' hd, List.drop_append, List.drop_of_length_le (by omega), hd]
  simp [zs]
theorem hs_early (l b : List UInt8) (h : l.length % 64 + b.length < 64) : rowL (hs l (l.length / 64)) (splice (tail64 l) (l.length % 64) b) (l.length + b.length) = stL (l ++ b) := by
  have e1 : (l ++ b).length / 64 = l.length / 64 := by simp; omega
  have e2 : (l ++ b).length % 64 = l.length % 64 + b.length := by simp; omega
  rw [splice_tail l b (by omega)]
  unfold stL tail64
  rw [e1, e2, hs_append _ _ _ (by omega), List.drop_append_of_le_length (by omega), List.length_append, Nat.sub_sub]
theorem hs_fill (l x : List UInt8) (h : l.length % 64 + x.length = 64) : blk (hs l (l.length / 64)) (splice (tail64 l) (l.length % 64) x) = hs (l ++ x) ((l ++ x).length / 64) ∧ (l ++ x).length % 64 = 0 := by
  have hd := drop_len l
  have e1 : (l ++ x).length / 64 = l.length / 64 + 1 := by simp; omega
  refine ⟨?_, by simp; omega⟩
  rw [splice_tail l x (by omega), e1, hs, hs_append _ _ _ (by omega), List.drop_append_of_le_length (by omega), List.take_of_length_le (by simp; omega), show 64 - l.length % 64 - x.length = 0 by omega]
  simp [zs]
theorem tail_whole (l : List UInt8) (h : l.length % 64 = 0) : tail64 l = zs 64 := by
  have hd := drop_len l
  unfold tail64
  rw [List.eq_nil_of_length_eq_zero (hd.trans h), h]; rfl
theorem hs_next (l x : List UInt8) (h : l.length % 64 = 0) (hx : x.length = 64) : blk (hs l (l.length / 64)) x = hs (l ++ x) ((l ++ x).length / 64) ∧ (l ++ x).length % 64 = 0 := by
  have := hs_fill l x (by omega)
  rw [tail_whole l h, h, splice_all _ _ (by simp [zs, hx])] at this
  exact this
theorem hs_end (l b : List UInt8) (h : l.length % 64 = 0) (hb : b.length < 64) : rowL (hs l (l.length / 64)) (splice (zs 64) 0 b) (l.length + b.length) = stL (l ++ b) := by
  have := hs_early l b (by omega)
  rw [tail_whole l h, h] at this
  exact this
end Go.Proofs.YtfibhmgjkooemaaDoor
namespace Go.Proofs.YtfibhmgjkooemaaDoor
open Go.RowKit Sha

theorem set_tail (l : List UInt8) : (tail64 l).set (l.length % 64) 128 = l.drop (64 * (l.length / 64)) ++ ([128] ++ zs (63 - l.length % 64)) := by
  have hd := drop_len l
  have hlt : l.length % 64 < 64 := Nat.mod_lt _ (by omega)
  unfold tail64
  rw [List.set_append_right _ _ (by omega), hd, Nat.sub_self, show zs (64 - l.length % 64) = 0 :: zs (63 - l.length % 64) by
    unfold zs; rw [show 64 - l.length % 64 = (63 - l.length % 64) + 1 by omega]; rfl]
  rfl
theorem tail_at (l : List UInt8) : (tail64 l)[l.length % 64]? = some 0 := by
  have hd := drop_len l
  have hlt : l.length % 64 < 64 := Nat.mod_lt _ (by omega)
  unfold tail64
  rw [List.getElem?_append_right (by omega), hd, Nat.sub_self, show zs (64 - l.length % 64) = 0 :: zs (63 - l.length % 64) by
    unfold zs; rw [show 64 - l.length % 64 = (63 - l.length % 64) + 1 by omega]; rfl]
  rfl
theorem pad_low (l : List UInt8) (h : l.length % 64 < 56) :
    blk (hs l (l.length / 64)) (((tail64 l).set (l.length % 64) 128).take 56 ++ be 8 (l.length * 8)) = hs (pad l) ((pad l).length / 64) := by
  have hd := drop_len l
  have hp : pad l = l ++ ([128] ++ zs (gap l.length) ++ be 8 (l.length * 8)) := by simp [pad]
  have hg : gap l.length = 55 - l.length % 64 := by unfold gap; omega
  have hl : l.length % 64 + ([128] ++ zs (gap l.length) ++ be 8 (l.length * 8) : List UInt8).length = 64 := by simp [zs, be_length, hg]; omega
  have hf := hs_fill l _ hl
  rw [hp, ← hf.1, splice_tail _ _ (by omega), set_tail, hg]
  congr 1
  generalize l.drop (64 * (l.length / 64)) = d at *
  have e : (List.replicate (63 - l.length % 64) (0 : UInt8)).take (55 - l.length % 64) = List.replicate (55 - l.length % 64) 0 := by
    rw [List.take_replicate]; congr 1; omega
  rw [List.take_append, List.take_of_length_le (by omega), hd, List.take_append, show ([128] : List UInt8).length = 1 from rfl, List.take_of_length_le (by simp; omega)]
  simp only [zs, be_length, List.length_append, List.length_replicate, List.length_cons, List.length_nil]
  rw [show 56 - l.length % 64 - 1 = 55 - l.length % 64 by omega, e, show 64 - l.length % 64 - (0 + 1 + (55 - l.length % 64) + 8) = 0 by omega]
  simp
theorem pad_high (l : List UInt8) (h : 56 ≤ l.length % 64) :
    blk (blk (hs l (l.length / 64)) ((tail64 l).set (l.length % 64) 128)) ((zs 64).take 56 ++ be 8 (l.length * 8)) = hs (pad l) ((pad l).length / 64) := by
  have hd := drop_len l
  have hlt : l.length % 64 < 64 := Nat.mod_lt _ (by omega)
  have hg : gap l.length = (63 - l.length % 64) + 56 := by unfold gap; omega
  have hz : zs (gap l.length) = zs (63 - l.length % 64) ++ zs 56 := by rw [hg]; exact (List.replicate_append_replicate ..).symm
  have hp : pad l = (l ++ ([128] ++ zs (63 - l.length % 64))) ++ (zs 56 ++ be 8 (l.length * 8)) := by unfold pad; rw [hz]; simp
  have hl : l.length % 64 + ([128] ++ zs (63 - l.length % 64) : List UInt8).length = 64 := by simp [zs]; omega
  have hf := hs_fill l _ hl
  have hn := hs_next _ (zs 56 ++ be 8 (l.length * 8)) hf.2 (by simp [zs, be_length])
  have es : splice (tail64 l) (l.length % 64) ([128] ++ zs (63 - l.length % 64)) = (tail64 l).set (l.length % 64) 128 := by
    rw [splice_tail _ _ (by omega), set_tail]
    simp [zs]
    omega
  rw [es] at hf
  rw [hp, ← hn.1, ← hf.1]
  rfl

/-- Eight bytes at the end. -/
theorem set8 (y : List UInt8) (hy : y.length = 64) (b0 b1 b2 b3 b4 b5 b6 b7 : UInt8) :
    (((((((y.set 56 b0).set 57 b1).set 58 b2).set 59 b3).set 60 b4).set 61 b5).set 62 b6).set 63 b7 = y.take 56 ++ [b0, b1, b2, b3, b4, b5, b6, b7] := by
  have h1 : (y.take 56).length = 56 := by simp [hy]
  have h2 : (y.drop 56).length = 8 := by simp [hy]
  conv => lhs; rw [← List.take_append_drop 56 y]
  generalize y.take 56 = a at *
  match y.drop 56, h2 with
  | [c0, c1, c2, c3, c4, c5, c6, c7], _ =>
    simp [h1]

/-- A row of n bytes. -/
def bs (f : Nat → UInt8) (n : Nat) : List UInt8 := (List.range n).map f
theorem bs_length (f : Nat → UInt8) (n : Nat) : (bs f n).length = n := by simp [bs]
theorem bs_get (f : Nat → UInt8) (n i : Nat) (h : i < n) : (bs f n)[i]? = some (f i) := by simp [bs, h]
theorem bs_congr (f g : Nat → UInt8) (n : Nat) (h : ∀ j, j < n → f j = g j) : bs f n = bs g n := List.map_congr_left (fun j hj => h j (List.mem_range.1 hj))
theorem bs_set (f g : Nat → UInt8) (n k : Nat) (x : UInt8) (hk : g k = x) (h : ∀ j, j < n → j ≠ k → g j = f j) : (bs f n).set k x = bs g n := by
  apply List.ext_getElem?
  intro i
  by_cases hi : i < n
  · rw [bs_get _ _ _ hi, List.getElem?_set]
    by_cases hik : k = i
    · subst hik; simp [bs_length, hi, hk]
    · rw [if_neg hik, bs_get _ _ _ hi, h i hi (fun e => hik e.symm)]
  · rw [List.getElem?_eq_none (by simp [bs_length]; omega), List.getElem?_eq_none (by simp [bs_length]; omega)]
theorem bs_self (l : List UInt8) : bs (fun j => l.getD j 0) l.length = l := by
  apply List.ext_getElem?
  intro i
  by_cases hi : i < l.length
  · rw [bs_get _ _ _ hi]; simp [hi]
  · rw [List.getElem?_eq_none (by simp [bs_length]; omega), List.getElem?_eq_none (by omega)]
theorem rowB_set (r : List UInt8) (j : Nat) (x : UInt8) : (bv r).toArray.setIfInBounds j (.int .u8 x.toNat) = (bv (r.set j x)).toArray := by
  apply Array.ext'
  simp [bv, List.map_set]
/-- The bytes of a hash, by its words. -/
theorem out_get (s : W8) (i : Nat) (h : i < 8) :
    (outB s).getD (4 * i) 0 = UInt8.ofNat ((s.l.getD i 0).toNat / 16777216 % 256) ∧ (outB s).getD (4 * i + 1) 0 = UInt8.ofNat ((s.l.getD i 0).toNat / 65536 % 256) ∧
    (outB s).getD (4 * i + 2) 0 = UInt8.ofNat ((s.l.getD i 0).toNat / 256 % 256) ∧ (outB s).getD (4 * i + 3) 0 = UInt8.ofNat ((s.l.getD i 0).toNat % 256) := by
  have e (x : UInt32) : be 4 x.toNat = [UInt8.ofNat (x.toNat / 16777216 % 256), UInt8.ofNat (x.toNat / 65536 % 256), UInt8.ofNat (x.toNat / 256 % 256), UInt8.ofNat (x.toNat % 256)] := by
    simp [be, Nat.div_div_eq_div_mul]
  have eo : outB s = be 4 s.a.toNat ++ (be 4 s.b.toNat ++ (be 4 s.c.toNat ++ (be 4 s.d.toNat ++ (be 4 s.e.toNat ++ (be 4 s.f.toNat ++ (be 4 s.g.toNat ++ (be 4 s.h.toNat ++ []))))))) := rfl
  rw [eo]
  simp only [e]
  match i, h with
  | 0, _ => exact ⟨rfl, rfl, rfl, rfl⟩
  | 1, _ => exact ⟨rfl, rfl, rfl, rfl⟩
  | 2, _ => exact ⟨rfl, rfl, rfl, rfl⟩
  | 3, _ => exact ⟨rfl, rfl, rfl, rfl⟩
  | 4, _ => exact ⟨rfl, rfl, rfl, rfl⟩
  | 5, _ => exact ⟨rfl, rfl, rfl, rfl⟩
  | 6, _ => exact ⟨rfl, rfl, rfl, rfl⟩
  | 7, _ => exact ⟨rfl, rfl, rfl, rfl⟩
theorem be8 (n : Nat) : be 8 n = [UInt8.ofNat (n / 72057594037927936 % 256), UInt8.ofNat (n / 281474976710656 % 256), UInt8.ofNat (n / 1099511627776 % 256), UInt8.ofNat (n / 4294967296 % 256), UInt8.ofNat (n / 16777216 % 256), UInt8.ofNat (n / 65536 % 256), UInt8.ofNat (n / 256 % 256), UInt8.ofNat (n % 256)] := by
  simp [be, Nat.div_div_eq_div_mul]
theorem u8_int (n : Nat) : ((UInt8.ofNat (n % 256)).toNat : Int) = (n : Int) % 256 := by
  rw [u8_nat _ (Nat.mod_lt _ (by omega))]; rfl
theorem stv_nil : (rowL begin0 (zs 64) 0).toArray = stv [] := rfl
theorem info32 : (Tryd.prog.info? 35).map (fun i => (i.zero, i.size)) = some (some (.agg (bv (zs 32)).toArray), 32) := by kernel_rfl
theorem hInfo (R : List UInt8) (h : R.length = 32) : (Tryd.prog.info? 35).map (·.size) = some (bv R).toArray.size := by
  rw [(zero_of_info info32).2, List.size_toArray, bv_length, h]
theorem hInfo' (R : List UInt8) (h : R.length = 32) : (Tryd.prog.info? 35).map (·.size) = some (bv R).length := by
  rw [(zero_of_info info32).2, bv_length, h]
end Go.Proofs.YtfibhmgjkooemaaDoor
namespace Go.Proofs.YtfibhmgjkooemaaDoor
open Go.RowKit Sha

theorem u64_and63 (n : Nat) (h : n < 18446744073709551616) : bits .and .u64 (n : Int) 63 = ((n % 64 : Nat) : Int) := by
  have := Go.u64_and_nat n 63 h (by omega)
  rw [Go.nat_mask6] at this
  exact this
/-- What may stand between two steps of a write: the text so far (whole blocks), the rest of it. -/
structure WI (w wr : World) (l b : List UInt8) (s : Value) (l2 b2 : List UInt8) : Prop where
  text : l2 ++ b2 = l ++ b
  whole : l2.length % 64 = 0
  rd : Rd w 1 s b2.length (bv b2)
  row : wr.heap[w.heap.size]? = some (.cells (rowL (hs l2 (l2.length / 64)) (zs 64) (l.length + b.length)).toArray 89 (0, 0))
  res : wr.heap[w.heap.size + 1]? = some (.cells (rowL begin0 (zs 64) 0).toArray 89 (0, 0))
  bl : Below w.heap.size w wr

set_option maxHeartbeats 4000000 in
set_option maxRecDepth 100000 in
theorem Write_any (l b : List UInt8) (v : Value) (w : World) (hl : l.length + b.length ≤ 4611686018427387904) (hr : Rd w 1 v b.length (bv b)) (hG : Tabs w) :
    Calls Tryd.prog 58 #[.agg (stv l), v] w fun e w' => e = .returned (.agg (stv (l ++ b))) ∧ Below w.heap.size w w' := by
  obtain ⟨a, c, rfl⟩ := hr.form
  have hz := (zero_of_info infoSt).1
  obtain ⟨p, hp⟩ : ∃ p, p = l.length % 64 := ⟨_, rfl⟩
  have hp64 : p < 64 := by omega
  have hand : bits .and .u64 (l.length : Int) 63 = (p : Int) := by rw [u64_and63 _ (by omega), hp]
  have HP := Lib.hid hp
  clear hp
  have hA : stv l = (rowL (hs l (l.length / 64)) (tail64 l) l.length).toArray := rfl
  have hsz : (stv l).size = 73 := stL_length l
  generalize stv l = A at *
  have HA := Lib.hid hA
  clear hA
  go_enter Tryd.func58, Tryd.ntmps58
  go_upto_region 1 with fail
  obtain ⟨w1, hw1⟩ : ∃ x : World, x = (w.alloc (.cells A 89)).alloc (.cells (rowL begin0 (zs 64) 0).toArray 89) := ⟨_, rfl⟩
  rw [← hw1]
  have hrow1 : w1.heap[w.heap.size]? = some (.cells (rowL (hs l (l.length / 64)) (tail64 l) l.length).toArray 89 (0, 0)) := by
    rw [hw1, ← HA.out, heap_alloc_old _ _ (by simp), heap_alloc_new]
  have hres1 : w1.heap[w.heap.size + 1]? = some (.cells (rowL begin0 (zs 64) 0).toArray 89 (0, 0)) := by
    rw [hw1]
    have h := heap_alloc_new (w.alloc (.cells A 89)) (.cells (rowL begin0 (zs 64) 0).toArray 89)
    simpa using h
  have hb1 : Below w.heap.size w w1 := by rw [hw1]; exact ((Below.refl _ _).alloc (Nat.le_refl _) _).alloc (by simp) _
  have hn1 : w1.cell? ⟨w.heap.size, 72, none⟩ = some (.int .u64 (l.length : Nat)) := by
    rw [cell_of_row _ _ _ _ _ _ hrow1, List.getElem?_toArray, rowL_n _ _ _ (tail64_length l)]
  have hf1 := frozen_of_row _ _ 72 _ _ hrow1
  have hadd : IntKind.u64.wrap ((l.length : Int) + (b.length : Int)) = ((l.length + b.length : Nat) : Int) := (IntWalk.u64_in _ (by omega)).trans (by omega)
  have H1 := Lib.hid (And.intro hrow1 (And.intro hres1 hb1))
  clear hrow1 hres1 hb1 hw1
  go_upto_region 3 with fail
  obtain ⟨w2, hw2⟩ : ∃ x : World, x = w1.setCell ⟨w.heap.size, 72, none⟩ (.int .u64 ((l.length : Int) + (b.length : Int))) := ⟨_, rfl⟩
  rw [← hw2]
  have hrow2 : w2.heap[w.heap.size]? = some (.cells (rowL (hs l (l.length / 64)) (tail64 l) (l.length + b.length)).toArray 89 (0, 0)) := by
    have := rowL_setN (hs l (l.length / 64)) (tail64 l) l.length (l.length + b.length) (tail64_length l)
    rw [hw2, heap_setCell_same _ _ _ _ _ _ H1.out.1, ← this]
    rfl
  have hres2 : w2.heap[w.heap.size + 1]? = some (.cells (rowL begin0 (zs 64) 0).toArray 89 (0, 0)) := by
    rw [hw2, heap_setCell_other _ _ _ _ (by simp)]; exact H1.out.2.1
  have hb2 : Below w.heap.size w w2 := by rw [hw2]; exact H1.out.2.2.setCell (p := ⟨_, _, none⟩) (Nat.le_refl _) _
  clear hw2 H1 hn1 hf1 hsz
  go_upto_if 19 with fail
  go_cut [1] (fun s1 wq => ∃ l2 b2, RowKit.Hid (WI w wq l b s1 l2 b2))
  case first =>
    by_cases hp0 : p = 0
    · obtain rfl : p = 0 := hp0
      have hpz : ¬ (0 : Int) < 0 := by omega
      have H2 := Lib.hid (And.intro hrow2 (And.intro hres2 hb2))
      clear hrow2 hres2 hb2
      go_wp2_with fail
      go_meet
      refine ⟨l, b, show WI _ _ _ _ _ _ _ from ⟨rfl, HP.out.symm, hr, ?_, H2.out.2.1, H2.out.2.2⟩⟩
      have := H2.out.1
      rwa [tail_whole l HP.out.symm] at this
    · have hpz : (0 : Int) < (p : Int) := by omega
      have hpz0 : (0 : Int) ≤ (p : Int) := by omega
      have hpz1 : (p : Int) < 64 := by omega
      have hpz2 : (p : Int) ≤ 64 := by omega
      obtain ⟨k, hk⟩ : ∃ k, k = Nat.min b.length (64 - p) := ⟨_, rfl⟩
      have hkl : k ≤ b.length ∧ k ≤ 64 - p := by rw [hk]; exact ⟨Nat.min_le_left _ _, Nat.min_le_right _ _⟩
      have hk2 : k = b.length ∨ k = 64 - p := by
        rcases Nat.le_total b.length (64 - p) with h | h
        · exact .inl (hk.trans (Nat.min_eq_left h))
        · exact .inr (hk.trans (Nat.min_eq_right h))
      obtain ⟨X, hX⟩ : ∃ X, X = bv (b.take k) := ⟨_, rfl⟩
      have hXl : X.length = k := by rw [hX, bv_length, List.length_take]; omega
      have hc1 : X.length = b.length.min (64 - p) := by rw [hXl, hk]
      have hc2 : Rd w2 1 (.slice a b.length c) b.length (X ++ bv (b.drop k)) := by
        rw [hX, ← bv_append, List.take_append_drop]; exact hr.keep hb2
      have hc3 : 8 + p + X.length ≤ (rowL (hs l (l.length / 64)) (tail64 l) (l.length + b.length)).length := by rw [rowL_length _ _ _ (tail64_length l), hXl]; omega
      have HC := Lib.hid (And.intro hc1 (And.intro hc2 hc3))
      have H2 := Lib.hid (And.intro hrow2 (And.intro hres2 hb2))
      have HX := Lib.hid hX
      clear hrow2 hres2 hb2 hX hk hc1 hc2 hc3
      have HR := Lib.hid hr
      have hcb : b.length ≤ c := by
        obtain ⟨_, _, ⟨hv, h0⟩ | ⟨ad, c', hv, hcc, _⟩⟩ := hr
        · omega
        · simp only [Value.slice.injEq, true_and] at hv; omega
      clear hr
      by_cases hlt : p + k < 64
      · have hltz : (p : Int) + (k : Int) < 64 := by omega
        go_upto_region 5 with (with_reducible show wpList _ _ _ (⟨some 24, _, _, _, _, _⟩ :: _) _ _; refine wpList_copy_grown rfl _ _ _ _ rfl _ Tryd.underlying25 (by kernel_rfl) _ _ _ _ _ _ rfl rfl w.heap.size (8 + p) _ _ H2.out.1 X _ HC.out.1 rfl HC.out.2.1 HC.out.2.2 ?_; intro w3 HG3 hg3)
        go_upto_region 7 with fail
        iterate 1
          obtain ⟨a2, ha2⟩ : ∃ a2, a2 = (if c = k then a else Option.map (fun x : Addr => x.add k) a) := ⟨_, rfl⟩
          rw [← ha2]
          have HA2 := Lib.hid ha2
          clear ha2
          have hrow3 : w3.heap[w.heap.size]? = some (.cells (stL (l ++ b)).toArray 89 (0, 0)) := by
            have h := HG3.out
            have hp := HP.out
            rw [HX.out, rowL_splice _ _ _ _ _ (by rw [tail64_length, List.length_take]; omega), List.take_of_length_le (by omega), hp, hs_early l b (by omega)] at h
            exact h
          have hres3 := (hg3.block _ (Array.getElem?_eq_some_iff.1 H2.out.2.1).1 (by simp)).trans H2.out.2.1
          have hb3 : Below w.heap.size w w3 := below_grow H2.out.2.2 hg3 (Nat.le_refl _) (Array.getElem?_eq_some_iff.1 H2.out.1).1
          have H3 := Lib.hid (And.intro hrow3 (And.intro hres3 hb3))
          clear hrow3 hres3 hb3 HG3 hg3
          go_wp2_with (first
  | (with_reducible show wpList _ _ _ (⟨some 32, _, _, _, _, _⟩ :: _) _ _; refine wpList_load_row rfl _ _ rfl w.heap.size rfl _ _ (0, 0) _ H3.out.1 Tryd.underlying89 rfl (stInfo _ (stL_length (l ++ b))) ?_)
  | (with_reducible show wpList _ _ _ (⟨none, Op.store _ _ _, _, _, _, _⟩ :: _) _ _; refine wpList_store_splice rfl _ _ _ rfl (w.heap.size + 1) 0 _ rfl rfl _ _ H3.out.2.1 (stInfo' _ (stL_length (l ++ b))) (by rw [stL_length, rowL_length _ _ _ (by simp [zs])]; omega) (stL_one _) ?_; intro w9 HG9 hg9))
          all_goals
            have hend : w9.heap[w.heap.size + 1]? = some (.cells (stv (l ++ b)) 89 (0, 0)) := by have h := HG9.out; rw [splice_all _ _ (by rw [stL_length, rowL_length _ _ _ (by simp [zs])])] at h; exact h
            refine bodyPost_ret (v := .agg (stv (l ++ b))) ?_ ?_ ?_
            · exact results_cell_row Tryd.results58 _ _ (w.heap.size + 1) 89 (stv (l ++ b)) (0, 0) _ rfl hend Tryd.underlying89 rfl (stInfo _ (stL_length (l ++ b)))
            · rfl
            · exact ⟨rfl, below_grow H3.out.2.2 hg9 (by omega) (Array.getElem?_eq_some_iff.1 H3.out.2.1).1⟩
      · have hltz : ¬ (p : Int) + (k : Int) < 64 := by omega
        have HK := Lib.hid (show k = 64 - p by omega)
        clear hk2 hlt hltz
        go_upto_region 5 with (with_reducible show wpList _ _ _ (⟨some 24, _, _, _, _, _⟩ :: _) _ _; refine wpList_copy_grown rfl _ _ _ _ rfl _ Tryd.underlying25 (by kernel_rfl) _ _ _ _ _ _ rfl rfl w.heap.size (8 + p) _ _ H2.out.1 X _ HC.out.1 rfl HC.out.2.1 HC.out.2.2 ?_; intro w3 HG3 hg3)
        have HK2 := HK.out
        have hltd : decide ((p : Int) + (k : Int) < 64) = false := decide_eq_false (by omega)
        clear HK2
        go_upto_region 8 with fail
        iterate 1
          obtain ⟨a2, ha2⟩ : ∃ a2, a2 = (if c = k then a else Option.map (fun x : Addr => x.add k) a) := ⟨_, rfl⟩
          rw [← ha2]
          have HA2 := Lib.hid ha2
          clear ha2
          have hk64 := HK.out
          have hlen : (b.take k).length = 64 - p := by rw [List.length_take]; omega
          have hrow3 : w3.heap[w.heap.size]? = some (.cells (rowL (hs l (l.length / 64)) (splice (tail64 l) p (b.take k)) (l.length + b.length)).toArray 89 (0, 0)) := by
            have h := HG3.out
            rw [HX.out, rowL_splice _ _ _ _ _ (by rw [tail64_length, hlen]; omega)] at h
            exact h
          have hsl : (splice (tail64 l) p (b.take k)).length = 64 := by rw [length_splice _ _ _ (by rw [tail64_length, hlen]; omega), tail64_length]
          have hfill := hs_fill l (b.take k) (by have := HP.out; omega)
          rw [← HP.out] at hfill
          have hres3 := (hg3.block _ (Array.getElem?_eq_some_iff.1 H2.out.2.1).1 (by simp)).trans H2.out.2.1
          have hb3 : Below w.heap.size w w3 := below_grow H2.out.2.2 hg3 (Nat.le_refl _) (Array.getElem?_eq_some_iff.1 H2.out.1).1
          generalize splice (tail64 l) p (b.take k) = y at *
          have hmix := mix_any w.heap.size w.heap.size 8 64 64 (hs l (l.length / 64)) y (bv y ++ [Value.int .u64 (l.length + b.length : Nat)]).toArray 89 w3 hsl (Nat.le_refl _) (Nat.le_refl _) (by rw [← rowL_arr]; exact hrow3)
            (fun j x hx => by rw [cell_of_row _ _ _ _ _ _ hrow3, List.getElem?_toArray, rowL_r _ _ _ _ _ hx]) (hG.keepB hb3)
          rw [hfill.1, ← rowL_arr] at hmix
          have H3 := Lib.hid (And.intro hres3 (And.intro hb3 (And.intro hfill (And.intro hsl (And.intro hrow3 hlen)))))
          have HM := Lib.hid hmix
          clear hres3 hb3 hfill hsl hrow3 hlen hmix HG3 hg3 hk64
          go_wp2_with fail
          refine HM.out.mono ?_
          rintro e w4 ⟨rfl, hrow4, hg4⟩
          have hres4 := (hg4.block _ (Array.getElem?_eq_some_iff.1 H3.out.1).1 (by simp)).trans H3.out.1
          have hb4 : Below w.heap.size w w4 := below_grow H3.out.2.1 hg4 (Nat.le_refl _) (Array.getElem?_eq_some_iff.1 H3.out.2.2.2.2.1).1
          have H4 := Lib.hid (And.intro hrow4 (And.intro hres4 hb4))
          clear hrow4 hres4 hb4 hg4 HM
          go_wp2_with (with_reducible show wpList _ _ _ (⟨none, Op.store _ _ _, _, _, _, _⟩ :: _) _ _; refine wpList_store_splice rfl _ _ _ rfl w.heap.size 8 (bv (zs 64)) rfl rfl _ _ H4.out.1 (by kernel_rfl) (by rw [rowL_length _ _ _ H3.out.2.2.2.1]; simp [bv_length, zs]) (bv_one _) ?_; intro w5 HG5 hg5)
          go_meet
          have h := HG5.out
          rw [show (8 : Nat) = 8 + 0 from rfl, rowL_splice _ _ _ _ 0 (by simp [zs, H3.out.2.2.2.1]), splice_all _ _ (by simp [zs, H3.out.2.2.2.1])] at h
          exact ⟨l ++ b.take k, b.drop k, show WI _ _ _ _ _ _ _ from ⟨by simp, H3.out.2.2.1.2, (by
            rw [HA2.out]
            have := HR.out.cut k hkl.1
            simpa [bv] using this), h, (hg5.block _ (Array.getElem?_eq_some_iff.1 H4.out.2.1).1 (by simp)).trans H4.out.2.1,
            below_grow H4.out.2.2 hg5 (Nat.le_refl _) (Array.getElem?_eq_some_iff.1 H4.out.1).1⟩⟩
  case rest =>
    clear hr
    go_wp2_with fail
    go_loopw [1] (fun s1 wr => ∃ l2 b2, RowKit.Hid (WI w wr l b s1 l2 b2)) (fun v _ => match v with | .slice _ n _ => n | _ => 0)
    case atStart => exact hcut
    case round =>
      clear hcut
      obtain ⟨l2, b2, HW⟩ := hrel
      obtain ⟨a2, c2, rfl⟩ := HW.out.rd.form
      by_cases hge : 64 ≤ b2.length
      · have hd : decide ((64 : Int) ≤ (b2.length : Int)) = true := decide_eq_true (by omega)
        obtain ⟨bb, off, c', hv, hcp, hcell⟩ := (HW.out.rd.keep HW.out.bl).at (by omega)
        simp only [Value.slice.injEq, true_and] at hv
        obtain ⟨rfl, rfl⟩ := hv
        have hx64 : (b2.take 64).length = 64 := by rw [List.length_take]; omega
        have hnext := hs_next l2 (b2.take 64) HW.out.whole hx64
        have hmix := mix_any w.heap.size bb off b2.length c2 (hs l2 (l2.length / 64)) (b2.take 64) (bv (zs 64) ++ [Value.int .u64 (l.length + b.length : Nat)]).toArray 89 wr hx64 hge hcp (by rw [← rowL_arr]; exact HW.out.row)
            (fun j x hx => hcell j _ (by
              have hj := (List.getElem?_eq_some_iff.1 hx).1
              rw [List.getElem?_take_of_lt (by omega)] at hx
              simp [bv, hx])) (hG.keepB HW.out.bl)
        rw [hnext.1, ← rowL_arr] at hmix
        have HM := Lib.hid (And.intro hmix (And.intro hnext.2 (And.intro hx64 hge)))
        clear hmix hnext hx64 hcell hge
        go_wp2_with fail
        refine HM.out.1.mono ?_
        rintro e w4 ⟨rfl, hrow4, hg4⟩
        have hWI : ∀ v2, Rd w 1 v2 (b2.drop 64).length (bv (b2.drop 64)) → WI w w4 l b v2 (l2 ++ b2.take 64) (b2.drop 64) := fun v2 h2 =>
          ⟨by rw [List.append_assoc, List.take_append_drop]; exact HW.out.text, HM.out.2.1, h2, hrow4, (hg4.block _ (Array.getElem?_eq_some_iff.1 HW.out.res).1 (by simp)).trans HW.out.res,
            below_grow HW.out.bl hg4 (Nat.le_refl _) (Array.getElem?_eq_some_iff.1 HW.out.row).1⟩
        have hge := HM.out.2.2.2
        have hcut := HW.out.rd.cut 64 hge
        have hmeas : b2.length - 64 < b2.length := by omega
        have HE := Lib.hid (And.intro hWI (And.intro hcut hmeas))
        have hgz : (64 : Int) ≤ (b2.length : Int) := by omega
        have hgc : (64 : Int) ≤ (c2 : Int) := by omega
        clear hge hWI hcut hrow4 hg4 hmeas HM
        by_cases hc64 : c2 = 64
        · go_wp2_with fail
          go_roundw
          case rel => exact ⟨_, _, HE.out.1 _ (by have := HE.out.2.1; rw [if_pos hc64, hc64] at this; simpa [bv] using this)⟩
          case measure => exact HE.out.2.2
        · go_wp2_with fail
          go_roundw
          case rel => exact ⟨_, _, HE.out.1 _ (by have := HE.out.2.1; rw [if_neg hc64] at this; simpa [bv, Addr.add_lit] using this)⟩
          case measure => exact HE.out.2.2
      · have hd : decide ((64 : Int) ≤ (b2.length : Int)) = false := decide_eq_false (by omega)
        have hlt : b2.length < 64 := by omega
        have hfin := hs_end l2 b2 HW.out.whole hlt
        have hlen : l2.length + b2.length = l.length + b.length := by have := congrArg List.length HW.out.text; simpa using this
        rw [HW.out.text, hlen] at hfin
        have hc1 : (bv b2).length = b2.length.min 64 := by rw [bv_length]; exact (Nat.min_eq_left (by omega)).symm
        have hc2 : Rd wr 1 (.slice a2 b2.length c2) b2.length (bv b2 ++ []) := by rw [List.append_nil]; exact HW.out.rd.keep HW.out.bl
        have hc3 : 8 + (bv b2).length ≤ (rowL (hs l2 (l2.length / 64)) (zs 64) (l.length + b.length)).length := by rw [rowL_length _ _ _ (by simp [zs]), bv_length]; omega
        have hlz : splice (rowL (hs l2 (l2.length / 64)) (zs 64) (l.length + b.length)) 8 (bv b2) = stL (l ++ b) := by
          have := rowL_splice (hs l2 (l2.length / 64)) (zs 64) b2 (l.length + b.length) 0 (by simp [zs]; omega)
          rw [Nat.add_zero] at this
          rw [this, hfin]
        have HC := Lib.hid (And.intro hc1 (And.intro hc2 (And.intro hc3 (And.intro hfin hlz))))
        obtain ⟨X, hX⟩ : ∃ X, X = bv b2 := ⟨_, rfl⟩
        rw [← hX] at HC
        have HX := Lib.hid hX
        clear hc1 hc2 hc3 hfin hlen hge hlt hlz hX
        go_wp2_with (first
          | (with_reducible show wpList _ _ _ (⟨some 48, _, _, _, _, _⟩ :: _) _ _; refine wpList_copy_grown rfl _ _ _ _ rfl _ Tryd.underlying25 (by kernel_rfl) _ _ _ _ _ _ rfl rfl w.heap.size 8 _ _ HW.out.row X _ HC.out.1 rfl HC.out.2.1 HC.out.2.2.1 ?_; intro w3 HG3 hg3)
          | (with_reducible show wpList _ _ _ (⟨some 49, _, _, _, _, _⟩ :: _) _ _; refine wpList_load_row rfl _ _ rfl w.heap.size rfl _ _ (0, 0) _ HG3.out Tryd.underlying89 rfl (stInfo _ (by rw [HC.out.2.2.2.2]; exact stL_length _)) ?_)
          | (with_reducible show wpList _ _ _ (⟨none, Op.store _ _ _, _, _, _, _⟩ :: _) _ _; refine wpList_store_splice rfl _ _ _ rfl (w.heap.size + 1) 0 _ rfl rfl _ _ ((hg3.block _ (Array.getElem?_eq_some_iff.1 HW.out.res).1 (by simp)).trans HW.out.res) (stInfo' _ (by rw [HC.out.2.2.2.2]; exact stL_length _)) (by rw [HC.out.2.2.2.2, stL_length, rowL_length _ _ _ (by simp [zs])]; omega) (by rw [HC.out.2.2.2.2]; exact stL_one _) ?_; intro w9 HG9 hg9))
        have hend : w9.heap[w.heap.size + 1]? = some (.cells (stv (l ++ b)) 89 (0, 0)) := by have h := HG9.out; rw [HC.out.2.2.2.2, splice_all _ _ (by rw [stL_length, rowL_length _ _ _ (by simp [zs])])] at h; exact h
        refine bodyPost_ret (v := .agg (stv (l ++ b))) ?_ ?_ ?_
        · exact results_cell_row Tryd.results58 _ _ (w.heap.size + 1) 89 (stv (l ++ b)) (0, 0) _ rfl hend Tryd.underlying89 rfl (stInfo _ (stL_length (l ++ b)))
        · rfl
        · exact ⟨rfl, below_grow (below_grow HW.out.bl hg3 (Nat.le_refl _) (Array.getElem?_eq_some_iff.1 HW.out.row).1) hg9 (by omega) (Nat.lt_of_lt_of_le (Array.getElem?_eq_some_iff.1 HW.out.res).1 hg3.size)⟩
end Go.Proofs.YtfibhmgjkooemaaDoor
