/- Rows of cells by value: laws of the walk; the row of a hash's state. -/
import Derived.Test.YtdjmebfjanophaaDoorShaM
import Derived.Test.YtdjmebfjanophaaDoorShaD
import Derived.Laws.CopyOwn
import Derived.Deep.WholeRow
import Derived.Deep.MidRow
namespace Go.Proofs.YtdjmebfjanophaaDoor
open Go.RowKit Sha

theorem grown_setRow (w : World) (g : Nat) (cs : Array Value) : w.grownBy (w.setRow g cs) (some g) :=
  ⟨rfl, rfl, rfl, by simp, fun k _ hk => setRow_other w g k cs (fun e => hk (by rw [e]))⟩
theorem below_grow {B g : Nat} {w0 w w' : World} (hb : Below B w0 w) (h : w.grownBy w' (some g)) (hg : B ≤ g) (hgl : g < w.heap.size) : Below B w0 w' :=
  hb.trans ⟨h.os, h.tape, h.output, h.size, fun k hk => h.block k (by omega) (fun e => by simp at e; omega)⟩

/-- A value of many cells goes into the middle of a row that is known whole. -/
theorem wpList_store_splice {P : Program} {ops : Array Oper} {rest : List Oper} {op : Oper} {a : Act} {w : World} {Q : Exit → Act → World → Prop} (hgd : op.guard = none) (ty : TypeId) (x y : Operand) (ho : op.op = .store ty x y)
    (g o : Nat) (cs : List Value) (hx : a.eval x = .pointer (some ⟨g, o, none⟩)) (hy : a.eval y = .agg cs.toArray)
    (cur : List Value) (t : TypeId) (hg : w.heap[g]? = some (.cells cur.toArray t (0, 0))) (hi : (P.info? ty).map (·.size) = some cs.length) (hfit : o + cs.length ≤ cur.length) (h1 : ∀ v ∈ cs, v.oneCell' = true)
    (h : ∀ w', Hid (w'.heap[g]? = some (.cells (splice cur o cs).toArray t (0, 0))) → w.grownBy w' (some g) → wpList P ops Q rest (a.put op.dst undef) w') : wpList P ops Q (op :: rest) a w := by
  refine wpList_plain hgd fun K hK => ?_
  have hst := run_storeCells_at P g o t cs 0 cur.toArray w hg (by simpa using hfit) h1
  have hrun : (storeVar ty ⟨g, o, none⟩ (.agg cs.toArray)).run P w = .ok () (w.setRow g (splice cur o cs).toArray) := by
    cases hq : P.info? ty with
    | none => simp [hq] at hi
    | some i =>
      have hs : cs.length = i.size := by simp [hq] at hi; omega
      simp only [Nat.add_zero] at hst
      simp [storeVar, sizeOf, typeInfo, hq, Value.cells, hs, hst, splice]
  unfold Oper.wp execOp
  simp only [ho, hx, hy, Instr.storeAt, Instr.sureAddr, Sem.run_bind, Sem.run_pure, Result.andThen_ok, hrun]
  exact hK _ _ (h _ (setRow_heap w g _ _ t _ hg) (grown_setRow w g _))

/-- The kit's copy into a known row, and what it leaves alone. -/
theorem wpList_copy_grown {P : Program} {w : World} {ops : Array Oper} {rest : List Oper} {o : Oper} {a : Act} {Q : Exit → Act → World → Prop} (hgd : o.guard = none) (d s : Operand) (dT sT : TypeId)
    (ho : o.op = .call { callee := .builtin .copy, args := #[d, s], argTypes := #[dT, sT] }) (elem : TypeId) (hu : P.underlying dT = some (.slice elem)) (hsz : (P.info? elem).map (·.size) = some 1)
    (dp sp : Option Addr) (dLen dCap sLen sCap : Nat) (hd : a.eval d = .slice dp dLen dCap) (hs : a.eval s = .slice sp sLen sCap)
    (g off : Nat) (cur : List Value) (t : TypeId) (hg : w.heap[g]? = some (.cells cur.toArray t (0, 0))) (cs zs' : List Value) (hn : cs.length = Nat.min sLen dLen)
    (hdp : dp = some ⟨g, off, none⟩) (hr : Rd w 1 (.slice sp sLen sCap) sLen (cs ++ zs'))
    (hfit : off + cs.length ≤ cur.length)
    (h : ∀ w', Hid (w'.heap[g]? = some (.cells (splice cur off cs).toArray t (0, 0))) → w.grownBy w' (some g) → wpList P ops Q rest (a.put o.dst (goInt cs.length)) w') :
    wpList P ops Q (o :: rest) a w := by
  by_cases h0 : cs.length = 0
  · obtain rfl : cs = [] := List.eq_nil_of_length_eq_zero h0
    refine wpList_copy_nothing hgd d s dT sT ho elem hu hsz dp sp dLen dCap sLen sCap hd hs (by simpa using hn.symm) ?_
    exact h w (show _ = _ by simpa [splice] using hg) (World.grownBy.refl _ _)
  · obtain ⟨hl, h1, ⟨hv, hz⟩ | ⟨ad, c', hv, hc, hcell⟩⟩ := hr
    · simp at hl
      exfalso
      have : cs.length ≤ 0 := by omega
      omega
    · simp only [Value.slice.injEq] at hv
      obtain ⟨rfl, _, rfl⟩ := hv
      subst hdp
      refine wpList_copy_own hgd d s dT sT ho elem hu hsz g off dLen dCap ad sLen sCap hd hs cur.toArray t hg cs hn (fun j x hx => hcell j x ?_) (by simpa using hfit) (fun x hx => h1 x (List.mem_append_left _ hx)) ?_
      · rw [List.getElem?_append_left (List.getElem?_eq_some_iff.1 hx).1]; exact hx
      · exact h _ (show _ = _ by simpa [splice] using setRow_heap w g _ _ t _ hg) (grown_setRow w g _)

/-- A slice cut in front. -/
theorem Rd.cut {w : World} {a : Option Addr} {n c : Nat} {xs : List Value} (h : Rd w 1 (.slice a n c) n xs) (k : Nat) (hk : k ≤ n) :
    Rd w 1 (.slice (if c = k then a else Option.map (fun x => x.add k) a) (n - k) (c - k)) (n - k) (xs.drop k) := by
  obtain ⟨hl, h1, ⟨hv, h0⟩ | ⟨ad, c', hv, hc, hcell⟩⟩ := h
  · simp only [Value.slice.injEq] at hv
    obtain ⟨rfl, rfl, rfl⟩ := hv
    obtain rfl : k = 0 := by omega
    exact ⟨by simpa using hl, fun u hu => h1 u (List.mem_of_mem_drop hu), .inl ⟨by simp, rfl⟩⟩
  · simp only [Value.slice.injEq, true_and] at hv
    obtain ⟨rfl, rfl⟩ := hv
    refine ⟨by simp; omega, fun u hu => h1 u (List.mem_of_mem_drop hu), .inr ⟨if c = k then ad else ad.add k, c - k, by split <;> rfl, by omega, fun j u hu => ?_⟩⟩
    rw [List.getElem?_drop] at hu
    have hj := (List.getElem?_eq_some_iff.1 hu).1
    rw [if_neg (by omega)]
    have := hcell _ _ hu
    rwa [← Addr.add_add] at this

/-- What is left behind the whole blocks, with zeros behind it. -/
def tail64 (l : List UInt8) : List UInt8 := l.drop (64 * (l.length / 64)) ++ zs (64 - l.length % 64)
theorem tail64_length (l : List UInt8) : (tail64 l).length = 64 := by simp [tail64, zs]; omega
/-- The row of a state. -/
def rowL (s : W8) (r : List UInt8) (n : Nat) : List Value := (ws (off8 s) 8).toList ++ (bv r ++ [.int .u64 n])
theorem rowL_length (s : W8) (r : List UInt8) (n : Nat) (h : r.length = 64) : (rowL s r n).length = 73 := by simp [rowL, ws_size, bv_length, h]
theorem rowL_one (s : W8) (r : List UInt8) (n : Nat) : ∀ u ∈ rowL s r n, u.oneCell' = true := by
  intro x hx
  simp only [rowL, List.mem_append, ws, List.mem_map, List.mem_singleton] at hx
  rcases hx with ⟨_, _, rfl⟩ | hx | rfl
  · rfl
  · exact bv_one _ _ hx
  · rfl
theorem rowL_arr (s : W8) (r : List UInt8) (n : Nat) : (rowL s r n).toArray = ws (off8 s) 8 ++ (bv r ++ [Value.int .u64 n]).toArray := by simp [rowL]
theorem rowL_n (s : W8) (r : List UInt8) (n : Nat) (h : r.length = 64) : (rowL s r n)[72]? = some (.int .u64 n) := by
  unfold rowL
  rw [List.getElem?_append_right (by simp [ws_size]), List.getElem?_append_right (by simp [ws_size, bv_length, h])]
  simp [ws_size, bv_length, h]
theorem rowL_r (s : W8) (r : List UInt8) (n j : Nat) (x : UInt8) (hx : r[j]? = some x) : (rowL s r n)[8 + j]? = some (.int .u8 x.toNat) := by
  have hj := (List.getElem?_eq_some_iff.1 hx).1
  unfold rowL
  rw [List.getElem?_append_right (by simp [ws_size]), List.getElem?_append_left (by simp [ws_size, bv_length]; omega)]
  simp [ws_size, bv, hx]
theorem rowL_w (s : W8) (r : List UInt8) (n j : Nat) (hj : j < 8) : (rowL s r n)[j]? = some (u (off8 s j)) := by
  unfold rowL
  rw [List.getElem?_append_left (by simp [ws_size]; omega)]
  simpa using ws_get (off8 s) 8 j hj
theorem rowL_setN (s : W8) (r : List UInt8) (n m : Nat) (h : r.length = 64) : (rowL s r n).toArray.setIfInBounds 72 (.int .u64 m) = (rowL s r m).toArray := by
  apply Array.ext'
  simp only [Array.toList_setIfInBounds, rowL]
  rw [List.set_append_right _ _ (by simp [ws_size]), List.set_append_right _ _ (by simp [ws_size, bv_length, h])]
  simp [ws_size, bv_length, h]
theorem rowL_setR (s : W8) (r : List UInt8) (n j : Nat) (x : UInt8) (h : j < r.length) : (rowL s r n).toArray.setIfInBounds (8 + j) (.int .u8 x.toNat) = (rowL s (r.set j x) n).toArray := by
  apply Array.ext'
  simp only [Array.toList_setIfInBounds, rowL]
  rw [List.set_append_right _ _ (by simp [ws_size]), List.set_append_left _ _ (by simp [ws_size, bv_length]; omega)]
  simp [ws_size, bv, List.map_set]
theorem rowL_splice (s : W8) (r x : List UInt8) (n j : Nat) (h : j + x.length ≤ r.length) : splice (rowL s r n) (8 + j) (bv x) = rowL s (splice r j x) n := by
  have h8 : (ws (off8 s) 8).toList.length = 8 := by simp [ws_size]
  unfold splice rowL
  rw [List.take_append, List.take_of_length_le (by omega), List.drop_append, List.drop_of_length_le (by simp [bv_length, h8]; omega), h8]
  simp only [bv_length, List.nil_append, List.append_assoc]
  rw [show 8 + j - 8 = j by omega, show 8 + j + x.length - 8 = j + x.length by omega, List.take_append_of_le_length (by simp [bv_length]; omega), List.drop_append_of_le_length (by simp [bv_length]; omega)]
  simp [bv, List.map_take, List.map_drop]
/-- The value of the state behind a text. -/
def stL (l : List UInt8) : List Value := rowL (hs l (l.length / 64)) (tail64 l) l.length
def stv (l : List UInt8) : Array Value := (stL l).toArray
theorem stL_length (l : List UInt8) : (stL l).length = 73 := rowL_length _ _ _ (tail64_length l)
theorem stL_one (l : List UInt8) : ∀ u ∈ stL l, u.oneCell' = true := rowL_one _ _ _
theorem infoSt : (Tryd.prog.info? 67).map (fun i => (i.zero, i.size)) = some (some (.agg (rowL begin0 (zs 64) 0).toArray), 73) := by kernel_rfl
theorem info64 : (Tryd.prog.info? 65).map (fun i => (i.zero, i.size)) = some (some (.agg (bv (zs 64)).toArray), 64) := by kernel_rfl
theorem stInfo (R : List Value) (h : R.length = 73) : (Tryd.prog.info? 67).map (·.size) = some R.toArray.size := by
  rw [(zero_of_info infoSt).2, List.size_toArray, h]
theorem stInfo' (R : List Value) (h : R.length = 73) : (Tryd.prog.info? 67).map (·.size) = some R.length := by
  rw [(zero_of_info infoSt).2, h]
theorem splice_all {α : Type} (cur cs : List α) (h : cs.length = cur.length) : splice cur 0 cs = cs := by
  unfold splice
  rw [List.drop_of_length_le (by omega)]; simp
theorem drop_len (l : List UInt8) : (l.drop (64 * (l.length / 64))).length = l.length % 64 := by simp; omega
theorem splice_tail (l b : List UInt8) (_h : l.length % 64 + b.length ≤ 64) : splice (tail64 l) (l.length % 64) b = l.drop (64 * (l.length / 64)) ++ b ++ zs (64 - l.length % 64 - b.length) := by
  have hd := drop_len l
  unfold splice tail64
  generalize l.drop (64 * (l.length / 64)) = d at *
  rw [List.take_left' hd, List.drop_append, List.drop_of_length_le (by omega), hd]
  simp [zs]
theorem hs_early (l b : List UInt8) (h : l.length % 64 + b.length < 64) : rowL (hs l (l.length / 64)) (splice (tail64 l) (l.length % 64) b) (l.length + b.length) = stL (l ++ b) := by
  have e1 : (l ++ b).length / 64 = l.length / 64 := by simp; omega
  have e2 : (l ++ b).length % 64 = l.length % 64 + b.length := by simp; omega
  rw [splice_tail l b (by omega)]
  unfold stL tail64
  rw [e1, e2, hs_append _ _ _ (by omega), List.drop_append_of_le_length (by omega), List.length_append, Nat.sub_sub]
theorem hs_fill (l x : List UInt8) (h : l.length % 64 + x.length = 64) : blk (hs l (l.length / 64)) (splice (tail64 l) (l.length % 64) x) = hs (l ++ x) ((l ++ x).length / 64) ∧ (l ++ x).length % 64 = 0 := by
  have hd := drop_len l
  have e1 : (l ++ x).length / 64 = l.length / 64 + 1 := by simp; omega
  refine ⟨?_, by simp; omega⟩
  rw [splice_tail l x (by omega), e1, hs, hs_append _ _ _ (by omega), List.drop_append_of_le_length (by omega), List.take_of_length_le (by simp; omega), show 64 - l.length % 64 - x.length = 0 by omega]
  simp [zs]
theorem tail_whole (l : List UInt8) (h : l.length % 64 = 0) : tail64 l = zs 64 := by
  have hd := drop_len l
  unfold tail64
  rw [List.eq_nil_of_length_eq_zero (hd.trans h), h]; rfl
theorem hs_next (l x : List UInt8) (h : l.length % 64 = 0) (hx : x.length = 64) : blk (hs l (l.length / 64)) x = hs (l ++ x) ((l ++ x).length / 64) ∧ (l ++ x).length % 64 = 0 := by
  have := hs_fill l x (by omega)
  rw [tail_whole l h, h, splice_all _ _ (by simp [zs, hx])] at this
  exact this
theorem hs_end (l b : List UInt8) (h : l.length % 64 = 0) (hb : b.length < 64) : rowL (hs l (l.length / 64)) (splice (zs 64) 0 b) (l.length + b.length) = stL (l ++ b) := by
  have := hs_early l b (by omega)
  rw [tail_whole l h, h] at this
  exact this
end Go.Proofs.YtdjmebfjanophaaDoor
