/- The law ShaStates. (printed by gen/shastates.py) -/
import Derived.Test.YtkcnakijfmemlaaDoorShaStL
import Derived.Test.YtkcnakijfmemlaaDoorReg
import Derived.Lib.SlBytesConst
namespace Go.Proofs.YtkcnakijfmemlaaDoor
open Go.ChangeShapes Go.WideShapes Go.ChangeAt Go.RowKit Sha

theorem infoSt3 : (Tryd.prog.info? 38).map (fun i => (i.zero, i.size, i.bytes)) = some (some (.agg (stL []).toArray), 73, 104) := by kernel_rfl
theorem infoStr : (Tryd.prog.info? 9).map (fun i => (i.zero, i.size, i.bytes)) = some (some (.string ⟨#[]⟩), 1, 16) := by kernel_rfl
/-- One step of the script. -/
structure OpE where
  frm : Int
  val : Value
  txt : List UInt8
def OpE.cells (o : OpE) : List Value := [.int .i64 o.frm, o.val]
structure OpE.ok (w : World) (o : OpE) : Prop where
  lo : -9223372036854775808 ≤ o.frm
  hi : o.frm ≤ 9223372036854775807
  rd : Rd w 1 o.val o.txt.length (bv o.txt)
  len : o.txt.length ≤ 1048576
theorem flat_len {α : Type} (f : α → List Value) (s : Nat) (hf : ∀ a, (f a).length = s) : ∀ l : List α, (l.flatMap f).length = l.length * s
  | [] => by simp
  | a :: l => by rw [List.flatMap_cons, List.length_append, hf, flat_len f s hf l, List.length_cons, Nat.add_mul]; omega
theorem flat_at {α : Type} (f : α → List Value) (s : Nat) (hf : ∀ a, (f a).length = s) : ∀ (l : List α) (k j : Nat) (a : α), l[k]? = some a → j < s → (l.flatMap f)[k * s + j]? = (f a)[j]?
  | [], k, j, a, h, _ => by simp at h
  | b :: l, 0, j, a, h, hj => by
    obtain rfl : b = a := by simpa using h
    rw [List.flatMap_cons, Nat.zero_mul, Nat.zero_add, List.getElem?_append_left (by rw [hf]; exact hj)]
  | b :: l, k + 1, j, a, h, hj => by
    rw [List.flatMap_cons, List.getElem?_append_right (by rw [hf, Nat.add_mul]; omega), hf, show (k + 1) * s + j - s = k * s + j by rw [Nat.add_mul]; omega]
    exact flat_at f s hf l k j a (by simpa using h) hj
def strv (t : List UInt8) : Value := .string ⟨t.toArray⟩
theorem strv_one (l : List (List UInt8)) : ∀ u ∈ l.map strv, u.oneCell' = true := by
  intro u hu
  obtain ⟨t, _, rfl⟩ := List.mem_map.1 hu
  rfl
theorem sts_one (l : List (List UInt8)) : ∀ u ∈ l.flatMap stL, u.oneCell' = true := by
  intro u hu
  obtain ⟨t, _, h⟩ := List.mem_flatMap.1 hu
  exact stL_one t u h

theorem Rd.atN {w : World} {size : Nat} {v : Value} {n : Nat} {xs : List Value} (h : Rd w size v n xs) (h0 : 0 < n) (hs : 0 < size) :
    ∃ b off c, v = .slice (some ⟨b, off, none⟩) n c ∧ n ≤ c ∧ ∀ j u, xs[j]? = some u → w.cell? ⟨b, off + j, none⟩ = some u := by
  obtain ⟨hl, h1, ⟨_, h2⟩ | ⟨ad, c, hv, hc, hcell⟩⟩ := h
  · omega
  · obtain ⟨b, off, spot⟩ := ad
    have hpos : 0 < xs.length := by rw [hl]; exact Nat.mul_pos h0 hs
    have h3 := hcell 0 xs[0] (by simp)
    have hspot : spot = none := by
      have := World.cell?_spot h3
      simpa [Addr.add] using this
    subst hspot
    refine ⟨b, off, c, hv, hc, fun j u hu => ?_⟩
    have := hcell j u hu
    rwa [Addr.add_lit] at this
/-- The world between two steps. -/
structure SS (w wr : World) (B : Nat) (s3 s4 : Value) (ts : List (List UInt8)) : Prop where
  st : wr.ownsRow B 38 73 s3 ts.length (ts.flatMap stL)
  tx : wr.ownsRow B 9 1 s4 ts.length (ts.map strv)
  ap : ∀ j, s3.ownBlock = some j → s4.ownBlock ≠ some j
  bl : Below w.heap.size w wr
  bB : w.heap.size ≤ B
  Bl : B ≤ wr.heap.size

theorem SS.keep {w wx wy : World} {B : Nat} {s3 s4 : Value} {ts : List (List UInt8)} (h : SS w wx B s3 s4 ts) (k : Below wx.heap.size wx wy) : SS w wy B s3 s4 ts :=
  ⟨own_keep h.st k, own_keep h.tx k, h.ap, h.bl.trans (k.mono h.bl.size), h.bB, Nat.le_trans h.Bl k.size⟩
theorem ss_range {w wx : World} {B g3 n cap : Nat} {s4 : Value} {ts : List (List UInt8)} (h : SS w wx B (.slice (some ⟨g3, 0, none⟩) n cap) s4 ts) {k : Nat} {t : List UInt8} (ht : ts[k]? = some t) : wx.rangeAt g3 (k * 73) (stL t) := fun j x hx => by
  have hj : j < 73 := by have := (List.getElem?_eq_some_iff.1 hx).1; rwa [stL_length] at this
  have hk := (List.getElem?_eq_some_iff.1 ht).1
  have hst := h.st
  obtain ⟨g, c, hv, _⟩ := own_at hst (by omega)
  simp only [Value.slice.injEq] at hv
  have hn := hv.2.1
  subst hn
  rw [hst.cellAt _ (by omega), flat_at stL 73 stL_length ts k j t ht hj]
  exact hx
theorem ss_text {w wx : World} {B g4 n cap : Nat} {s3 : Value} {ts : List (List UInt8)} (h : SS w wx B s3 (.slice (some ⟨g4, 0, none⟩) n cap) ts) {k : Nat} {t : List UInt8} (ht : ts[k]? = some t) : wx.cell? ⟨g4, k, none⟩ = some (.string ⟨t.toArray⟩) := by
  have hk := (List.getElem?_eq_some_iff.1 ht).1
  have hst := h.tx
  obtain ⟨g, c, hv, _⟩ := own_at hst (by omega)
  simp only [Value.slice.injEq] at hv
  have hn := hv.2.1
  subst hn
  rw [hst.cellAt k (by omega), List.getElem?_map, ht]; rfl
theorem strv_app (a b : List UInt8) : Value.string (⟨a.toArray⟩ ++ ⟨b.toArray⟩ : ByteArray) = strv (a ++ b) := by
  unfold strv
  refine congrArg Value.string (ByteArray.ext ?_)
  simp
/-- What stands while the texts' row grows. -/
structure GS (w wx : World) (B BW : Nat) (v5 v7 : Value) (n : Nat) (X : List Value) (T : List UInt8) (g4 : Nat) : Prop where
  st : wx.ownsRow B 38 73 v5 n X
  by7 : wx.ownsRow BW 5 1 v7 T.length (bv T)
  bl : Below w.heap.size w wx
  lt : g4 < wx.heap.size
theorem GS.drew {w wx : World} {B BW : Nat} {v5 v7 : Value} {n : Nat} {X : List Value} {T : List UInt8} {g4 : Nat} (h : GS w wx B BW v5 v7 n X T g4) : GS w wx.drew B BW v5 v7 n X T g4 := ⟨h.st, h.by7, h.bl.drew, h.lt⟩
def kG (g4 : Nat) (j : Nat) (wx wy : World) : Prop := if j = 9 then wx.grownBy wy (some g4) else Below wx.heap.size wx wy
theorem kG_refl (g4 j : Nat) (w : World) : kG g4 j w w := by
  unfold kG; split
  · exact World.grownBy.refl _ _
  · exact Below.refl _ _
theorem kG_of {g4 j : Nat} {wx wy : World} (hj : j ≠ 9) (h : Below wx.heap.size wx wy) : kG g4 j wx wy := by unfold kG; rw [if_neg hj]; exact h
theorem kG_app {g4 : Nat} {wx wy : World} (h : wx.grownBy wy (some g4)) : kG g4 9 wx wy := by unfold kG; rw [if_pos rfl]; exact h
theorem kG_below {g4 j : Nat} {wx wy : World} (hj : j ≠ 9) (h : kG g4 j wx wy) : Below wx.heap.size wx wy := by unfold kG at h; rw [if_neg hj] at h; exact h
theorem own_other {w w' : World} {B : Nat} {e : TypeId} {size : Nat} {v : Value} {n : Nat} {xs : List Value} {g : Nat} (h : w.ownsRow B e size v n xs) (hg : w.grownBy w' (some g)) (hv : ∀ j, v.ownBlock = some j → j ≠ g) : w'.ownsRow B e size v n xs :=
  h.kept hg (by
    rcases hj : v.ownBlock with _ | j
    · exact .inl rfl
    · exact .inr (fun e => hv j hj (by simpa using e)))
theorem gs_step {w wx wy : World} {B BW : Nat} {v5 v7 : Value} {n : Nat} {X : List Value} {T : List UInt8} {g4 j : Nat} (h5 : ∀ j, v5.ownBlock = some j → j ≠ g4) (h7 : ∀ j, v7.ownBlock = some j → j ≠ g4) (hg4 : w.heap.size ≤ g4)
    (h : GS w wx B BW v5 v7 n X T g4) (k : kG g4 j wx wy) : GS w wy B BW v5 v7 n X T g4 := by
  unfold kG at k
  split at k
  · exact ⟨own_other h.st k h5, own_other h.by7 k h7, below_grow h.bl k hg4 h.lt, Nat.lt_of_lt_of_le h.lt k.size⟩
  · exact ⟨own_keep h.st k, own_keep h.by7 k, h.bl.trans (k.mono h.bl.size), Nat.lt_of_lt_of_le h.lt k.size⟩
/-- What each operation hands on. -/
def ss11F (g4 i cap4 k : Nat) (t0 T : List UInt8) (a7 : Option Addr) (c7 B W5 : Nat) (ts : List (List UInt8)) : Nat → Value → World → Prop
  | 0, v, _ => v = .slice (some ⟨g4, 0, none⟩) (i + 1) cap4
  | 1, v, _ => v = .slice (some ⟨g4, 0, none⟩) (i + 1) cap4
  | 2, v, _ => v = .int .i64 (k : Nat)
  | 3, v, _ => v = .pointer (some ⟨g4, k, none⟩)
  | 4, v, _ => v = .string ⟨t0.toArray⟩
  | 5, v, _ => v = .slice a7 T.length c7
  | 6, v, _ => v = .string ⟨T.toArray⟩
  | 7, v, _ => v = strv (t0 ++ T)
  | 8, v, w => Rd w 1 v 1 [strv (t0 ++ T)]
  | 9, v, w => w.ownsRow B 9 1 v (i + 1 + 1) (ts.map strv ++ [strv (t0 ++ T)]) ∧ ∀ j, v.ownBlock = some j → j = g4 ∨ W5 ≤ j
  | 10, v, w => w.ownsRow B 9 1 v (i + 1 + 1) (ts.map strv ++ [strv (t0 ++ T)]) ∧ ∀ j, v.ownBlock = some j → j = g4 ∨ W5 ≤ j
  | _, _, _ => True
/-- What each operation hands on. -/
def ss19F (g3 g4 tn cap3 cap4 jj : Nat) (tt : List UInt8) (o : Array Value) : Nat → Value → World → Prop
  | 0, v, _ => v = .slice (some ⟨g3, 0, none⟩) tn cap3
  | 1, v, _ => v = .int .i64 (jj : Nat)
  | 2, v, _ => v = .pointer (some ⟨g3, jj * 73, none⟩)
  | 3, v, _ => v = .agg (stL tt).toArray
  | 4, v, _ => v = .agg o
  | 5, v, _ => v = .slice (some ⟨g4, 0, none⟩) tn cap4
  | 6, v, _ => v = .int .i64 (jj : Nat)
  | 7, v, _ => v = .pointer (some ⟨g4, jj, none⟩)
  | 8, v, _ => v = .string ⟨tt.toArray⟩
  | 9, v, w => Rd w 1 v tt.length (bv tt)
  | 10, v, _ => v = .agg o
  | 11, v, _ => v = .bool false
  | 12, v, _ => v = .bool false
  | 13, v, _ => v = .slice (some ⟨g3, 0, none⟩) tn cap3
  | 14, v, _ => v = .int .i64 (jj : Nat)
  | 15, v, _ => v = .pointer (some ⟨g3, jj * 73, none⟩)
  | 16, v, _ => v = .agg (stL tt).toArray
  | 17, v, _ => v = .int .u64 (tt.length : Nat)
  | 18, v, _ => v = .slice (some ⟨g4, 0, none⟩) tn cap4
  | 19, v, _ => v = .int .i64 (jj : Nat)
  | 20, v, _ => v = .pointer (some ⟨g4, jj, none⟩)
  | 21, v, _ => v = .string ⟨tt.toArray⟩
  | 22, v, _ => v = .int .i64 (tt.length : Nat)
  | 23, v, _ => v = .int .u64 (tt.length : Nat)
  | 24, v, _ => v = .bool false
  | 25, v, _ => v = .bool false
  | _, _, _ => True

set_option maxHeartbeats 4000000 in
set_option maxRecDepth 100000 in
theorem shaStates_walk (sc : List OpE) (v : Value) (w : World) (hl : sc.length ≤ 1048576) (hr : Rd w 2 v sc.length (sc.flatMap OpE.cells)) (hok : ∀ o ∈ sc, o.ok w) (hT : TabsR w) :
    Calls Tryd.prog 6 #[v] w fun e w' => e = .returned (.bool true) ∧ Below w.heap.size w w' := by
  obtain ⟨a, c, rfl⟩ := hr.form
  have hzs := (zero_of_info infoSt).1
  rw [stv_nil] at hzs
  have HR := Lib.hid (And.intro hr hok)
  clear hr hok
  go_enter Tryd.func6, Tryd.ntmps6
  go_wp2_with fail
  refine (awake03_any w hT.toTabs).mono ?_
  rintro e w1 ⟨rfl, hb1⟩
  rw [show stv [] = (stL []).toArray from rfl] at hzs
  go_upto_region 5 with (with_reducible show wpList _ _ _ (⟨some 13, _, _, _, _, _⟩ :: _) _ _; go_loud (refine wpList_build1 rfl 39 38 _ rfl (stL []) rfl Tryd.underlying39 (by rw [stL_length]; exact infoSt3) (by rw [stL_length]; decide) (by rw [stL_length]; decide) ?_))
  obtain ⟨w2, hw2⟩ : ∃ x : World, x = (w1.alloc (.cells (stL []).toArray 38)).alloc (.cells #[Value.string { data := #[] }] 9) := ⟨_, rfl⟩
  rw [← hw2]
  have hS2 : SS w w2 w1.heap.size (.slice (some ⟨w1.heap.size, 0, none⟩) 1 1) (.slice (some ⟨w1.heap.size + 1, 0, none⟩) 1 1) [[]] := by
    have h1 := own_new w1 38 73 1 w1.heap.size (stL []) (stL_length []) (by omega) (Nat.le_refl _)
    have h2 := own_new (w1.alloc (.cells (stL []).toArray 38)) 9 1 1 w1.heap.size [strv []] rfl (by omega) (by simp)
    refine ⟨?_, ?_, ?_, ?_, hb1.size, ?_⟩
    · rw [hw2]; simpa using h1.alloc _
    · rw [hw2]
      have e : (w1.alloc (.cells (stL []).toArray 38)).heap.size = w1.heap.size + 1 := by simp
      rw [e] at h2
      exact h2
    · intro j h1 h2
      simp [Value.ownBlock] at h1 h2
      omega
    · rw [hw2]; exact (hb1.alloc hb1.size _).alloc (by simp; have := hb1.size; omega) _
    · rw [hw2]; simp; omega
  clear hw2
  obtain ⟨B, hB⟩ : ∃ B, B = w1.heap.size := ⟨_, rfl⟩
  rw [← hB] at hS2 ⊢
  have H2 := Lib.hid hS2
  clear hS2 hB hb1
  go_wp2_with fail
  go_loopw [5, 3, 4] (fun s5 s3 s4 wr => ∃ (i : Nat) (ts : List (List UInt8)), s5 = .int .i64 i ∧ i ≤ 40 ∧ i ≤ sc.length ∧ ts.length = i + 1 ∧ (∀ t ∈ ts, t.length ≤ i * 1048576) ∧ RowKit.Hid (SS w wr B s3 s4 ts)) (fun s5 _ _ _ => 40 - (intOf s5).toNat)
  case atStart => exact ⟨0, [[]], rfl, by omega, by omega, rfl, by simp, H2⟩
  case round =>
    clear H2
    obtain ⟨i, ts, rfl, hi40, hin, htl, htb, HS⟩ := hrel
    have hne : 0 < ts.length := by omega
    obtain ⟨g3, cap3, hs3, hg3B, hn3, hc3, hg3⟩ := own_at HS.out.st hne
    obtain ⟨g4, cap4, hs4, hg4B, hn4, hc4, hg4⟩ := own_at HS.out.tx hne
    subst hs3 hs4
    by_cases hgo : i < sc.length ∧ i < 40
    · obtain ⟨hi1, hi2⟩ := hgo
      have hi3 : (i : Int) < (sc.length : Int) := by omega
      have hi4 : (i : Int) < 40 := by omega
      obtain ⟨bb, off, c', hv, hcp, hcell⟩ := (HR.out.1.keep HS.out.bl).atN (by omega) (by omega)
      simp only [Value.slice.injEq, true_and] at hv
      obtain ⟨rfl, rfl⟩ := hv
      obtain ⟨o, ho⟩ : ∃ o, sc[i]? = some o := ⟨_, List.getElem?_eq_getElem (by omega)⟩
      have hO := HR.out.2 o (List.mem_of_getElem? ho)
      have hcf := hcell (i * 2 + 0) (.int .i64 o.frm) (by rw [flat_at OpE.cells 2 (fun _ => rfl) sc i 0 o ho (by omega)]; rfl)
      have hcb := hcell (i * 2 + 1) o.val (by rw [flat_at OpE.cells 2 (fun _ => rfl) sc i 1 o ho (by omega)]; rfl)
      obtain ⟨ab, cb, hov⟩ := hO.rd.form
      rw [hov] at hcb
      rw [Nat.add_zero] at hcf
      rw [← Nat.add_assoc] at hcb
      have hrb := hO.rd.keep HS.out.bl
      rw [hov] at hrb
      have hbl := hO.len
      have HB := Lib.hid hrb
      obtain ⟨T, hT2⟩ : ∃ T, T = o.txt := ⟨_, rfl⟩
      rw [← hT2] at HB hcb hbl
      obtain ⟨z, hz⟩ : ∃ z, z = o.frm := ⟨_, rfl⟩
      rw [← hz] at hcf
      have hzb : -9223372036854775808 ≤ z ∧ z ≤ 9223372036854775807 := by rw [hz]; exact ⟨hO.lo, hO.hi⟩
      obtain ⟨k, hk, hkt⟩ : ∃ k : Nat, (IntKind.u64.wrap z).tmod ((i : Int) + 1) = (k : Int) ∧ k < i + 1 := by
        have h0 : 0 ≤ IntKind.u64.wrap z := by
          rw [show IntKind.u64.wrap z = z % 18446744073709551616 from rfl]; omega
        have h1 := Int.emod_lt_of_pos (IntKind.u64.wrap z) (show 0 < ((i : Int) + 1) by omega)
        have h2 := Int.emod_nonneg (IntKind.u64.wrap z) (show ((i : Int) + 1) ≠ 0 by omega)
        refine ⟨((IntKind.u64.wrap z).tmod ((i : Int) + 1)).toNat, ?_, ?_⟩
        · rw [Int.tmod_eq_emod_of_nonneg h0]; omega
        · rw [Int.tmod_eq_emod_of_nonneg h0]; omega
      have hd0 : ¬ ((i : Int) + 1) = 0 := by omega
      have HN := Lib.hid (And.intro hcell (And.intro hn3 (And.intro hn4 (And.intro hc3 (And.intro hc4 (And.intro hg3 (And.intro hg4 (And.intro hg3B (And.intro hg4B htb)))))))))
      clear hcell hrb hO ho hov hT2 hz hn3 hn4 hc3 hc4 hg3 hg4 hg3B hg4B htb
      have hi0 : (0 : Int) ≤ (i : Int) := by omega
      have hk40 : k < 41 := by omega
      go_upto_region 9 with fail
      clear hk hd0 hcf
      have hown0 := own_new wr 5 1 0 wr.heap.size [] rfl (by omega) (Nat.le_refl _)
      have HA := Lib.hid (And.intro hown0 (HB.out.alloc (.cells #[] 5)))
      clear hown0
      have hcb2 := Lib.cell?_alloc_marked (.cells #[] 5) hcb
      clear hcb
      go_wp2_with (at_builtin; go_loud (refine wpList_app Tryd.underlying22 infoU8s rfl (by decide) rfl _ _ rfl rfl rfl HA.out.1 HA.out.2 (by omega) (by omega) (by simp) ?_))
      intro v7 w3 ho3 hg7 _
      have hb3 : Below wr.heap.size wr w3 := ((Below.refl _ _).alloc (Nat.le_refl _) _).trans (hg7.below (by simp) (own_block HA.out.1))
      have ho3 : w3.ownsRow wr.heap.size 5 1 v7 T.length (bv T) := by simpa using ho3
      have hS3 : SS w w3 B _ _ ts := ⟨own_keep HS.out.st hb3, own_keep HS.out.tx hb3, HS.out.ap, HS.out.bl.trans (hb3.mono HS.out.bl.size), HS.out.bB, Nat.le_trans HS.out.Bl hb3.size⟩
      obtain ⟨a7, c7, hs7⟩ := (own_rd ho3 (bv_one _)).form
      subst hs7
      obtain ⟨t0, ht0⟩ : ∃ t0, ts[k]? = some t0 := ⟨_, List.getElem?_eq_getElem (by omega)⟩
      have htl0 := HN.out.2.2.2.2.2.2.2.2.2 t0 (List.mem_of_getElem? ht0)
      have hrng : w3.rangeAt g3 (k * 73) (stL t0) := fun j x hx => by
        have hj : j < 73 := by have := (List.getElem?_eq_some_iff.1 hx).1; rwa [stL_length] at this
        rw [hS3.st.cellAt _ (by omega), flat_at stL 73 stL_length ts k j t0 ht0 hj]
        exact hx
      have hW := Write_any t0 T (.slice a7 T.length c7) w3 (by omega) (own_rd ho3 (bv_one _)) (hT.toTabs.keepB hS3.bl)
      rw [show stv t0 = (stL t0).toArray from rfl, show stv (t0 ++ T) = (stL (t0 ++ T)).toArray from rfl] at hW
      have H3 := Lib.hid (And.intro hS3 (And.intro ho3 (And.intro hrng (And.intro (stInfo' _ (stL_length t0)) (And.intro ht0 (And.intro htl0 hb3.size))))))
      have HW := Lib.hid hW
      clear hb3 ho3 hS3 hrng hW ht0 htl0 hg7 HA HS HB
      have hk0 : (0 : Int) ≤ (k : Int) ∧ (k : Int) < (i : Int) + 1 := by omega
      go_upto_region 10 with fail
      go_wp2_with (with_reducible show wpList _ _ _ (⟨some 47, _, _, _, _, _⟩ :: _) _ _; go_loud (refine wpList_load_mid rfl _ _ rfl g3 (k * 73) rfl (stL t0) _ H3.out.2.2.1 Tryd.underlying38 rfl H3.out.2.2.2.1 ?_))
      refine HW.out.mono ?_
      rintro e w4 ⟨rfl, hb4⟩
      have hst4 : w4.ownsRow B 38 73 (.slice (some ⟨g3, 0, none⟩) (i + 1) cap3) (i + 1) (ts.flatMap stL) := by
        have h := own_keep H3.out.1.st hb4; rw [htl] at h; exact h
      have htx4 : w4.ownsRow B 9 1 (.slice (some ⟨g4, 0, none⟩) (i + 1) cap4) (i + 1) (ts.map strv) := by
        have h := own_keep H3.out.1.tx hb4; rw [htl] at h; exact h
      have ho4 := own_keep H3.out.2.1 hb4
      have hbw4 := H3.out.1.bl.trans (hb4.mono H3.out.1.bl.size)
      have hB4 := Nat.le_trans H3.out.1.Bl hb4.size
      have hwr4 := H3.out.2.1
      have hap : g3 ≠ g4 := fun e => H3.out.1.ap g3 (by simp [Value.ownBlock]) (by simp [Value.ownBlock, e])
      have hnew := own_new w4 38 73 1 w4.heap.size (stL (t0 ++ T)) (stL_length _) (by omega) (Nat.le_refl _)
      have H4 := Lib.hid (And.intro hst4 (And.intro htx4 (And.intro ho4 (And.intro hbw4 (And.intro hB4 (own_rd hnew (stL_one _)))))))
      have HE := Lib.hid (And.intro H3.out.2.2.2.2.1 (And.intro H3.out.2.2.2.2.2.1 (And.intro H3.out.1.bB (And.intro hap (Nat.le_trans H3.out.2.2.2.2.2.2 hb4.size)))))
      clear hst4 htx4 ho4 hbw4 hB4 hwr4 hnew hb4 H3 HW hap
      go_upto_region 11 with (first
        | (with_reducible show wpList _ _ _ (⟨some 50, _, _, _, _, _⟩ :: _) _ _; go_loud (refine wpList_build1 rfl 39 38 _ rfl (stL (t0 ++ T)) rfl Tryd.underlying39 (by rw [stL_length]; exact infoSt3) (by rw [stL_length]; decide) (by rw [stL_length]; decide) ?_))
        | (with_reducible show wpList _ _ _ (⟨some 51, _, _, _, _, _⟩ :: _) _ _; go_loud (refine wpList_app (v := .slice (some ⟨g3, 0, none⟩) (i + 1) cap3) (xv := .slice (some ⟨w4.heap.size, 0, none⟩) 1 1) Tryd.underlying39 infoSt3 (by simp [Value.cells, stL_length]) (by decide) rfl _ _ rfl rfl rfl (H4.out.1.alloc _) H4.out.2.2.2.2.2 (by omega) (by omega) (by have := H4.out.2.2.2.2.1; simp; omega) ?_); intro v5 w5 ho5 hg5 _))
      have hwl : (w4.alloc (.cells (stL (t0 ++ T)).toArray 38)).heap.size = w4.heap.size + 1 := by simp
      have hst5 : w5.ownsRow B 38 73 v5 (i + 1 + 1) ((ts ++ [t0 ++ T]).flatMap stL) := by
        have e : (ts ++ [t0 ++ T]).flatMap stL = ts.flatMap stL ++ stL (t0 ++ T) := by simp
        rw [e]; exact ho5
      have hle4 : wr.heap.size ≤ w4.heap.size := HE.out.2.2.2.2
      have htx5 : w5.ownsRow B 9 1 (.slice (some ⟨g4, 0, none⟩) (i + 1) cap4) (i + 1) (ts.map strv) :=
        (H4.out.2.1.alloc _).kept hg5.grown (.inr (by simp [Value.ownBlock]; have := HE.out.2.2.2.1; omega))
      have hob5 : w5.ownsRow wr.heap.size 5 1 (.slice a7 T.length c7) T.length (bv T) :=
        (H4.out.2.2.1.alloc _).kept hg5.grown (by
          rcases hj : (Value.slice a7 T.length c7).ownBlock with _ | j
          · exact .inl rfl
          · refine .inr (fun e => ?_)
            have h1 := (H4.out.2.2.1.lt j hj).1
            have h2 := HN.out.2.2.2.2.2.1
            simp [Value.ownBlock] at e
            omega)
      have hbl5 : Below w.heap.size w w5 := (H4.out.2.2.2.1.alloc H4.out.2.2.2.1.size _).trans (hg5.below (by have := H4.out.2.2.2.1.size; simp; omega) (fun j hj => by
        simp [Value.ownBlock] at hj
        have h1 := HN.out.2.2.2.2.2.2.2.1
        have h2 := HE.out.2.2.1
        omega))
      have hap5 : ∀ j, v5.ownBlock = some j → j ≠ g4 := fun j hj => by
        rcases hg5.blk j hj with h | h
        · simp [Value.ownBlock] at h
          have := HE.out.2.2.2.1
          omega
        · have := HN.out.2.2.2.2.2.2.1
          rw [hwl] at h
          omega
      have hB5 : B ≤ w5.heap.size := Nat.le_trans H4.out.2.2.2.2.1 (Nat.le_trans (by rw [hwl]; omega) hg5.grown.size)
      have hap7 : ∀ j, (Value.slice a7 T.length c7).ownBlock = some j → j ≠ g4 := fun j hj => by
        have h1 := (hob5.lt j hj).1
        have h2 := HN.out.2.2.2.2.2.2.1
        omega
      have hx75 : ∀ j, (Value.slice a7 T.length c7).ownBlock = some j → v5.ownBlock ≠ some j := fun j hj h5 => by
        have h1 := (H4.out.2.2.1.lt j hj)
        have h2 := HN.out.2.2.2.2.2.1
        rcases hg5.blk j h5 with h | h
        · simp [Value.ownBlock] at h; omega
        · rw [hwl] at h; omega
      have hx7W : ∀ j, (Value.slice a7 T.length c7).ownBlock = some j → j < w5.heap.size := fun j hj => (hob5.lt j hj).2
      have hx5W : ∀ j, v5.ownBlock = some j → j < w5.heap.size := fun j hj => (hst5.lt j hj).2
      obtain ⟨a5, c5, hs5⟩ := (own_rd hst5 (sts_one _)).form
      subst hs5
      obtain ⟨BW, hBW⟩ : ∃ BW, BW = wr.heap.size := ⟨_, rfl⟩
      rw [← hBW] at hob5
      have hg4lt : g4 < w5.heap.size := by
        have h1 := HN.out.2.2.2.2.2.2.1
        have h2 := hg5.grown.size
        rw [hwl] at h2
        omega
      have hg4w : w.heap.size ≤ g4 := Nat.le_trans HE.out.2.2.1 HN.out.2.2.2.2.2.2.2.2.1
      have hG5 : GS w w5 B BW (.slice a5 (i + 1 + 1) c5) (.slice a7 T.length c7) (i + 1 + 1) ((ts ++ [t0 ++ T]).flatMap stL) T g4 := ⟨hst5, hob5, hbl5, hg4lt⟩
      obtain ⟨W5, hW5⟩ : ∃ W5, W5 = w5.heap.size := ⟨_, rfl⟩
      have HAP := Lib.hid (And.intro hx75 (And.intro hx7W hx5W))
      have HT := Lib.hid (And.intro htx5 (And.intro HE.out.1 (And.intro hB5 hW5)))
      have HW5 := Lib.hid (And.intro hW5 hBW)
      clear hx75 hx7W hx5W hst5 htx5 hob5 hbl5 hB5 ho5 hg5 hwl hle4 H4 hW5 hBW hg4lt
      refine wp_region_until [some 52, some 53, some 54, some 55, some 56, some 57, some 58, some 59, some 60, some 61, some 4] [(0, 4), (1, 4)] 9 (fun wx => Below w5.heap.size w5 wx) [0, 1, 2, 3, 4, 5, 6, 7, 8, 9] (ss11F g4 i cap4 k t0 T a7 c7 B W5 ts) (kG g4) (fun wx => GS w wx B BW (.slice a5 (i + 1 + 1) c5) (.slice a7 T.length c7) (i + 1 + 1) ((ts ++ [t0 ++ T]).flatMap stL) T g4) (by kernel_rfl) (by kernel_rfl) rfl (by kernel_rfl) (by kernel_rfl) hG5.drew (Below.refl _ _).drew ((fun _ hj _ _ k h => h.trans ((kG_below hj k).mono h.size))) (fun _ _ => kG_refl _ _ _) (fun _ _ _ h k => gs_step hap5 hap7 hg4w h k) ?hF ?hstep ?hend
      case hF =>
        exact ⟨fun _ _ _ _ _ _ h => h, ⟨fun _ _ _ _ _ _ h => h, ⟨fun _ _ _ _ _ _ h => h, ⟨fun _ _ _ _ _ _ h => h, ⟨fun _ _ _ _ _ _ h => h, ⟨fun _ _ _ _ _ _ h => h, ⟨fun _ _ _ _ _ _ h => h, ⟨fun _ _ _ _ _ _ h => h, ⟨fun j hg _ _ _ k h => Rd.keep h (kG_below (fun e => by subst e; exact absurd hg (by rw [show goneB _ 8 9 = true by kernel_rfl]; simp)) k), ⟨fun j hg _ _ _ k h => ⟨own_keep h.1 (kG_below (fun e => by subst e; exact absurd hg (by rw [show goneB _ 9 9 = true by kernel_rfl]; simp)) k), h.2⟩, ⟨fun j hg _ _ _ k h => ⟨own_keep h.1 (kG_below (fun e => by subst e; exact absurd hg (by rw [show goneB _ 10 9 = true by kernel_rfl]; simp)) k), h.2⟩, trivial⟩⟩⟩⟩⟩⟩⟩⟩⟩⟩⟩
      case hstep =>
        -- operation 0: Op.move (tmp 4)
        refine ⟨fun r wx hG hs hq hf => ?_, ?_⟩
        · have hQ := hq rfl
          have e4 : r 4 = .slice (some ⟨g4, 0, none⟩) (i + 1) cap4 := hs 4 rfl
          refine (if_pos rfl).symm ▸ ?_
          clear hs hq hf
          unfold gives
          go_simp
          exact ⟨kG_refl _ _ _, rfl⟩
        -- operation 1: Op.move (tmp 4)
        refine ⟨fun r wx hG hs hq hf => ?_, ?_⟩
        · have hQ := hq rfl
          have e4 : r 4 = .slice (some ⟨g4, 0, none⟩) (i + 1) cap4 := hs 4 rfl
          refine (if_pos rfl).symm ▸ ?_
          clear hs hq hf
          unfold gives
          go_simp
          exact ⟨kG_refl _ _ _, rfl⟩
        -- operation 2: Op.move (tmp 6)
        refine ⟨fun r wx hG hs hq hf => ?_, ?_⟩
        · have hQ := hq rfl
          have e6 : r 6 = .int .i64 k := hs 6 rfl
          refine (if_pos rfl).symm ▸ ?_
          clear hs hq hf
          unfold gives
          go_simp
          exact ⟨kG_refl _ _ _, rfl⟩
        -- operation 3: Op.indexAddr 40 (tmp 53) (tmp 54)
        refine ⟨fun r wx hG hs hq hf => ?_, ?_⟩
        · have hQ := hq rfl
          have h1 : r 53 = .slice (some ⟨g4, 0, none⟩) (i + 1) cap4 := hf.1
          have h2 : r 54 = .int .i64 (k : Nat) := hf.2.1
          refine (if_pos rfl).symm ▸ ?_
          clear hs hq hf
          unfold gives
          go_simp
          exact ⟨kG_refl _ _ _, rfl⟩
        -- operation 4: Op.load 9 (tmp 55)
        refine ⟨fun r wx hG hs hq hf => ?_, ?_⟩
        · have hQ := hq rfl
          have h3 : r 55 = .pointer (some ⟨g4, k, none⟩) := hf.1
          refine (if_pos rfl).symm ▸ ?_
          clear hs hq hf
          unfold gives
          have hcl : wx.cell? ⟨g4, k, none⟩ = some (.string ⟨t0.toArray⟩) := by rw [(own_keep HT.out.1 hQ).cellAt k (by omega), List.getElem?_map, HT.out.2.1]; rfl
          go_simp
          exact ⟨kG_refl _ _ _, rfl⟩
        -- operation 5: Op.move (tmp 7)
        refine ⟨fun r wx hG hs hq hf => ?_, ?_⟩
        · have hQ := hq rfl
          have e7 : r 7 = .slice a7 T.length c7 := hs 7 rfl
          refine (if_pos rfl).symm ▸ ?_
          clear hs hq hf
          unfold gives
          go_simp
          exact ⟨kG_refl _ _ _, rfl⟩
        -- operation 6: Op.convert 22 9 (tmp 57)
        refine ⟨fun r wx hG hs hq hf => ?_, ?_⟩
        · have hQ := hq rfl
          have h5 : r 57 = .slice a7 T.length c7 := hf.1
          refine (if_pos rfl).symm ▸ ?_
          clear hs hq hf
          unfold gives
          have hcv := string_of_bytes (P := Tryd.prog) Tryd.underlying22 Tryd.underlying5 Tryd.underlying9 (own_rd hG.by7 (bv_one _))
          go_simp
          exact ⟨kG_refl _ _ _, rfl⟩
        -- operation 7: Op.binOp BinOp.add 9 (tmp 56) (tmp 58) 9
        refine ⟨fun r wx hG hs hq hf => ?_, ?_⟩
        · have hQ := hq rfl
          have h4 : r 56 = .string ⟨t0.toArray⟩ := hf.1
          have h6 : r 58 = .string ⟨T.toArray⟩ := hf.2.1
          refine (if_pos rfl).symm ▸ ?_
          clear hs hq hf
          unfold gives
          have hlim : ¬ 9223372036854775807 < t0.length + T.length := by have := HE.out.2.1; omega
          go_simp
          exact ⟨kG_refl _ _ _, strv_app t0 T⟩
        -- operation 8: Op.buildSlice 40 1 #[(0, tmp 59)]
        refine ⟨fun r wx hG hs hq hf => ?_, ?_⟩
        · have hQ := hq rfl
          have h7 : r 59 = strv (t0 ++ T) := hf.1
          refine (if_pos rfl).symm ▸ ?_
          clear hs hq hf
          unfold gives
          go_simp
          exact ⟨kG_of (by decide) ((Below.refl _ _).alloc (Nat.le_refl _) _), Rd.one _ _ _ rfl⟩
        -- operation 9: Op.call ( callee := Callee.builtin Builtin.append, args := #[tmp 52, tmp 60], argTypes := #[40, 40] )
        refine ⟨fun r wx hG hs hq hf => ?_, ?_⟩
        · have hQ := hq rfl
          have h0 : r 52 = .slice (some ⟨g4, 0, none⟩) (i + 1) cap4 := hf.1
          have h8 : Rd wx 1 (r 60) 1 [strv (t0 ++ T)] := hf.2.1
          refine (if_pos rfl).symm ▸ ?_
          clear hs hq hf
          unfold gives
          refine gives_app Tryd.underlying40 infoStr rfl (by decide) _ _ rfl h0 rfl (own_keep HT.out.1 hQ) h8 (by omega) (by omega) (Nat.le_trans HT.out.2.2.1 hQ.size) ?_
          intro v' wy ho hg _
          refine ⟨kG_app (by have h := hg.grown; exact h), ho, fun j hj => ?_⟩
          rcases hg.blk j hj with h | h
          · simp [Value.ownBlock] at h; exact .inl h.symm
          · exact .inr (Nat.le_trans (by rw [HT.out.2.2.2]; exact hQ.size) h)
        -- operation 10: Op.assign (tmp 61)
        refine ⟨fun r wx hG hs hq hf => ?_, ?_⟩
        · have h9 : wx.ownsRow B 9 1 (r 61) (i + 1 + 1) (ts.map strv ++ [strv (t0 ++ T)]) ∧ ∀ j, (r 61).ownBlock = some j → j = g4 ∨ W5 ≤ j := hf.1
          refine (if_pos rfl).symm ▸ ?_
          clear hs hq hf
          unfold gives
          go_simp
          exact ⟨kG_refl _ _ _, h9⟩
        exact trivial
      case hend =>
        intro u wz hG hfin
        have z10 : wz.ownsRow B 9 1 (u 10) (i + 1 + 1) (ts.map strv ++ [strv (t0 ++ T)]) ∧ ∀ j, (u 10).ownBlock = some j → j = g4 ∨ W5 ≤ j := hfin 10 (by decide) (by kernel_rfl)
        clear hfin
        simp only [fill]
        go_simp
        obtain ⟨v4', hv4⟩ : ∃ v4', v4' = u 10 := ⟨_, rfl⟩
        rw [← hv4] at z10 ⊢
        have hx4 : ∀ j, v4'.ownBlock = some j → j ≠ g4 → W5 ≤ j := fun j hj hne => by rcases z10.2 j hj with h | h; exact absurd h hne; exact h
        have hx74 : ∀ j, (Value.slice a7 T.length c7).ownBlock = some j → v4'.ownBlock ≠ some j := fun j hj h4 => by
          have h1 := hx4 j h4 (hap7 j hj)
          have h2 := HAP.out.2.1 j hj
          rw [HW5.out.1] at h1; omega
        have hx54 : ∀ j, (Value.slice a5 (i + 1 + 1) c5).ownBlock = some j → v4'.ownBlock ≠ some j := fun j hj h4 => by
          have h1 := hx4 j h4 (hap5 j hj)
          have h2 := HAP.out.2.2 j hj
          rw [HW5.out.1] at h1; omega
        have htx : wz.ownsRow B 9 1 v4' (i + 1 + 1) ((ts ++ [t0 ++ T]).map strv) := by simpa using z10.1
        have hbig : ∀ t ∈ ts ++ [t0 ++ T], t.length ≤ (i + 1) * 1048576 := fun t ht => by
          rcases List.mem_append.1 ht with h | h
          · exact Nat.le_trans (HN.out.2.2.2.2.2.2.2.2.2 t h) (Nat.mul_le_mul_right _ (Nat.le_succ i))
          · have h2 := List.mem_singleton.1 h; rw [h2, List.length_append, Nat.add_mul, Nat.one_mul]; exact Nat.add_le_add HE.out.2.1 hbl
        have hlen2 : (ts ++ [t0 ++ T]).length = i + 1 + 1 := by rw [List.length_append, htl]; rfl
        have hBz : B ≤ wz.heap.size := by
          obtain ⟨g, cap, _, h1, _, _, h2⟩ := own_at hG.st (by omega)
          omega
        have hSS : SS w wz B (.slice a5 (i + 1 + 1) c5) v4' (ts ++ [t0 ++ T]) := ⟨by rw [hlen2]; exact hG.st, by rw [hlen2]; exact htx, fun j h => hx54 j h, hG.bl, HE.out.2.2.1, hBz⟩
        have H6 := Lib.hid (And.intro hSS (And.intro hG.by7 (And.intro HAP.out.1 (And.intro hx74 hbig))))
        obtain ⟨a4', c4', hs4'⟩ := (own_rd htx (strv_one _)).form
        subst hs4'
        clear hlen2 hBz hv4 hx4 hx74 hx54 htx hbig hSS z10 hG hap5 hap7 hg4w hG5
        go_wp2_with fail
        go_loopw [8] (fun s8 wy => ∃ (jj : Nat) (cs : List UInt8), jj ≤ T.length ∧ s8 = .int .i64 jj ∧ RowKit.Hid (cs.length = T.length ∧ SS w wy B (.slice a5 (i + 1 + 1) c5) (.slice a4' (i + 1 + 1) c4') (ts ++ [t0 ++ T]) ∧ wy.ownsRow BW 5 1 (.slice a7 T.length c7) T.length (bv cs))) (fun s8 _ => T.length - (intOf s8).toNat)
        case atStart => exact ⟨0, T, by omega, rfl, show _ ∧ _ from ⟨rfl, H6.out.1, H6.out.2.1⟩⟩
        case round =>
          obtain ⟨jj, cs, hj, rfl, HJ⟩ := hrel
          by_cases hjl : jj < T.length
          · have hjz : (jj : Int) < (T.length : Int) := by omega
            have hj0 : (0 : Int) ≤ (jj : Int) := by omega
            obtain ⟨g7, cap7, hv, hB7, _, _, _⟩ := own_at HJ.out.2.2 (by omega)
            simp only [Value.slice.injEq, true_and] at hv
            obtain ⟨rfl, rfl⟩ := hv
            obtain ⟨y, hy⟩ : ∃ y, cs[jj]? = some y := ⟨_, List.getElem?_eq_getElem (by have := HJ.out.1; omega)⟩
            have hc : wr.cell? ⟨g7, jj, none⟩ = some (.int .u8 y.toNat) := by
              rw [HJ.out.2.2.cellAt jj (by omega)]; simp [bv, hy]
            have hf := HJ.out.2.2.frozenAt jj
            obtain ⟨x, hx⟩ : ∃ x, x = UInt8.ofNat ((y.toNat + 1) % 256) := ⟨_, rfl⟩
            have hxx : ((y.toNat : Int) + 1) % 256 = (x.toNat : Int) := by rw [hx, u8_int]; omega
            have hbw7 : w.heap.size ≤ g7 := by
              have h1 := HN.out.2.2.2.2.2.1
              have h2 := HN.out.2.2.2.2.2.2.2.1
              have h3 := HE.out.2.2.1
              have h4 := HW5.out.2
              omega
            have HY := Lib.hid (And.intro hbw7 hy)
            clear hx hbw7 hy
            go_wp2_with fail
            go_roundw
            case rel =>
              obtain ⟨hs1, hs2⟩ := HJ.out.2.2.stored jj (.int .u8 x.toNat)
              rw [show (bv cs).set jj (.int .u8 x.toNat) = bv (cs.set jj x) by simp [bv, List.map_set]] at hs1
              have hSS := HJ.out.2.1
              refine ⟨jj + 1, cs.set jj x, by omega, by go_num, show _ ∧ _ from ⟨by rw [List.length_set]; exact HJ.out.1, ⟨?_, ?_, hSS.ap, hSS.bl.setCell (p := ⟨g7, jj, none⟩) HY.out.1 _, hSS.bB, by have := hSS.Bl; simpa [World.setCell] using this⟩, hs1⟩⟩
              · exact own_other hSS.st hs2 (fun j h e => H6.out.2.2.1 g7 rfl (by rw [← e]; exact h))
              · exact own_other hSS.tx hs2 (fun j h e => H6.out.2.2.2.1 g7 rfl (by rw [← e]; exact h))
            case measure => simp [intOf]; omega
          · have hjz : ¬ (jj : Int) < (T.length : Int) := by omega
            go_wp2_with fail
            go_roundw
            case rel => exact ⟨i + 1, ts ++ [t0 ++ T], by go_num, by omega, by omega, by rw [List.length_append, htl]; rfl, H6.out.2.2.2.2, HJ.out.2.1⟩
            case measure => simp [intOf]; omega

    · have htb : ∀ t ∈ ts, t.length ≤ 41943040 := fun t ht => Nat.le_trans (htb t ht) (by omega)
      obtain ⟨tn, htn⟩ : ∃ tn, tn = ts.length := ⟨_, rfl⟩
      rw [← htn] at HS ⊢
      have HTN := Lib.hid htn
      have htn41 : tn ≤ 41 := by omega
      by_cases hi1 : i < sc.length
      · have hi3 : (i : Int) < (sc.length : Int) := by omega
        have hi4 : ¬ (i : Int) < 40 := by omega
        clear htl htn hgo hne hn3 hn4 hc3 hc4 hg3 hg4 hg3B hg4B
        iterate 1
          have HS3 := HS
          go_wp2_with fail
          go_loopw [9] (fun s9 wr => ∃ jj : Nat, jj ≤ tn ∧ s9 = .int .i64 jj ∧ RowKit.Hid (SS w wr B (.slice (some ⟨g3, 0, none⟩) tn cap3) (.slice (some ⟨g4, 0, none⟩) tn cap4) ts)) (fun s9 _ => tn - (intOf s9).toNat)
          case atStart => exact ⟨0, by omega, rfl, HS3⟩
          case round =>
            clear HS HS3
            obtain ⟨jj, hj, rfl, HJ⟩ := hrel
            by_cases hjl : jj < tn
            · have hjz : (jj : Int) < (tn : Int) := by omega
              have hj0 : (0 : Int) ≤ (jj : Int) := by omega
              obtain ⟨tt, htt⟩ : ∃ tt, ts[jj]? = some tt := ⟨_, List.getElem?_eq_getElem (by rw [← HTN.out]; exact hjl)⟩
              have httl := htb tt (List.mem_of_getElem? htt)
              have h1 : ∀ w', SS w w' B (.slice (some ⟨g3, 0, none⟩) tn cap3) (.slice (some ⟨g4, 0, none⟩) tn cap4) ts → _ := fun w' h => StSum_any tt w' (by omega) (hT.toTabs.keepB h.bl)
              have h2 : ∀ v w', SS w w' B (.slice (some ⟨g3, 0, none⟩) tn cap3) (.slice (some ⟨g4, 0, none⟩) tn cap4) ts → Rd w' 1 v tt.length (bv tt) → _ := fun v w' h hr => refSumSha_any tt v w' (by omega) hr (hT.keepB h.bl)
              have h3 : ∀ w', SS w w' B (.slice (some ⟨g3, 0, none⟩) tn cap3) (.slice (some ⟨g4, 0, none⟩) tn cap4) ts → _ := fun w' _ => Len_any tt w' (by omega)
              rw [show stv tt = (stL tt).toArray from rfl] at h1 h3
              have hee := fun w => eqIn_hash (Sha.sum tt) (Sha.sum tt) (sum_length tt) (sum_length tt) w
              simp only [BEq.rfl] at hee
              generalize (bv (Sha.sum tt)).toArray = o at *
              have HS1 := Lib.hid h1
              have HS2 := Lib.hid h2
              have HL := Lib.hid h3
              have HE := Lib.hid hee
              clear h1 h2 h3 hee
              go_upto_region 19 with fail
              refine wp_region_steps [some 80, some 81, some 82, some 83, some 84, some 85, some 86, some 87, some 88, some 89, some 90, some 91, some 92, some 93, some 94, some 95, some 96, some 97, some 98, some 99, some 100, some 101, some 102, some 103, some 104, some 105] [] (ss19F g3 g4 tn cap3 cap4 jj tt o) (fun _ wx wy => Below wx.heap.size wx wy) (fun wx => SS w wx B (.slice (some ⟨g3, 0, none⟩) tn cap3) (.slice (some ⟨g4, 0, none⟩) tn cap4) ts) (by kernel_rfl) (by kernel_rfl) rfl (by kernel_rfl) (HJ.out.keep (Below.refl _ _).drew) (fun _ wx => Below.refl _ _) (fun _ _ _ h k => h.keep k) ?hF ?hstep ?hend
              case hF =>
                exact ⟨fun _ _ _ _ _ _ h => h, ⟨fun _ _ _ _ _ _ h => h, ⟨fun _ _ _ _ _ _ h => h, ⟨fun _ _ _ _ _ _ h => h, ⟨fun _ _ _ _ _ _ h => h, ⟨fun _ _ _ _ _ _ h => h, ⟨fun _ _ _ _ _ _ h => h, ⟨fun _ _ _ _ _ _ h => h, ⟨fun _ _ _ _ _ _ h => h, ⟨fun _ _ _ _ _ k h => Rd.keep h k, ⟨fun _ _ _ _ _ _ h => h, ⟨fun _ _ _ _ _ _ h => h, ⟨fun _ _ _ _ _ _ h => h, ⟨fun _ _ _ _ _ _ h => h, ⟨fun _ _ _ _ _ _ h => h, ⟨fun _ _ _ _ _ _ h => h, ⟨fun _ _ _ _ _ _ h => h, ⟨fun _ _ _ _ _ _ h => h, ⟨fun _ _ _ _ _ _ h => h, ⟨fun _ _ _ _ _ _ h => h, ⟨fun _ _ _ _ _ _ h => h, ⟨fun _ _ _ _ _ _ h => h, ⟨fun _ _ _ _ _ _ h => h, ⟨fun _ _ _ _ _ _ h => h, ⟨fun _ _ _ _ _ _ h => h, ⟨fun _ _ _ _ _ _ h => h, trivial⟩⟩⟩⟩⟩⟩⟩⟩⟩⟩⟩⟩⟩⟩⟩⟩⟩⟩⟩⟩⟩⟩⟩⟩⟩⟩
              case hstep =>
                -- operation 0: Op.move (tmp 3)
                refine ⟨fun r wx hG hs hq hf => ?_, ?_⟩
                · have e3 : r 3 = .slice (some ⟨g3, 0, none⟩) tn cap3 := hs 3 rfl
                  refine (if_pos rfl).symm ▸ ?_
                  clear hs hq hf
                  unfold gives
                  go_simp
                  exact ⟨Below.refl _ _, rfl⟩
                -- operation 1: Op.move (tmp 9)
                refine ⟨fun r wx hG hs hq hf => ?_, ?_⟩
                · have e9 : r 9 = .int .i64 jj := hs 9 rfl
                  refine (if_pos rfl).symm ▸ ?_
                  clear hs hq hf
                  unfold gives
                  go_simp
                  exact ⟨Below.refl _ _, rfl⟩
                -- operation 2: Op.indexAddr 39 (tmp 80) (tmp 81)
                refine ⟨fun r wx hG hs hq hf => ?_, ?_⟩
                · have h0 : r 80 = .slice (some ⟨g3, 0, none⟩) tn cap3 := hf.1
                  have h1 : r 81 = .int .i64 (jj : Nat) := hf.2.1
                  refine (if_pos rfl).symm ▸ ?_
                  clear hs hq hf
                  unfold gives
                  go_simp
                  exact ⟨Below.refl _ _, rfl⟩
                -- operation 3: Op.load 38 (tmp 82)
                refine ⟨fun r wx hG hs hq hf => ?_, ?_⟩
                · have h2 : r 82 = .pointer (some ⟨g3, jj * 73, none⟩) := hf.1
                  refine (if_pos rfl).symm ▸ ?_
                  clear hs hq hf
                  unfold gives
                  refine gives_load_mid 38 _ rfl g3 (jj * 73) h2 (stL tt) _ (ss_range hG htt) Tryd.underlying38 rfl (stInfo' _ (stL_length tt)) ⟨Below.refl _ _, rfl⟩
                -- operation 4: Op.call ( callee := Callee.value (func 18), args := #[tmp 83], argTypes := #[38] )
                refine ⟨fun r wx hG hs hq hf => ?_, ?_⟩
                · have h3 : r 83 = .agg (stL tt).toArray := hf.1
                  refine (if_pos rfl).symm ▸ ?_
                  clear hs hq hf
                  unfold gives
                  go_simp
                  refine (HS1.out wx hG).mono ?_
                  rintro e wy ⟨rfl, hb1⟩
                  exact ⟨_, rfl, hb1, rfl⟩
                -- operation 5: Op.move (tmp 4)
                refine ⟨fun r wx hG hs hq hf => ?_, ?_⟩
                · have e4 : r 4 = .slice (some ⟨g4, 0, none⟩) tn cap4 := hs 4 rfl
                  refine (if_pos rfl).symm ▸ ?_
                  clear hs hq hf
                  unfold gives
                  go_simp
                  exact ⟨Below.refl _ _, rfl⟩
                -- operation 6: Op.move (tmp 9)
                refine ⟨fun r wx hG hs hq hf => ?_, ?_⟩
                · have e9 : r 9 = .int .i64 jj := hs 9 rfl
                  refine (if_pos rfl).symm ▸ ?_
                  clear hs hq hf
                  unfold gives
                  go_simp
                  exact ⟨Below.refl _ _, rfl⟩
                -- operation 7: Op.indexAddr 40 (tmp 85) (tmp 86)
                refine ⟨fun r wx hG hs hq hf => ?_, ?_⟩
                · have h5 : r 85 = .slice (some ⟨g4, 0, none⟩) tn cap4 := hf.1
                  have h6 : r 86 = .int .i64 (jj : Nat) := hf.2.1
                  refine (if_pos rfl).symm ▸ ?_
                  clear hs hq hf
                  unfold gives
                  go_simp
                  exact ⟨Below.refl _ _, rfl⟩
                -- operation 8: Op.load 9 (tmp 87)
                refine ⟨fun r wx hG hs hq hf => ?_, ?_⟩
                · have h7 : r 87 = .pointer (some ⟨g4, jj, none⟩) := hf.1
                  refine (if_pos rfl).symm ▸ ?_
                  clear hs hq hf
                  unfold gives
                  have hcl := ss_text hG htt
                  go_simp
                  exact ⟨Below.refl _ _, rfl⟩
                -- operation 9: Op.convert 9 22 (tmp 88)
                refine ⟨fun r wx hG hs hq hf => ?_, ?_⟩
                · have h8 : r 88 = .string ⟨tt.toArray⟩ := hf.1
                  refine (if_pos rfl).symm ▸ ?_
                  clear hs hq hf
                  unfold gives
                  have hcv := Lib.run_convert_string_bytes (P := Tryd.prog) wx 9 22 5 ⟨tt.toArray⟩ Tryd.underlying9 Tryd.underlying22 Tryd.underlying5
                  go_simp
                  exact ⟨bytesWorld_below _ _ _, by simpa [ss19F] using bytesWorld_rd wx _ tt _ (grownCap_ge wx tt.length 0 _)⟩
                -- operation 10: Op.call ( callee := Callee.value (func 14), args := #[tmp 89], argTypes := #[22] )
                refine ⟨fun r wx hG hs hq hf => ?_, ?_⟩
                · have h9 : Rd wx 1 (r 89) tt.length (bv tt) := hf.1
                  refine (if_pos rfl).symm ▸ ?_
                  clear hs hq hf
                  unfold gives
                  go_simp
                  refine (HS2.out _ wx hG h9).mono ?_
                  rintro e wy ⟨rfl, hb1⟩
                  exact ⟨_, rfl, hb1, rfl⟩
                -- operation 11: Op.binOp BinOp.neq 25 (tmp 84) (tmp 90) 25
                refine ⟨fun r wx hG hs hq hf => ?_, ?_⟩
                · have h4 : r 84 = .agg o := hf.1
                  have h10 : r 90 = .agg o := hf.2.1
                  refine (if_pos rfl).symm ▸ ?_
                  clear hs hq hf
                  unfold gives
                  have hgd := eq_guard
                  have he := HE.out wx
                  go_simp
                  exact ⟨Below.refl _ _, rfl⟩
                -- operation 12: Op.move (tmp 91)
                refine ⟨fun r wx hG hs hq hf => ?_, ?_⟩
                · have h11 : r 91 = .bool false := hf.1
                  refine (if_pos rfl).symm ▸ ?_
                  clear hs hq hf
                  unfold gives
                  go_simp
                  exact ⟨Below.refl _ _, rfl⟩
                -- operation 13: Op.move (tmp 3)
                refine ⟨fun r wx hG hs hq hf => ?_, ?_⟩
                · have e3 : r 3 = .slice (some ⟨g3, 0, none⟩) tn cap3 := hs 3 rfl
                  have h12 : r 92 = .bool false := hf.1
                  have hy : ydD [some 80, some 81, some 82, some 83, some 84, some 85, some 86, some 87, some 88, some 89, some 90, some 91, some 92, some 93, some 94, some 95, some 96, some 97, some 98, some 99, some 100, some 101, some 102, some 103, some 104, some 105] r 12 = some false := by show (match r 92 with | .bool b => some b | _ => none) = some false; rw [h12]
                  simp only [Region.wanted, hy, beq_self_eq_true, if_true]
                  clear hs hq hf hy
                  unfold gives
                  go_simp
                  exact ⟨Below.refl _ _, rfl⟩
                -- operation 14: Op.move (tmp 9)
                refine ⟨fun r wx hG hs hq hf => ?_, ?_⟩
                · have e9 : r 9 = .int .i64 jj := hs 9 rfl
                  have h12 : r 92 = .bool false := hf.1
                  have hy : ydD [some 80, some 81, some 82, some 83, some 84, some 85, some 86, some 87, some 88, some 89, some 90, some 91, some 92, some 93, some 94, some 95, some 96, some 97, some 98, some 99, some 100, some 101, some 102, some 103, some 104, some 105] r 12 = some false := by show (match r 92 with | .bool b => some b | _ => none) = some false; rw [h12]
                  simp only [Region.wanted, hy, beq_self_eq_true, if_true]
                  clear hs hq hf hy
                  unfold gives
                  go_simp
                  exact ⟨Below.refl _ _, rfl⟩
                -- operation 15: Op.indexAddr 39 (tmp 93) (tmp 94)
                refine ⟨fun r wx hG hs hq hf => ?_, ?_⟩
                · have h13 : r 93 = .slice (some ⟨g3, 0, none⟩) tn cap3 := hf.1
                  have h14 : r 94 = .int .i64 (jj : Nat) := hf.2.1
                  have h12 : r 92 = .bool false := hf.2.2.1
                  have hy : ydD [some 80, some 81, some 82, some 83, some 84, some 85, some 86, some 87, some 88, some 89, some 90, some 91, some 92, some 93, some 94, some 95, some 96, some 97, some 98, some 99, some 100, some 101, some 102, some 103, some 104, some 105] r 12 = some false := by show (match r 92 with | .bool b => some b | _ => none) = some false; rw [h12]
                  simp only [Region.wanted, hy, beq_self_eq_true, if_true]
                  clear hs hq hf hy
                  unfold gives
                  go_simp
                  exact ⟨Below.refl _ _, rfl⟩
                -- operation 16: Op.load 38 (tmp 95)
                refine ⟨fun r wx hG hs hq hf => ?_, ?_⟩
                · have h15 : r 95 = .pointer (some ⟨g3, jj * 73, none⟩) := hf.1
                  have h12 : r 92 = .bool false := hf.2.1
                  have hy : ydD [some 80, some 81, some 82, some 83, some 84, some 85, some 86, some 87, some 88, some 89, some 90, some 91, some 92, some 93, some 94, some 95, some 96, some 97, some 98, some 99, some 100, some 101, some 102, some 103, some 104, some 105] r 12 = some false := by show (match r 92 with | .bool b => some b | _ => none) = some false; rw [h12]
                  simp only [Region.wanted, hy, beq_self_eq_true, if_true]
                  clear hs hq hf hy
                  unfold gives
                  refine gives_load_mid 38 _ rfl g3 (jj * 73) h15 (stL tt) _ (ss_range hG htt) Tryd.underlying38 rfl (stInfo' _ (stL_length tt)) ⟨Below.refl _ _, rfl⟩
                -- operation 17: Op.call ( callee := Callee.value (func 19), args := #[tmp 96], argTypes := #[38] )
                refine ⟨fun r wx hG hs hq hf => ?_, ?_⟩
                · have h16 : r 96 = .agg (stL tt).toArray := hf.1
                  have h12 : r 92 = .bool false := hf.2.1
                  have hy : ydD [some 80, some 81, some 82, some 83, some 84, some 85, some 86, some 87, some 88, some 89, some 90, some 91, some 92, some 93, some 94, some 95, some 96, some 97, some 98, some 99, some 100, some 101, some 102, some 103, some 104, some 105] r 12 = some false := by show (match r 92 with | .bool b => some b | _ => none) = some false; rw [h12]
                  simp only [Region.wanted, hy, beq_self_eq_true, if_true]
                  clear hs hq hf hy
                  unfold gives
                  go_simp
                  refine (HL.out wx hG).mono ?_
                  rintro e wy ⟨rfl, hb1⟩
                  exact ⟨_, rfl, hb1, rfl⟩
                -- operation 18: Op.move (tmp 4)
                refine ⟨fun r wx hG hs hq hf => ?_, ?_⟩
                · have e4 : r 4 = .slice (some ⟨g4, 0, none⟩) tn cap4 := hs 4 rfl
                  have h12 : r 92 = .bool false := hf.1
                  have hy : ydD [some 80, some 81, some 82, some 83, some 84, some 85, some 86, some 87, some 88, some 89, some 90, some 91, some 92, some 93, some 94, some 95, some 96, some 97, some 98, some 99, some 100, some 101, some 102, some 103, some 104, some 105] r 12 = some false := by show (match r 92 with | .bool b => some b | _ => none) = some false; rw [h12]
                  simp only [Region.wanted, hy, beq_self_eq_true, if_true]
                  clear hs hq hf hy
                  unfold gives
                  go_simp
                  exact ⟨Below.refl _ _, rfl⟩
                -- operation 19: Op.move (tmp 9)
                refine ⟨fun r wx hG hs hq hf => ?_, ?_⟩
                · have e9 : r 9 = .int .i64 jj := hs 9 rfl
                  have h12 : r 92 = .bool false := hf.1
                  have hy : ydD [some 80, some 81, some 82, some 83, some 84, some 85, some 86, some 87, some 88, some 89, some 90, some 91, some 92, some 93, some 94, some 95, some 96, some 97, some 98, some 99, some 100, some 101, some 102, some 103, some 104, some 105] r 12 = some false := by show (match r 92 with | .bool b => some b | _ => none) = some false; rw [h12]
                  simp only [Region.wanted, hy, beq_self_eq_true, if_true]
                  clear hs hq hf hy
                  unfold gives
                  go_simp
                  exact ⟨Below.refl _ _, rfl⟩
                -- operation 20: Op.indexAddr 40 (tmp 98) (tmp 99)
                refine ⟨fun r wx hG hs hq hf => ?_, ?_⟩
                · have h18 : r 98 = .slice (some ⟨g4, 0, none⟩) tn cap4 := hf.1
                  have h19 : r 99 = .int .i64 (jj : Nat) := hf.2.1
                  have h12 : r 92 = .bool false := hf.2.2.1
                  have hy : ydD [some 80, some 81, some 82, some 83, some 84, some 85, some 86, some 87, some 88, some 89, some 90, some 91, some 92, some 93, some 94, some 95, some 96, some 97, some 98, some 99, some 100, some 101, some 102, some 103, some 104, some 105] r 12 = some false := by show (match r 92 with | .bool b => some b | _ => none) = some false; rw [h12]
                  simp only [Region.wanted, hy, beq_self_eq_true, if_true]
                  clear hs hq hf hy
                  unfold gives
                  go_simp
                  exact ⟨Below.refl _ _, rfl⟩
                -- operation 21: Op.load 9 (tmp 100)
                refine ⟨fun r wx hG hs hq hf => ?_, ?_⟩
                · have h20 : r 100 = .pointer (some ⟨g4, jj, none⟩) := hf.1
                  have h12 : r 92 = .bool false := hf.2.1
                  have hy : ydD [some 80, some 81, some 82, some 83, some 84, some 85, some 86, some 87, some 88, some 89, some 90, some 91, some 92, some 93, some 94, some 95, some 96, some 97, some 98, some 99, some 100, some 101, some 102, some 103, some 104, some 105] r 12 = some false := by show (match r 92 with | .bool b => some b | _ => none) = some false; rw [h12]
                  simp only [Region.wanted, hy, beq_self_eq_true, if_true]
                  clear hs hq hf hy
                  unfold gives
                  have hcl := ss_text hG htt
                  go_simp
                  exact ⟨Below.refl _ _, rfl⟩
                -- operation 22: Op.call ( callee := Callee.builtin Builtin.len, args := #[tmp 101], argTypes := #[9] )
                refine ⟨fun r wx hG hs hq hf => ?_, ?_⟩
                · have h21 : r 101 = .string ⟨tt.toArray⟩ := hf.1
                  have h12 : r 92 = .bool false := hf.2.1
                  have hy : ydD [some 80, some 81, some 82, some 83, some 84, some 85, some 86, some 87, some 88, some 89, some 90, some 91, some 92, some 93, some 94, some 95, some 96, some 97, some 98, some 99, some 100, some 101, some 102, some 103, some 104, some 105] r 12 = some false := by show (match r 92 with | .bool b => some b | _ => none) = some false; rw [h12]
                  simp only [Region.wanted, hy, beq_self_eq_true, if_true]
                  clear hs hq hf hy
                  unfold gives
                  go_simp
                  exact ⟨Below.refl _ _, by simp [ss19F]⟩
                -- operation 23: Op.convert 3 36 (tmp 102)
                refine ⟨fun r wx hG hs hq hf => ?_, ?_⟩
                · have h22 : r 102 = .int .i64 (tt.length : Nat) := hf.1
                  have h12 : r 92 = .bool false := hf.2.1
                  have hy : ydD [some 80, some 81, some 82, some 83, some 84, some 85, some 86, some 87, some 88, some 89, some 90, some 91, some 92, some 93, some 94, some 95, some 96, some 97, some 98, some 99, some 100, some 101, some 102, some 103, some 104, some 105] r 12 = some false := by show (match r 92 with | .bool b => some b | _ => none) = some false; rw [h12]
                  simp only [Region.wanted, hy, beq_self_eq_true, if_true]
                  clear hs hq hf hy
                  unfold gives
                  have hu : IntKind.u64.wrap (tt.length : Int) = (tt.length : Int) := IntWalk.u64_in _ (by omega)
                  go_simp
                  exact ⟨Below.refl _ _, rfl⟩
                -- operation 24: Op.binOp BinOp.neq 36 (tmp 97) (tmp 103) 36
                refine ⟨fun r wx hG hs hq hf => ?_, ?_⟩
                · have h17 : r 97 = .int .u64 (tt.length : Nat) := hf.1
                  have h23 : r 103 = .int .u64 (tt.length : Nat) := hf.2.1
                  have h12 : r 92 = .bool false := hf.2.2.1
                  have hy : ydD [some 80, some 81, some 82, some 83, some 84, some 85, some 86, some 87, some 88, some 89, some 90, some 91, some 92, some 93, some 94, some 95, some 96, some 97, some 98, some 99, some 100, some 101, some 102, some 103, some 104, some 105] r 12 = some false := by show (match r 92 with | .bool b => some b | _ => none) = some false; rw [h12]
                  simp only [Region.wanted, hy, beq_self_eq_true, if_true]
                  clear hs hq hf hy
                  unfold gives
                  go_simp
                  exact ⟨Below.refl _ _, by simp [ss19F]⟩
                -- operation 25: Op.pick (tmp 92) (const (Value.bool true)) (tmp 104)
                refine ⟨fun r wx hG hs hq hf => ?_, ?_⟩
                · have h12 : r 92 = .bool false := hf.1
                  have h24 : r 104 = .bool false := hf.2.1
                  refine (if_pos rfl).symm ▸ ?_
                  clear hs hq hf
                  unfold gives
                  go_simp
                  exact ⟨Below.refl _ _, rfl⟩
                exact trivial
              case hend =>
                intro u wz hG hfin
                have z25 : u 25 = .bool false := hfin 25 (by decide) (by kernel_rfl)
                clear hfin
                simp only [fill]
                go_simp
                go_wp2_with fail
                go_roundw
                case rel => exact ⟨jj + 1, by omega, by go_num, hG⟩
                case measure => simp [intOf]; omega
            · have hjz : ¬ (jj : Int) < (tn : Int) := by omega
              go_wp2_with fail
              go_ret
              exact ⟨rfl, HJ.out.bl⟩
      · have hi3 : ¬ (i : Int) < (sc.length : Int) := by omega
        clear htl htn hgo hne hn3 hn4 hc3 hc4 hg3 hg4 hg3B hg4B
        iterate 1
          have HS3 := HS
          go_wp2_with fail
          go_loopw [9] (fun s9 wr => ∃ jj : Nat, jj ≤ tn ∧ s9 = .int .i64 jj ∧ RowKit.Hid (SS w wr B (.slice (some ⟨g3, 0, none⟩) tn cap3) (.slice (some ⟨g4, 0, none⟩) tn cap4) ts)) (fun s9 _ => tn - (intOf s9).toNat)
          case atStart => exact ⟨0, by omega, rfl, HS3⟩
          case round =>
            clear HS HS3
            obtain ⟨jj, hj, rfl, HJ⟩ := hrel
            by_cases hjl : jj < tn
            · have hjz : (jj : Int) < (tn : Int) := by omega
              have hj0 : (0 : Int) ≤ (jj : Int) := by omega
              obtain ⟨tt, htt⟩ : ∃ tt, ts[jj]? = some tt := ⟨_, List.getElem?_eq_getElem (by rw [← HTN.out]; exact hjl)⟩
              have httl := htb tt (List.mem_of_getElem? htt)
              have h1 : ∀ w', SS w w' B (.slice (some ⟨g3, 0, none⟩) tn cap3) (.slice (some ⟨g4, 0, none⟩) tn cap4) ts → _ := fun w' h => StSum_any tt w' (by omega) (hT.toTabs.keepB h.bl)
              have h2 : ∀ v w', SS w w' B (.slice (some ⟨g3, 0, none⟩) tn cap3) (.slice (some ⟨g4, 0, none⟩) tn cap4) ts → Rd w' 1 v tt.length (bv tt) → _ := fun v w' h hr => refSumSha_any tt v w' (by omega) hr (hT.keepB h.bl)
              have h3 : ∀ w', SS w w' B (.slice (some ⟨g3, 0, none⟩) tn cap3) (.slice (some ⟨g4, 0, none⟩) tn cap4) ts → _ := fun w' _ => Len_any tt w' (by omega)
              rw [show stv tt = (stL tt).toArray from rfl] at h1 h3
              have hee := fun w => eqIn_hash (Sha.sum tt) (Sha.sum tt) (sum_length tt) (sum_length tt) w
              simp only [BEq.rfl] at hee
              generalize (bv (Sha.sum tt)).toArray = o at *
              have HS1 := Lib.hid h1
              have HS2 := Lib.hid h2
              have HL := Lib.hid h3
              have HE := Lib.hid hee
              clear h1 h2 h3 hee
              go_upto_region 19 with fail
              refine wp_region_steps [some 80, some 81, some 82, some 83, some 84, some 85, some 86, some 87, some 88, some 89, some 90, some 91, some 92, some 93, some 94, some 95, some 96, some 97, some 98, some 99, some 100, some 101, some 102, some 103, some 104, some 105] [] (ss19F g3 g4 tn cap3 cap4 jj tt o) (fun _ wx wy => Below wx.heap.size wx wy) (fun wx => SS w wx B (.slice (some ⟨g3, 0, none⟩) tn cap3) (.slice (some ⟨g4, 0, none⟩) tn cap4) ts) (by kernel_rfl) (by kernel_rfl) rfl (by kernel_rfl) (HJ.out.keep (Below.refl _ _).drew) (fun _ wx => Below.refl _ _) (fun _ _ _ h k => h.keep k) ?hF ?hstep ?hend
              case hF =>
                exact ⟨fun _ _ _ _ _ _ h => h, ⟨fun _ _ _ _ _ _ h => h, ⟨fun _ _ _ _ _ _ h => h, ⟨fun _ _ _ _ _ _ h => h, ⟨fun _ _ _ _ _ _ h => h, ⟨fun _ _ _ _ _ _ h => h, ⟨fun _ _ _ _ _ _ h => h, ⟨fun _ _ _ _ _ _ h => h, ⟨fun _ _ _ _ _ _ h => h, ⟨fun _ _ _ _ _ k h => Rd.keep h k, ⟨fun _ _ _ _ _ _ h => h, ⟨fun _ _ _ _ _ _ h => h, ⟨fun _ _ _ _ _ _ h => h, ⟨fun _ _ _ _ _ _ h => h, ⟨fun _ _ _ _ _ _ h => h, ⟨fun _ _ _ _ _ _ h => h, ⟨fun _ _ _ _ _ _ h => h, ⟨fun _ _ _ _ _ _ h => h, ⟨fun _ _ _ _ _ _ h => h, ⟨fun _ _ _ _ _ _ h => h, ⟨fun _ _ _ _ _ _ h => h, ⟨fun _ _ _ _ _ _ h => h, ⟨fun _ _ _ _ _ _ h => h, ⟨fun _ _ _ _ _ _ h => h, ⟨fun _ _ _ _ _ _ h => h, ⟨fun _ _ _ _ _ _ h => h, trivial⟩⟩⟩⟩⟩⟩⟩⟩⟩⟩⟩⟩⟩⟩⟩⟩⟩⟩⟩⟩⟩⟩⟩⟩⟩⟩
              case hstep =>
                -- operation 0: Op.move (tmp 3)
                refine ⟨fun r wx hG hs hq hf => ?_, ?_⟩
                · have e3 : r 3 = .slice (some ⟨g3, 0, none⟩) tn cap3 := hs 3 rfl
                  refine (if_pos rfl).symm ▸ ?_
                  clear hs hq hf
                  unfold gives
                  go_simp
                  exact ⟨Below.refl _ _, rfl⟩
                -- operation 1: Op.move (tmp 9)
                refine ⟨fun r wx hG hs hq hf => ?_, ?_⟩
                · have e9 : r 9 = .int .i64 jj := hs 9 rfl
                  refine (if_pos rfl).symm ▸ ?_
                  clear hs hq hf
                  unfold gives
                  go_simp
                  exact ⟨Below.refl _ _, rfl⟩
                -- operation 2: Op.indexAddr 39 (tmp 80) (tmp 81)
                refine ⟨fun r wx hG hs hq hf => ?_, ?_⟩
                · have h0 : r 80 = .slice (some ⟨g3, 0, none⟩) tn cap3 := hf.1
                  have h1 : r 81 = .int .i64 (jj : Nat) := hf.2.1
                  refine (if_pos rfl).symm ▸ ?_
                  clear hs hq hf
                  unfold gives
                  go_simp
                  exact ⟨Below.refl _ _, rfl⟩
                -- operation 3: Op.load 38 (tmp 82)
                refine ⟨fun r wx hG hs hq hf => ?_, ?_⟩
                · have h2 : r 82 = .pointer (some ⟨g3, jj * 73, none⟩) := hf.1
                  refine (if_pos rfl).symm ▸ ?_
                  clear hs hq hf
                  unfold gives
                  refine gives_load_mid 38 _ rfl g3 (jj * 73) h2 (stL tt) _ (ss_range hG htt) Tryd.underlying38 rfl (stInfo' _ (stL_length tt)) ⟨Below.refl _ _, rfl⟩
                -- operation 4: Op.call ( callee := Callee.value (func 18), args := #[tmp 83], argTypes := #[38] )
                refine ⟨fun r wx hG hs hq hf => ?_, ?_⟩
                · have h3 : r 83 = .agg (stL tt).toArray := hf.1
                  refine (if_pos rfl).symm ▸ ?_
                  clear hs hq hf
                  unfold gives
                  go_simp
                  refine (HS1.out wx hG).mono ?_
                  rintro e wy ⟨rfl, hb1⟩
                  exact ⟨_, rfl, hb1, rfl⟩
                -- operation 5: Op.move (tmp 4)
                refine ⟨fun r wx hG hs hq hf => ?_, ?_⟩
                · have e4 : r 4 = .slice (some ⟨g4, 0, none⟩) tn cap4 := hs 4 rfl
                  refine (if_pos rfl).symm ▸ ?_
                  clear hs hq hf
                  unfold gives
                  go_simp
                  exact ⟨Below.refl _ _, rfl⟩
                -- operation 6: Op.move (tmp 9)
                refine ⟨fun r wx hG hs hq hf => ?_, ?_⟩
                · have e9 : r 9 = .int .i64 jj := hs 9 rfl
                  refine (if_pos rfl).symm ▸ ?_
                  clear hs hq hf
                  unfold gives
                  go_simp
                  exact ⟨Below.refl _ _, rfl⟩
                -- operation 7: Op.indexAddr 40 (tmp 85) (tmp 86)
                refine ⟨fun r wx hG hs hq hf => ?_, ?_⟩
                · have h5 : r 85 = .slice (some ⟨g4, 0, none⟩) tn cap4 := hf.1
                  have h6 : r 86 = .int .i64 (jj : Nat) := hf.2.1
                  refine (if_pos rfl).symm ▸ ?_
                  clear hs hq hf
                  unfold gives
                  go_simp
                  exact ⟨Below.refl _ _, rfl⟩
                -- operation 8: Op.load 9 (tmp 87)
                refine ⟨fun r wx hG hs hq hf => ?_, ?_⟩
                · have h7 : r 87 = .pointer (some ⟨g4, jj, none⟩) := hf.1
                  refine (if_pos rfl).symm ▸ ?_
                  clear hs hq hf
                  unfold gives
                  have hcl := ss_text hG htt
                  go_simp
                  exact ⟨Below.refl _ _, rfl⟩
                -- operation 9: Op.convert 9 22 (tmp 88)
                refine ⟨fun r wx hG hs hq hf => ?_, ?_⟩
                · have h8 : r 88 = .string ⟨tt.toArray⟩ := hf.1
                  refine (if_pos rfl).symm ▸ ?_
                  clear hs hq hf
                  unfold gives
                  have hcv := Lib.run_convert_string_bytes (P := Tryd.prog) wx 9 22 5 ⟨tt.toArray⟩ Tryd.underlying9 Tryd.underlying22 Tryd.underlying5
                  go_simp
                  exact ⟨bytesWorld_below _ _ _, by simpa [ss19F] using bytesWorld_rd wx _ tt _ (grownCap_ge wx tt.length 0 _)⟩
                -- operation 10: Op.call ( callee := Callee.value (func 14), args := #[tmp 89], argTypes := #[22] )
                refine ⟨fun r wx hG hs hq hf => ?_, ?_⟩
                · have h9 : Rd wx 1 (r 89) tt.length (bv tt) := hf.1
                  refine (if_pos rfl).symm ▸ ?_
                  clear hs hq hf
                  unfold gives
                  go_simp
                  refine (HS2.out _ wx hG h9).mono ?_
                  rintro e wy ⟨rfl, hb1⟩
                  exact ⟨_, rfl, hb1, rfl⟩
                -- operation 11: Op.binOp BinOp.neq 25 (tmp 84) (tmp 90) 25
                refine ⟨fun r wx hG hs hq hf => ?_, ?_⟩
                · have h4 : r 84 = .agg o := hf.1
                  have h10 : r 90 = .agg o := hf.2.1
                  refine (if_pos rfl).symm ▸ ?_
                  clear hs hq hf
                  unfold gives
                  have hgd := eq_guard
                  have he := HE.out wx
                  go_simp
                  exact ⟨Below.refl _ _, rfl⟩
                -- operation 12: Op.move (tmp 91)
                refine ⟨fun r wx hG hs hq hf => ?_, ?_⟩
                · have h11 : r 91 = .bool false := hf.1
                  refine (if_pos rfl).symm ▸ ?_
                  clear hs hq hf
                  unfold gives
                  go_simp
                  exact ⟨Below.refl _ _, rfl⟩
                -- operation 13: Op.move (tmp 3)
                refine ⟨fun r wx hG hs hq hf => ?_, ?_⟩
                · have e3 : r 3 = .slice (some ⟨g3, 0, none⟩) tn cap3 := hs 3 rfl
                  have h12 : r 92 = .bool false := hf.1
                  have hy : ydD [some 80, some 81, some 82, some 83, some 84, some 85, some 86, some 87, some 88, some 89, some 90, some 91, some 92, some 93, some 94, some 95, some 96, some 97, some 98, some 99, some 100, some 101, some 102, some 103, some 104, some 105] r 12 = some false := by show (match r 92 with | .bool b => some b | _ => none) = some false; rw [h12]
                  simp only [Region.wanted, hy, beq_self_eq_true, if_true]
                  clear hs hq hf hy
                  unfold gives
                  go_simp
                  exact ⟨Below.refl _ _, rfl⟩
                -- operation 14: Op.move (tmp 9)
                refine ⟨fun r wx hG hs hq hf => ?_, ?_⟩
                · have e9 : r 9 = .int .i64 jj := hs 9 rfl
                  have h12 : r 92 = .bool false := hf.1
                  have hy : ydD [some 80, some 81, some 82, some 83, some 84, some 85, some 86, some 87, some 88, some 89, some 90, some 91, some 92, some 93, some 94, some 95, some 96, some 97, some 98, some 99, some 100, some 101, some 102, some 103, some 104, some 105] r 12 = some false := by show (match r 92 with | .bool b => some b | _ => none) = some false; rw [h12]
                  simp only [Region.wanted, hy, beq_self_eq_true, if_true]
                  clear hs hq hf hy
                  unfold gives
                  go_simp
                  exact ⟨Below.refl _ _, rfl⟩
                -- operation 15: Op.indexAddr 39 (tmp 93) (tmp 94)
                refine ⟨fun r wx hG hs hq hf => ?_, ?_⟩
                · have h13 : r 93 = .slice (some ⟨g3, 0, none⟩) tn cap3 := hf.1
                  have h14 : r 94 = .int .i64 (jj : Nat) := hf.2.1
                  have h12 : r 92 = .bool false := hf.2.2.1
                  have hy : ydD [some 80, some 81, some 82, some 83, some 84, some 85, some 86, some 87, some 88, some 89, some 90, some 91, some 92, some 93, some 94, some 95, some 96, some 97, some 98, some 99, some 100, some 101, some 102, some 103, some 104, some 105] r 12 = some false := by show (match r 92 with | .bool b => some b | _ => none) = some false; rw [h12]
                  simp only [Region.wanted, hy, beq_self_eq_true, if_true]
                  clear hs hq hf hy
                  unfold gives
                  go_simp
                  exact ⟨Below.refl _ _, rfl⟩
                -- operation 16: Op.load 38 (tmp 95)
                refine ⟨fun r wx hG hs hq hf => ?_, ?_⟩
                · have h15 : r 95 = .pointer (some ⟨g3, jj * 73, none⟩) := hf.1
                  have h12 : r 92 = .bool false := hf.2.1
                  have hy : ydD [some 80, some 81, some 82, some 83, some 84, some 85, some 86, some 87, some 88, some 89, some 90, some 91, some 92, some 93, some 94, some 95, some 96, some 97, some 98, some 99, some 100, some 101, some 102, some 103, some 104, some 105] r 12 = some false := by show (match r 92 with | .bool b => some b | _ => none) = some false; rw [h12]
                  simp only [Region.wanted, hy, beq_self_eq_true, if_true]
                  clear hs hq hf hy
                  unfold gives
                  refine gives_load_mid 38 _ rfl g3 (jj * 73) h15 (stL tt) _ (ss_range hG htt) Tryd.underlying38 rfl (stInfo' _ (stL_length tt)) ⟨Below.refl _ _, rfl⟩
                -- operation 17: Op.call ( callee := Callee.value (func 19), args := #[tmp 96], argTypes := #[38] )
                refine ⟨fun r wx hG hs hq hf => ?_, ?_⟩
                · have h16 : r 96 = .agg (stL tt).toArray := hf.1
                  have h12 : r 92 = .bool false := hf.2.1
                  have hy : ydD [some 80, some 81, some 82, some 83, some 84, some 85, some 86, some 87, some 88, some 89, some 90, some 91, some 92, some 93, some 94, some 95, some 96, some 97, some 98, some 99, some 100, some 101, some 102, some 103, some 104, some 105] r 12 = some false := by show (match r 92 with | .bool b => some b | _ => none) = some false; rw [h12]
                  simp only [Region.wanted, hy, beq_self_eq_true, if_true]
                  clear hs hq hf hy
                  unfold gives
                  go_simp
                  refine (HL.out wx hG).mono ?_
                  rintro e wy ⟨rfl, hb1⟩
                  exact ⟨_, rfl, hb1, rfl⟩
                -- operation 18: Op.move (tmp 4)
                refine ⟨fun r wx hG hs hq hf => ?_, ?_⟩
                · have e4 : r 4 = .slice (some ⟨g4, 0, none⟩) tn cap4 := hs 4 rfl
                  have h12 : r 92 = .bool false := hf.1
                  have hy : ydD [some 80, some 81, some 82, some 83, some 84, some 85, some 86, some 87, some 88, some 89, some 90, some 91, some 92, some 93, some 94, some 95, some 96, some 97, some 98, some 99, some 100, some 101, some 102, some 103, some 104, some 105] r 12 = some false := by show (match r 92 with | .bool b => some b | _ => none) = some false; rw [h12]
                  simp only [Region.wanted, hy, beq_self_eq_true, if_true]
                  clear hs hq hf hy
                  unfold gives
                  go_simp
                  exact ⟨Below.refl _ _, rfl⟩
                -- operation 19: Op.move (tmp 9)
                refine ⟨fun r wx hG hs hq hf => ?_, ?_⟩
                · have e9 : r 9 = .int .i64 jj := hs 9 rfl
                  have h12 : r 92 = .bool false := hf.1
                  have hy : ydD [some 80, some 81, some 82, some 83, some 84, some 85, some 86, some 87, some 88, some 89, some 90, some 91, some 92, some 93, some 94, some 95, some 96, some 97, some 98, some 99, some 100, some 101, some 102, some 103, some 104, some 105] r 12 = some false := by show (match r 92 with | .bool b => some b | _ => none) = some false; rw [h12]
                  simp only [Region.wanted, hy, beq_self_eq_true, if_true]
                  clear hs hq hf hy
                  unfold gives
                  go_simp
                  exact ⟨Below.refl _ _, rfl⟩
                -- operation 20: Op.indexAddr 40 (tmp 98) (tmp 99)
                refine ⟨fun r wx hG hs hq hf => ?_, ?_⟩
                · have h18 : r 98 = .slice (some ⟨g4, 0, none⟩) tn cap4 := hf.1
                  have h19 : r 99 = .int .i64 (jj : Nat) := hf.2.1
                  have h12 : r 92 = .bool false := hf.2.2.1
                  have hy : ydD [some 80, some 81, some 82, some 83, some 84, some 85, some 86, some 87, some 88, some 89, some 90, some 91, some 92, some 93, some 94, some 95, some 96, some 97, some 98, some 99, some 100, some 101, some 102, some 103, some 104, some 105] r 12 = some false := by show (match r 92 with | .bool b => some b | _ => none) = some false; rw [h12]
                  simp only [Region.wanted, hy, beq_self_eq_true, if_true]
                  clear hs hq hf hy
                  unfold gives
                  go_simp
                  exact ⟨Below.refl _ _, rfl⟩
                -- operation 21: Op.load 9 (tmp 100)
                refine ⟨fun r wx hG hs hq hf => ?_, ?_⟩
                · have h20 : r 100 = .pointer (some ⟨g4, jj, none⟩) := hf.1
                  have h12 : r 92 = .bool false := hf.2.1
                  have hy : ydD [some 80, some 81, some 82, some 83, some 84, some 85, some 86, some 87, some 88, some 89, some 90, some 91, some 92, some 93, some 94, some 95, some 96, some 97, some 98, some 99, some 100, some 101, some 102, some 103, some 104, some 105] r 12 = some false := by show (match r 92 with | .bool b => some b | _ => none) = some false; rw [h12]
                  simp only [Region.wanted, hy, beq_self_eq_true, if_true]
                  clear hs hq hf hy
                  unfold gives
                  have hcl := ss_text hG htt
                  go_simp
                  exact ⟨Below.refl _ _, rfl⟩
                -- operation 22: Op.call ( callee := Callee.builtin Builtin.len, args := #[tmp 101], argTypes := #[9] )
                refine ⟨fun r wx hG hs hq hf => ?_, ?_⟩
                · have h21 : r 101 = .string ⟨tt.toArray⟩ := hf.1
                  have h12 : r 92 = .bool false := hf.2.1
                  have hy : ydD [some 80, some 81, some 82, some 83, some 84, some 85, some 86, some 87, some 88, some 89, some 90, some 91, some 92, some 93, some 94, some 95, some 96, some 97, some 98, some 99, some 100, some 101, some 102, some 103, some 104, some 105] r 12 = some false := by show (match r 92 with | .bool b => some b | _ => none) = some false; rw [h12]
                  simp only [Region.wanted, hy, beq_self_eq_true, if_true]
                  clear hs hq hf hy
                  unfold gives
                  go_simp
                  exact ⟨Below.refl _ _, by simp [ss19F]⟩
                -- operation 23: Op.convert 3 36 (tmp 102)
                refine ⟨fun r wx hG hs hq hf => ?_, ?_⟩
                · have h22 : r 102 = .int .i64 (tt.length : Nat) := hf.1
                  have h12 : r 92 = .bool false := hf.2.1
                  have hy : ydD [some 80, some 81, some 82, some 83, some 84, some 85, some 86, some 87, some 88, some 89, some 90, some 91, some 92, some 93, some 94, some 95, some 96, some 97, some 98, some 99, some 100, some 101, some 102, some 103, some 104, some 105] r 12 = some false := by show (match r 92 with | .bool b => some b | _ => none) = some false; rw [h12]
                  simp only [Region.wanted, hy, beq_self_eq_true, if_true]
                  clear hs hq hf hy
                  unfold gives
                  have hu : IntKind.u64.wrap (tt.length : Int) = (tt.length : Int) := IntWalk.u64_in _ (by omega)
                  go_simp
                  exact ⟨Below.refl _ _, rfl⟩
                -- operation 24: Op.binOp BinOp.neq 36 (tmp 97) (tmp 103) 36
                refine ⟨fun r wx hG hs hq hf => ?_, ?_⟩
                · have h17 : r 97 = .int .u64 (tt.length : Nat) := hf.1
                  have h23 : r 103 = .int .u64 (tt.length : Nat) := hf.2.1
                  have h12 : r 92 = .bool false := hf.2.2.1
                  have hy : ydD [some 80, some 81, some 82, some 83, some 84, some 85, some 86, some 87, some 88, some 89, some 90, some 91, some 92, some 93, some 94, some 95, some 96, some 97, some 98, some 99, some 100, some 101, some 102, some 103, some 104, some 105] r 12 = some false := by show (match r 92 with | .bool b => some b | _ => none) = some false; rw [h12]
                  simp only [Region.wanted, hy, beq_self_eq_true, if_true]
                  clear hs hq hf hy
                  unfold gives
                  go_simp
                  exact ⟨Below.refl _ _, by simp [ss19F]⟩
                -- operation 25: Op.pick (tmp 92) (const (Value.bool true)) (tmp 104)
                refine ⟨fun r wx hG hs hq hf => ?_, ?_⟩
                · have h12 : r 92 = .bool false := hf.1
                  have h24 : r 104 = .bool false := hf.2.1
                  refine (if_pos rfl).symm ▸ ?_
                  clear hs hq hf
                  unfold gives
                  go_simp
                  exact ⟨Below.refl _ _, rfl⟩
                exact trivial
              case hend =>
                intro u wz hG hfin
                have z25 : u 25 = .bool false := hfin 25 (by decide) (by kernel_rfl)
                clear hfin
                simp only [fill]
                go_simp
                go_wp2_with fail
                go_roundw
                case rel => exact ⟨jj + 1, by omega, by go_num, hG⟩
                case measure => simp [intOf]; omega
            · have hjz : ¬ (jj : Int) < (tn : Int) := by omega
              go_wp2_with fail
              go_ret
              exact ⟨rfl, HJ.out.bl⟩
end Go.Proofs.YtkcnakijfmemlaaDoor
