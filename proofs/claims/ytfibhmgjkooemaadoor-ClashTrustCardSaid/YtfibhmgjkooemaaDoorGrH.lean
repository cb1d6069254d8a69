/- growth.Climb where it goes through. (printed by gen/grh.py) -/
import Derived.Test.YtfibhmgjkooemaaDoorGrG
import Derived.Test.YtfibhmgjkooemaaDoorPathB
namespace Go.Proofs.YtfibhmgjkooemaaDoor
open Go.RowKit Sha Root Path Growth

theorem range_keep {w w' : World} {b o : Nat} {cs : List Value} (h : w.rangeAt b o cs) (hb : Below w.heap.size w w') : w'.rangeAt b o cs := fun j v hv => (hb.cell (World.block_lt_of_cell? w _ (h j v hv))).trans (h j v hv)
theorem kC_G {A g1 E g2 j : Nat} {w0 w w' : World} {o : Obj} (hlt : g1 < g2) (_hne : g1 ≠ g2) (_h1 : w0.heap[g1]? = some o) (h : Below g1 w0 w ∧ ∃ l : List UInt8, l.length = 32 ∧ w.heap[g2]? = some (.cells (bv l).toArray 35 (0, 0))) (k : kC A g1 E g2 j w w') :
    Below g1 w0 w' ∧ ∃ l : List UInt8, l.length = 32 ∧ w'.heap[g2]? = some (.cells (bv l).toArray 35 (0, 0)) := by
  obtain ⟨hb, l, hl, hr⟩ := h
  have hsz := (Array.getElem?_eq_some_iff.1 hr).1
  unfold kC at k
  split at k
  · exact ⟨below_grow hb k (Nat.le_refl _) (by omega), l, hl, (k.block g2 hsz (by simp; omega)).trans hr⟩
  · split at k
    · exact ⟨below_grow hb k.1 (by omega) hsz, k.2 ⟨l, hl, hr⟩⟩
    · exact ⟨hb.trans (k.mono (by omega)), l, hl, (k.block g2 hsz).trans hr⟩
theorem kC_keep {A g1 E g2 j g : Nat} {w w' : World} {o : Obj} (h1 : g ≠ g1) (h2 : g ≠ g2) (k : kC A g1 E g2 j w w') (h : w.heap[g]? = some o) : w'.heap[g]? = some o := by
  have hsz := (Array.getElem?_eq_some_iff.1 h).1
  unfold kC at k
  split at k
  · exact (k.block g hsz (by simpa using h1)).trans h
  · split at k
    · exact (k.1.block g hsz (by simpa using h2)).trans h
    · exact (k.block g hsz).trans h
theorem bool_at {w : World} {B : Nat} {v : Value} {wy : List Bool} {n : Nat} (_hn : wy.length = n) (h : w.ownsRow B 4 1 v n (bw wy)) (h0 : 0 < n) : ∃ g c, v = .slice (some ⟨g, 0, none⟩) n c ∧ ∀ i t, wy[i]? = some t → w.cell? ⟨g, i, none⟩ = some (.bool t) := by
  obtain ⟨g, c, hv, _, _, _, _⟩ := own_at h h0
  have hrd := own_rd h (by intro u hu; obtain ⟨t, _, rfl⟩ := List.mem_map.1 hu; rfl)
  obtain ⟨b, off, c2, hv2, _, hc⟩ := hrd.at h0
  rw [hv] at hv2
  obtain ⟨hb, _⟩ : (⟨g, 0, none⟩ : Addr) = ⟨b, off, none⟩ ∧ c = c2 := by simpa using hv2
  obtain ⟨rfl, rfl, _⟩ : g = b ∧ 0 = off ∧ True := by simpa using hb
  exact ⟨g, c, hv, fun i t ht => by have := hc i (.bool t) (by simp [bw, ht]); simpa using this⟩
/-- What each operation hands on. -/
def gc13F (b off o2 L c b16 : Nat) (p0 : List UInt8) : Nat → Value → World → Prop
  | 0, v, _ => v = .slice (some ⟨b, off, none⟩) L c
  | 1, v, _ => v = .pointer (some ⟨b, off, none⟩)
  | 2, v, _ => v = .agg (bv p0).toArray
  | 3, v, _ => v = .slice (some ⟨b, off, none⟩) L c
  | 4, v, _ => v = .slice (some ⟨b, o2, none⟩) (L - 1) (c - 1)
  | 5, _, w => w.heap[b16]? = some (.cells (bv p0).toArray 35 (0, 0))
  | 6, v, _ => v = .slice (some ⟨b, o2, none⟩) (L - 1) (c - 1)
  | _, _, _ => True

/-- What each operation hands on. -/
def gc22F (b10 b11 : Nat) (oa ob : List UInt8) : Nat → Value → World → Prop
  | 0, v, _ => v = .agg (bv oa).toArray
  | 1, v, _ => v = .agg (bv ob).toArray
  | 2, _, w => w.heap[b10]? = some (.cells (bv oa).toArray 35 (0, 0))
  | 3, _, w => w.heap[b11]? = some (.cells (bv ob).toArray 35 (0, 0))
  | 4, v, _ => v = .int .i64 0
  | _, _, _ => True

set_option maxHeartbeats 16000000 in
set_option maxRecDepth 100000 in
theorem gClimb_whole (W : Int) (m n : Nat) (old : List UInt8) (ps : List (List UInt8)) (a : Option Addr) (c : Nat) (w : World) (hW : -9223372036854775808 ≤ W ∧ W ≤ 9223372036854775807) (ho : old.length = 32) (hm : m < 18446744073709551616) (hn : n < 18446744073709551616)
    (h32 : ∀ p ∈ ps, p.length = 32) (hl : ps.length ≤ 140737488355328) (hr : Rd w 32 (.slice a ps.length c) ps.length (ps.flatMap bv)) (hT : Tabs w) (hE : gE m n ps.length = 0) (hw : whole m n = true) :
    Calls Tryd.prog 31 #[.int .i64 W, .int .u64 m, .int .u64 n, .agg (bv old).toArray, .slice a ps.length c] w fun e w' => e = .returned (.tuple #[.agg (bv (showG (nodeH W) m n old true ps).1).toArray, .agg (bv (showG (nodeH W) m n old true ps).2).toArray, .int .i64 0]) ∧ Below w.heap.size w w' := by
  have h0 : ¬ (m = 0 ∨ n < m) := fun h => by rw [gE, if_pos h] at hE; exact absurd hE (by decide)
  have h2 : ¬ ps.length < szG m n true := fun h => by rw [gE, if_neg h0, if_pos h] at hE; exact absurd hE (by decide)
  have h4 : ¬ szG m n true < ps.length := fun h => by rw [gE, if_neg h0, if_neg h2, if_pos h] at hE; exact absurd hE (by decide)
  have hz := (zero_of_info info32).1
  have HZ32 := Lib.hid (show (zs 32).length = 32 by simp [zs])
  obtain ⟨oa, ob, hoo⟩ : ∃ oa ob, showG (nodeH W) m n old true ps = (oa, ob) := ⟨_, _, rfl⟩
  rw [hoo]
  obtain ⟨w0, hw0⟩ : ∃ x : World, x = ((w.alloc (.cells (bv old).toArray 35)).alloc (.cells (bv (zs 32)).toArray 35)).alloc (.cells (bv (zs 32)).toArray 35) := ⟨_, rfl⟩
  have hr0 : w0.heap[w.heap.size]? = some (.cells (bv old).toArray 35 (0, 0)) := by
    rw [hw0, heap_alloc_old _ _ (by simp; omega), heap_alloc_old _ _ (by simp)]; exact heap_alloc_new _ _
  have hr1 : w0.heap[w.heap.size + 1]? = some (.cells (bv (zs 32)).toArray 35 (0, 0)) := by
    rw [hw0, heap_alloc_old _ _ (by simp)]
    have := heap_alloc_new (w.alloc (.cells (bv old).toArray 35)) (.cells (bv (zs 32)).toArray 35)
    simpa using this
  have hr2 : w0.heap[w.heap.size + 1 + 1]? = some (.cells (bv (zs 32)).toArray 35 (0, 0)) := by
    rw [hw0]
    have := heap_alloc_new ((w.alloc (.cells (bv old).toArray 35)).alloc (.cells (bv (zs 32)).toArray 35)) (.cells (bv (zs 32)).toArray 35)
    simpa using this
  have hbw0 : Below w.heap.size w w0 := by rw [hw0]; exact (((Below.refl _ _).alloc (Nat.le_refl _) _).alloc (by simp) _).alloc (by simp; omega) _
  have HW0 := Lib.hid hw0
  have H0 := Lib.hid (And.intro hr0 (And.intro hr1 (And.intro hr2 hbw0)))
  clear hw0 hr0 hr1 hr2 hbw0
  have y1 : ((m : Int) == 0) = false := by simp; omega
  have y2 : ¬ (n : Int) < (m : Int) := by omega
  have hwl := way_length n m n 64 (Nat.le_refl _) (by omega) (by omega) (by omega)
  have htu := fun wx (_ : Below w.heap.size w wx) => turns_any m n wx (by omega) (by omega) hn
  have hsz : szG m n true = (way m n).length + if (true && whole m n) = true then 0 else 1 := rfl
  have HN := Lib.hid hW
  have HT := Lib.hid hT
  have hLe : ps.length = szG m n true := by omega
  clear h2 h4 hE hT hW
  rw [showG, if_pos (by rw [hw]; rfl)] at hoo
  rw [hw] at htu hsz
  rw [show (true && true) = true from rfl, if_pos rfl, Nat.add_zero] at hsz
  obtain ⟨q, hq⟩ : ∃ q, q = ps := ⟨_, rfl⟩
  have HS0 := Lib.hid (show old.length = 32 from ho)
  have HOL := Lib.hid ho
  obtain ⟨WY, hWY⟩ : ∃ x, x = way m n := ⟨_, rfl⟩
  rw [← hWY] at htu hsz hwl hoo
  obtain ⟨Lw, hLw⟩ : ∃ x, x = WY.length := ⟨_, rfl⟩
  rw [← hLw] at htu hsz hwl
  obtain ⟨b, o, hps⟩ : ∃ b o, Lw = 0 ∨ (0 < Lw ∧ a = some ⟨b, o, none⟩ ∧ ∀ j u, (q.flatMap bv)[j]? = some u → w.cell? ⟨b, o + j, none⟩ = some u) := by
    by_cases h0 : Lw = 0
    · exact ⟨0, 0, .inl h0⟩
    · obtain ⟨b, off, c', hv, _, hcell⟩ := hr.atN (by omega) (by omega)
      simp only [Value.slice.injEq, true_and] at hv
      exact ⟨b, off, .inr ⟨by omega, hv.1, by rw [hq]; exact hcell⟩⟩
  have hLp : ps.length = Lw := by omega
  rw [hLp] at hl ⊢
  have HPS := Lib.hid hps
  have HOUT := Lib.hid (And.intro (show runW (nodeH W) WY q (old, old) = (oa, ob) by rw [hq]; exact hoo) (And.intro (show Lw = q.length by rw [hq]; exact hLp.symm) (show WY.length = Lw from hLw.symm)))
  have HLW := Lib.hid (show WY.length = Lw from hLw.symm)
  have H32 := Lib.hid (show ∀ p ∈ q, p.length = 32 by rw [hq]; exact h32)
  have HTU := Lib.hid htu
  have z3 : ¬ (Lw : Int) < (Lw : Int) := by omega
  obtain ⟨L, hL⟩ : ∃ L, L = Lw := ⟨_, rfl⟩
  clear hps hoo hWY hr hLp htu hsz hLe hq ho h32 hLw h0
  skip
  go_enter Tryd.func31, Tryd.ntmps31
  go_upto_region 1 with fail
  rw [show ((w.alloc (.cells (bv old).toArray 35)).alloc (.cells (bv (zs 32)).toArray 35)).alloc (.cells (bv (zs 32)).toArray 35) = w0 from HW0.out.symm]
  go_wp2_with fail
  refine (HTU.out _ H0.out.2.2.2).mono ?_
  rintro e w1 ⟨va, vc, rfl, ho1, hb1⟩
  have HWY := Lib.hid (show 0 < Lw → ∃ g c, Value.slice va Lw vc = .slice (some ⟨g, 0, none⟩) Lw c ∧ ∀ i t, WY[i]? = some t → w1.cell? ⟨g, i, none⟩ = some (.bool t) from fun h00 => bool_at HLW.out ho1 h00)
  have H1 := Lib.hid (And.intro ((hb1.block _ (Array.getElem?_eq_some_iff.1 H0.out.1).1).trans H0.out.1) (And.intro ((hb1.block _ (Array.getElem?_eq_some_iff.1 H0.out.2.1).1).trans H0.out.2.1) (And.intro ((hb1.block _ (Array.getElem?_eq_some_iff.1 H0.out.2.2.1).1).trans H0.out.2.2.1) (And.intro (H0.out.2.2.2.trans (hb1.mono H0.out.2.2.2.size)) trivial))))
  have hl1 : w.heap.size + 1 + 1 < w1.heap.size := (Array.getElem?_eq_some_iff.1 H1.out.2.2.1).1
  clear ho1 hb1
  have H16 := Lib.hid (heap_alloc_new w1 (.cells (bv (zs 32)).toArray 35))
  go_upto_region 14 with (first
    | (with_reducible show wpList _ _ _ (⟨some 55, _, _, _, _, _⟩ :: _) _ _; refine wpList_load_row rfl _ _ rfl w.heap.size rfl _ _ (0, 0) _ H1.out.1 Tryd.underlying35 rfl (hInfo _ HOL.out) ?_)
    | (with_reducible show wpList _ _ _ (⟨none, Op.store _ _ _, _, _, _, _⟩ :: _) _ _; refine wpList_store_whole rfl _ _ _ rfl w1.heap.size (bv old) rfl rfl (bv (zs 32)) _ H16.out (hInfo' _ HOL.out) (by rw [bv_length, bv_length, HOL.out, HZ32.out]) (bv_one _) ?_; intro w2 HG2 hg2))
  go_wp2_with (first
    | (with_reducible show wpList _ _ _ (⟨some 63, _, _, _, _, _⟩ :: _) _ _; refine wpList_load_row rfl _ _ rfl w1.heap.size rfl _ _ (0, 0) _ HG2.out Tryd.underlying35 rfl (hInfo _ HOL.out) ?_)
    | (with_reducible show wpList _ _ _ (⟨none, Op.store _ _ _, _, _, _, _⟩ :: _) _ _; refine wpList_store_whole rfl _ _ _ rfl w2.heap.size (bv old) rfl rfl (bv (zs 32)) _ (heap_alloc_new w2 (.cells (bv (zs 32)).toArray 35)) (hInfo' _ HOL.out) (by rw [bv_length, bv_length, HOL.out, HZ32.out]) (bv_one _) ?_; intro w4 HG4 hg4))
  have k2 : Below w1.heap.size w1 w2 := below_grow ((Below.refl _ _).alloc (Nat.le_refl _) _) hg2 (Nat.le_refl _) (by simp)
  have k4 : Below w2.heap.size w2 w4 := below_grow ((Below.refl _ _).alloc (Nat.le_refl _) _) hg4 (Nat.le_refl _) (by simp)
  have hr16 := (k4.block _ (Array.getElem?_eq_some_iff.1 HG2.out).1).trans HG2.out
  have hlt := (Array.getElem?_eq_some_iff.1 HG2.out).1
  have HLT := Lib.hid hlt
  have H4 := Lib.hid (And.intro hr16 (And.intro HG4.out (k2.trans (k4.mono (Nat.le_of_lt hlt)))))
  clear k4 hr16 hlt HG4 hg4 hg2
  clear k2 HG2

  go_loopw [66] (fun s66 wr => ∃ (k : Nat) (ra rb : List UInt8), k ≤ Lw ∧ s66 = .int .i64 k ∧ wr.heap[(w1.heap.size)]? = some (.cells (bv ra).toArray 35 (0, 0)) ∧ wr.heap[(w2.heap.size)]? = some (.cells (bv rb).toArray 35 (0, 0)) ∧ ra.length = 32 ∧ rb.length = 32 ∧ runW (nodeH W) (WY.drop k) (q.drop k) (ra, rb) = (oa, ob) ∧ Below w1.heap.size w1 wr) (fun s66 _ => Lw - (intOf s66).toNat)
  case atStart => exact ⟨0, old, old, by omega, rfl, H4.out.1, H4.out.2.1, HS0.out, HS0.out, by rw [List.drop_zero, List.drop_zero]; exact HOUT.out.1, H4.out.2.2⟩
  case round =>
    obtain ⟨k, ra, rb, hkm, rfl, hra, hrb, ha32, hb32, hrun, hbw⟩ := hrel
    have hlt16 : w1.heap.size < (w2.heap.size) := HLT.out
    have hne : (w1.heap.size) ≠ (w2.heap.size) := by omega
    by_cases hlt2 : k < Lw
    · have z4 : (k : Int) < (Lw : Int) := by omega
      have z5 : (0 : Int) ≤ (k : Int) := by omega
      obtain ⟨hm0, hpa, hcell⟩ := HPS.out.resolve_left (by omega)
      obtain ⟨x, hx⟩ : ∃ x, q[k]? = some x := ⟨q[k]'(by rw [← HOUT.out.2.1]; exact hlt2), List.getElem?_eq_getElem _⟩
      obtain ⟨t, ht⟩ : ∃ t, WY[k]? = some t := ⟨WY[k]'(by rw [HOUT.out.2.2]; exact hlt2), List.getElem?_eq_getElem _⟩
      have hx32 := H32.out x (List.mem_of_getElem? hx)
      have hdr : q.drop k = x :: q.drop (k + 1) := (List.getElem?_eq_some_iff.1 hx).2 ▸ (List.drop_eq_getElem_cons _)
      have hdw : WY.drop k = t :: WY.drop (k + 1) := (List.getElem?_eq_some_iff.1 ht).2 ▸ (List.drop_eq_getElem_cons _)
      rw [hdr, hdw] at hrun
      obtain ⟨gw, cw, hgv, hcb⟩ := HWY.out (by omega)
      obtain ⟨rfl, rfl⟩ : va = some ⟨gw, 0, none⟩ ∧ vc = cw := by simpa using hgv
      try subst hpa
      have hcw : wr.cell? ⟨gw, k, none⟩ = some (.bool t) := (hbw.cell (p := ⟨gw, k, none⟩) (World.block_lt_of_cell? w1 _ (hcb k t ht))).trans (hcb k t ht)
      have hww := H1.out.2.2.2.1.trans (hbw.mono H1.out.2.2.2.1.size)
      have HRG := Lib.hid (fun wx (hb : Below wr.heap.size wr wx) => range_at (w := wx) H32.out hx (fun j u hu => ((hww.trans (hb.mono hww.size)).cell (World.block_lt_of_cell? w _ (hcell j u hu))).trans (hcell j u hu)))
      have HNA := Lib.hid (fun wx (hb : Below wr.heap.size wr wx) => Node_any W x ra wx hx32 ha32 HN.out (HT.out.keepB (hww.trans (hb.mono hww.size))))
      have HBW := Lib.hid hbw
      have HBK := Lib.hid (And.intro hra (And.intro hrb trivial))
      cases t with
      | true =>
        have HNB := Lib.hid (fun wx (hb : Below wr.heap.size wr wx) => Node_any W x rb wx hx32 hb32 HN.out (HT.out.keepB (hww.trans (hb.mono hww.size))))
        rw [runW] at hrun
        have hna := nodeH_length W x ra
        have hnb := nodeH_length W x rb
        obtain ⟨na, hnae⟩ : ∃ y, y = nodeH W x ra := ⟨_, rfl⟩
        obtain ⟨nb, hnbe⟩ : ∃ y, y = nodeH W x rb := ⟨_, rfl⟩
        rw [← hnae] at hna hrun HNA
        rw [← hnbe] at hnb hrun HNB
        have HRU := Lib.hid hrun
        have HLN := Lib.hid (And.intro hx32 (And.intro ha32 (And.intro hb32 (And.intro hna hnb))))
        clear hx ht hx32 hdr hdw hrun hcb hww hbw hra hrb ha32 hb32 hcell hna hnb hnae hnbe hgv
        go_upto_region 19 with fail
        refine wp_region_untilW [some 72, some 73, some 74, some 75, some 76, some 77, some 78, some 79, some 80, some 81, some 82, some 83, some 84, some 85, none, none] [] 14 (fun wx => Below wr.heap.size wr wx) [0, 1, 2, 3, 4, 5, 6, 7, 8, 9, 10, 11, 12, 13, 14] (gc19F W b o Lw c k (w1.heap.size) (w2.heap.size) x ra rb na nb) (kC 14 (w1.heap.size) 15 (w2.heap.size)) (fun wx => Below (w1.heap.size) wr wx ∧ ∃ l : List UInt8, l.length = 32 ∧ wx.heap[(w2.heap.size)]? = some (.cells (bv l).toArray 35 (0, 0))) (by kernel_rfl) (by kernel_rfl) rfl (by kernel_rfl) (by kernel_rfl) ⟨(Below.refl _ _).drew, _, HLN.out.2.2.1, HBK.out.2.1⟩ (Below.refl _ _).drew (fun j hj hj2 _ _ k h => h.trans ((kC_below hj (fun e => by subst e; exact absurd hj2 (by rw [show waits _ _ 15 14 = true by kernel_rfl]; simp)) k).mono h.size)) (fun _ _ => kC_refl _) (fun _ _ _ h k => kC_G hlt16 hne HBK.out.1 h k) ?hF ?hstep ?hend
        case hF =>
          exact ⟨fun _ _ _ _ _ _ h => h, ⟨fun _ _ _ _ _ _ h => h, ⟨fun _ _ _ _ _ _ h => h, ⟨fun _ _ _ _ _ _ h => h, ⟨fun _ _ _ _ _ _ h => h, ⟨fun _ _ _ _ _ _ h => h, ⟨fun _ _ _ _ _ _ h => h, ⟨fun _ _ _ _ _ _ h => h, ⟨fun _ _ _ _ _ _ h => h, ⟨fun _ _ _ _ _ _ h => h, ⟨fun _ _ _ _ _ _ h => h, ⟨fun _ _ _ _ _ _ h => h, ⟨fun _ _ _ _ _ _ h => h, ⟨fun _ _ _ _ _ _ h => h, ⟨fun j hg _ _ _ k h => kC_row1 (fun e => by subst e; exact absurd hg (by rw [show goneB _ 14 14 = true by kernel_rfl]; simp)) hne k h, ⟨fun j hg _ _ _ k h => kC_row2 (fun e => by subst e; exact absurd hg (by rw [show goneB _ 15 15 = true by kernel_rfl]; simp)) hne k h, trivial⟩⟩⟩⟩⟩⟩⟩⟩⟩⟩⟩⟩⟩⟩⟩⟩
        case hstep =>
          refine ⟨fun r wx hG hs hq hf => ?_, ?_⟩
          · have hQ := hq rfl
            have e0 : r 0 = .int .i64 W := hs 0 rfl
            refine (if_pos rfl).symm ▸ ?_
            clear hs hq hf
            unfold gives
            go_simp
            exact ⟨kC_refl _, rfl⟩
          refine ⟨fun r wx hG hs hq hf => ?_, ?_⟩
          · have hQ := hq rfl
            have e4 : r 4 = .slice (some ⟨b, o, none⟩) Lw c := hs 4 rfl
            refine (if_pos rfl).symm ▸ ?_
            clear hs hq hf
            unfold gives
            go_simp
            exact ⟨kC_refl _, rfl⟩
          refine ⟨fun r wx hG hs hq hf => ?_, ?_⟩
          · have hQ := hq rfl
            have e18 : r 18 = .int .i64 (k : Nat) := hs 18 rfl
            refine (if_pos rfl).symm ▸ ?_
            clear hs hq hf
            unfold gives
            go_simp
            exact ⟨kC_refl _, rfl⟩
          refine ⟨fun r wx hG hs hq hf => ?_, ?_⟩
          · have hQ := hq rfl
            have h1 : r 73 = .slice (some ⟨b, o, none⟩) Lw c := hf.1
            have h2 : r 74 = .int .i64 (k : Nat) := hf.2.1
            refine (if_pos rfl).symm ▸ ?_
            clear hs hq hf
            unfold gives
            have z0 : (0 : Int) ≤ (k : Int) := by omega
            have z1 : (k : Int) < (Lw : Int) := by omega
            go_simp
            exact ⟨kC_refl _, rfl⟩
          refine ⟨fun r wx hG hs hq hf => ?_, ?_⟩
          · have hQ := hq rfl
            have h3 : r 75 = .pointer (some ⟨b, o + k * 32, none⟩) := hf.1
            refine (if_pos rfl).symm ▸ ?_
            clear hs hq hf
            unfold gives
            refine gives_load_mid 35 _ rfl b (o + k * 32) h3 (bv x) _ (HRG.out wx hQ) Tryd.underlying35 rfl (hInfo' _ HLN.out.1) ?_
            exact ⟨kC_refl _, rfl⟩
          refine ⟨fun r wx hG hs hq hf => ?_, ?_⟩
          · have hQ := hq rfl
            have e16 : r 16 = .pointer (some ⟨(w1.heap.size), 0, none⟩) := hs 16 rfl
            refine (if_pos rfl).symm ▸ ?_
            clear hs hq hf
            unfold gives
            refine gives_load_row 35 _ rfl (w1.heap.size) e16 35 _ (0, 0) _ ((hQ.block (w1.heap.size) (Array.getElem?_eq_some_iff.1 HBK.out.1).1).trans HBK.out.1) Tryd.underlying35 rfl (hInfo _ HLN.out.2.1) ?_
            exact ⟨kC_refl _, rfl⟩
          refine ⟨fun r wx hG hs hq hf => ?_, ?_⟩
          · have hQ := hq rfl
            have h0 : r 72 = .int .i64 W := hf.1
            have h4 : r 76 = .agg (bv x).toArray := hf.2.1
            have h5 : r 77 = .agg (bv ra).toArray := hf.2.2.1
            refine (if_pos rfl).symm ▸ ?_
            clear hs hq hf
            unfold gives
            go_simp
            refine (HNA.out wx hQ).mono ?_
            rintro e wy ⟨rfl, hb1⟩
            exact ⟨_, rfl, kC_of rfl rfl hb1, rfl⟩
          refine ⟨fun r wx hG hs hq hf => ?_, ?_⟩
          · have hQ := hq rfl
            have e0 : r 0 = .int .i64 W := hs 0 rfl
            refine (if_pos rfl).symm ▸ ?_
            clear hs hq hf
            unfold gives
            go_simp
            exact ⟨kC_refl _, rfl⟩
          refine ⟨fun r wx hG hs hq hf => ?_, ?_⟩
          · have hQ := hq rfl
            have e4 : r 4 = .slice (some ⟨b, o, none⟩) Lw c := hs 4 rfl
            refine (if_pos rfl).symm ▸ ?_
            clear hs hq hf
            unfold gives
            go_simp
            exact ⟨kC_refl _, rfl⟩
          refine ⟨fun r wx hG hs hq hf => ?_, ?_⟩
          · have hQ := hq rfl
            have e18 : r 18 = .int .i64 (k : Nat) := hs 18 rfl
            refine (if_pos rfl).symm ▸ ?_
            clear hs hq hf
            unfold gives
            go_simp
            exact ⟨kC_refl _, rfl⟩
          refine ⟨fun r wx hG hs hq hf => ?_, ?_⟩
          · have hQ := hq rfl
            have h8 : r 80 = .slice (some ⟨b, o, none⟩) Lw c := hf.1
            have h9 : r 81 = .int .i64 (k : Nat) := hf.2.1
            refine (if_pos rfl).symm ▸ ?_
            clear hs hq hf
            unfold gives
            have z0 : (0 : Int) ≤ (k : Int) := by omega
            have z1 : (k : Int) < (Lw : Int) := by omega
            go_simp
            exact ⟨kC_refl _, rfl⟩
          refine ⟨fun r wx hG hs hq hf => ?_, ?_⟩
          · have hQ := hq rfl
            have h10 : r 82 = .pointer (some ⟨b, o + k * 32, none⟩) := hf.1
            refine (if_pos rfl).symm ▸ ?_
            clear hs hq hf
            unfold gives
            refine gives_load_mid 35 _ rfl b (o + k * 32) h10 (bv x) _ (HRG.out wx hQ) Tryd.underlying35 rfl (hInfo' _ HLN.out.1) ?_
            exact ⟨kC_refl _, rfl⟩
          refine ⟨fun r wx hG hs hq hf => ?_, ?_⟩
          · have hQ := hq rfl
            have e17 : r 17 = .pointer (some ⟨(w2.heap.size), 0, none⟩) := hs 17 rfl
            refine (if_pos rfl).symm ▸ ?_
            clear hs hq hf
            unfold gives
            refine gives_load_row 35 _ rfl (w2.heap.size) e17 35 _ (0, 0) _ ((hQ.block (w2.heap.size) (Array.getElem?_eq_some_iff.1 HBK.out.2.1).1).trans HBK.out.2.1) Tryd.underlying35 rfl (hInfo _ HLN.out.2.2.1) ?_
            exact ⟨kC_refl _, rfl⟩
          refine ⟨fun r wx hG hs hq hf => ?_, ?_⟩
          · have hQ := hq rfl
            have h7 : r 79 = .int .i64 W := hf.1
            have h11 : r 83 = .agg (bv x).toArray := hf.2.1
            have h12 : r 84 = .agg (bv rb).toArray := hf.2.2.1
            refine (if_pos rfl).symm ▸ ?_
            clear hs hq hf
            unfold gives
            go_simp
            refine (HNB.out wx hQ).mono ?_
            rintro e wy ⟨rfl, hb1⟩
            exact ⟨_, rfl, kC_of rfl rfl hb1, rfl⟩
          refine ⟨fun r wx hG hs hq hf => ?_, ?_⟩
          · have hQ := hq rfl
            have e16 : r 16 = .pointer (some ⟨(w1.heap.size), 0, none⟩) := hs 16 rfl
            have h6 : r 78 = .agg (bv na).toArray := hf.1
            refine (if_pos rfl).symm ▸ ?_
            clear hs hq hf
            unfold gives
            refine gives_store_row 35 _ _ rfl (w1.heap.size) (bv na) e16 h6 (bv ra) 35 ((hQ.block (w1.heap.size) (Array.getElem?_eq_some_iff.1 HBK.out.1).1).trans HBK.out.1) (hInfo' _ HLN.out.2.2.2.1) (by rw [bv_length, bv_length, HLN.out.2.2.2.1, HLN.out.2.1]) (bv_one _) ?_
            intro wy h1 h2
            exact ⟨kC_at1 h2, h1⟩
          refine ⟨fun r wx hG hs hq hf => ?_, ?_⟩
          · have e17 : r 17 = .pointer (some ⟨(w2.heap.size), 0, none⟩) := hs 17 rfl
            have h13 : r 85 = .agg (bv nb).toArray := hf.1
            have h14 : wx.heap[(w1.heap.size)]? = some (.cells (bv na).toArray 35 (0, 0)) := hf.2.1
            refine (if_pos rfl).symm ▸ ?_
            clear hs hq hf
            unfold gives
            obtain ⟨l, hl, hrl⟩ := hG.2
            refine gives_store_row 35 _ _ rfl (w2.heap.size) (bv nb) e17 h13 (bv l) 35 hrl (hInfo' _ HLN.out.2.2.2.2) (by rw [bv_length, bv_length, HLN.out.2.2.2.2, hl]) (bv_one _) ?_
            intro wy h1 h2
            exact ⟨kC_at2 (by decide) h2 ⟨_, HLN.out.2.2.2.2, h1⟩, h1⟩
          exact trivial
        case hend =>
          intro u wz hG hfin
          have z14 : wz.heap[(w1.heap.size)]? = some (.cells (bv na).toArray 35 (0, 0)) := hfin 14 (by decide) (by kernel_rfl)
          have z15 : wz.heap[(w2.heap.size)]? = some (.cells (bv nb).toArray 35 (0, 0)) := hfin 15 (by decide) (by kernel_rfl)
          clear hfin
          simp only [fill]
          have HZ := Lib.hid (And.intro z14 (And.intro z15 hG.1))
          clear z14 z15 hG
          go_simp
          go_wp2_with fail
          go_roundw
          case rel => exact ⟨k + 1, _, _, by omega, by go_num, HZ.out.1, HZ.out.2.1, HLN.out.2.2.2.1, HLN.out.2.2.2.2, HRU.out, HBW.out.trans HZ.out.2.2⟩
          case measure => simp [intOf]; omega
      | false =>
        have HNB := Lib.hid (fun wx (hb : Below wr.heap.size wr wx) => Node_any W rb x wx hb32 hx32 HN.out (HT.out.keepB (hww.trans (hb.mono hww.size))))
        rw [runW] at hrun
        have hnb := nodeH_length W rb x
        obtain ⟨nb, hnbe⟩ : ∃ y, y = nodeH W rb x := ⟨_, rfl⟩
        rw [← hnbe] at hnb hrun HNB
        have HRU := Lib.hid hrun
        have HLN := Lib.hid (And.intro hx32 (And.intro ha32 (And.intro hb32 (And.intro ha32 hnb))))
        clear hx ht hx32 hdr hdw hrun hcb hww hbw hra hrb ha32 hb32 hcell hnb hnbe HNA hgv
        go_upto_region 20 with fail
        refine wp_region_until [some 86, some 87, some 88, some 89, some 90, some 91, some 92, none] [] 7 (fun wx => Below wr.heap.size wr wx) [0, 1, 2, 3, 4, 5, 6, 7] (gc20F W b o Lw c k (w1.heap.size) (w2.heap.size) x ra rb ra nb) (kSt 7 (w2.heap.size)) (fun wx => wr.grownBy wx (some (w2.heap.size))) (by kernel_rfl) (by kernel_rfl) rfl (by kernel_rfl) (by kernel_rfl) (grown_drew (World.grownBy.refl _ _)) (Below.refl _ _).drew (fun _ hj _ _ k h => h.trans ((kSt_below hj k).mono h.size)) (fun _ _ => kSt_refl _ _ _ _) (fun _ _ _ h k => kSt_G h k) ?hF ?hstep ?hend
        case hF =>
          exact ⟨fun _ _ _ _ _ _ h => h, ⟨fun _ _ _ _ _ _ h => h, ⟨fun _ _ _ _ _ _ h => h, ⟨fun _ _ _ _ _ _ h => h, ⟨fun _ _ _ _ _ _ h => h, ⟨fun _ _ _ _ _ _ h => h, ⟨fun _ _ _ _ _ _ h => h, ⟨fun j hg _ _ _ k h => ((kSt_below (fun e => by subst e; exact absurd hg (by rw [show goneB _ 7 7 = true by kernel_rfl]; simp)) k).block _ (Array.getElem?_eq_some_iff.1 h).1).trans h, trivial⟩⟩⟩⟩⟩⟩⟩⟩
        case hstep =>
          refine ⟨fun r wx hG hs hq hf => ?_, ?_⟩
          · have hQ := hq rfl
            have e0 : r 0 = .int .i64 W := hs 0 rfl
            refine (if_pos rfl).symm ▸ ?_
            clear hs hq hf
            unfold gives
            go_simp
            exact ⟨kSt_refl _ _ _ _, rfl⟩
          refine ⟨fun r wx hG hs hq hf => ?_, ?_⟩
          · have hQ := hq rfl
            have e17 : r 17 = .pointer (some ⟨(w2.heap.size), 0, none⟩) := hs 17 rfl
            refine (if_pos rfl).symm ▸ ?_
            clear hs hq hf
            unfold gives
            refine gives_load_row 35 _ rfl (w2.heap.size) e17 35 _ (0, 0) _ ((hQ.block (w2.heap.size) (Array.getElem?_eq_some_iff.1 HBK.out.2.1).1).trans HBK.out.2.1) Tryd.underlying35 rfl (hInfo _ HLN.out.2.2.1) ?_
            exact ⟨kSt_refl _ _ _ _, rfl⟩
          refine ⟨fun r wx hG hs hq hf => ?_, ?_⟩
          · have hQ := hq rfl
            have e4 : r 4 = .slice (some ⟨b, o, none⟩) Lw c := hs 4 rfl
            refine (if_pos rfl).symm ▸ ?_
            clear hs hq hf
            unfold gives
            go_simp
            exact ⟨kSt_refl _ _ _ _, rfl⟩
          refine ⟨fun r wx hG hs hq hf => ?_, ?_⟩
          · have hQ := hq rfl
            have e18 : r 18 = .int .i64 (k : Nat) := hs 18 rfl
            refine (if_pos rfl).symm ▸ ?_
            clear hs hq hf
            unfold gives
            go_simp
            exact ⟨kSt_refl _ _ _ _, rfl⟩
          refine ⟨fun r wx hG hs hq hf => ?_, ?_⟩
          · have hQ := hq rfl
            have h2 : r 88 = .slice (some ⟨b, o, none⟩) Lw c := hf.1
            have h3 : r 89 = .int .i64 (k : Nat) := hf.2.1
            refine (if_pos rfl).symm ▸ ?_
            clear hs hq hf
            unfold gives
            have z0 : (0 : Int) ≤ (k : Int) := by omega
            have z1 : (k : Int) < (Lw : Int) := by omega
            go_simp
            exact ⟨kSt_refl _ _ _ _, rfl⟩
          refine ⟨fun r wx hG hs hq hf => ?_, ?_⟩
          · have hQ := hq rfl
            have h4 : r 90 = .pointer (some ⟨b, o + k * 32, none⟩) := hf.1
            refine (if_pos rfl).symm ▸ ?_
            clear hs hq hf
            unfold gives
            refine gives_load_mid 35 _ rfl b (o + k * 32) h4 (bv x) _ (HRG.out wx hQ) Tryd.underlying35 rfl (hInfo' _ HLN.out.1) ?_
            exact ⟨kSt_refl _ _ _ _, rfl⟩
          refine ⟨fun r wx hG hs hq hf => ?_, ?_⟩
          · have hQ := hq rfl
            have h0 : r 86 = .int .i64 W := hf.1
            have h1 : r 87 = .agg (bv rb).toArray := hf.2.1
            have h5 : r 91 = .agg (bv x).toArray := hf.2.2.1
            refine (if_pos rfl).symm ▸ ?_
            clear hs hq hf
            unfold gives
            go_simp
            refine (HNB.out wx hQ).mono ?_
            rintro e wy ⟨rfl, hb1⟩
            exact ⟨_, rfl, kSt_of rfl hb1, rfl⟩
          refine ⟨fun r wx hG hs hq hf => ?_, ?_⟩
          · have hQ := hq rfl
            have e17 : r 17 = .pointer (some ⟨(w2.heap.size), 0, none⟩) := hs 17 rfl
            have h6 : r 92 = .agg (bv nb).toArray := hf.1
            refine (if_pos rfl).symm ▸ ?_
            clear hs hq hf
            unfold gives
            refine gives_store_row 35 _ _ rfl (w2.heap.size) (bv nb) e17 h6 (bv rb) 35 ((hQ.block (w2.heap.size) (Array.getElem?_eq_some_iff.1 HBK.out.2.1).1).trans HBK.out.2.1) (hInfo' _ HLN.out.2.2.2.2) (by rw [bv_length, bv_length, HLN.out.2.2.2.2, HLN.out.2.2.1]) (bv_one _) ?_
            intro wy h1 h2
            exact ⟨kSt_at h2, h1⟩
          exact trivial
        case hend =>
          intro u wz hG hfin
          have z7 : wz.heap[(w2.heap.size)]? = some (.cells (bv nb).toArray 35 (0, 0)) := hfin 7 (by decide) (by kernel_rfl)
          clear hfin
          simp only [fill]
          have HZ := Lib.hid (And.intro z7 hG)
          clear z7 hG
          go_simp
          go_wp2_with fail
          go_roundw
          case rel => exact ⟨k + 1, _, _, by omega, by go_num, (HZ.out.2.block _ (Array.getElem?_eq_some_iff.1 HBK.out.1).1 (by simpa using hne)).trans HBK.out.1, HZ.out.1, HLN.out.2.1, HLN.out.2.2.2.2, HRU.out, below_grow HBW.out HZ.out.2 (Nat.le_of_lt hlt16) (Array.getElem?_eq_some_iff.1 HBK.out.2.1).1⟩
          case measure => simp [intOf]; omega
    · have z4 : ¬ (k : Int) < (Lw : Int) := by omega
      rw [List.drop_of_length_le (by rw [HOUT.out.2.2]; omega), runW] at hrun
      obtain ⟨rfl, rfl⟩ : oa = ra ∧ ob = rb := by have h := hrun; simp only [Prod.mk.injEq] at h; exact ⟨h.1.symm, h.2.symm⟩
      have hr1 := (hbw.block _ (Array.getElem?_eq_some_iff.1 H1.out.2.1).1).trans H1.out.2.1
      have hr2 := (hbw.block _ (Array.getElem?_eq_some_iff.1 H1.out.2.2.1).1).trans H1.out.2.2.1
      have hl2 : w.heap.size + 1 + 1 < w1.heap.size := (Array.getElem?_eq_some_iff.1 H1.out.2.2.1).1
      have HBK := Lib.hid (And.intro hra (And.intro hrb (And.intro hr1 hr2)))
      have HLN := Lib.hid (And.intro ha32 (And.intro hb32 HZ32.out))
      have HBW := Lib.hid hbw
      have hNE := Lib.hid (show (w.heap.size + 1) ≠ (w.heap.size + 1 + 1) ∧ (w.heap.size + 1) < (w.heap.size + 1 + 1) ∧ (w1.heap.size) ≠ (w.heap.size + 1) ∧ (w1.heap.size) ≠ (w.heap.size + 1 + 1) ∧ (w2.heap.size) ≠ (w.heap.size + 1) ∧ (w2.heap.size) ≠ (w.heap.size + 1 + 1) by omega)
      clear hra hrb hr1 hr2 ha32 hb32 hbw hrun
      go_upto_region 22 with fail
      refine wp_region_untilW [some 94, some 95, none, none, some 12] [] 2 (fun wx => wx.heap[(w.heap.size + 1)]? = some (.cells (bv (zs 32)).toArray 35 (0, 0))) [0, 2] (gc22F (w.heap.size + 1) (w.heap.size + 1 + 1) oa ob) (kC 2 (w.heap.size + 1) 3 (w.heap.size + 1 + 1)) (fun wx => (Below (w.heap.size + 1) wr wx ∧ wx.heap[(w1.heap.size)]? = some (.cells (bv oa).toArray 35 (0, 0)) ∧ wx.heap[(w2.heap.size)]? = some (.cells (bv ob).toArray 35 (0, 0))) ∧ ∃ l : List UInt8, l.length = 32 ∧ wx.heap[(w.heap.size + 1 + 1)]? = some (.cells (bv l).toArray 35 (0, 0))) (by kernel_rfl) (by kernel_rfl) rfl (by kernel_rfl) (by kernel_rfl) ⟨⟨(Below.refl _ _).drew, HBK.out.1, HBK.out.2.1⟩, _, HLN.out.2.2, HBK.out.2.2.2⟩ HBK.out.2.2.1 (fun j hj hj2 _ _ k h => kC_row1 hj hNE.out.1 k h) (fun _ _ => kC_refl _) (fun _ _ _ h k => ⟨⟨(kC_G hNE.out.2.1 hNE.out.1 HBK.out.2.2.1 ⟨h.1.1, h.2⟩ k).1, kC_keep hNE.out.2.2.1 hNE.out.2.2.2.1 k h.1.2.1, kC_keep hNE.out.2.2.2.2.1 hNE.out.2.2.2.2.2 k h.1.2.2⟩, (kC_G hNE.out.2.1 hNE.out.1 HBK.out.2.2.1 ⟨h.1.1, h.2⟩ k).2⟩) ?hF ?hstep ?hend
      case hF =>
        exact ⟨fun _ _ _ _ _ _ h => h, ⟨fun _ _ _ _ _ _ h => h, ⟨fun j hg _ _ _ k h => kC_row1 (fun e => by subst e; exact absurd hg (by rw [show goneB _ 2 2 = true by kernel_rfl]; simp)) hNE.out.1 k h, ⟨fun j hg _ _ _ k h => kC_row2 (fun e => by subst e; exact absurd hg (by rw [show goneB _ 3 3 = true by kernel_rfl]; simp)) hNE.out.1 k h, ⟨fun _ _ _ _ _ _ h => h, trivial⟩⟩⟩⟩⟩
      case hstep =>
        refine ⟨fun r wx hG hs hq hf => ?_, ?_⟩
        · have hQ := hq rfl
          have e16 : r 16 = .pointer (some ⟨(w1.heap.size), 0, none⟩) := hs 16 rfl
          refine (if_pos rfl).symm ▸ ?_
          clear hs hq hf
          unfold gives
          refine gives_load_row 35 _ rfl (w1.heap.size) e16 35 _ (0, 0) _ (hG.1.2.1) Tryd.underlying35 rfl (hInfo _ HLN.out.1) ⟨kC_refl _, rfl⟩
        refine ⟨fun r wx hG hs hq hf => ?_, ?_⟩
        · have e17 : r 17 = .pointer (some ⟨(w2.heap.size), 0, none⟩) := hs 17 rfl
          refine (if_pos rfl).symm ▸ ?_
          clear hs hq hf
          unfold gives
          refine gives_load_row 35 _ rfl (w2.heap.size) e17 35 _ (0, 0) _ (hG.1.2.2) Tryd.underlying35 rfl (hInfo _ HLN.out.2.1) ⟨kC_refl _, rfl⟩
        refine ⟨fun r wx hG hs hq hf => ?_, ?_⟩
        · have hQ := hq rfl
          have e10 : r 10 = .pointer (some ⟨(w.heap.size + 1), 0, none⟩) := hs 10 rfl
          have h0 : r 94 = .agg (bv oa).toArray := hf.1
          refine (if_pos rfl).symm ▸ ?_
          clear hs hq hf
          unfold gives
          refine gives_store_row 35 _ _ rfl (w.heap.size + 1) (bv oa) e10 h0 (bv (zs 32)) 35 hQ (hInfo' _ HLN.out.1) (by rw [bv_length, bv_length, HLN.out.1, HLN.out.2.2]) (bv_one _) ?_
          intro wy h1 h2
          exact ⟨kC_at1 h2, h1⟩
        refine ⟨fun r wx hG hs hq hf => ?_, ?_⟩
        · have e11 : r 11 = .pointer (some ⟨(w.heap.size + 1 + 1), 0, none⟩) := hs 11 rfl
          have h1 : r 95 = .agg (bv ob).toArray := hf.1
          have h2 : wx.heap[(w.heap.size + 1)]? = some (.cells (bv oa).toArray 35 (0, 0)) := hf.2.1
          refine (if_pos rfl).symm ▸ ?_
          clear hs hq hf
          unfold gives
          obtain ⟨l, hl, hrl⟩ := hG.2
          refine gives_store_row 35 _ _ rfl (w.heap.size + 1 + 1) (bv ob) e11 h1 (bv l) 35 hrl (hInfo' _ HLN.out.2.1) (by rw [bv_length, bv_length, HLN.out.2.1, hl]) (bv_one _) ?_
          intro wy h1 h2
          exact ⟨kC_at2 (by decide) h2 ⟨_, HLN.out.2.1, h1⟩, h1⟩
        refine ⟨fun r wx hG hs hq hf => ?_, ?_⟩
        · have h3 : wx.heap[(w.heap.size + 1 + 1)]? = some (.cells (bv ob).toArray 35 (0, 0)) := hf.1
          refine (if_pos rfl).symm ▸ ?_
          clear hs hq hf
          unfold gives
          go_simp
          exact ⟨kC_refl _, rfl⟩
        exact trivial
      case hend =>
        intro u wz hG hfin
        have z2 : wz.heap[(w.heap.size + 1)]? = some (.cells (bv oa).toArray 35 (0, 0)) := hfin 2 (by decide) (by kernel_rfl)
        have z3 : wz.heap[(w.heap.size + 1 + 1)]? = some (.cells (bv ob).toArray 35 (0, 0)) := hfin 3 (by decide) (by kernel_rfl)
        have z4 : u 4 = .int .i64 0 := hfin 4 (by decide) (by kernel_rfl)
        clear hfin
        simp only [fill]
        have HZ := Lib.hid (And.intro z2 (And.intro z3 hG.1.1))
        clear z2 z3 hG
        go_simp
        have hld1 := run_loadVar_row (P := Tryd.prog) wz (w.heap.size + 1) _ 35 _ (0, 0) _ HZ.out.1 Tryd.underlying35 rfl (hInfo _ HLN.out.1)
        have hld2 := run_loadVar_row (P := Tryd.prog) wz (w.heap.size + 1 + 1) _ 35 _ (0, 0) _ HZ.out.2.1 Tryd.underlying35 rfl (hInfo _ HLN.out.2.1)
        go_wp2_with fail
        refine bodyPost_ret (v := .tuple #[.agg (bv oa).toArray, .agg (bv ob).toArray, .int .i64 0]) ?_ ?_ ?_
        · simp [results, Tryd.results31, asAddr, hld1, hld2]
        · rfl
        · exact ⟨rfl, (H1.out.2.2.2.1.trans (HBW.out.mono H1.out.2.2.2.1.size)).trans (HZ.out.2.2.mono (by omega))⟩
set_option maxHeartbeats 16000000 in
set_option maxRecDepth 100000 in
theorem gClimb_part (W : Int) (m n : Nat) (old p0 : List UInt8) (q : List (List UInt8)) (a : Option Addr) (c : Nat) (w : World) (hW : -9223372036854775808 ≤ W ∧ W ≤ 9223372036854775807) (ho : old.length = 32) (hm : m < 18446744073709551616) (hn : n < 18446744073709551616)
    (h32 : ∀ p ∈ p0 :: q, p.length = 32) (hl : (p0 :: q).length ≤ 140737488355328) (hr : Rd w 32 (.slice a (p0 :: q).length c) (p0 :: q).length ((p0 :: q).flatMap bv)) (hT : Tabs w) (hE : gE m n (p0 :: q).length = 0) (hw : whole m n = false) :
    Calls Tryd.prog 31 #[.int .i64 W, .int .u64 m, .int .u64 n, .agg (bv old).toArray, .slice a (p0 :: q).length c] w fun e w' => e = .returned (.tuple #[.agg (bv (showG (nodeH W) m n old true (p0 :: q)).1).toArray, .agg (bv (showG (nodeH W) m n old true (p0 :: q)).2).toArray, .int .i64 0]) ∧ Below w.heap.size w w' := by
  obtain ⟨ps, hps0⟩ : ∃ ps, ps = p0 :: q := ⟨_, rfl⟩
  rw [← hps0] at h32 hl hr hE ⊢
  have h0 : ¬ (m = 0 ∨ n < m) := fun h => by rw [gE, if_pos h] at hE; exact absurd hE (by decide)
  have h2 : ¬ ps.length < szG m n true := fun h => by rw [gE, if_neg h0, if_pos h] at hE; exact absurd hE (by decide)
  have h4 : ¬ szG m n true < ps.length := fun h => by rw [gE, if_neg h0, if_neg h2, if_pos h] at hE; exact absurd hE (by decide)
  have hz := (zero_of_info info32).1
  have HZ32 := Lib.hid (show (zs 32).length = 32 by simp [zs])
  obtain ⟨oa, ob, hoo⟩ : ∃ oa ob, showG (nodeH W) m n old true ps = (oa, ob) := ⟨_, _, rfl⟩
  rw [hoo]
  obtain ⟨w0, hw0⟩ : ∃ x : World, x = ((w.alloc (.cells (bv old).toArray 35)).alloc (.cells (bv (zs 32)).toArray 35)).alloc (.cells (bv (zs 32)).toArray 35) := ⟨_, rfl⟩
  have hr0 : w0.heap[w.heap.size]? = some (.cells (bv old).toArray 35 (0, 0)) := by
    rw [hw0, heap_alloc_old _ _ (by simp; omega), heap_alloc_old _ _ (by simp)]; exact heap_alloc_new _ _
  have hr1 : w0.heap[w.heap.size + 1]? = some (.cells (bv (zs 32)).toArray 35 (0, 0)) := by
    rw [hw0, heap_alloc_old _ _ (by simp)]
    have := heap_alloc_new (w.alloc (.cells (bv old).toArray 35)) (.cells (bv (zs 32)).toArray 35)
    simpa using this
  have hr2 : w0.heap[w.heap.size + 1 + 1]? = some (.cells (bv (zs 32)).toArray 35 (0, 0)) := by
    rw [hw0]
    have := heap_alloc_new ((w.alloc (.cells (bv old).toArray 35)).alloc (.cells (bv (zs 32)).toArray 35)) (.cells (bv (zs 32)).toArray 35)
    simpa using this
  have hbw0 : Below w.heap.size w w0 := by rw [hw0]; exact (((Below.refl _ _).alloc (Nat.le_refl _) _).alloc (by simp) _).alloc (by simp; omega) _
  have HW0 := Lib.hid hw0
  have H0 := Lib.hid (And.intro hr0 (And.intro hr1 (And.intro hr2 hbw0)))
  clear hw0 hr0 hr1 hr2 hbw0
  have y1 : ((m : Int) == 0) = false := by simp; omega
  have y2 : ¬ (n : Int) < (m : Int) := by omega
  have hwl := way_length n m n 64 (Nat.le_refl _) (by omega) (by omega) (by omega)
  have htu := fun wx (_ : Below w.heap.size w wx) => turns_any m n wx (by omega) (by omega) hn
  have hsz : szG m n true = (way m n).length + if (true && whole m n) = true then 0 else 1 := rfl
  have HN := Lib.hid hW
  have HT := Lib.hid hT
  have hLe : ps.length = szG m n true := by omega
  clear h2 h4 hE hT hW
  rw [showG, if_neg (by rw [hw]; decide), hps0] at hoo
  simp only [List.drop_succ_cons, List.drop_zero, List.headD_cons] at hoo
  rw [hw] at htu hsz
  rw [show (true && false) = false from rfl, if_neg (by decide)] at hsz
  have hp0 : p0.length = 32 := h32 p0 (by rw [hps0]; simp)
  have HS0 := Lib.hid (show p0.length = 32 from hp0)
  have HOL := Lib.hid ho
  obtain ⟨WY, hWY⟩ : ∃ x, x = way m n := ⟨_, rfl⟩
  rw [← hWY] at htu hsz hwl hoo
  obtain ⟨Lw, hLw⟩ : ∃ x, x = WY.length := ⟨_, rfl⟩
  rw [← hLw] at htu hsz hwl
  have hqL : q.length = Lw := by rw [hps0] at hLe; simp at hLe; omega
  obtain ⟨b, off, c', hv, hlc, hcell⟩ := hr.atN (by omega) (by omega)
  simp only [Value.slice.injEq, true_and] at hv
  obtain ⟨rfl, rfl⟩ := hv
  obtain ⟨L, hL⟩ : ∃ L, L = ps.length := ⟨_, rfl⟩
  rw [← hL] at hl hlc hLe ⊢
  obtain ⟨o2, ho2⟩ : ∃ x, x = if c = 1 then off else off + 32 := ⟨_, rfl⟩
  have HO2 := Lib.hid ho2
  have HRG0 := Lib.hid (show w.rangeAt b off (bv p0) by have := range_at (w := w) (i := 0) h32 (by rw [hps0]; rfl) hcell; simpa using this)
  have hps : Lw = 0 ∨ (0 < Lw ∧ some (⟨b, o2, none⟩ : Addr) = some ⟨b, o2, none⟩ ∧ ∀ j u, (q.flatMap bv)[j]? = some u → w.cell? ⟨b, o2 + j, none⟩ = some u) := by
    by_cases h0 : Lw = 0
    · exact .inl h0
    · refine .inr ⟨by omega, rfl, fun j u hu => ?_⟩
      have hc1 : ¬ c = 1 := by omega
      rw [ho2, if_neg hc1, Nat.add_assoc]
      refine hcell (32 + j) u ?_
      rw [hps0, List.flatMap_cons, List.getElem?_append_right (by rw [bv_length, hp0]; omega), bv_length, hp0, Nat.add_sub_cancel_left]
      exact hu
  have HPS := Lib.hid hps
  have HOUT := Lib.hid (And.intro (show runW (nodeH W) WY q (p0, p0) = (oa, ob) from hoo) (And.intro (show Lw = q.length from hqL.symm) (show WY.length = Lw from hLw.symm)))
  have HLW := Lib.hid (show WY.length = Lw from hLw.symm)
  have H32 := Lib.hid (show ∀ p ∈ q, p.length = 32 from fun p hp => h32 p (by rw [hps0]; simp [hp]))
  have HTU := Lib.hid htu
  have hLl : L = Lw + 1 := by omega
  have hLm : L - 1 = Lw := by omega
  have HLM := Lib.hid hLm
  have z3 : ¬ (L : Int) < (Lw : Int) + 1 := by omega
  have z6 : ¬ (Lw : Int) + 1 < (L : Int) := by omega
  have zw : IntKind.i64.wrap ((Lw : Int) + 1) = (Lw : Int) + 1 := IntWalk.i64_in _ (by omega)
  have hL0 : 0 < L := by omega
  clear hps hoo hWY hr htu hsz hLe ho h32 hLw h0 hps0 hcell hL hqL ho2 hLm hLl hm hn hwl
  skip
  go_enter Tryd.func31, Tryd.ntmps31
  go_upto_region 1 with fail
  rw [show ((w.alloc (.cells (bv old).toArray 35)).alloc (.cells (bv (zs 32)).toArray 35)).alloc (.cells (bv (zs 32)).toArray 35) = w0 from HW0.out.symm]
  go_wp2_with fail
  refine (HTU.out _ H0.out.2.2.2).mono ?_
  rintro e w1 ⟨va, vc, rfl, ho1, hb1⟩
  have HWY := Lib.hid (show 0 < Lw → ∃ g c, Value.slice va Lw vc = .slice (some ⟨g, 0, none⟩) Lw c ∧ ∀ i t, WY[i]? = some t → w1.cell? ⟨g, i, none⟩ = some (.bool t) from fun h00 => bool_at HLW.out ho1 h00)
  have H1 := Lib.hid (And.intro ((hb1.block _ (Array.getElem?_eq_some_iff.1 H0.out.1).1).trans H0.out.1) (And.intro ((hb1.block _ (Array.getElem?_eq_some_iff.1 H0.out.2.1).1).trans H0.out.2.1) (And.intro ((hb1.block _ (Array.getElem?_eq_some_iff.1 H0.out.2.2.1).1).trans H0.out.2.2.1) (And.intro (H0.out.2.2.2.trans (hb1.mono H0.out.2.2.2.size)) trivial))))
  have hl1 : w.heap.size + 1 + 1 < w1.heap.size := (Array.getElem?_eq_some_iff.1 H1.out.2.2.1).1
  clear ho1 hb1
  have H16 := Lib.hid (heap_alloc_new w1 (.cells (bv (zs 32)).toArray 35))
  go_upto_region 13 with (first
    | (with_reducible show wpList _ _ _ (⟨some 55, _, _, _, _, _⟩ :: _) _ _; refine wpList_load_row rfl _ _ rfl w.heap.size rfl _ _ (0, 0) _ H1.out.1 Tryd.underlying35 rfl (hInfo _ HOL.out) ?_)
    | (with_reducible show wpList _ _ _ (⟨none, Op.store _ _ _, _, _, _, _⟩ :: _) _ _; refine wpList_store_whole rfl _ _ _ rfl w1.heap.size (bv old) rfl rfl (bv (zs 32)) _ H16.out (hInfo' _ HOL.out) (by rw [bv_length, bv_length, HOL.out, HZ32.out]) (bv_one _) ?_; intro w2 HG2 hg2))
  have k2 : Below w1.heap.size w1 w2 := below_grow ((Below.refl _ _).alloc (Nat.le_refl _) _) hg2 (Nat.le_refl _) (by simp)
  have H2 := Lib.hid (And.intro k2 HG2.out)
  have HBK := Lib.hid HG2.out
  have HLN := Lib.hid (And.intro HS0.out HOL.out)
  have HRG := Lib.hid (fun wx (hb : Below w2.heap.size w2 wx) => range_keep HRG0.out ((H1.out.2.2.2.1.trans (k2.mono H1.out.2.2.2.1.size)).trans (hb.mono (H1.out.2.2.2.1.trans (k2.mono H1.out.2.2.2.1.size)).size)))
  clear k2 HG2 hg2
  refine wp_region_until [some 58, some 59, some 60, some 61, some 62, none, some 4] [(0, 4), (3, 4)] 5 (fun wx => Below w2.heap.size w2 wx) [0, 1, 2, 5] (gc13F b off o2 L c (w1.heap.size) p0) (kSt 5 (w1.heap.size)) (fun wx => w2.grownBy wx (some (w1.heap.size))) (by kernel_rfl) (by kernel_rfl) rfl (by kernel_rfl) (by kernel_rfl) (grown_drew (World.grownBy.refl _ _)) (Below.refl _ _).drew (fun _ hj _ _ k h => h.trans ((kSt_below hj k).mono h.size)) (fun _ _ => kSt_refl _ _ _ _) (fun _ _ _ h k => kSt_G h k) ?hF ?hstep ?hend
  case hF =>
    exact ⟨fun _ _ _ _ _ _ h => h, ⟨fun _ _ _ _ _ _ h => h, ⟨fun _ _ _ _ _ _ h => h, ⟨fun _ _ _ _ _ _ h => h, ⟨fun _ _ _ _ _ _ h => h, ⟨fun j hg _ _ _ k h => ((kSt_below (fun e => by subst e; exact absurd hg (by rw [show goneB _ 5 5 = true by kernel_rfl]; simp)) k).block _ (Array.getElem?_eq_some_iff.1 h).1).trans h, ⟨fun _ _ _ _ _ _ h => h, trivial⟩⟩⟩⟩⟩⟩⟩
  case hstep =>
    refine ⟨fun r wx hG hs hq hf => ?_, ?_⟩
    · have hQ := hq rfl
      have e4 : r 4 = .slice (some ⟨b, off, none⟩) L c := hs 4 rfl
      refine (if_pos rfl).symm ▸ ?_
      clear hs hq hf
      unfold gives
      go_simp
      exact ⟨kSt_refl _ _ _ _, rfl⟩
    refine ⟨fun r wx hG hs hq hf => ?_, ?_⟩
    · have hQ := hq rfl
      have h0 : r 58 = .slice (some ⟨b, off, none⟩) L c := hf.1
      refine (if_pos rfl).symm ▸ ?_
      clear hs hq hf
      unfold gives
      have z1 : (0 : Int) < (L : Int) := by omega
      go_simp
      exact ⟨kSt_refl _ _ _ _, rfl⟩
    refine ⟨fun r wx hG hs hq hf => ?_, ?_⟩
    · have hQ := hq rfl
      have h1 : r 59 = .pointer (some ⟨b, off, none⟩) := hf.1
      refine (if_pos rfl).symm ▸ ?_
      clear hs hq hf
      unfold gives
      refine gives_load_mid 35 _ rfl b off h1 (bv p0) _ (HRG.out wx hQ) Tryd.underlying35 rfl (hInfo' _ HLN.out.1) ⟨kSt_refl _ _ _ _, rfl⟩
    refine ⟨fun r wx hG hs hq hf => ?_, ?_⟩
    · have e4 : r 4 = .slice (some ⟨b, off, none⟩) L c := hs 4 rfl
      refine (if_pos rfl).symm ▸ ?_
      clear hs hq hf
      unfold gives
      go_simp
      exact ⟨kSt_refl _ _ _ _, rfl⟩
    refine ⟨fun r wx hG hs hq hf => ?_, ?_⟩
    · have h3 : r 61 = .slice (some ⟨b, off, none⟩) L c := hf.1
      refine (if_pos rfl).symm ▸ ?_
      clear hs hq hf
      unfold gives
      have z0 : (1 : Int) ≤ (L : Int) := by omega
      have z1 : (L : Int) ≤ (c : Int) := by omega
      have z4 : ((L : Int) - 1).toNat = L - 1 := by omega
      have z5 : ((c : Int) - 1).toNat = c - 1 := by omega
      by_cases z3 : c = 1
      · have ho2 : o2 = off := by rw [HO2.out, if_pos z3]
        have hL1 : L - 1 = 0 := by omega
        have hc1 : c - 1 = 0 := by omega
        go_simp
        exact ⟨kSt_refl _ _ _ _, by first | rfl | (unfold gc13F; first | rfl | (simp; omega) | (congr 1 <;> omega))⟩
      · have ho2 : o2 = off + 32 := by rw [HO2.out, if_neg z3]
        go_simp
        exact ⟨kSt_refl _ _ _ _, by first | rfl | (unfold gc13F; first | rfl | (simp; omega) | (congr 1 <;> omega))⟩
    refine ⟨fun r wx hG hs hq hf => ?_, ?_⟩
    · have hQ := hq rfl
      have e16 : r 16 = .pointer (some ⟨(w1.heap.size), 0, none⟩) := hs 16 rfl
      have h2 : r 60 = .agg (bv p0).toArray := hf.1
      refine (if_pos rfl).symm ▸ ?_
      clear hs hq hf
      unfold gives
      refine gives_store_row 35 _ _ rfl (w1.heap.size) (bv p0) e16 h2 (bv old) 35 ((hQ.block (w1.heap.size) (Array.getElem?_eq_some_iff.1 HBK.out).1).trans HBK.out) (hInfo' _ HLN.out.1) (by rw [bv_length, bv_length, HLN.out.1, HLN.out.2]) (bv_one _) ?_
      intro wy h1 h2
      exact ⟨kSt_at h2, h1⟩
    refine ⟨fun r wx hG hs hq hf => ?_, ?_⟩
    · have h4 : r 62 = .slice (some ⟨b, o2, none⟩) (L - 1) (c - 1) := hf.1
      have h5 : wx.heap[(w1.heap.size)]? = some (.cells (bv p0).toArray 35 (0, 0)) := hf.2.1
      refine (if_pos rfl).symm ▸ ?_
      clear hs hq hf
      unfold gives
      go_simp
      exact ⟨kSt_refl _ _ _ _, rfl⟩
    exact trivial
  case hend =>
    intro u w3 hG hfin
    have z5 : w3.heap[(w1.heap.size)]? = some (.cells (bv p0).toArray 35 (0, 0)) := hfin 5 (by decide) (by kernel_rfl)
    have z6 : u 6 = .slice (some ⟨b, o2, none⟩) (L - 1) (c - 1) := hfin 6 (by decide) (by kernel_rfl)
    clear hfin
    simp only [fill]
    have HZ3 := Lib.hid (And.intro z5 (H2.out.1.trans (show Below w1.heap.size w2 w3 from ⟨hG.os, hG.tape, hG.output, hG.size, fun q hq => hG.block q (Nat.lt_of_lt_of_le hq H2.out.1.size) (by simp; omega)⟩)))
    clear z5 hG
    go_simp
    rw [show L - 1 = Lw from HLM.out]
    go_wp2_with (first
      | (with_reducible show wpList _ _ _ (⟨some 63, _, _, _, _, _⟩ :: _) _ _; refine wpList_load_row rfl _ _ rfl w1.heap.size rfl _ _ (0, 0) _ HZ3.out.1 Tryd.underlying35 rfl (hInfo _ HS0.out) ?_)
      | (with_reducible show wpList _ _ _ (⟨none, Op.store _ _ _, _, _, _, _⟩ :: _) _ _; refine wpList_store_whole rfl _ _ _ rfl w3.heap.size (bv p0) rfl rfl (bv (zs 32)) _ (heap_alloc_new w3 (.cells (bv (zs 32)).toArray 35)) (hInfo' _ HS0.out) (by rw [bv_length, bv_length, HS0.out, HZ32.out]) (bv_one _) ?_; intro w4 HG4 hg4))
    have k4 : Below w3.heap.size w3 w4 := below_grow ((Below.refl _ _).alloc (Nat.le_refl _) _) hg4 (Nat.le_refl _) (by simp)
    have hr16 := (k4.block _ (Array.getElem?_eq_some_iff.1 HZ3.out.1).1).trans HZ3.out.1
    have hlt := (Array.getElem?_eq_some_iff.1 HZ3.out.1).1
    have HLT := Lib.hid hlt
    have H4 := Lib.hid (And.intro hr16 (And.intro HG4.out (HZ3.out.2.trans (k4.mono (Nat.le_of_lt hlt)))))
    clear k4 hr16 hlt HG4 hg4
    
    go_loopw [66] (fun s66 wr => ∃ (k : Nat) (ra rb : List UInt8), k ≤ Lw ∧ s66 = .int .i64 k ∧ wr.heap[(w1.heap.size)]? = some (.cells (bv ra).toArray 35 (0, 0)) ∧ wr.heap[(w3.heap.size)]? = some (.cells (bv rb).toArray 35 (0, 0)) ∧ ra.length = 32 ∧ rb.length = 32 ∧ runW (nodeH W) (WY.drop k) (q.drop k) (ra, rb) = (oa, ob) ∧ Below w1.heap.size w1 wr) (fun s66 _ => Lw - (intOf s66).toNat)
    case atStart => exact ⟨0, p0, p0, by omega, rfl, H4.out.1, H4.out.2.1, HS0.out, HS0.out, by rw [List.drop_zero, List.drop_zero]; exact HOUT.out.1, H4.out.2.2⟩
    case round =>
      obtain ⟨k, ra, rb, hkm, rfl, hra, hrb, ha32, hb32, hrun, hbw⟩ := hrel
      have hlt16 : w1.heap.size < (w3.heap.size) := HLT.out
      have hne : (w1.heap.size) ≠ (w3.heap.size) := by omega
      by_cases hlt2 : k < Lw
      · have z4 : (k : Int) < (Lw : Int) := by omega
        have z5 : (0 : Int) ≤ (k : Int) := by omega
        obtain ⟨hm0, hpa, hcell⟩ := HPS.out.resolve_left (by omega)
        obtain ⟨x, hx⟩ : ∃ x, q[k]? = some x := ⟨q[k]'(by rw [← HOUT.out.2.1]; exact hlt2), List.getElem?_eq_getElem _⟩
        obtain ⟨t, ht⟩ : ∃ t, WY[k]? = some t := ⟨WY[k]'(by rw [HOUT.out.2.2]; exact hlt2), List.getElem?_eq_getElem _⟩
        have hx32 := H32.out x (List.mem_of_getElem? hx)
        have hdr : q.drop k = x :: q.drop (k + 1) := (List.getElem?_eq_some_iff.1 hx).2 ▸ (List.drop_eq_getElem_cons _)
        have hdw : WY.drop k = t :: WY.drop (k + 1) := (List.getElem?_eq_some_iff.1 ht).2 ▸ (List.drop_eq_getElem_cons _)
        rw [hdr, hdw] at hrun
        obtain ⟨gw, cw, hgv, hcb⟩ := HWY.out (by omega)
        obtain ⟨rfl, rfl⟩ : va = some ⟨gw, 0, none⟩ ∧ vc = cw := by simpa using hgv
        try subst hpa
        have hcw : wr.cell? ⟨gw, k, none⟩ = some (.bool t) := (hbw.cell (p := ⟨gw, k, none⟩) (World.block_lt_of_cell? w1 _ (hcb k t ht))).trans (hcb k t ht)
        have hww := H1.out.2.2.2.1.trans (hbw.mono H1.out.2.2.2.1.size)
        have HRG := Lib.hid (fun wx (hb : Below wr.heap.size wr wx) => range_at (w := wx) H32.out hx (fun j u hu => ((hww.trans (hb.mono hww.size)).cell (World.block_lt_of_cell? w _ (hcell j u hu))).trans (hcell j u hu)))
        have HNA := Lib.hid (fun wx (hb : Below wr.heap.size wr wx) => Node_any W x ra wx hx32 ha32 HN.out (HT.out.keepB (hww.trans (hb.mono hww.size))))
        have HBW := Lib.hid hbw
        have HBK := Lib.hid (And.intro hra (And.intro hrb trivial))
        cases t with
        | true =>
          have HNB := Lib.hid (fun wx (hb : Below wr.heap.size wr wx) => Node_any W x rb wx hx32 hb32 HN.out (HT.out.keepB (hww.trans (hb.mono hww.size))))
          rw [runW] at hrun
          have hna := nodeH_length W x ra
          have hnb := nodeH_length W x rb
          obtain ⟨na, hnae⟩ : ∃ y, y = nodeH W x ra := ⟨_, rfl⟩
          obtain ⟨nb, hnbe⟩ : ∃ y, y = nodeH W x rb := ⟨_, rfl⟩
          rw [← hnae] at hna hrun HNA
          rw [← hnbe] at hnb hrun HNB
          have HRU := Lib.hid hrun
          have HLN := Lib.hid (And.intro hx32 (And.intro ha32 (And.intro hb32 (And.intro hna hnb))))
          clear hx ht hx32 hdr hdw hrun hcb hww hbw hra hrb ha32 hb32 hcell hna hnb hnae hnbe hgv
          go_upto_region 19 with fail
          refine wp_region_untilW [some 72, some 73, some 74, some 75, some 76, some 77, some 78, some 79, some 80, some 81, some 82, some 83, some 84, some 85, none, none] [] 14 (fun wx => Below wr.heap.size wr wx) [0, 1, 2, 3, 4, 5, 6, 7, 8, 9, 10, 11, 12, 13, 14] (gc19F W b o2 Lw (c - 1) k (w1.heap.size) (w3.heap.size) x ra rb na nb) (kC 14 (w1.heap.size) 15 (w3.heap.size)) (fun wx => Below (w1.heap.size) wr wx ∧ ∃ l : List UInt8, l.length = 32 ∧ wx.heap[(w3.heap.size)]? = some (.cells (bv l).toArray 35 (0, 0))) (by kernel_rfl) (by kernel_rfl) rfl (by kernel_rfl) (by kernel_rfl) ⟨(Below.refl _ _).drew, _, HLN.out.2.2.1, HBK.out.2.1⟩ (Below.refl _ _).drew (fun j hj hj2 _ _ k h => h.trans ((kC_below hj (fun e => by subst e; exact absurd hj2 (by rw [show waits _ _ 15 14 = true by kernel_rfl]; simp)) k).mono h.size)) (fun _ _ => kC_refl _) (fun _ _ _ h k => kC_G hlt16 hne HBK.out.1 h k) ?hF ?hstep ?hend
          case hF =>
            exact ⟨fun _ _ _ _ _ _ h => h, ⟨fun _ _ _ _ _ _ h => h, ⟨fun _ _ _ _ _ _ h => h, ⟨fun _ _ _ _ _ _ h => h, ⟨fun _ _ _ _ _ _ h => h, ⟨fun _ _ _ _ _ _ h => h, ⟨fun _ _ _ _ _ _ h => h, ⟨fun _ _ _ _ _ _ h => h, ⟨fun _ _ _ _ _ _ h => h, ⟨fun _ _ _ _ _ _ h => h, ⟨fun _ _ _ _ _ _ h => h, ⟨fun _ _ _ _ _ _ h => h, ⟨fun _ _ _ _ _ _ h => h, ⟨fun _ _ _ _ _ _ h => h, ⟨fun j hg _ _ _ k h => kC_row1 (fun e => by subst e; exact absurd hg (by rw [show goneB _ 14 14 = true by kernel_rfl]; simp)) hne k h, ⟨fun j hg _ _ _ k h => kC_row2 (fun e => by subst e; exact absurd hg (by rw [show goneB _ 15 15 = true by kernel_rfl]; simp)) hne k h, trivial⟩⟩⟩⟩⟩⟩⟩⟩⟩⟩⟩⟩⟩⟩⟩⟩
          case hstep =>
            refine ⟨fun r wx hG hs hq hf => ?_, ?_⟩
            · have hQ := hq rfl
              have e0 : r 0 = .int .i64 W := hs 0 rfl
              refine (if_pos rfl).symm ▸ ?_
              clear hs hq hf
              unfold gives
              go_simp
              exact ⟨kC_refl _, rfl⟩
            refine ⟨fun r wx hG hs hq hf => ?_, ?_⟩
            · have hQ := hq rfl
              have e4 : r 4 = .slice (some ⟨b, o2, none⟩) Lw (c - 1) := hs 4 rfl
              refine (if_pos rfl).symm ▸ ?_
              clear hs hq hf
              unfold gives
              go_simp
              exact ⟨kC_refl _, rfl⟩
            refine ⟨fun r wx hG hs hq hf => ?_, ?_⟩
            · have hQ := hq rfl
              have e18 : r 18 = .int .i64 (k : Nat) := hs 18 rfl
              refine (if_pos rfl).symm ▸ ?_
              clear hs hq hf
              unfold gives
              go_simp
              exact ⟨kC_refl _, rfl⟩
            refine ⟨fun r wx hG hs hq hf => ?_, ?_⟩
            · have hQ := hq rfl
              have h1 : r 73 = .slice (some ⟨b, o2, none⟩) Lw (c - 1) := hf.1
              have h2 : r 74 = .int .i64 (k : Nat) := hf.2.1
              refine (if_pos rfl).symm ▸ ?_
              clear hs hq hf
              unfold gives
              have z0 : (0 : Int) ≤ (k : Int) := by omega
              have z1 : (k : Int) < (Lw : Int) := by omega
              go_simp
              exact ⟨kC_refl _, rfl⟩
            refine ⟨fun r wx hG hs hq hf => ?_, ?_⟩
            · have hQ := hq rfl
              have h3 : r 75 = .pointer (some ⟨b, o2 + k * 32, none⟩) := hf.1
              refine (if_pos rfl).symm ▸ ?_
              clear hs hq hf
              unfold gives
              refine gives_load_mid 35 _ rfl b (o2 + k * 32) h3 (bv x) _ (HRG.out wx hQ) Tryd.underlying35 rfl (hInfo' _ HLN.out.1) ?_
              exact ⟨kC_refl _, rfl⟩
            refine ⟨fun r wx hG hs hq hf => ?_, ?_⟩
            · have hQ := hq rfl
              have e16 : r 16 = .pointer (some ⟨(w1.heap.size), 0, none⟩) := hs 16 rfl
              refine (if_pos rfl).symm ▸ ?_
              clear hs hq hf
              unfold gives
              refine gives_load_row 35 _ rfl (w1.heap.size) e16 35 _ (0, 0) _ ((hQ.block (w1.heap.size) (Array.getElem?_eq_some_iff.1 HBK.out.1).1).trans HBK.out.1) Tryd.underlying35 rfl (hInfo _ HLN.out.2.1) ?_
              exact ⟨kC_refl _, rfl⟩
            refine ⟨fun r wx hG hs hq hf => ?_, ?_⟩
            · have hQ := hq rfl
              have h0 : r 72 = .int .i64 W := hf.1
              have h4 : r 76 = .agg (bv x).toArray := hf.2.1
              have h5 : r 77 = .agg (bv ra).toArray := hf.2.2.1
              refine (if_pos rfl).symm ▸ ?_
              clear hs hq hf
              unfold gives
              go_simp
              refine (HNA.out wx hQ).mono ?_
              rintro e wy ⟨rfl, hb1⟩
              exact ⟨_, rfl, kC_of rfl rfl hb1, rfl⟩
            refine ⟨fun r wx hG hs hq hf => ?_, ?_⟩
            · have hQ := hq rfl
              have e0 : r 0 = .int .i64 W := hs 0 rfl
              refine (if_pos rfl).symm ▸ ?_
              clear hs hq hf
              unfold gives
              go_simp
              exact ⟨kC_refl _, rfl⟩
            refine ⟨fun r wx hG hs hq hf => ?_, ?_⟩
            · have hQ := hq rfl
              have e4 : r 4 = .slice (some ⟨b, o2, none⟩) Lw (c - 1) := hs 4 rfl
              refine (if_pos rfl).symm ▸ ?_
              clear hs hq hf
              unfold gives
              go_simp
              exact ⟨kC_refl _, rfl⟩
            refine ⟨fun r wx hG hs hq hf => ?_, ?_⟩
            · have hQ := hq rfl
              have e18 : r 18 = .int .i64 (k : Nat) := hs 18 rfl
              refine (if_pos rfl).symm ▸ ?_
              clear hs hq hf
              unfold gives
              go_simp
              exact ⟨kC_refl _, rfl⟩
            refine ⟨fun r wx hG hs hq hf => ?_, ?_⟩
            · have hQ := hq rfl
              have h8 : r 80 = .slice (some ⟨b, o2, none⟩) Lw (c - 1) := hf.1
              have h9 : r 81 = .int .i64 (k : Nat) := hf.2.1
              refine (if_pos rfl).symm ▸ ?_
              clear hs hq hf
              unfold gives
              have z0 : (0 : Int) ≤ (k : Int) := by omega
              have z1 : (k : Int) < (Lw : Int) := by omega
              go_simp
              exact ⟨kC_refl _, rfl⟩
            refine ⟨fun r wx hG hs hq hf => ?_, ?_⟩
            · have hQ := hq rfl
              have h10 : r 82 = .pointer (some ⟨b, o2 + k * 32, none⟩) := hf.1
              refine (if_pos rfl).symm ▸ ?_
              clear hs hq hf
              unfold gives
              refine gives_load_mid 35 _ rfl b (o2 + k * 32) h10 (bv x) _ (HRG.out wx hQ) Tryd.underlying35 rfl (hInfo' _ HLN.out.1) ?_
              exact ⟨kC_refl _, rfl⟩
            refine ⟨fun r wx hG hs hq hf => ?_, ?_⟩
            · have hQ := hq rfl
              have e17 : r 17 = .pointer (some ⟨(w3.heap.size), 0, none⟩) := hs 17 rfl
              refine (if_pos rfl).symm ▸ ?_
              clear hs hq hf
              unfold gives
              refine gives_load_row 35 _ rfl (w3.heap.size) e17 35 _ (0, 0) _ ((hQ.block (w3.heap.size) (Array.getElem?_eq_some_iff.1 HBK.out.2.1).1).trans HBK.out.2.1) Tryd.underlying35 rfl (hInfo _ HLN.out.2.2.1) ?_
              exact ⟨kC_refl _, rfl⟩
            refine ⟨fun r wx hG hs hq hf => ?_, ?_⟩
            · have hQ := hq rfl
              have h7 : r 79 = .int .i64 W := hf.1
              have h11 : r 83 = .agg (bv x).toArray := hf.2.1
              have h12 : r 84 = .agg (bv rb).toArray := hf.2.2.1
              refine (if_pos rfl).symm ▸ ?_
              clear hs hq hf
              unfold gives
              go_simp
              refine (HNB.out wx hQ).mono ?_
              rintro e wy ⟨rfl, hb1⟩
              exact ⟨_, rfl, kC_of rfl rfl hb1, rfl⟩
            refine ⟨fun r wx hG hs hq hf => ?_, ?_⟩
            · have hQ := hq rfl
              have e16 : r 16 = .pointer (some ⟨(w1.heap.size), 0, none⟩) := hs 16 rfl
              have h6 : r 78 = .agg (bv na).toArray := hf.1
              refine (if_pos rfl).symm ▸ ?_
              clear hs hq hf
              unfold gives
              refine gives_store_row 35 _ _ rfl (w1.heap.size) (bv na) e16 h6 (bv ra) 35 ((hQ.block (w1.heap.size) (Array.getElem?_eq_some_iff.1 HBK.out.1).1).trans HBK.out.1) (hInfo' _ HLN.out.2.2.2.1) (by rw [bv_length, bv_length, HLN.out.2.2.2.1, HLN.out.2.1]) (bv_one _) ?_
              intro wy h1 h2
              exact ⟨kC_at1 h2, h1⟩
            refine ⟨fun r wx hG hs hq hf => ?_, ?_⟩
            · have e17 : r 17 = .pointer (some ⟨(w3.heap.size), 0, none⟩) := hs 17 rfl
              have h13 : r 85 = .agg (bv nb).toArray := hf.1
              have h14 : wx.heap[(w1.heap.size)]? = some (.cells (bv na).toArray 35 (0, 0)) := hf.2.1
              refine (if_pos rfl).symm ▸ ?_
              clear hs hq hf
              unfold gives
              obtain ⟨l, hl, hrl⟩ := hG.2
              refine gives_store_row 35 _ _ rfl (w3.heap.size) (bv nb) e17 h13 (bv l) 35 hrl (hInfo' _ HLN.out.2.2.2.2) (by rw [bv_length, bv_length, HLN.out.2.2.2.2, hl]) (bv_one _) ?_
              intro wy h1 h2
              exact ⟨kC_at2 (by decide) h2 ⟨_, HLN.out.2.2.2.2, h1⟩, h1⟩
            exact trivial
          case hend =>
            intro u wz hG hfin
            have z14 : wz.heap[(w1.heap.size)]? = some (.cells (bv na).toArray 35 (0, 0)) := hfin 14 (by decide) (by kernel_rfl)
            have z15 : wz.heap[(w3.heap.size)]? = some (.cells (bv nb).toArray 35 (0, 0)) := hfin 15 (by decide) (by kernel_rfl)
            clear hfin
            simp only [fill]
            have HZ := Lib.hid (And.intro z14 (And.intro z15 hG.1))
            clear z14 z15 hG
            go_simp
            go_wp2_with fail
            go_roundw
            case rel => exact ⟨k + 1, _, _, by omega, by go_num, HZ.out.1, HZ.out.2.1, HLN.out.2.2.2.1, HLN.out.2.2.2.2, HRU.out, HBW.out.trans HZ.out.2.2⟩
            case measure => simp [intOf]; omega
        | false =>
          have HNB := Lib.hid (fun wx (hb : Below wr.heap.size wr wx) => Node_any W rb x wx hb32 hx32 HN.out (HT.out.keepB (hww.trans (hb.mono hww.size))))
          rw [runW] at hrun
          have hnb := nodeH_length W rb x
          obtain ⟨nb, hnbe⟩ : ∃ y, y = nodeH W rb x := ⟨_, rfl⟩
          rw [← hnbe] at hnb hrun HNB
          have HRU := Lib.hid hrun
          have HLN := Lib.hid (And.intro hx32 (And.intro ha32 (And.intro hb32 (And.intro ha32 hnb))))
          clear hx ht hx32 hdr hdw hrun hcb hww hbw hra hrb ha32 hb32 hcell hnb hnbe HNA hgv
          go_upto_region 20 with fail
          refine wp_region_until [some 86, some 87, some 88, some 89, some 90, some 91, some 92, none] [] 7 (fun wx => Below wr.heap.size wr wx) [0, 1, 2, 3, 4, 5, 6, 7] (gc20F W b o2 Lw (c - 1) k (w1.heap.size) (w3.heap.size) x ra rb ra nb) (kSt 7 (w3.heap.size)) (fun wx => wr.grownBy wx (some (w3.heap.size))) (by kernel_rfl) (by kernel_rfl) rfl (by kernel_rfl) (by kernel_rfl) (grown_drew (World.grownBy.refl _ _)) (Below.refl _ _).drew (fun _ hj _ _ k h => h.trans ((kSt_below hj k).mono h.size)) (fun _ _ => kSt_refl _ _ _ _) (fun _ _ _ h k => kSt_G h k) ?hF ?hstep ?hend
          case hF =>
            exact ⟨fun _ _ _ _ _ _ h => h, ⟨fun _ _ _ _ _ _ h => h, ⟨fun _ _ _ _ _ _ h => h, ⟨fun _ _ _ _ _ _ h => h, ⟨fun _ _ _ _ _ _ h => h, ⟨fun _ _ _ _ _ _ h => h, ⟨fun _ _ _ _ _ _ h => h, ⟨fun j hg _ _ _ k h => ((kSt_below (fun e => by subst e; exact absurd hg (by rw [show goneB _ 7 7 = true by kernel_rfl]; simp)) k).block _ (Array.getElem?_eq_some_iff.1 h).1).trans h, trivial⟩⟩⟩⟩⟩⟩⟩⟩
          case hstep =>
            refine ⟨fun r wx hG hs hq hf => ?_, ?_⟩
            · have hQ := hq rfl
              have e0 : r 0 = .int .i64 W := hs 0 rfl
              refine (if_pos rfl).symm ▸ ?_
              clear hs hq hf
              unfold gives
              go_simp
              exact ⟨kSt_refl _ _ _ _, rfl⟩
            refine ⟨fun r wx hG hs hq hf => ?_, ?_⟩
            · have hQ := hq rfl
              have e17 : r 17 = .pointer (some ⟨(w3.heap.size), 0, none⟩) := hs 17 rfl
              refine (if_pos rfl).symm ▸ ?_
              clear hs hq hf
              unfold gives
              refine gives_load_row 35 _ rfl (w3.heap.size) e17 35 _ (0, 0) _ ((hQ.block (w3.heap.size) (Array.getElem?_eq_some_iff.1 HBK.out.2.1).1).trans HBK.out.2.1) Tryd.underlying35 rfl (hInfo _ HLN.out.2.2.1) ?_
              exact ⟨kSt_refl _ _ _ _, rfl⟩
            refine ⟨fun r wx hG hs hq hf => ?_, ?_⟩
            · have hQ := hq rfl
              have e4 : r 4 = .slice (some ⟨b, o2, none⟩) Lw (c - 1) := hs 4 rfl
              refine (if_pos rfl).symm ▸ ?_
              clear hs hq hf
              unfold gives
              go_simp
              exact ⟨kSt_refl _ _ _ _, rfl⟩
            refine ⟨fun r wx hG hs hq hf => ?_, ?_⟩
            · have hQ := hq rfl
              have e18 : r 18 = .int .i64 (k : Nat) := hs 18 rfl
              refine (if_pos rfl).symm ▸ ?_
              clear hs hq hf
              unfold gives
              go_simp
              exact ⟨kSt_refl _ _ _ _, rfl⟩
            refine ⟨fun r wx hG hs hq hf => ?_, ?_⟩
            · have hQ := hq rfl
              have h2 : r 88 = .slice (some ⟨b, o2, none⟩) Lw (c - 1) := hf.1
              have h3 : r 89 = .int .i64 (k : Nat) := hf.2.1
              refine (if_pos rfl).symm ▸ ?_
              clear hs hq hf
              unfold gives
              have z0 : (0 : Int) ≤ (k : Int) := by omega
              have z1 : (k : Int) < (Lw : Int) := by omega
              go_simp
              exact ⟨kSt_refl _ _ _ _, rfl⟩
            refine ⟨fun r wx hG hs hq hf => ?_, ?_⟩
            · have hQ := hq rfl
              have h4 : r 90 = .pointer (some ⟨b, o2 + k * 32, none⟩) := hf.1
              refine (if_pos rfl).symm ▸ ?_
              clear hs hq hf
              unfold gives
              refine gives_load_mid 35 _ rfl b (o2 + k * 32) h4 (bv x) _ (HRG.out wx hQ) Tryd.underlying35 rfl (hInfo' _ HLN.out.1) ?_
              exact ⟨kSt_refl _ _ _ _, rfl⟩
            refine ⟨fun r wx hG hs hq hf => ?_, ?_⟩
            · have hQ := hq rfl
              have h0 : r 86 = .int .i64 W := hf.1
              have h1 : r 87 = .agg (bv rb).toArray := hf.2.1
              have h5 : r 91 = .agg (bv x).toArray := hf.2.2.1
              refine (if_pos rfl).symm ▸ ?_
              clear hs hq hf
              unfold gives
              go_simp
              refine (HNB.out wx hQ).mono ?_
              rintro e wy ⟨rfl, hb1⟩
              exact ⟨_, rfl, kSt_of rfl hb1, rfl⟩
            refine ⟨fun r wx hG hs hq hf => ?_, ?_⟩
            · have hQ := hq rfl
              have e17 : r 17 = .pointer (some ⟨(w3.heap.size), 0, none⟩) := hs 17 rfl
              have h6 : r 92 = .agg (bv nb).toArray := hf.1
              refine (if_pos rfl).symm ▸ ?_
              clear hs hq hf
              unfold gives
              refine gives_store_row 35 _ _ rfl (w3.heap.size) (bv nb) e17 h6 (bv rb) 35 ((hQ.block (w3.heap.size) (Array.getElem?_eq_some_iff.1 HBK.out.2.1).1).trans HBK.out.2.1) (hInfo' _ HLN.out.2.2.2.2) (by rw [bv_length, bv_length, HLN.out.2.2.2.2, HLN.out.2.2.1]) (bv_one _) ?_
              intro wy h1 h2
              exact ⟨kSt_at h2, h1⟩
            exact trivial
          case hend =>
            intro u wz hG hfin
            have z7 : wz.heap[(w3.heap.size)]? = some (.cells (bv nb).toArray 35 (0, 0)) := hfin 7 (by decide) (by kernel_rfl)
            clear hfin
            simp only [fill]
            have HZ := Lib.hid (And.intro z7 hG)
            clear z7 hG
            go_simp
            go_wp2_with fail
            go_roundw
            case rel => exact ⟨k + 1, _, _, by omega, by go_num, (HZ.out.2.block _ (Array.getElem?_eq_some_iff.1 HBK.out.1).1 (by simpa using hne)).trans HBK.out.1, HZ.out.1, HLN.out.2.1, HLN.out.2.2.2.2, HRU.out, below_grow HBW.out HZ.out.2 (Nat.le_of_lt hlt16) (Array.getElem?_eq_some_iff.1 HBK.out.2.1).1⟩
            case measure => simp [intOf]; omega
      · have z4 : ¬ (k : Int) < (Lw : Int) := by omega
        rw [List.drop_of_length_le (by rw [HOUT.out.2.2]; omega), runW] at hrun
        obtain ⟨rfl, rfl⟩ : oa = ra ∧ ob = rb := by have h := hrun; simp only [Prod.mk.injEq] at h; exact ⟨h.1.symm, h.2.symm⟩
        have hr1 := (hbw.block _ (Array.getElem?_eq_some_iff.1 H1.out.2.1).1).trans H1.out.2.1
        have hr2 := (hbw.block _ (Array.getElem?_eq_some_iff.1 H1.out.2.2.1).1).trans H1.out.2.2.1
        have hl2 : w.heap.size + 1 + 1 < w1.heap.size := (Array.getElem?_eq_some_iff.1 H1.out.2.2.1).1
        have HBK := Lib.hid (And.intro hra (And.intro hrb (And.intro hr1 hr2)))
        have HLN := Lib.hid (And.intro ha32 (And.intro hb32 HZ32.out))
        have HBW := Lib.hid hbw
        have hNE := Lib.hid (show (w.heap.size + 1) ≠ (w.heap.size + 1 + 1) ∧ (w.heap.size + 1) < (w.heap.size + 1 + 1) ∧ (w1.heap.size) ≠ (w.heap.size + 1) ∧ (w1.heap.size) ≠ (w.heap.size + 1 + 1) ∧ (w3.heap.size) ≠ (w.heap.size + 1) ∧ (w3.heap.size) ≠ (w.heap.size + 1 + 1) by omega)
        clear hra hrb hr1 hr2 ha32 hb32 hbw hrun
        go_upto_region 22 with fail
        refine wp_region_untilW [some 94, some 95, none, none, some 12] [] 2 (fun wx => wx.heap[(w.heap.size + 1)]? = some (.cells (bv (zs 32)).toArray 35 (0, 0))) [0, 2] (gc22F (w.heap.size + 1) (w.heap.size + 1 + 1) oa ob) (kC 2 (w.heap.size + 1) 3 (w.heap.size + 1 + 1)) (fun wx => (Below (w.heap.size + 1) wr wx ∧ wx.heap[(w1.heap.size)]? = some (.cells (bv oa).toArray 35 (0, 0)) ∧ wx.heap[(w3.heap.size)]? = some (.cells (bv ob).toArray 35 (0, 0))) ∧ ∃ l : List UInt8, l.length = 32 ∧ wx.heap[(w.heap.size + 1 + 1)]? = some (.cells (bv l).toArray 35 (0, 0))) (by kernel_rfl) (by kernel_rfl) rfl (by kernel_rfl) (by kernel_rfl) ⟨⟨(Below.refl _ _).drew, HBK.out.1, HBK.out.2.1⟩, _, HLN.out.2.2, HBK.out.2.2.2⟩ HBK.out.2.2.1 (fun j hj hj2 _ _ k h => kC_row1 hj hNE.out.1 k h) (fun _ _ => kC_refl _) (fun _ _ _ h k => ⟨⟨(kC_G hNE.out.2.1 hNE.out.1 HBK.out.2.2.1 ⟨h.1.1, h.2⟩ k).1, kC_keep hNE.out.2.2.1 hNE.out.2.2.2.1 k h.1.2.1, kC_keep hNE.out.2.2.2.2.1 hNE.out.2.2.2.2.2 k h.1.2.2⟩, (kC_G hNE.out.2.1 hNE.out.1 HBK.out.2.2.1 ⟨h.1.1, h.2⟩ k).2⟩) ?hF ?hstep ?hend
        case hF =>
          exact ⟨fun _ _ _ _ _ _ h => h, ⟨fun _ _ _ _ _ _ h => h, ⟨fun j hg _ _ _ k h => kC_row1 (fun e => by subst e; exact absurd hg (by rw [show goneB _ 2 2 = true by kernel_rfl]; simp)) hNE.out.1 k h, ⟨fun j hg _ _ _ k h => kC_row2 (fun e => by subst e; exact absurd hg (by rw [show goneB _ 3 3 = true by kernel_rfl]; simp)) hNE.out.1 k h, ⟨fun _ _ _ _ _ _ h => h, trivial⟩⟩⟩⟩⟩
        case hstep =>
          refine ⟨fun r wx hG hs hq hf => ?_, ?_⟩
          · have hQ := hq rfl
            have e16 : r 16 = .pointer (some ⟨(w1.heap.size), 0, none⟩) := hs 16 rfl
            refine (if_pos rfl).symm ▸ ?_
            clear hs hq hf
            unfold gives
            refine gives_load_row 35 _ rfl (w1.heap.size) e16 35 _ (0, 0) _ (hG.1.2.1) Tryd.underlying35 rfl (hInfo _ HLN.out.1) ⟨kC_refl _, rfl⟩
          refine ⟨fun r wx hG hs hq hf => ?_, ?_⟩
          · have e17 : r 17 = .pointer (some ⟨(w3.heap.size), 0, none⟩) := hs 17 rfl
            refine (if_pos rfl).symm ▸ ?_
            clear hs hq hf
            unfold gives
            refine gives_load_row 35 _ rfl (w3.heap.size) e17 35 _ (0, 0) _ (hG.1.2.2) Tryd.underlying35 rfl (hInfo _ HLN.out.2.1) ⟨kC_refl _, rfl⟩
          refine ⟨fun r wx hG hs hq hf => ?_, ?_⟩
          · have hQ := hq rfl
            have e10 : r 10 = .pointer (some ⟨(w.heap.size + 1), 0, none⟩) := hs 10 rfl
            have h0 : r 94 = .agg (bv oa).toArray := hf.1
            refine (if_pos rfl).symm ▸ ?_
            clear hs hq hf
            unfold gives
            refine gives_store_row 35 _ _ rfl (w.heap.size + 1) (bv oa) e10 h0 (bv (zs 32)) 35 hQ (hInfo' _ HLN.out.1) (by rw [bv_length, bv_length, HLN.out.1, HLN.out.2.2]) (bv_one _) ?_
            intro wy h1 h2
            exact ⟨kC_at1 h2, h1⟩
          refine ⟨fun r wx hG hs hq hf => ?_, ?_⟩
          · have e11 : r 11 = .pointer (some ⟨(w.heap.size + 1 + 1), 0, none⟩) := hs 11 rfl
            have h1 : r 95 = .agg (bv ob).toArray := hf.1
            have h2 : wx.heap[(w.heap.size + 1)]? = some (.cells (bv oa).toArray 35 (0, 0)) := hf.2.1
            refine (if_pos rfl).symm ▸ ?_
            clear hs hq hf
            unfold gives
            obtain ⟨l, hl, hrl⟩ := hG.2
            refine gives_store_row 35 _ _ rfl (w.heap.size + 1 + 1) (bv ob) e11 h1 (bv l) 35 hrl (hInfo' _ HLN.out.2.1) (by rw [bv_length, bv_length, HLN.out.2.1, hl]) (bv_one _) ?_
            intro wy h1 h2
            exact ⟨kC_at2 (by decide) h2 ⟨_, HLN.out.2.1, h1⟩, h1⟩
          refine ⟨fun r wx hG hs hq hf => ?_, ?_⟩
          · have h3 : wx.heap[(w.heap.size + 1 + 1)]? = some (.cells (bv ob).toArray 35 (0, 0)) := hf.1
            refine (if_pos rfl).symm ▸ ?_
            clear hs hq hf
            unfold gives
            go_simp
            exact ⟨kC_refl _, rfl⟩
          exact trivial
        case hend =>
          intro u wz hG hfin
          have z2 : wz.heap[(w.heap.size + 1)]? = some (.cells (bv oa).toArray 35 (0, 0)) := hfin 2 (by decide) (by kernel_rfl)
          have z3 : wz.heap[(w.heap.size + 1 + 1)]? = some (.cells (bv ob).toArray 35 (0, 0)) := hfin 3 (by decide) (by kernel_rfl)
          have z4 : u 4 = .int .i64 0 := hfin 4 (by decide) (by kernel_rfl)
          clear hfin
          simp only [fill]
          have HZ := Lib.hid (And.intro z2 (And.intro z3 hG.1.1))
          clear z2 z3 hG
          go_simp
          have hld1 := run_loadVar_row (P := Tryd.prog) wz (w.heap.size + 1) _ 35 _ (0, 0) _ HZ.out.1 Tryd.underlying35 rfl (hInfo _ HLN.out.1)
          have hld2 := run_loadVar_row (P := Tryd.prog) wz (w.heap.size + 1 + 1) _ 35 _ (0, 0) _ HZ.out.2.1 Tryd.underlying35 rfl (hInfo _ HLN.out.2.1)
          go_wp2_with fail
          refine bodyPost_ret (v := .tuple #[.agg (bv oa).toArray, .agg (bv ob).toArray, .int .i64 0]) ?_ ?_ ?_
          · simp [results, Tryd.results31, asAddr, hld1, hld2]
          · rfl
          · exact ⟨rfl, (H1.out.2.2.2.1.trans (HBW.out.mono H1.out.2.2.2.1.size)).trans (HZ.out.2.2.mono (by omega))⟩

end Go.Proofs.YtfibhmgjkooemaaDoor
