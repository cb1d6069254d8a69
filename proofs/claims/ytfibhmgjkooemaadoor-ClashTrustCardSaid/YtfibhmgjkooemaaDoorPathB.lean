/- path.Climb, path.Check. (printed by gen/pathb.py) -/
import Derived.Test.YtfibhmgjkooemaaDoorPathA
namespace Go.Proofs.YtfibhmgjkooemaaDoor
open Go.RowKit Sha Root Ones Path

/-- What a climb hands back: the error; the hash. -/
def climbE (i n m : Nat) : Int := if n ≤ i then 9 else if m < sizeN i n then 2 else if sizeN i n < m then 4 else 0
def climbH (W : Int) (h : List UInt8) (i n : Nat) (ps : List (List UInt8)) : List UInt8 := if climbE i n ps.length = 0 then cl (nodeH W) 64 i (n - 1) h ps else zs 32
theorem clI_32 (W : Int) (low a : Nat) : ∀ (ps : List (List UInt8)) (k : Nat) (h : List UInt8), h.length = 32 → (clI (nodeH W) low a k h ps).length = 32
  | [], _, _, hh => hh
  | p :: r, k, h, hh => by
    rw [clI]
    refine clI_32 W low a r (k + 1) _ ?_
    split <;> exact nodeH_length _ _ _
theorem cl_32 (W : Int) (f a b : Nat) (h : List UInt8) (ps : List (List UInt8)) (hh : h.length = 32) : (cl (nodeH W) f a b h ps).length = 32 := by
  rw [← clI_cl]; exact clI_32 W _ _ _ _ _ hh
theorem climbH_32 (W : Int) (h : List UInt8) (i n : Nat) (ps : List (List UInt8)) (hh : h.length = 32) : (climbH W h i n ps).length = 32 := by
  unfold climbH
  split
  · exact cl_32 W _ _ _ _ _ hh
  · simp [zs]
theorem range_at {w : World} {b off i : Nat} {ps : List (List UInt8)} {x : List UInt8} (h32 : ∀ p ∈ ps, p.length = 32) (hx : ps[i]? = some x) (hc : ∀ j u, (ps.flatMap bv)[j]? = some u → w.cell? ⟨b, off + j, none⟩ = some u) : w.rangeAt b (off + i * 32) (bv x) := fun j u hu => by
  have hx32 := h32 x (List.mem_of_getElem? hx)
  have hj : j < 32 := by have := (List.getElem?_eq_some_iff.1 hu).1; rwa [bv_length, hx32] at this
  have := hc (i * 32 + j) u (by rw [flat_at32 ps i j x h32 hx hj]; exact hu)
  rwa [← Nat.add_assoc] at this

set_option maxHeartbeats 8000000 in
set_option maxRecDepth 100000 in
theorem Climb_any (W : Int) (h : List UInt8) (i n : Nat) (ps : List (List UInt8)) (a : Option Addr) (c : Nat) (w : World) (hW : -9223372036854775808 ≤ W ∧ W ≤ 9223372036854775807) (hh : h.length = 32) (hi : i < 18446744073709551616) (hn : n < 18446744073709551616)
    (h32 : ∀ p ∈ ps, p.length = 32) (hl : ps.length ≤ 140737488355328) (hr : Rd w 32 (.slice a ps.length c) ps.length (ps.flatMap bv)) (hT : Tabs w) :
    Calls Tryd.prog 39 #[.int .i64 W, .agg (bv h).toArray, .int .u64 i, .int .u64 n, .slice a ps.length c] w fun e w' => e = .returned (.tuple #[.agg (bv (climbH W h i n ps)).toArray, .int .i64 (climbE i n ps.length)]) ∧ Below w.heap.size w w' := by
  have hz := (zero_of_info info32).1
  have HZ := Lib.hid (show (zs 32).length = 32 by simp [zs])
  obtain ⟨w0, hw0⟩ : ∃ x : World, x = (w.alloc (.cells (bv h).toArray 35)).alloc (.cells (bv (zs 32)).toArray 35) := ⟨_, rfl⟩
  have hbox : w0.heap[w.heap.size]? = some (.cells (bv h).toArray 35 (0, 0)) := by
    rw [hw0, heap_alloc_old _ _ (by simp)]; exact heap_alloc_new _ _
  have hrow : w0.heap[w.heap.size + 1]? = some (.cells (bv (zs 32)).toArray 35 (0, 0)) := by
    rw [hw0]
    have := heap_alloc_new (w.alloc (.cells (bv h).toArray 35)) (.cells (bv (zs 32)).toArray 35)
    simpa using this
  have hbw0 : Below w.heap.size w w0 := by rw [hw0]; exact ((Below.refl _ _).alloc (Nat.le_refl _) _).alloc (by simp) _
  have HW0 := Lib.hid hw0
  have H0 := Lib.hid (And.intro hbox (And.intro hrow hbw0))
  clear hw0 hbox hrow hbw0
  by_cases hni : n ≤ i
  · have eE : climbE i n ps.length = 9 := if_pos hni
    have eH : climbH W h i n ps = zs 32 := by rw [climbH, eE]; rfl
    rw [eE, eH]
    have z1 : (n : Int) ≤ (i : Int) := by omega
    clear hr hT h32 eE eH
    go_enter Tryd.func39, Tryd.ntmps39
    go_upto_region 1 with fail
    rw [show (w.alloc (.cells (bv h).toArray 35)).alloc (.cells (bv (zs 32)).toArray 35) = w0 from HW0.out.symm]
    go_wp2_with (with_reducible show wpList _ _ _ (⟨none, Op.store _ _ _, _, _, _, _⟩ :: _) _ _; refine wpList_store_whole rfl _ _ _ rfl (w.heap.size + 1) (bv (zs 32)) rfl rfl (bv (zs 32)) _ H0.out.2.1 (hInfo' _ HZ.out) rfl (bv_one _) ?_; intro w9 HG9 hg9)
    have hld := run_loadVar_row (P := Tryd.prog) w9 (w.heap.size + 1) _ 35 _ (0, 0) _ HG9.out Tryd.underlying35 rfl (hInfo _ HZ.out)
    refine bodyPost_ret (v := .tuple #[.agg (bv (zs 32)).toArray, .int .i64 9]) ?_ ?_ ?_
    · simp [results, Tryd.results39, asAddr, hld]
    · rfl
    · exact ⟨rfl, below_grow H0.out.2.2 hg9 (by omega) (Array.getElem?_eq_some_iff.1 H0.out.2.1).1⟩
  have hlt : i < n := by omega
  have hs := sz_code i (n - 1) hi
  have e0 : sizeN i n = sz 64 i (n - 1) := if_pos hlt
  have hle := sz_le 64 i (n - 1)
  have hin := fun wx => inner_any i n wx hlt hn
  have hcl := cl_code (nodeH W) i (n - 1) h ps
  rw [hs] at e0 hle
  obtain ⟨L, hL⟩ : ∃ L, L = Lib.bitLen (i ^^^ (n - 1)) := ⟨_, rfl⟩
  rw [← hL] at hin hcl e0 hle
  obtain ⟨po, hpo⟩ : ∃ p, p = pop 64 (i / 2 ^ L) := ⟨_, rfl⟩
  rw [← hpo] at hin e0 hle
  clear hL hpo hs
  have HI := Lib.hid hin
  have z1 : ¬ (n : Int) ≤ (i : Int) := by omega
  by_cases hsh : ps.length < L + po
  · have eE : climbE i n ps.length = 2 := by rw [climbE, if_neg hni, e0, if_pos hsh]
    have eH : climbH W h i n ps = zs 32 := by rw [climbH, eE]; rfl
    rw [eE, eH]
    obtain ⟨m, hm⟩ : ∃ m, m = ps.length := ⟨_, rfl⟩
    rw [← hm] at hsh hl ⊢
    have z2 : (m : Int) < (L : Int) + (po : Int) := by omega
    clear hr hT h32 eE eH hin hcl e0 hm
    go_enter Tryd.func39, Tryd.ntmps39
    go_upto_region 1 with fail
    rw [show (w.alloc (.cells (bv h).toArray 35)).alloc (.cells (bv (zs 32)).toArray 35) = w0 from HW0.out.symm]
    go_wp2_with fail
    refine (HI.out _).mono ?_
    rintro e w1 ⟨rfl, hb1⟩
    have hrow1 := (hb1.block _ (Array.getElem?_eq_some_iff.1 H0.out.2.1).1).trans H0.out.2.1
    have H1 := Lib.hid (And.intro hrow1 (H0.out.2.2.trans (hb1.mono H0.out.2.2.size)))
    clear hrow1 hb1
    go_wp2_with (with_reducible show wpList _ _ _ (⟨none, Op.store _ _ _, _, _, _, _⟩ :: _) _ _; refine wpList_store_whole rfl _ _ _ rfl (w.heap.size + 1) (bv (zs 32)) rfl rfl (bv (zs 32)) _ H1.out.1 (hInfo' _ HZ.out) rfl (bv_one _) ?_; intro w9 HG9 hg9)
    have hld := run_loadVar_row (P := Tryd.prog) w9 (w.heap.size + 1) _ 35 _ (0, 0) _ HG9.out Tryd.underlying35 rfl (hInfo _ HZ.out)
    refine bodyPost_ret (v := .tuple #[.agg (bv (zs 32)).toArray, .int .i64 2]) ?_ ?_ ?_
    · simp [results, Tryd.results39, asAddr, hld]
    · rfl
    · exact ⟨rfl, below_grow H1.out.2 hg9 (by omega) (Array.getElem?_eq_some_iff.1 H1.out.1).1⟩
  by_cases hlo : L + po < ps.length
  · have eE : climbE i n ps.length = 4 := by rw [climbE, if_neg hni, e0, if_neg hsh, if_pos hlo]
    have eH : climbH W h i n ps = zs 32 := by rw [climbH, eE]; rfl
    rw [eE, eH]
    obtain ⟨m, hm⟩ : ∃ m, m = ps.length := ⟨_, rfl⟩
    rw [← hm] at hlo hl hsh ⊢
    have z2 : ¬ (m : Int) < (L : Int) + (po : Int) := by omega
    have z3 : (L : Int) + (po : Int) < (m : Int) := by omega
    clear hr hT h32 eE eH hin hcl e0 hm
    go_enter Tryd.func39, Tryd.ntmps39
    go_upto_region 1 with fail
    rw [show (w.alloc (.cells (bv h).toArray 35)).alloc (.cells (bv (zs 32)).toArray 35) = w0 from HW0.out.symm]
    go_wp2_with fail
    refine (HI.out _).mono ?_
    rintro e w1 ⟨rfl, hb1⟩
    have hrow1 := (hb1.block _ (Array.getElem?_eq_some_iff.1 H0.out.2.1).1).trans H0.out.2.1
    have H1 := Lib.hid (And.intro hrow1 (H0.out.2.2.trans (hb1.mono H0.out.2.2.size)))
    clear hrow1 hb1
    go_wp2_with (with_reducible show wpList _ _ _ (⟨none, Op.store _ _ _, _, _, _, _⟩ :: _) _ _; refine wpList_store_whole rfl _ _ _ rfl (w.heap.size + 1) (bv (zs 32)) rfl rfl (bv (zs 32)) _ H1.out.1 (hInfo' _ HZ.out) rfl (bv_one _) ?_; intro w9 HG9 hg9)
    have hld := run_loadVar_row (P := Tryd.prog) w9 (w.heap.size + 1) _ 35 _ (0, 0) _ HG9.out Tryd.underlying35 rfl (hInfo _ HZ.out)
    refine bodyPost_ret (v := .tuple #[.agg (bv (zs 32)).toArray, .int .i64 4]) ?_ ?_ ?_
    · simp [results, Tryd.results39, asAddr, hld]
    · rfl
    · exact ⟨rfl, below_grow H1.out.2 hg9 (by omega) (Array.getElem?_eq_some_iff.1 H1.out.1).1⟩
  · have eE : climbE i n ps.length = 0 := by rw [climbE, if_neg hni, e0, if_neg hsh, if_neg hlo]
    have eH : climbH W h i n ps = clI (nodeH W) L i 0 h ps := by rw [climbH, eE, if_pos rfl, hcl]
    rw [eE, eH]
    obtain ⟨m, hm⟩ : ∃ m, m = ps.length := ⟨_, rfl⟩
    rw [← hm] at hlo hl hsh hr ⊢
    have z2 : ¬ (m : Int) < (L : Int) + (po : Int) := by omega
    have z3 : ¬ (L : Int) + (po : Int) < (m : Int) := by omega
    have hout := clI_32 W L i ps 0 h hh
    obtain ⟨out, ho⟩ : ∃ o, o = clI (nodeH W) L i 0 h ps := ⟨_, rfl⟩
    rw [← ho] at hout ⊢
    have HO := Lib.hid (And.intro hout (And.intro ho hm))
    have HR := Lib.hid hr
    have HT := Lib.hid hT
    have H32 := Lib.hid h32
    have HH := Lib.hid hh
    clear hr hT h32 eE eH hin hcl e0 hm ho hout hh
    obtain ⟨b, off, hps⟩ : ∃ b off, m = 0 ∨ (0 < m ∧ a = some ⟨b, off, none⟩ ∧ ∀ j u, (ps.flatMap bv)[j]? = some u → w.cell? ⟨b, off + j, none⟩ = some u) := by
      by_cases h0 : m = 0
      · exact ⟨0, 0, .inl h0⟩
      · obtain ⟨b, off, c', hv, _, hcell⟩ := HR.out.atN (by omega) (by omega)
        simp only [Value.slice.injEq, true_and] at hv
        exact ⟨b, off, .inr ⟨by omega, hv.1, hcell⟩⟩
    have HPS := Lib.hid hps
    clear hps
    go_enter Tryd.func39, Tryd.ntmps39
    go_upto_region 1 with fail
    rw [show (w.alloc (.cells (bv h).toArray 35)).alloc (.cells (bv (zs 32)).toArray 35) = w0 from HW0.out.symm]
    go_wp2_with fail
    refine (HI.out _).mono ?_
    rintro e w1 ⟨rfl, hb1⟩
    have hrow1 := (hb1.block _ (Array.getElem?_eq_some_iff.1 H0.out.2.1).1).trans H0.out.2.1
    have hbox1 := (hb1.block _ (Array.getElem?_eq_some_iff.1 H0.out.1).1).trans H0.out.1
    have H1 := Lib.hid (And.intro hrow1 (And.intro (H0.out.2.2.trans (hb1.mono H0.out.2.2.size)) hbox1))
    clear hrow1 hb1 hbox1
    go_wp2_with fail
    go_loopw [44] (fun s44 wr => ∃ (k : Nat) (hk : List UInt8), k ≤ m ∧ s44 = .int .i64 k ∧ wr.heap[w.heap.size]? = some (.cells (bv hk).toArray 35 (0, 0)) ∧ hk.length = 32 ∧ clI (nodeH W) L i k hk (ps.drop k) = out ∧ wr.heap[w.heap.size + 1]? = some (.cells (bv (zs 32)).toArray 35 (0, 0)) ∧ Below w.heap.size w wr) (fun s44 _ => m - (intOf s44).toNat)
    case atStart => exact ⟨0, h, by omega, rfl, H1.out.2.2, HH.out, by rw [List.drop_zero]; exact HO.out.2.1.symm, H1.out.1, H1.out.2.1⟩
    case round =>
      obtain ⟨k, hk, hkm, rfl, hbox, hk32, hcl, hrow, hbw⟩ := hrel
      by_cases hlt2 : k < m
      · have z4 : (k : Int) < (m : Int) := by omega
        have z5 : (0 : Int) ≤ (k : Int) := by omega
        obtain ⟨hm0, rfl, hcell⟩ := HPS.out.resolve_left (by omega)
        obtain ⟨x, hx⟩ : ∃ x, ps[k]? = some x := ⟨ps[k]'(by rw [← HO.out.2.2]; exact hlt2), List.getElem?_eq_getElem _⟩
        have hx32 := H32.out x (List.mem_of_getElem? hx)
        have hrg := range_at (w := wr) H32.out hx (fun j u hu => (hbw.cell (World.block_lt_of_cell? w _ (hcell j u hu))).trans (hcell j u hu))
        have hdr : ps.drop k = x :: ps.drop (k + 1) := (List.getElem?_eq_some_iff.1 hx).2 ▸ (List.drop_eq_getElem_cons _)
        rw [hdr, clI] at hcl
        have hB := hbw.size
        have HX := Lib.hid (And.intro hx32 hrg)
        have HB := Lib.hid (And.intro hbox (And.intro hrow (And.intro hbw hk32)))
        have H7 := Lib.hid (heap_alloc_new wr (.cells (bv (zs 32)).toArray 35))
        have hcell' := Lib.hid hcell
        clear hx hdr hx32 hrg hbox hrow hbw hk32 hcell
        have hfin : ∀ (nx : List UInt8) (w6 : World), nx.length = 32 → clI (nodeH W) L i (k + 1) nx (ps.drop (k + 1)) = out → True := fun _ _ _ _ => trivial
        clear hfin
        go_upto_region 11 with (first
          | (with_reducible show wpList _ _ _ (⟨some 48, _, _, _, _, _⟩ :: _) _ _; refine wpList_load_mid rfl _ _ rfl b (off + k * 32) rfl (bv x) _ HX.out.2 Tryd.underlying35 rfl (hInfo' _ HX.out.1) ?_)
          | (with_reducible show wpList _ _ _ (⟨none, Op.store _ _ _, _, _, _, _⟩ :: _) _ _; refine wpList_store_whole rfl _ _ _ rfl wr.heap.size (bv x) rfl rfl (bv (zs 32)) _ H7.out (hInfo' _ HX.out.1) (by rw [bv_length, bv_length, HX.out.1]; simp [zs]) (bv_one _) ?_; intro w3 HG3 hg3))
        have k3 : Below wr.heap.size wr w3 := below_grow ((Below.refl _ _).alloc (Nat.le_refl _) _) hg3 (Nat.le_refl _) (by simp)
        have hbox3 := (k3.block _ (Array.getElem?_eq_some_iff.1 HB.out.1).1).trans HB.out.1
        have hrow3 := (k3.block _ (Array.getElem?_eq_some_iff.1 HB.out.2.1).1).trans HB.out.2.1
        have hlb : w.heap.size < w3.heap.size := (Array.getElem?_eq_some_iff.1 hbox3).1
        have hlr : w.heap.size + 1 < wr.heap.size := (Array.getElem?_eq_some_iff.1 HB.out.2.1).1
        have H3 := Lib.hid (And.intro hbox3 (And.intro hrow3 (And.intro (HB.out.2.2.1.trans (k3.mono hB)) HG3.out)))
        clear k3 hbox3 hrow3 HG3 hg3
        by_cases hkl : k < L
        · have z6 : (k : Int) < (L : Int) := by omega
          have hdl : i / 2 ^ k < 18446744073709551616 := Nat.lt_of_le_of_lt (Nat.div_le_self _ _) hi
          obtain ⟨d, hd⟩ : ∃ d, d = i / 2 ^ k := ⟨_, rfl⟩
          have zd : (i : Int) / 2 ^ k = (d : Int) := by rw [hd]; simp
          rw [← hd] at hdl hcl
          have za := bits_and_u64_nat d 1 hdl (by omega)
          rw [Nat.and_one_is_mod] at za
          have z7 : (k : Int) ≤ 64 := by omega
          clear hd
          rcases Nat.mod_two_eq_zero_or_one d with hpar | hpar
          · rw [if_pos ⟨hkl, hpar⟩] at hcl
            rw [hpar] at za
            change bits .and .u64 (d : Int) 1 = 0 at za
            clear hpar
            skip
            go_wp2_with (first
              | (with_reducible show wpList _ _ _ (⟨some 60, _, _, _, _, _⟩ :: _) _ _; refine wpList_load_row rfl _ _ rfl w.heap.size rfl _ _ (0, 0) _ H3.out.1 Tryd.underlying35 rfl (hInfo _ HB.out.2.2.2) ?_)
              | (with_reducible show wpList _ _ _ (⟨some 61, _, _, _, _, _⟩ :: _) _ _; refine wpList_load_row rfl _ _ rfl wr.heap.size rfl _ _ (0, 0) _ H3.out.2.2.2 Tryd.underlying35 rfl (hInfo _ HX.out.1) ?_))
            refine (Node_any W hk x _ HB.out.2.2.2 HX.out.1 hW (HT.out.keepB H3.out.2.2.1)).mono ?_
            rintro e w4 ⟨rfl, hb4⟩
            have hbox4 := (hb4.block _ (Array.getElem?_eq_some_iff.1 H3.out.1).1).trans H3.out.1
            have hrow4 := (hb4.block _ (Array.getElem?_eq_some_iff.1 H3.out.2.1).1).trans H3.out.2.1
            have hbw4 := H3.out.2.2.1.trans (hb4.mono (by omega))
            have hn32 := nodeH_length W hk x
            obtain ⟨nx, hnx⟩ : ∃ nx, nx = nodeH W hk x := ⟨_, rfl⟩
            rw [← hnx] at hn32 hcl ⊢
            have H4 := Lib.hid (And.intro hbox4 (And.intro hrow4 (And.intro hbw4 (And.intro hn32 hcl))))
            clear hbox4 hrow4 hbw4 hn32 hcl hb4 hnx
            go_wp2_with (with_reducible show wpList _ _ _ (⟨none, Op.store _ _ _, _, _, _, _⟩ :: _) _ _; refine wpList_store_whole rfl _ _ _ rfl w.heap.size (bv nx) rfl rfl (bv hk) _ H4.out.1 (hInfo' _ H4.out.2.2.2.1) (by rw [bv_length, bv_length, H4.out.2.2.2.1, HB.out.2.2.2]) (bv_one _) ?_; intro w6 HG6 hg6)
            go_roundw
            case rel => exact ⟨k + 1, nx, by omega, by go_num, HG6.out, H4.out.2.2.2.1, H4.out.2.2.2.2, (hg6.block (w.heap.size + 1) (Array.getElem?_eq_some_iff.1 H4.out.2.1).1 (by simp)).trans H4.out.2.1, below_grow H4.out.2.2.1 hg6 (Nat.le_refl _) (Array.getElem?_eq_some_iff.1 H4.out.1).1⟩
            case measure => simp [intOf]; omega
          · rw [if_neg (fun h => by have := h.2; omega)] at hcl
            rw [hpar] at za
            change bits .and .u64 (d : Int) 1 = 1 at za
            clear hpar
            skip
            go_wp2_with (first
              | (with_reducible show wpList _ _ _ (⟨some 64, _, _, _, _, _⟩ :: _) _ _; refine wpList_load_row rfl _ _ rfl wr.heap.size rfl _ _ (0, 0) _ H3.out.2.2.2 Tryd.underlying35 rfl (hInfo _ HX.out.1) ?_)
              | (with_reducible show wpList _ _ _ (⟨some 65, _, _, _, _, _⟩ :: _) _ _; refine wpList_load_row rfl _ _ rfl w.heap.size rfl _ _ (0, 0) _ H3.out.1 Tryd.underlying35 rfl (hInfo _ HB.out.2.2.2) ?_))
            refine (Node_any W x hk _ HX.out.1 HB.out.2.2.2 hW (HT.out.keepB H3.out.2.2.1)).mono ?_
            rintro e w4 ⟨rfl, hb4⟩
            have hbox4 := (hb4.block _ (Array.getElem?_eq_some_iff.1 H3.out.1).1).trans H3.out.1
            have hrow4 := (hb4.block _ (Array.getElem?_eq_some_iff.1 H3.out.2.1).1).trans H3.out.2.1
            have hbw4 := H3.out.2.2.1.trans (hb4.mono (by omega))
            have hn32 := nodeH_length W x hk
            obtain ⟨nx, hnx⟩ : ∃ nx, nx = nodeH W x hk := ⟨_, rfl⟩
            rw [← hnx] at hn32 hcl ⊢
            have H4 := Lib.hid (And.intro hbox4 (And.intro hrow4 (And.intro hbw4 (And.intro hn32 hcl))))
            clear hbox4 hrow4 hbw4 hn32 hcl hb4 hnx
            go_wp2_with (with_reducible show wpList _ _ _ (⟨none, Op.store _ _ _, _, _, _, _⟩ :: _) _ _; refine wpList_store_whole rfl _ _ _ rfl w.heap.size (bv nx) rfl rfl (bv hk) _ H4.out.1 (hInfo' _ H4.out.2.2.2.1) (by rw [bv_length, bv_length, H4.out.2.2.2.1, HB.out.2.2.2]) (bv_one _) ?_; intro w6 HG6 hg6)
            go_roundw
            case rel => exact ⟨k + 1, nx, by omega, by go_num, HG6.out, H4.out.2.2.2.1, H4.out.2.2.2.2, (hg6.block (w.heap.size + 1) (Array.getElem?_eq_some_iff.1 H4.out.2.1).1 (by simp)).trans H4.out.2.1, below_grow H4.out.2.2.1 hg6 (Nat.le_refl _) (Array.getElem?_eq_some_iff.1 H4.out.1).1⟩
            case measure => simp [intOf]; omega
        · have z6 : ¬ (k : Int) < (L : Int) := by omega
          rw [if_neg (fun h => hkl h.1)] at hcl
          skip
          go_wp2_with (first
            | (with_reducible show wpList _ _ _ (⟨some 64, _, _, _, _, _⟩ :: _) _ _; refine wpList_load_row rfl _ _ rfl wr.heap.size rfl _ _ (0, 0) _ H3.out.2.2.2 Tryd.underlying35 rfl (hInfo _ HX.out.1) ?_)
            | (with_reducible show wpList _ _ _ (⟨some 65, _, _, _, _, _⟩ :: _) _ _; refine wpList_load_row rfl _ _ rfl w.heap.size rfl _ _ (0, 0) _ H3.out.1 Tryd.underlying35 rfl (hInfo _ HB.out.2.2.2) ?_))
          refine (Node_any W x hk _ HX.out.1 HB.out.2.2.2 hW (HT.out.keepB H3.out.2.2.1)).mono ?_
          rintro e w4 ⟨rfl, hb4⟩
          have hbox4 := (hb4.block _ (Array.getElem?_eq_some_iff.1 H3.out.1).1).trans H3.out.1
          have hrow4 := (hb4.block _ (Array.getElem?_eq_some_iff.1 H3.out.2.1).1).trans H3.out.2.1
          have hbw4 := H3.out.2.2.1.trans (hb4.mono (by omega))
          have hn32 := nodeH_length W x hk
          obtain ⟨nx, hnx⟩ : ∃ nx, nx = nodeH W x hk := ⟨_, rfl⟩
          rw [← hnx] at hn32 hcl ⊢
          have H4 := Lib.hid (And.intro hbox4 (And.intro hrow4 (And.intro hbw4 (And.intro hn32 hcl))))
          clear hbox4 hrow4 hbw4 hn32 hcl hb4 hnx
          go_wp2_with (with_reducible show wpList _ _ _ (⟨none, Op.store _ _ _, _, _, _, _⟩ :: _) _ _; refine wpList_store_whole rfl _ _ _ rfl w.heap.size (bv nx) rfl rfl (bv hk) _ H4.out.1 (hInfo' _ H4.out.2.2.2.1) (by rw [bv_length, bv_length, H4.out.2.2.2.1, HB.out.2.2.2]) (bv_one _) ?_; intro w6 HG6 hg6)
          go_roundw
          case rel => exact ⟨k + 1, nx, by omega, by go_num, HG6.out, H4.out.2.2.2.1, H4.out.2.2.2.2, (hg6.block (w.heap.size + 1) (Array.getElem?_eq_some_iff.1 H4.out.2.1).1 (by simp)).trans H4.out.2.1, below_grow H4.out.2.2.1 hg6 (Nat.le_refl _) (Array.getElem?_eq_some_iff.1 H4.out.1).1⟩
          case measure => simp [intOf]; omega
      · have z4 : ¬ (k : Int) < (m : Int) := by omega
        rw [List.drop_of_length_le (by rw [← HO.out.2.2]; omega)] at hcl
        have hko : hk = out := hcl
        subst hko
        have HB := Lib.hid (And.intro hbox (And.intro hrow (And.intro hbw hk32)))
        clear hbox hrow hbw hk32 hcl
        go_wp2_with (first
          | (with_reducible show wpList _ _ _ (⟨some 68, _, _, _, _, _⟩ :: _) _ _; refine wpList_load_row rfl _ _ rfl w.heap.size rfl _ _ (0, 0) _ HB.out.1 Tryd.underlying35 rfl (hInfo _ HB.out.2.2.2) ?_)
          | (with_reducible show wpList _ _ _ (⟨none, Op.store _ _ _, _, _, _, _⟩ :: _) _ _; refine wpList_store_whole rfl _ _ _ rfl (w.heap.size + 1) (bv hk) rfl rfl (bv (zs 32)) _ HB.out.2.1 (hInfo' _ HB.out.2.2.2) (by rw [bv_length, bv_length, HB.out.2.2.2]; simp [zs]) (bv_one _) ?_; intro w9 HG9 hg9))
        have hld := run_loadVar_row (P := Tryd.prog) w9 (w.heap.size + 1) _ 35 _ (0, 0) _ HG9.out Tryd.underlying35 rfl (hInfo _ HB.out.2.2.2)
        refine bodyPost_ret (v := .tuple #[.agg (bv hk).toArray, .int .i64 0]) ?_ ?_ ?_
        · simp [results, Tryd.results39, asAddr, hld]
        · rfl
        · exact ⟨rfl, below_grow HB.out.2.2.1 hg9 (by omega) (Array.getElem?_eq_some_iff.1 HB.out.2.1).1⟩
end Go.Proofs.YtfibhmgjkooemaaDoor
