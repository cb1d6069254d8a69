/- The law PathSteps: the walk. (printed by gen/pathg.py) -/
import Derived.Test.YtdjmebfjanophaaDoorPathF
import Derived.Test.YtdjmebfjanophaaDoorPathB
namespace Go.Proofs.YtdjmebfjanophaaDoor
open Go.RowKit Sha Root Ones Path

/-- What each operation hands on. -/
def ps14F (W : Int) (g6 b off m c k : Nat) (hk x nx : List UInt8) : Nat → Value → World → Prop
  | 0, v, _ => v = .int .i64 W
  | 1, v, _ => v = .slice (some ⟨b, off, none⟩) m c
  | 2, v, _ => v = .int .i64 (k : Nat)
  | 3, v, _ => v = .pointer (some ⟨b, off + k * 32, none⟩)
  | 4, v, _ => v = .agg (bv x).toArray
  | 5, v, _ => v = .agg (bv hk).toArray
  | 6, v, _ => v = .agg (bv nx).toArray
  | 7, _, w => w.heap[g6]? = some (.cells (bv nx).toArray 33 (0, 0))
  | _, _, _ => True

/-- What each operation hands on. -/
def ps18F (W : Int) (g6 b off m c k : Nat) (hk x nx : List UInt8) : Nat → Value → World → Prop
  | 0, v, _ => v = .int .i64 W
  | 1, v, _ => v = .agg (bv hk).toArray
  | 2, v, _ => v = .slice (some ⟨b, off, none⟩) m c
  | 3, v, _ => v = .int .i64 (k : Nat)
  | 4, v, _ => v = .pointer (some ⟨b, off + k * 32, none⟩)
  | 5, v, _ => v = .agg (bv x).toArray
  | 6, v, _ => v = .agg (bv nx).toArray
  | 7, _, w => w.heap[g6]? = some (.cells (bv nx).toArray 33 (0, 0))
  | _, _, _ => True

/-- Halving, by names that nothing unfolds. -/
structure Half (W : Int) (SZ : Nat → Nat → Nat) (PO : Nat → Nat) (CL : Nat → Nat → List UInt8 → List (List UInt8) → List UInt8) : Prop where
  half : ∀ a b : Nat, a < 18446744073709551616 → b < 18446744073709551616 → a ≠ b → SZ a b = 1 + SZ (a / 2) (b / 2)
  same : ∀ a : Nat, SZ a a = PO a
  zero : SZ 0 0 = 0
  pos : ∀ a b : Nat, a ≤ b → b ≠ 0 → b < 18446744073709551616 → 0 < SZ a b
  po : ∀ a : Nat, a < 18446744073709551616 → PO a = a % 2 + PO (a / 2)
  chalf : ∀ (a b : Nat) (h p : List UInt8) (r : List (List UInt8)), a < 18446744073709551616 → b < 18446744073709551616 → a ≠ b → CL a b h (p :: r) = CL (a / 2) (b / 2) (if a % 2 = 0 then nodeH W h p else nodeH W p h) r
  csame : ∀ (a : Nat) (h : List UInt8) (ps : List (List UInt8)), CL a a h ps = ps.foldl (fun h p => nodeH W p h) h
  cnil : ∀ (a b : Nat) (h : List UInt8), CL a b h [] = h
theorem half_of (W : Int) : Half W (sz 64) (pop 64) (cl (nodeH W) 64) where
  half := sz_half
  same := sz_eq 64
  zero := sz_zero 64
  pos a b h1 h2 h3 := sz_pos 64 a b h1 h2 h3
  po := pop_half
  chalf := cl_half (nodeH W)
  csame := cl_eq (nodeH W) 64
  cnil := cl_nil (nodeH W) 64
theorem climb_cases (W : Int) (h : List UInt8) (i n : Nat) (ps : List (List UInt8)) (hlt : i < n) : (ps.length < sz 64 i (n - 1) → climbE i n ps.length = 2) ∧ (sz 64 i (n - 1) < ps.length → climbE i n ps.length = 4) ∧
    (ps.length = sz 64 i (n - 1) → climbE i n ps.length = 0 ∧ climbH W h i n ps = cl (nodeH W) 64 i (n - 1) h ps) := by
  have e : sizeN i n = sz 64 i (n - 1) := if_pos hlt
  have hni : ¬ n ≤ i := by omega
  refine ⟨fun h1 => ?_, fun h1 => ?_, fun h1 => ?_⟩
  · rw [climbE, if_neg hni, e, if_pos h1]
  · rw [climbE, if_neg hni, e, if_neg (Nat.not_lt_of_lt h1), if_pos h1]
  · have e0 : climbE i n ps.length = 0 := by rw [climbE, if_neg hni, e, if_neg (by rw [h1]; exact Nat.lt_irrefl _), if_neg (by rw [h1]; exact Nat.lt_irrefl _)]
    exact ⟨e0, by rw [climbH, if_pos e0]⟩
set_option maxHeartbeats 16000000 in
set_option maxRecDepth 100000 in
theorem pathSteps_walk (W : Int) (h : List UInt8) (i n : Nat) (ps : List (List UInt8)) (a : Option Addr) (c : Nat) (w : World) (hW : -9223372036854775808 ≤ W ∧ W ≤ 9223372036854775807) (hh : h.length = 32) (hi : i < 18446744073709551616) (hn : n < 18446744073709551616)
    (h32 : ∀ p ∈ ps, p.length = 32) (hl : ps.length * 32 ≤ 140737488351232) (hr : Rd w 32 (.slice a ps.length c) ps.length (ps.flatMap bv)) (hT : Tabs w) :
    Calls Tryd.prog 6 #[.int .i64 W, .agg (bv h).toArray, .int .u64 i, .int .u64 n, .slice a ps.length c] w fun e w' => e = .returned (.bool true) ∧ Below w.heap.size w w' := by
  have hz := (zero_of_info info32).1
  obtain ⟨w0, hw0⟩ : ∃ x : World, x = w.alloc (.cells (bv h).toArray 33) := ⟨_, rfl⟩
  have hbox : w0.heap[w.heap.size]? = some (.cells (bv h).toArray 33 (0, 0)) := by rw [hw0]; exact heap_alloc_new _ _
  have hbw0 : Below w.heap.size w w0 := by rw [hw0]; exact (Below.refl _ _).alloc (Nat.le_refl _) _
  have haw := awake15_any w0 (hT.keepB hbw0)
  have hclm := fun wx (hb : Below w.heap.size w wx) => Climb_any W h i n ps a c wx hW hh hi hn h32 (by omega) (hr.keep hb) (hT.keepB hb)
  have hc32 := climbH_32 W h i n ps hh
  obtain ⟨out, ho⟩ : ∃ o, o = climbH W h i n ps := ⟨_, rfl⟩
  obtain ⟨E, hE⟩ : ∃ e, e = climbE i n ps.length := ⟨_, rfl⟩
  have hcs := climb_cases W h i n ps
  have hF := half_of W
  obtain ⟨SZ, hSZ⟩ : ∃ f, f = sz 64 := ⟨_, rfl⟩
  obtain ⟨PO, hPO⟩ : ∃ f, f = pop 64 := ⟨_, rfl⟩
  obtain ⟨CL, hCL⟩ : ∃ f, f = cl (nodeH W) 64 := ⟨_, rfl⟩
  rw [← hSZ, ← hPO, ← hCL] at hF
  rw [← hSZ, ← hCL, ← hE, ← ho] at hcs
  have hE9 : n ≤ i → E = 9 := fun h => by rw [hE]; exact if_pos h
  obtain ⟨m, hm⟩ : ∃ m, m = ps.length := ⟨_, rfl⟩
  rw [← hm] at hcs
  clear hSZ hPO hCL
  obtain ⟨b, off, hps⟩ : ∃ b off, m = 0 ∨ (0 < m ∧ a = some ⟨b, off, none⟩ ∧ ∀ j u, (ps.flatMap bv)[j]? = some u → w.cell? ⟨b, off + j, none⟩ = some u) := by
    by_cases h0 : m = 0
    · exact ⟨0, 0, .inl h0⟩
    · obtain ⟨b, off, c', hv, _, hcell⟩ := hr.atN (by omega) (by omega)
      simp only [Value.slice.injEq, true_and] at hv
      exact ⟨b, off, .inr ⟨by omega, hv.1, hcell⟩⟩
  rw [← hE] at hclm
  rw [← ho] at hclm hc32
  rw [← hm] at hclm ⊢
  have HW0 := Lib.hid hw0
  have H0 := Lib.hid (And.intro hbox hbw0)
  have HE := Lib.hid hm
  have HF := Lib.hid hF
  have HCS := Lib.hid (And.intro hcs hE9)
  have HC := Lib.hid hclm
  have HL := Lib.hid (And.intro hh hc32)
  have HT := Lib.hid hT
  have HN := Lib.hid hW
  have H32 := Lib.hid h32
  have HPS := Lib.hid hps
  have hml : m * 32 ≤ 140737488351232 := by omega
  clear hw0 hbox hbw0 hE ho hm hF hcs hE9 hclm hh hc32 hT hW h32 hps hr hl
  go_enter Tryd.func6, Tryd.ntmps6
  go_upto_region 1 with fail
  rw [show w.alloc (.cells (bv h).toArray 33) = w0 from HW0.out.symm]
  go_wp2_with fail
  refine haw.mono ?_
  rintro e w1 ⟨rfl, hb1⟩
  have hbox1 := (hb1.block _ (Array.getElem?_eq_some_iff.1 H0.out.1).1).trans H0.out.1
  have H1 := Lib.hid (And.intro hbox1 (H0.out.2.trans (hb1.mono H0.out.2.size)))
  clear hbox1 hb1 haw
  go_wp2_with (with_reducible show wpList _ _ _ (⟨some 20, _, _, _, _, _⟩ :: _) _ _; refine wpList_load_row rfl _ _ rfl w.heap.size rfl _ _ (0, 0) _ H1.out.1 Tryd.underlying33 rfl (hInfo _ HL.out.1) ?_)
  refine (HC.out _ H1.out.2).mono ?_
  rintro e w2 ⟨rfl, hb2⟩
  have hbox2 := (hb2.block _ (Array.getElem?_eq_some_iff.1 H1.out.1).1).trans H1.out.1
  have H2 := Lib.hid (And.intro hbox2 (H1.out.2.trans (hb2.mono H1.out.2.size)))
  have H7 := Lib.hid (heap_alloc_new w2 (.cells (bv (zs 32)).toArray 33))
  clear hbox2 hb2
  go_upto_region 4 with (with_reducible show wpList _ _ _ (⟨none, Op.store _ _ _, _, _, _, _⟩ :: _) _ _; refine wpList_store_whole rfl _ _ _ rfl w2.heap.size (bv out) rfl rfl (bv (zs 32)) _ H7.out (hInfo' _ HL.out.2) (by rw [bv_length, bv_length, HL.out.2]; simp [zs]) (bv_one _) ?_; intro w3 HG3 hg3)
  have k3 : Below w2.heap.size w2 w3 := below_grow ((Below.refl _ _).alloc (Nat.le_refl _) _) hg3 (Nat.le_refl _) (by simp)
  obtain ⟨g11, hg11⟩ : ∃ g, g = w2.heap.size := ⟨_, rfl⟩
  obtain ⟨g6, hg6⟩ : ∃ g, g = w.heap.size := ⟨_, rfl⟩
  have hbox3 := (k3.block _ (Array.getElem?_eq_some_iff.1 H2.out.1).1).trans H2.out.1
  have hbw3 := H2.out.2.trans (k3.mono H2.out.2.size)
  have hne11 : g6 < g11 := by rw [hg6, hg11]; exact (Array.getElem?_eq_some_iff.1 H2.out.1).1
  have hrow3 := HG3.out
  rw [← hg11] at hrow3
  rw [← hg6] at hbox3
  have H3 := Lib.hid (And.intro hbox3 (And.intro hrow3 hbw3))
  rw [← hg11, ← hg6]
  have hg6' : g6 ≤ w.heap.size := by omega
  have hg6b : w.heap.size ≤ g6 := by omega
  clear HG3 hg3 k3 hbox3 hrow3 hbw3 hg11 hg6
  by_cases hni : n ≤ i
  · have z1 : (n : Int) ≤ (i : Int) := by omega
    have eE : E = 9 := HCS.out.2 hni
    subst eE
    go_wp2_with fail
    go_ret
    exact ⟨rfl, H3.out.2.2⟩
  · have z1 : ¬ (n : Int) ≤ (i : Int) := by omega
    have z2 : IntKind.u64.wrap ((n : Int) - 1) = ((n - 1 : Nat) : Int) := (IntWalk.u64_in _ (by omega)).trans (by omega)
    have hlt : i < n := by omega
    have hcs := HCS.out.1 hlt
    obtain ⟨S, hS⟩ : ∃ s, s = SZ i (n - 1) := ⟨_, rfl⟩
    obtain ⟨C, hC⟩ : ∃ s, s = CL i (n - 1) h ps := ⟨_, rfl⟩
    rw [← hS, ← hC] at hcs
    have HK := Lib.hid hcs
    have HSC := Lib.hid (And.intro hS hC)
    clear hcs hS hC
    go_wp2_with fail
    go_loopw [13, 14, 15] (fun s13 s14 s15 wr => ∃ (k at_ last : Nat) (hk : List UInt8), k ≤ m ∧ s15 = .int .i64 k ∧ s13 = .int .u64 at_ ∧ s14 = .int .u64 last ∧ at_ ≤ last ∧ last < 18446744073709551616 ∧ wr.heap[g6]? = some (.cells (bv hk).toArray 33 (0, 0)) ∧ hk.length = 32 ∧ wr.heap[g11]? = some (.cells (bv out).toArray 33 (0, 0)) ∧ Below w.heap.size w wr ∧
      k + SZ at_ last = S ∧ CL at_ last hk (ps.drop k) = C) (fun _ _ s15 _ => m - (intOf s15).toNat)
    case atStart => exact ⟨0, i, n - 1, h, by omega, rfl, rfl, by first | rfl | (rw [z2]), by omega, by omega, H3.out.1, HL.out.1, H3.out.2.1, H3.out.2.2, by rw [HSC.out.1]; omega, by rw [List.drop_zero]; exact HSC.out.2.symm⟩
    case round =>
      clear z2
      obtain ⟨k, at_, last, hk, hkm, rfl, rfl, rfl, hal, hla, hbox, hk32, hb11, hbw, hsz, hcl⟩ := hrel
      have hat : at_ < 18446744073709551616 := by omega
      by_cases hlt2 : k < m
      · have z4 : (k : Int) < (m : Int) := by omega
        by_cases hl0 : last = 0
        · have ha0 : at_ = 0 := by omega
          have zl : ((last : Int) == 0) = true := by simp; omega
          rw [hl0, ha0, HF.out.zero] at hsz
          have eE : E = 4 := HK.out.2.1 (by omega)
          subst eE
          have HBW := Lib.hid hbw
          clear hbox hb11 hbw hcl hsz
          go_wp2_with fail
          go_ret
          exact ⟨rfl, HBW.out⟩
        · have zl : ((last : Int) == 0) = false := by simp; omega
          obtain ⟨hm0, rfl, hcell⟩ := HPS.out.resolve_left (by omega)
          obtain ⟨x, hx⟩ : ∃ x, ps[k]? = some x := ⟨ps[k]'(by rw [← HE.out]; exact hlt2), List.getElem?_eq_getElem _⟩
          have hx32 := H32.out x (List.mem_of_getElem? hx)
          have hrg := range_at (w := wr) H32.out hx (fun j u hu => (hbw.cell (World.block_lt_of_cell? w _ (hcell j u hu))).trans (hcell j u hu))
          have HRG := Lib.hid (fun wx (h : Below wr.heap.size wr wx) => show wx.rangeAt b (off + k * 32) (bv x) from fun q u hu => (h.cell (World.block_lt_of_cell? wr _ (hrg q u hu))).trans (hrg q u hu))
          have hdr : ps.drop k = x :: ps.drop (k + 1) := (List.getElem?_eq_some_iff.1 hx).2 ▸ (List.drop_eq_getElem_cons _)
          rw [hdr] at hcl
          have hcl' := hcl
          clear hx hdr hrg hcell
          by_cases hod : at_ % 2 = 1 ∨ at_ = last
          · have hzz : (((at_ : Int) % 2 == 1) = true) ∨ (((at_ : Int) % 2 == 1) = false ∧ ((at_ : Int) == (last : Int)) = true) := by
              rcases hod with h | h
              · left; simp; omega
              · rcases Nat.mod_two_eq_zero_or_one at_ with h2 | h2
                · right; exact ⟨by simp; omega, by simp; omega⟩
                · left; simp; omega
            have HND := Lib.hid (fun wx (h : Below wr.heap.size wr wx) => Node_any W x hk wx hx32 hk32 HN.out (HT.out.keepB (hbw.trans (h.mono hbw.size))))
            have hn32 := nodeH_length W x hk
            obtain ⟨nx, hnx⟩ : ∃ nx, nx = nodeH W x hk := ⟨_, rfl⟩
            rw [← hnx] at HND hn32
            have HLN := Lib.hid (And.intro hk32 (And.intro hx32 hn32))
            have HBK := Lib.hid (And.intro hbox (And.intro hb11 hbw))
            have hB := hbw.size
            have HNX := Lib.hid hnx
            have HST := Lib.hid (And.intro hsz hcl)
            clear hk32 hx32 hn32 hbox hb11 hbw hnx hsz hcl
            rcases hzz with hq1 | ⟨hq1, hq2⟩
            · go_upto_region 14 with fail
              refine wp_region_until [some 53, some 54, some 55, some 56, some 57, some 58, some 59, none] [] 7 (fun wx => Below wr.heap.size wr wx) [0, 1, 2, 3, 4, 5, 6, 7] (ps14F W g6 b off m c k hk x nx) (kSt 7 g6) (fun wx => wr.grownBy wx (some g6)) (by kernel_rfl) (by kernel_rfl) rfl (by kernel_rfl) (by kernel_rfl) (grown_drew (World.grownBy.refl _ _)) (Below.refl _ _).drew (fun _ hj _ _ k h => h.trans ((kSt_below hj k).mono h.size)) (fun _ _ => kSt_refl _ _ _ _) (fun _ _ _ h k => kSt_G h k) ?hF ?hstep ?hend
              case hF =>
                exact ⟨fun _ _ _ _ _ _ h => h, ⟨fun _ _ _ _ _ _ h => h, ⟨fun _ _ _ _ _ _ h => h, ⟨fun _ _ _ _ _ _ h => h, ⟨fun _ _ _ _ _ _ h => h, ⟨fun _ _ _ _ _ _ h => h, ⟨fun _ _ _ _ _ _ h => h, ⟨fun j hg _ _ _ k h => ((kSt_below (fun e => by subst e; exact absurd hg (by rw [show goneB _ 7 7 = true by kernel_rfl]; simp)) k).block _ (Array.getElem?_eq_some_iff.1 h).1).trans h, trivial⟩⟩⟩⟩⟩⟩⟩⟩
              case hstep =>
                -- operation 0: Op.move (tmp 0)
                refine ⟨fun r wx hG hs hq hf => ?_, ?_⟩
                · have hQ := hq rfl
                  have e0 : r 0 = .int .i64 W := hs 0 rfl
                  refine (if_pos rfl).symm ▸ ?_
                  clear hs hq hf
                  unfold gives
                  go_simp
                  exact ⟨kSt_refl _ _ _ _, rfl⟩
                -- operation 1: Op.move (tmp 4)
                refine ⟨fun r wx hG hs hq hf => ?_, ?_⟩
                · have hQ := hq rfl
                  have e4 : r 4 = .slice (some ⟨b, off, none⟩) m c := hs 4 rfl
                  refine (if_pos rfl).symm ▸ ?_
                  clear hs hq hf
                  unfold gives
                  go_simp
                  exact ⟨kSt_refl _ _ _ _, rfl⟩
                -- operation 2: Op.move (tmp 15)
                refine ⟨fun r wx hG hs hq hf => ?_, ?_⟩
                · have hQ := hq rfl
                  have e15 : r 15 = .int .i64 (k : Nat) := hs 15 rfl
                  refine (if_pos rfl).symm ▸ ?_
                  clear hs hq hf
                  unfold gives
                  go_simp
                  exact ⟨kSt_refl _ _ _ _, rfl⟩
                -- operation 3: Op.indexAddr 22 (tmp 54) (tmp 55)
                refine ⟨fun r wx hG hs hq hf => ?_, ?_⟩
                · have hQ := hq rfl
                  have h1 : r 54 = .slice (some ⟨b, off, none⟩) m c := hf.1
                  have h2 : r 55 = .int .i64 (k : Nat) := hf.2.1
                  refine (if_pos rfl).symm ▸ ?_
                  clear hs hq hf
                  unfold gives
                  have z0 : (0 : Int) ≤ (k : Int) := by omega
                  have z1 : (k : Int) < (m : Int) := by omega
                  go_simp
                  exact ⟨kSt_refl _ _ _ _, rfl⟩
                -- operation 4: Op.load 33 (tmp 56)
                refine ⟨fun r wx hG hs hq hf => ?_, ?_⟩
                · have hQ := hq rfl
                  have h3 : r 56 = .pointer (some ⟨b, off + k * 32, none⟩) := hf.1
                  refine (if_pos rfl).symm ▸ ?_
                  clear hs hq hf
                  unfold gives
                  refine gives_load_mid 33 _ rfl b (off + k * 32) h3 (bv x) _ (HRG.out wx hQ) Tryd.underlying33 rfl (hInfo' _ HLN.out.2.1) ⟨kSt_refl _ _ _ _, rfl⟩
                -- operation 5: Op.load 33 (tmp 6)
                refine ⟨fun r wx hG hs hq hf => ?_, ?_⟩
                · have hQ := hq rfl
                  have e6 : r 6 = .pointer (some ⟨g6, 0, none⟩) := hs 6 rfl
                  refine (if_pos rfl).symm ▸ ?_
                  clear hs hq hf
                  unfold gives
                  refine gives_load_row 33 _ rfl g6 e6 33 _ (0, 0) _ ((hQ.block g6 (Array.getElem?_eq_some_iff.1 HBK.out.1).1).trans HBK.out.1) Tryd.underlying33 rfl (hInfo _ HLN.out.1) ?_
                  exact ⟨kSt_refl _ _ _ _, rfl⟩
                -- operation 6: Op.call ( callee := Callee.value (func 29), args := #[tmp 53, tmp 57, tmp 58], argTypes := #[3, 33, 33] )
                refine ⟨fun r wx hG hs hq hf => ?_, ?_⟩
                · have hQ := hq rfl
                  have h0 : r 53 = .int .i64 W := hf.1
                  have h4 : r 57 = .agg (bv x).toArray := hf.2.1
                  have h5 : r 58 = .agg (bv hk).toArray := hf.2.2.1
                  refine (if_pos rfl).symm ▸ ?_
                  clear hs hq hf
                  unfold gives
                  go_simp
                  refine (HND.out wx hQ).mono ?_
                  rintro e wy ⟨rfl, hb1⟩
                  exact ⟨_, rfl, kSt_of rfl hb1, rfl⟩
                -- operation 7: Op.store 33 (tmp 6) (tmp 59)
                refine ⟨fun r wx hG hs hq hf => ?_, ?_⟩
                · have hQ := hq rfl
                  have e6 : r 6 = .pointer (some ⟨g6, 0, none⟩) := hs 6 rfl
                  have h6 : r 59 = .agg (bv nx).toArray := hf.1
                  refine (if_pos rfl).symm ▸ ?_
                  clear hs hq hf
                  unfold gives
                  refine gives_store_row 33 _ _ rfl g6 (bv nx) e6 h6 (bv hk) 33 ((hQ.block g6 (Array.getElem?_eq_some_iff.1 HBK.out.1).1).trans HBK.out.1) (hInfo' _ HLN.out.2.2) (by rw [bv_length, bv_length, HLN.out.2.2, HLN.out.1]) (bv_one _) ?_
                  intro wy h1 h2
                  exact ⟨kSt_at h2, h1⟩
                exact trivial
              case hend =>
                intro u wz hG hfin
                have z7 : wz.heap[g6]? = some (.cells (bv nx).toArray 33 (0, 0)) := hfin 7 (by decide) (by kernel_rfl)
                clear hfin
                simp only [fill]
                have HZR := Lib.hid (And.intro z7 hG)
                clear z7 hG
                go_simp
                have hb11 := (HZR.out.2.block g11 (Array.getElem?_eq_some_iff.1 HBK.out.2.1).1 (by simp only [ne_eq, Option.some.injEq]; omega)).trans HBK.out.2.1
                have hbwz : Below w.heap.size w wz := HBK.out.2.2.trans ⟨HZR.out.2.os, HZR.out.2.tape, HZR.out.2.output, HZR.out.2.size, fun q hq => HZR.out.2.block q (by omega) (fun e => by simp only [Option.some.injEq] at e; omega)⟩
                have HZ2 := Lib.hid (And.intro HZR.out.1 (And.intro hb11 hbwz))
                clear HZR hb11 hbwz
                go_wp2_with fail
                go_loopw [13, 14] (fun s13 s14 wq => ∃ a2 l2 : Nat, s13 = .int .u64 a2 ∧ s14 = .int .u64 l2 ∧ a2 ≤ l2 ∧ l2 < 18446744073709551616 ∧ ((a2 % 2 = 1 ∧ a2 = at_ ∧ l2 = last) ∨ (a2 = l2 ∧ PO a2 = PO at_ ∧ at_ = last ∧ a2 ≠ 0)) ∧ Below wz.heap.size wz wq) (fun s13 _ _ => (intOf s13).toNat)
                case atStart => exact ⟨at_, last, rfl, rfl, hal, hla, hod.elim (fun h => .inl ⟨h, rfl, rfl⟩) (fun h => .inr ⟨h, rfl, h, by omega⟩), Below.refl _ _⟩
                case round =>
                  obtain ⟨a2, l2, rfl, rfl, hal2, hl2, hcase, hbq⟩ := hrel
                  rcases Nat.mod_two_eq_zero_or_one a2 with hp | hp
                  · have ha2 : a2 = l2 ∧ PO a2 = PO at_ ∧ at_ = last ∧ a2 ≠ 0 := hcase.resolve_left (fun h => by omega)
                    clear hcase
                    have zp : (a2 : Int) % 2 = 0 := by omega
                    have zn : ((a2 : Int) != 0) = true := by simp; omega
                    have hph := HF.out.po a2 (by omega)
                    have HA2 := Lib.hid (And.intro ha2 hph)
                    have ha0 : 0 < a2 := by omega
                    clear ha2 hph
                    go_wp2_with fail
                    go_roundw
                    case rel =>
                      obtain ⟨ha2, hph⟩ := HA2.out
                      exact ⟨a2 / 2, l2 / 2, by go_num, by go_num, by omega, by omega, .inr ⟨by omega, by omega, ha2.2.2.1, by omega⟩, hbq⟩
                    case measure => simp [intOf]; omega
                  · have zp : (a2 : Int) % 2 = 1 := by omega
                    have hfin : k + 1 + SZ (a2 / 2) (l2 / 2) = S ∧ CL (a2 / 2) (l2 / 2) nx (ps.drop (k + 1)) = C := by
                      by_cases hne : at_ = last
                      · have h2 : a2 = l2 ∧ PO a2 = PO at_ := by
                          rcases hcase with h | h
                          · exact ⟨by omega, by rw [h.2.1]⟩
                          · exact ⟨h.1, h.2.1⟩
                        have hph := HF.out.po a2 (by omega)
                        have h3 := HST.out.1
                        rw [hne, HF.out.same] at h3
                        rw [hne, HF.out.csame] at hcl'
                        rw [hne] at h2
                        rw [← h2.1, HF.out.same, HF.out.csame, HNX.out]
                        exact ⟨by omega, hcl'⟩
                      · have h2 : a2 = at_ ∧ l2 = last := by
                          rcases hcase with h | h
                          · exact ⟨h.2.1, h.2.2⟩
                          · exact absurd h.2.2.1 hne
                        have h3 := HST.out.1
                        rw [h2.1] at hp
                        rw [HF.out.chalf _ _ _ _ _ hat hla hne, if_neg (by omega)] at hcl'
                        rw [HF.out.half _ _ hat hla hne] at h3
                        rw [h2.1, h2.2, HNX.out]
                        exact ⟨by omega, hcl'⟩
                    have HFN := Lib.hid hfin
                    have HBQ := Lib.hid hbq
                    clear hcase hfin hcl' hbq
                    go_wp2_with fail
                    go_roundw
                    case rel => exact ⟨k + 1, a2 / 2, l2 / 2, nx, by omega, by go_num, by go_num, by go_num, by omega, by omega, (HBQ.out.block _ (Array.getElem?_eq_some_iff.1 HZ2.out.1).1).trans HZ2.out.1, HLN.out.2.2, (HBQ.out.block _ (Array.getElem?_eq_some_iff.1 HZ2.out.2.1).1).trans HZ2.out.2.1, HZ2.out.2.2.trans (HBQ.out.mono HZ2.out.2.2.size), HFN.out.1, HFN.out.2⟩
                    case measure => simp [intOf]; omega
            · go_upto_region 14 with fail
              refine wp_region_until [some 53, some 54, some 55, some 56, some 57, some 58, some 59, none] [] 7 (fun wx => Below wr.heap.size wr wx) [0, 1, 2, 3, 4, 5, 6, 7] (ps14F W g6 b off m c k hk x nx) (kSt 7 g6) (fun wx => wr.grownBy wx (some g6)) (by kernel_rfl) (by kernel_rfl) rfl (by kernel_rfl) (by kernel_rfl) (grown_drew (World.grownBy.refl _ _)) (Below.refl _ _).drew (fun _ hj _ _ k h => h.trans ((kSt_below hj k).mono h.size)) (fun _ _ => kSt_refl _ _ _ _) (fun _ _ _ h k => kSt_G h k) ?hF ?hstep ?hend
              case hF =>
                exact ⟨fun _ _ _ _ _ _ h => h, ⟨fun _ _ _ _ _ _ h => h, ⟨fun _ _ _ _ _ _ h => h, ⟨fun _ _ _ _ _ _ h => h, ⟨fun _ _ _ _ _ _ h => h, ⟨fun _ _ _ _ _ _ h => h, ⟨fun _ _ _ _ _ _ h => h, ⟨fun j hg _ _ _ k h => ((kSt_below (fun e => by subst e; exact absurd hg (by rw [show goneB _ 7 7 = true by kernel_rfl]; simp)) k).block _ (Array.getElem?_eq_some_iff.1 h).1).trans h, trivial⟩⟩⟩⟩⟩⟩⟩⟩
              case hstep =>
                -- operation 0: Op.move (tmp 0)
                refine ⟨fun r wx hG hs hq hf => ?_, ?_⟩
                · have hQ := hq rfl
                  have e0 : r 0 = .int .i64 W := hs 0 rfl
                  refine (if_pos rfl).symm ▸ ?_
                  clear hs hq hf
                  unfold gives
                  go_simp
                  exact ⟨kSt_refl _ _ _ _, rfl⟩
                -- operation 1: Op.move (tmp 4)
                refine ⟨fun r wx hG hs hq hf => ?_, ?_⟩
                · have hQ := hq rfl
                  have e4 : r 4 = .slice (some ⟨b, off, none⟩) m c := hs 4 rfl
                  refine (if_pos rfl).symm ▸ ?_
                  clear hs hq hf
                  unfold gives
                  go_simp
                  exact ⟨kSt_refl _ _ _ _, rfl⟩
                -- operation 2: Op.move (tmp 15)
                refine ⟨fun r wx hG hs hq hf => ?_, ?_⟩
                · have hQ := hq rfl
                  have e15 : r 15 = .int .i64 (k : Nat) := hs 15 rfl
                  refine (if_pos rfl).symm ▸ ?_
                  clear hs hq hf
                  unfold gives
                  go_simp
                  exact ⟨kSt_refl _ _ _ _, rfl⟩
                -- operation 3: Op.indexAddr 22 (tmp 54) (tmp 55)
                refine ⟨fun r wx hG hs hq hf => ?_, ?_⟩
                · have hQ := hq rfl
                  have h1 : r 54 = .slice (some ⟨b, off, none⟩) m c := hf.1
                  have h2 : r 55 = .int .i64 (k : Nat) := hf.2.1
                  refine (if_pos rfl).symm ▸ ?_
                  clear hs hq hf
                  unfold gives
                  have z0 : (0 : Int) ≤ (k : Int) := by omega
                  have z1 : (k : Int) < (m : Int) := by omega
                  go_simp
                  exact ⟨kSt_refl _ _ _ _, rfl⟩
                -- operation 4: Op.load 33 (tmp 56)
                refine ⟨fun r wx hG hs hq hf => ?_, ?_⟩
                · have hQ := hq rfl
                  have h3 : r 56 = .pointer (some ⟨b, off + k * 32, none⟩) := hf.1
                  refine (if_pos rfl).symm ▸ ?_
                  clear hs hq hf
                  unfold gives
                  refine gives_load_mid 33 _ rfl b (off + k * 32) h3 (bv x) _ (HRG.out wx hQ) Tryd.underlying33 rfl (hInfo' _ HLN.out.2.1) ⟨kSt_refl _ _ _ _, rfl⟩
                -- operation 5: Op.load 33 (tmp 6)
                refine ⟨fun r wx hG hs hq hf => ?_, ?_⟩
                · have hQ := hq rfl
                  have e6 : r 6 = .pointer (some ⟨g6, 0, none⟩) := hs 6 rfl
                  refine (if_pos rfl).symm ▸ ?_
                  clear hs hq hf
                  unfold gives
                  refine gives_load_row 33 _ rfl g6 e6 33 _ (0, 0) _ ((hQ.block g6 (Array.getElem?_eq_some_iff.1 HBK.out.1).1).trans HBK.out.1) Tryd.underlying33 rfl (hInfo _ HLN.out.1) ?_
                  exact ⟨kSt_refl _ _ _ _, rfl⟩
                -- operation 6: Op.call ( callee := Callee.value (func 29), args := #[tmp 53, tmp 57, tmp 58], argTypes := #[3, 33, 33] )
                refine ⟨fun r wx hG hs hq hf => ?_, ?_⟩
                · have hQ := hq rfl
                  have h0 : r 53 = .int .i64 W := hf.1
                  have h4 : r 57 = .agg (bv x).toArray := hf.2.1
                  have h5 : r 58 = .agg (bv hk).toArray := hf.2.2.1
                  refine (if_pos rfl).symm ▸ ?_
                  clear hs hq hf
                  unfold gives
                  go_simp
                  refine (HND.out wx hQ).mono ?_
                  rintro e wy ⟨rfl, hb1⟩
                  exact ⟨_, rfl, kSt_of rfl hb1, rfl⟩
                -- operation 7: Op.store 33 (tmp 6) (tmp 59)
                refine ⟨fun r wx hG hs hq hf => ?_, ?_⟩
                · have hQ := hq rfl
                  have e6 : r 6 = .pointer (some ⟨g6, 0, none⟩) := hs 6 rfl
                  have h6 : r 59 = .agg (bv nx).toArray := hf.1
                  refine (if_pos rfl).symm ▸ ?_
                  clear hs hq hf
                  unfold gives
                  refine gives_store_row 33 _ _ rfl g6 (bv nx) e6 h6 (bv hk) 33 ((hQ.block g6 (Array.getElem?_eq_some_iff.1 HBK.out.1).1).trans HBK.out.1) (hInfo' _ HLN.out.2.2) (by rw [bv_length, bv_length, HLN.out.2.2, HLN.out.1]) (bv_one _) ?_
                  intro wy h1 h2
                  exact ⟨kSt_at h2, h1⟩
                exact trivial
              case hend =>
                intro u wz hG hfin
                have z7 : wz.heap[g6]? = some (.cells (bv nx).toArray 33 (0, 0)) := hfin 7 (by decide) (by kernel_rfl)
                clear hfin
                simp only [fill]
                have HZR := Lib.hid (And.intro z7 hG)
                clear z7 hG
                go_simp
                have hb11 := (HZR.out.2.block g11 (Array.getElem?_eq_some_iff.1 HBK.out.2.1).1 (by simp only [ne_eq, Option.some.injEq]; omega)).trans HBK.out.2.1
                have hbwz : Below w.heap.size w wz := HBK.out.2.2.trans ⟨HZR.out.2.os, HZR.out.2.tape, HZR.out.2.output, HZR.out.2.size, fun q hq => HZR.out.2.block q (by omega) (fun e => by simp only [Option.some.injEq] at e; omega)⟩
                have HZ2 := Lib.hid (And.intro HZR.out.1 (And.intro hb11 hbwz))
                clear HZR hb11 hbwz
                go_wp2_with fail
                go_loopw [13, 14] (fun s13 s14 wq => ∃ a2 l2 : Nat, s13 = .int .u64 a2 ∧ s14 = .int .u64 l2 ∧ a2 ≤ l2 ∧ l2 < 18446744073709551616 ∧ ((a2 % 2 = 1 ∧ a2 = at_ ∧ l2 = last) ∨ (a2 = l2 ∧ PO a2 = PO at_ ∧ at_ = last ∧ a2 ≠ 0)) ∧ Below wz.heap.size wz wq) (fun s13 _ _ => (intOf s13).toNat)
                case atStart => exact ⟨at_, last, rfl, rfl, hal, hla, hod.elim (fun h => .inl ⟨h, rfl, rfl⟩) (fun h => .inr ⟨h, rfl, h, by omega⟩), Below.refl _ _⟩
                case round =>
                  obtain ⟨a2, l2, rfl, rfl, hal2, hl2, hcase, hbq⟩ := hrel
                  rcases Nat.mod_two_eq_zero_or_one a2 with hp | hp
                  · have ha2 : a2 = l2 ∧ PO a2 = PO at_ ∧ at_ = last ∧ a2 ≠ 0 := hcase.resolve_left (fun h => by omega)
                    clear hcase
                    have zp : (a2 : Int) % 2 = 0 := by omega
                    have zn : ((a2 : Int) != 0) = true := by simp; omega
                    have hph := HF.out.po a2 (by omega)
                    have HA2 := Lib.hid (And.intro ha2 hph)
                    have ha0 : 0 < a2 := by omega
                    clear ha2 hph
                    go_wp2_with fail
                    go_roundw
                    case rel =>
                      obtain ⟨ha2, hph⟩ := HA2.out
                      exact ⟨a2 / 2, l2 / 2, by go_num, by go_num, by omega, by omega, .inr ⟨by omega, by omega, ha2.2.2.1, by omega⟩, hbq⟩
                    case measure => simp [intOf]; omega
                  · have zp : (a2 : Int) % 2 = 1 := by omega
                    have hfin : k + 1 + SZ (a2 / 2) (l2 / 2) = S ∧ CL (a2 / 2) (l2 / 2) nx (ps.drop (k + 1)) = C := by
                      by_cases hne : at_ = last
                      · have h2 : a2 = l2 ∧ PO a2 = PO at_ := by
                          rcases hcase with h | h
                          · exact ⟨by omega, by rw [h.2.1]⟩
                          · exact ⟨h.1, h.2.1⟩
                        have hph := HF.out.po a2 (by omega)
                        have h3 := HST.out.1
                        rw [hne, HF.out.same] at h3
                        rw [hne, HF.out.csame] at hcl'
                        rw [hne] at h2
                        rw [← h2.1, HF.out.same, HF.out.csame, HNX.out]
                        exact ⟨by omega, hcl'⟩
                      · have h2 : a2 = at_ ∧ l2 = last := by
                          rcases hcase with h | h
                          · exact ⟨h.2.1, h.2.2⟩
                          · exact absurd h.2.2.1 hne
                        have h3 := HST.out.1
                        rw [h2.1] at hp
                        rw [HF.out.chalf _ _ _ _ _ hat hla hne, if_neg (by omega)] at hcl'
                        rw [HF.out.half _ _ hat hla hne] at h3
                        rw [h2.1, h2.2, HNX.out]
                        exact ⟨by omega, hcl'⟩
                    have HFN := Lib.hid hfin
                    have HBQ := Lib.hid hbq
                    clear hcase hfin hcl' hbq
                    go_wp2_with fail
                    go_roundw
                    case rel => exact ⟨k + 1, a2 / 2, l2 / 2, nx, by omega, by go_num, by go_num, by go_num, by omega, by omega, (HBQ.out.block _ (Array.getElem?_eq_some_iff.1 HZ2.out.1).1).trans HZ2.out.1, HLN.out.2.2, (HBQ.out.block _ (Array.getElem?_eq_some_iff.1 HZ2.out.2.1).1).trans HZ2.out.2.1, HZ2.out.2.2.trans (HBQ.out.mono HZ2.out.2.2.size), HFN.out.1, HFN.out.2⟩
                    case measure => simp [intOf]; omega
          · have hev : at_ % 2 = 0 := by omega
            have hne : at_ ≠ last := fun e => hod (.inr e)
            have zq1 : ((at_ : Int) % 2 == 1) = false := by simp; omega
            have zq2 : ((at_ : Int) == (last : Int)) = false := by simp; omega
            have HND := Lib.hid (fun wx (h : Below wr.heap.size wr wx) => Node_any W hk x wx hk32 hx32 HN.out (HT.out.keepB (hbw.trans (h.mono hbw.size))))
            have hn32 := nodeH_length W hk x
            obtain ⟨nx, hnx⟩ : ∃ nx, nx = nodeH W hk x := ⟨_, rfl⟩
            rw [← hnx] at HND hn32
            have HLN := Lib.hid (And.intro hk32 (And.intro hx32 hn32))
            have HBK := Lib.hid (And.intro hbox (And.intro hb11 hbw))
            have hB := hbw.size
            have HNX := Lib.hid hnx
            have HST := Lib.hid (And.intro hsz hcl)
            clear hk32 hx32 hn32 hbox hb11 hbw hnx hsz hcl
            go_upto_region 18 with fail
            refine wp_region_until [some 71, some 72, some 73, some 74, some 75, some 76, some 77, none] [] 7 (fun wx => Below wr.heap.size wr wx) [0, 1, 2, 3, 4, 5, 6, 7] (ps18F W g6 b off m c k hk x nx) (kSt 7 g6) (fun wx => wr.grownBy wx (some g6)) (by kernel_rfl) (by kernel_rfl) rfl (by kernel_rfl) (by kernel_rfl) (grown_drew (World.grownBy.refl _ _)) (Below.refl _ _).drew (fun _ hj _ _ k h => h.trans ((kSt_below hj k).mono h.size)) (fun _ _ => kSt_refl _ _ _ _) (fun _ _ _ h k => kSt_G h k) ?hF ?hstep ?hend
            case hF =>
              exact ⟨fun _ _ _ _ _ _ h => h, ⟨fun _ _ _ _ _ _ h => h, ⟨fun _ _ _ _ _ _ h => h, ⟨fun _ _ _ _ _ _ h => h, ⟨fun _ _ _ _ _ _ h => h, ⟨fun _ _ _ _ _ _ h => h, ⟨fun _ _ _ _ _ _ h => h, ⟨fun j hg _ _ _ k h => ((kSt_below (fun e => by subst e; exact absurd hg (by rw [show goneB _ 7 7 = true by kernel_rfl]; simp)) k).block _ (Array.getElem?_eq_some_iff.1 h).1).trans h, trivial⟩⟩⟩⟩⟩⟩⟩⟩
            case hstep =>
              -- operation 0: Op.move (tmp 0)
              refine ⟨fun r wx hG hs hq hf => ?_, ?_⟩
              · have hQ := hq rfl
                have e0 : r 0 = .int .i64 W := hs 0 rfl
                refine (if_pos rfl).symm ▸ ?_
                clear hs hq hf
                unfold gives
                go_simp
                exact ⟨kSt_refl _ _ _ _, rfl⟩
              -- operation 1: Op.load 33 (tmp 6)
              refine ⟨fun r wx hG hs hq hf => ?_, ?_⟩
              · have hQ := hq rfl
                have e6 : r 6 = .pointer (some ⟨g6, 0, none⟩) := hs 6 rfl
                refine (if_pos rfl).symm ▸ ?_
                clear hs hq hf
                unfold gives
                refine gives_load_row 33 _ rfl g6 e6 33 _ (0, 0) _ ((hQ.block g6 (Array.getElem?_eq_some_iff.1 HBK.out.1).1).trans HBK.out.1) Tryd.underlying33 rfl (hInfo _ HLN.out.1) ?_
                exact ⟨kSt_refl _ _ _ _, rfl⟩
              -- operation 2: Op.move (tmp 4)
              refine ⟨fun r wx hG hs hq hf => ?_, ?_⟩
              · have hQ := hq rfl
                have e4 : r 4 = .slice (some ⟨b, off, none⟩) m c := hs 4 rfl
                refine (if_pos rfl).symm ▸ ?_
                clear hs hq hf
                unfold gives
                go_simp
                exact ⟨kSt_refl _ _ _ _, rfl⟩
              -- operation 3: Op.move (tmp 15)
              refine ⟨fun r wx hG hs hq hf => ?_, ?_⟩
              · have hQ := hq rfl
                have e15 : r 15 = .int .i64 (k : Nat) := hs 15 rfl
                refine (if_pos rfl).symm ▸ ?_
                clear hs hq hf
                unfold gives
                go_simp
                exact ⟨kSt_refl _ _ _ _, rfl⟩
              -- operation 4: Op.indexAddr 22 (tmp 73) (tmp 74)
              refine ⟨fun r wx hG hs hq hf => ?_, ?_⟩
              · have hQ := hq rfl
                have h2 : r 73 = .slice (some ⟨b, off, none⟩) m c := hf.1
                have h3 : r 74 = .int .i64 (k : Nat) := hf.2.1
                refine (if_pos rfl).symm ▸ ?_
                clear hs hq hf
                unfold gives
                have z0 : (0 : Int) ≤ (k : Int) := by omega
                have z1 : (k : Int) < (m : Int) := by omega
                go_simp
                exact ⟨kSt_refl _ _ _ _, rfl⟩
              -- operation 5: Op.load 33 (tmp 75)
              refine ⟨fun r wx hG hs hq hf => ?_, ?_⟩
              · have hQ := hq rfl
                have h4 : r 75 = .pointer (some ⟨b, off + k * 32, none⟩) := hf.1
                refine (if_pos rfl).symm ▸ ?_
                clear hs hq hf
                unfold gives
                refine gives_load_mid 33 _ rfl b (off + k * 32) h4 (bv x) _ (HRG.out wx hQ) Tryd.underlying33 rfl (hInfo' _ HLN.out.2.1) ⟨kSt_refl _ _ _ _, rfl⟩
              -- operation 6: Op.call ( callee := Callee.value (func 29), args := #[tmp 71, tmp 72, tmp 76], argTypes := #[3, 33, 33] )
              refine ⟨fun r wx hG hs hq hf => ?_, ?_⟩
              · have hQ := hq rfl
                have h0 : r 71 = .int .i64 W := hf.1
                have h1 : r 72 = .agg (bv hk).toArray := hf.2.1
                have h5 : r 76 = .agg (bv x).toArray := hf.2.2.1
                refine (if_pos rfl).symm ▸ ?_
                clear hs hq hf
                unfold gives
                go_simp
                refine (HND.out wx hQ).mono ?_
                rintro e wy ⟨rfl, hb1⟩
                exact ⟨_, rfl, kSt_of rfl hb1, rfl⟩
              -- operation 7: Op.store 33 (tmp 6) (tmp 77)
              refine ⟨fun r wx hG hs hq hf => ?_, ?_⟩
              · have hQ := hq rfl
                have e6 : r 6 = .pointer (some ⟨g6, 0, none⟩) := hs 6 rfl
                have h6 : r 77 = .agg (bv nx).toArray := hf.1
                refine (if_pos rfl).symm ▸ ?_
                clear hs hq hf
                unfold gives
                refine gives_store_row 33 _ _ rfl g6 (bv nx) e6 h6 (bv hk) 33 ((hQ.block g6 (Array.getElem?_eq_some_iff.1 HBK.out.1).1).trans HBK.out.1) (hInfo' _ HLN.out.2.2) (by rw [bv_length, bv_length, HLN.out.2.2, HLN.out.1]) (bv_one _) ?_
                intro wy h1 h2
                exact ⟨kSt_at h2, h1⟩
              exact trivial
            case hend =>
              intro u wz hG hfin
              have z7 : wz.heap[g6]? = some (.cells (bv nx).toArray 33 (0, 0)) := hfin 7 (by decide) (by kernel_rfl)
              clear hfin
              simp only [fill]
              have HZR := Lib.hid (And.intro z7 hG)
              clear z7 hG
              go_simp
              have hb11 := (HZR.out.2.block g11 (Array.getElem?_eq_some_iff.1 HBK.out.2.1).1 (by simp only [ne_eq, Option.some.injEq]; omega)).trans HBK.out.2.1
              have hbwz : Below w.heap.size w wz := HBK.out.2.2.trans ⟨HZR.out.2.os, HZR.out.2.tape, HZR.out.2.output, HZR.out.2.size, fun q hq => HZR.out.2.block q (by omega) (fun e => by simp only [Option.some.injEq] at e; omega)⟩
              have HZ2 := Lib.hid (And.intro HZR.out.1 (And.intro hb11 hbwz))
              clear HZR hb11 hbwz
              go_wp2_with fail
              go_roundw
              case rel =>
                rw [HF.out.chalf _ _ _ _ _ hat hla hne, if_pos hev] at hcl'
                exact ⟨k + 1, at_ / 2, last / 2, nx, by omega, by go_num, by go_num, by go_num, by omega, by omega, HZ2.out.1, HLN.out.2.2, HZ2.out.2.1, HZ2.out.2.2, by have := HST.out.1; rw [HF.out.half _ _ hat hla hne] at this; omega, by rw [HNX.out]; exact hcl'⟩
              case measure => simp [intOf]; omega
      · have z4 : ¬ (k : Int) < (m : Int) := by omega
        have hkm2 : k = m := by omega
        rw [List.drop_of_length_le (by rw [← HE.out]; omega), HF.out.cnil] at hcl
        by_cases hl0 : last = 0
        · have ha0 : at_ = 0 := by omega
          have zl : ((last : Int) != 0) = false := by simp; omega
          rw [hl0, ha0, HF.out.zero] at hsz
          have eE : E = 0 := (HK.out.2.2 (by omega)).1
          have eH : hk = out := hcl.trans (HK.out.2.2 (by omega)).2.symm
          subst eE
          subst eH
          have hgd := eq_guard
          have hqe := eqIn_hash hk hk hk32 hk32 wr
          have HBK := Lib.hid (And.intro hbox (And.intro hb11 (And.intro hbw hk32)))
          clear hbox hb11 hbw hcl hsz hk32
          go_wp2_with (first
            | (with_reducible show wpList _ _ _ (⟨some 89, _, _, _, _, _⟩ :: _) _ _; refine wpList_guard rfl ?_; refine wpList_load_row rfl _ _ rfl g11 rfl _ _ (0, 0) _ HBK.out.2.1 Tryd.underlying33 rfl (hInfo _ HBK.out.2.2.2) ?_)
            | (with_reducible show wpList _ _ _ (⟨some 90, _, _, _, _, _⟩ :: _) _ _; refine wpList_guard rfl ?_; refine wpList_load_row rfl _ _ rfl g6 rfl _ _ (0, 0) _ HBK.out.1 Tryd.underlying33 rfl (hInfo _ HBK.out.2.2.2) ?_))
          go_ret
          exact ⟨by simp, HBK.out.2.2.1⟩
        · have zl : ((last : Int) != 0) = true := by simp; omega
          have hp := HF.out.pos at_ last hal hl0 (by omega)
          have eE : E = 2 := HK.out.1 (by omega)
          subst eE
          have HBW := Lib.hid hbw
          clear hbox hb11 hbw hcl hsz hp
          go_wp2_with fail
          go_ret
          exact ⟨rfl, HBW.out⟩
end Go.Proofs.YtdjmebfjanophaaDoor
