/- GaugeAlike: the walk. -/
import Derived.Test.YtdociiogddihfaaGaV
namespace Go.Proofs.Ytdociiogddihfaa
open Go.ChangeShapes Go.WideShapes Go.ChangeAt Go.RowKit Ieee

/-- Numbers of 16 bits, as cells. -/
def i16v (l : List Int) : List Value := l.map fun n => .int .i16 n
theorem rem50 (N0 : Int) : ∃ i0 : Nat, i0 < 50 ∧ wrap64 ((IntKind.u64.wrap N0).tmod 50) = (i0 : Int) := by
  have h1 : 0 ≤ IntKind.u64.wrap N0 := by
    simp [IntKind.wrap, IntKind.signed, IntKind.bits]; omega
  have h2 := Int.emod_nonneg (IntKind.u64.wrap N0) (show (50 : Int) ≠ 0 by decide)
  have h3 := Int.emod_lt_of_pos (IntKind.u64.wrap N0) (show (0 : Int) < 50 by decide)
  rw [Int.tmod_eq_emod_of_nonneg h1]
  refine ⟨((IntKind.u64.wrap N0) % 50).toNat, by omega, ?_⟩
  rw [show (((IntKind.u64.wrap N0) % 50).toNat : Int) = (IntKind.u64.wrap N0) % 50 by omega]
  generalize (IntKind.u64.wrap N0) % 50 = q at h2 h3
  exact IntWalk.wrap64_in _ (by omega)
/-- Where a gauge's row stands. -/
abbrev GRow (wr : World) (g k m s lo hi : Nat) : Prop := wr.heap[g]? = some (.cells #[.int .u64 k, .float .f64 m, .float .f64 s, .float .f64 lo, .float .f64 hi] 27 (0, 0))
theorem SameG.lt {i x m s lo hi : Nat} (h : SameG i x m s lo hi) (hx : x < 18446744073709551616) : lo < 18446744073709551616 ∧ hi < 18446744073709551616 := by
  by_cases h0 : i = 0
  · obtain ⟨_, _, rfl, rfl⟩ := h.1 h0; omega
  · obtain ⟨_, _, rfl, rfl⟩ := h.2 (by omega); omega
theorem ManyG.lt {i m s lo hi : Nat} (h : ManyG i m s lo hi) : lo < 18446744073709551616 ∧ hi < 18446744073709551616 := by
  by_cases h0 : i = 0
  · obtain ⟨_, _, rfl, rfl⟩ := h.1 h0; omega
  · have := h.2 (by omega); exact ⟨this.flo.1, this.fhi.1⟩
theorem kPg_below' {q g j : Nat} {w w' : World} (h1 : j ≠ q) (h : Below w.heap.size w w') : kPg q g j w w' := by unfold kPg; rwa [if_neg h1]
/-- What each operation hands on. -/
def gawF (g k m s lo hi lo' hi' xx q o n c : Nat) (y : Int) : Nat → Value → World → Prop
  | 0, v, _ => v = Gv k m s lo hi
  | 1, v, _ => v = .slice (some ⟨q, o, none⟩) n c
  | 2, v, _ => v = .int .i64 k
  | 3, v, _ => v = .pointer (some ⟨q, o + k, none⟩)
  | 4, v, _ => v = .int .i16 y
  | 5, v, _ => v = .float .f64 xx
  | 6, v, _ => ∃ m' s', v = Gv (k + 1) m' s' lo' hi' ∧ AddM k m s xx m' s'
  | 7, _, w => ∃ m' s', GRow w g (k + 1) m' s' lo' hi' ∧ AddM k m s xx m' s'
  | _, _, _ => True

set_option maxHeartbeats 8000000 in
set_option maxRecDepth 100000 in
theorem gaugeAlike_walk (X N0 : Int) (v : Value) (ys : List Int) (w : World) (hX : X.natAbs ≤ 2147483648) (_hN : -9223372036854775808 ≤ N0 ∧ N0 ≤ 9223372036854775807) (hy : ∀ y ∈ ys, y.natAbs ≤ 32768) (_hl : ys.length * 2 ≤ 140737488351232) (hr : Rd w 1 v ys.length (i16v ys)) :
    Calls Try.prog 4 #[.int .i32 X, .int .i64 N0, v] w fun e w' => e = .returned (.bool true) ∧ Below w.heap.size w w' := by
  obtain ⟨a, c, rfl⟩ := hr.form
  obtain ⟨x, hx⟩ : ∃ x, x = floatOfInt .f64 X := ⟨_, rfl⟩
  have hxf := (int_float X (by omega)).1
  rw [← hx] at hxf
  have HX := Lib.hid (And.intro hx (And.intro hxf hX))
  have HR := Lib.hid hr
  clear hr hxf hx
  go_enter Try.func4, Try.ntmps4
  go_wp2_with fail
  refine (awake06_any _).mono ?_
  rintro e w1 ⟨rfl, hb1⟩
  go_wp2_with fail
  refine (GNew_any _).mono ?_
  rintro e w2 ⟨rfl, hb2⟩
  rw [gv_eq]
  have hb2' := hb1.trans (hb2.mono hb1.size)
  obtain ⟨g3, hg3⟩ : ∃ g, g = w2.heap.size := ⟨_, rfl⟩
  have hnew3 := heap_alloc_new w2 (.cells #[.int .u64 0, .float .f64 9221120237041090561, .float .f64 0, .float .f64 9218868437227405312, .float .f64 18442240474082181120] 27)
  have hba3 : Below w.heap.size w (w2.alloc (.cells #[.int .u64 0, .float .f64 9221120237041090561, .float .f64 0, .float .f64 9218868437227405312, .float .f64 18442240474082181120] 27)) := hb2'.alloc hb2'.size _
  rw [← hg3] at hnew3
  have HG30 := Lib.hid hg3
  have HB3 := Lib.hid (And.intro hba3 (And.intro hnew3 (show w.heap.size ≤ g3 by rw [hg3]; exact hb2'.size)))
  clear hb1 hb2 hb2' hnew3 hba3 hg3
  obtain ⟨i0, hi0, hrem⟩ := rem50 N0
  have HREM := Lib.hid hrem
  clear hrem
  go_upto_region 5 with fail
  rw [HREM.out, ← HG30.out]
  clear HREM HG30
  obtain ⟨w3, hw3⟩ : ∃ q : World, q = w2.alloc (.cells #[.int .u64 0, .float .f64 9221120237041090561, .float .f64 0, .float .f64 9218868437227405312, .float .f64 18442240474082181120] 27) := ⟨_, rfl⟩
  rw [← hw3] at HB3 ⊢
  clear hw3
  go_upto_region 6 with fail
  go_loopw [8] (fun s8 wr => ∃ i : Nat, i ≤ i0 ∧ s8 = .int .i64 i ∧ Below w.heap.size w wr ∧ ∃ m s lo hi, GRow wr g3 i m s lo hi ∧ Hid (SameG i x m s lo hi)) (fun i _ => i0 - (intOf i).toNat)
  case atStart => exact ⟨0, Nat.zero_le _, rfl, HB3.out.1, _, _, _, _, HB3.out.2.1, Lib.hid ⟨fun _ => ⟨rfl, rfl, rfl, rfl⟩, fun h => by omega⟩⟩
  case round =>
    obtain ⟨i, hi, rfl, hb, m, s, lo, hi2, hrow, HS⟩ := hrel
    have HBW := Lib.hid hb
    have HRW := Lib.hid hrow
    clear hb hrow
    by_cases hlt : i < i0
    · have hz : (i : Int) < (i0 : Int) := by omega
      have kA := fun wx => GAdd_any i m s lo hi2 x wx HX.out.2.1.1 (HS.out.lt HX.out.2.1.1).1 (HS.out.lt HX.out.2.1.1).2 (by omega) (fin_nan HX.out.2.1)
      have kN := fun m' s' (ha : AddM i m s x m' s') => HS.out.next X (by have := HX.out.2.2; omega) HX.out.1 (by omega) ha
      obtain ⟨lo', hlo'⟩ : ∃ q, q = atP (mnR [lo, x]) := ⟨_, rfl⟩
      obtain ⟨hi', hhi'⟩ : ∃ q, q = atP (mxR [hi2, x]) := ⟨_, rfl⟩
      rw [← hlo', ← hhi'] at kA
      rw [← hlo', ← hhi'] at kN
      have KA := Lib.hid kA
      have KN := Lib.hid kN
      clear hlo' hhi' kA kN
      go_wp2_with (with_reducible show wpList _ _ _ (⟨some 23, _, _, _, _, _⟩ :: _) _ _; refine wpList_load_row rfl _ _ rfl g3 rfl _ _ (0, 0) _ HRW.out Try.underlying27 rfl (gI _ _ _ _ _) ?_)
      rw [← HX.out.1]
      refine (KA.out _).mono ?_
      rintro e w6 ⟨m1, s1, rfl, hA1, hm1, hs1, hb6⟩
      have h63 := (hb6.block _ (Array.getElem?_eq_some_iff.1 HRW.out).1).trans HRW.out
      have H6 := Lib.hid (And.intro h63 hb6)
      have HA1 := Lib.hid (KN.out _ _ hA1)
      clear h63 hb6 hA1 hm1 hs1
      go_wp2_with (with_reducible show wpList _ _ _ (⟨none, Op.store _ _ _, _, _, _, _⟩ :: _) _ _; go_loud (refine wpList_store_gauge rfl _ _ _ rfl g3 (i + 1) m1 s1 lo' hi' rfl rfl _ _ H6.out.1 gI' rfl ?_); intro w7 HR7 hg7)
      go_roundw
      case rel =>
        have a1 := HBW.out.trans (H6.out.2.mono HBW.out.size)
        have a2 := grow_below a1 hg7 HB3.out.2.2 a1.size
        exact ⟨i + 1, by omega, by go_num, a2, m1, s1, lo', hi', HR7.out, HA1⟩
      case measure => simp [intOf]; omega
    · have hz : ¬ (i : Int) < (i0 : Int) := by omega
      obtain rfl : i = i0 := by omega
      go_upto_region 9 with fail
      clear hz hlt
      go_cut [47] (fun s47 wz => s47 = .bool false ∧ Below w.heap.size w wz)
      case first =>
        by_cases hi0' : i = 0
        · have hz : ¬ (0 : Int) < (i : Int) := by omega
          clear hi0'
          go_wp2_with fail
          go_meet
          exact ⟨rfl, HBW.out⟩
        · have hz : (0 : Int) < (i : Int) := by omega
          obtain ⟨e1, e2, e3, e4⟩ := HS.out.2 (by omega)
          rw [e1, e2, e3, e4] at HRW
          clear e1 e2 e3 e4
          have hne := ne_self x HX.out.2.1
          have hne2 : (FloatKind.f64.format.order x (floatOfInt .f64 X) != some .eq) = false := by rw [← HX.out.1]; exact hne
          have h00 : (FloatKind.f64.format.order 0 0 != some .eq) = false := by decide
          have hc0 := cell_rowG (v := .int .u64 i) (i := 0) HRW.out rfl
          have hc1 := cell_rowG (v := .float .f64 x) (i := 1) HRW.out rfl
          have hc2 := cell_rowG (v := .float .f64 0) (i := 2) HRW.out rfl
          have hc3 := cell_rowG (v := .float .f64 x) (i := 3) HRW.out rfl
          have hc4 := cell_rowG (v := .float .f64 x) (i := 4) HRW.out rfl
          have HH := Lib.hid (And.intro hz (show i < 18446744073709551616 by omega))
          clear hi0'
          have HSP := Lib.hid (fun wx => Spread_any i x 0 x x wx HH.out.2)
          go_wp2_with fail
          refine (HSP.out _).mono ?_
          rintro e wp ⟨r, rfl, hbp, _, hr2⟩
          have hr0 : r = 0 := by
            rw [if_neg (by have := HH.out.1; omega)] at hr2
            obtain ⟨q, q1, q2⟩ := hr2
            have hN1 := int_float (i : Int) (by omega)
            have hi1 : 0 < i := by have := HH.out.1; omega
            have f0 : Fin64 0 := ⟨by decide, by decide⟩
            have i00 : fI 0 = 0 := by decide
            obtain ⟨z, hz', h1, _, _, h4⟩ := quo_near 0 (floatOfInt .f64 (i : Int)) i f0 hN1.1 hi1 (by rw [hN1.2, tU_one]; simp only [Int.natCast_mul]) (by rw [i00]; exact Nat.zero_le _)
            have hz0 := fI_zero h1 (h4 i00).1 (by rw [(h4 i00).2]; decide)
            rw [hz0] at hz'
            have e1 := q1.val hz'
            rw [e1] at q2
            exact q2.val (by decide)
          subst hr0
          have hd3 := (hbp.cell (World.block_lt_of_cell? wr _ hc3)).trans hc3
          have hd4 := (hbp.cell (World.block_lt_of_cell? wr _ hc4)).trans hc4
          have HB9 := Lib.hid (HBW.out.trans (hbp.mono HBW.out.size))
          clear hbp hr2 hc0 hc1 hc2 hc3 hc4
          go_wp2_with fail
          go_meet
          exact ⟨rfl, HB9.out⟩
      case rest =>
        obtain ⟨rfl, hb9⟩ := hcut
        have HB9 := Lib.hid hb9
        clear hb9 HS HRW HBW
        go_wp2_with fail
        refine (GNew_any _).mono ?_
        rintro e w12 ⟨rfl, hb12⟩
        rw [gv_eq]
        have hb12' := HB9.out.trans (hb12.mono HB9.out.size)
        obtain ⟨g, hg⟩ : ∃ g, g = w12.heap.size := ⟨_, rfl⟩
        have hnew := heap_alloc_new w12 (.cells #[.int .u64 0, .float .f64 9221120237041090561, .float .f64 0, .float .f64 9218868437227405312, .float .f64 18442240474082181120] 27)
        have hba : Below w.heap.size w (w12.alloc (.cells #[.int .u64 0, .float .f64 9221120237041090561, .float .f64 0, .float .f64 9218868437227405312, .float .f64 18442240474082181120] 27)) := hb12'.alloc hb12'.size _
        rw [← hg] at hnew
        have HG0 := Lib.hid hg
        have HG9 := Lib.hid (And.intro (show w.heap.size ≤ g by rw [hg]; exact hb12'.size) (And.intro hba hnew))
        clear hb12 hb12' hba hnew hg
        go_upto_region 12 with fail
        rw [← HG0.out]
        clear HG0 HB9 HB3
        obtain ⟨w13, hw13⟩ : ∃ q : World, q = w12.alloc (.cells #[.int .u64 0, .float .f64 9221120237041090561, .float .f64 0, .float .f64 9218868437227405312, .float .f64 18442240474082181120] 27) := ⟨_, rfl⟩
        rw [← hw13] at HG9 ⊢
        clear hw13
        obtain ⟨n, hn⟩ : ∃ n, n = ys.length := ⟨_, rfl⟩
        rw [← hn]
        have HNN := Lib.hid hn
        have HYS := Lib.hid hy
        clear hn hy hX
        go_upto_region 13 with fail
        go_loopw [10] (fun s10 wr => ∃ k : Nat, k ≤ n ∧ k ≤ 200 ∧ s10 = .int .i64 k ∧ Below w.heap.size w wr ∧ ∃ m s lo hi, GRow wr g k m s lo hi ∧ Hid (ManyG k m s lo hi)) (fun i _ => n - (intOf i).toNat)
        case atStart => exact ⟨0, Nat.zero_le _, by omega, rfl, HG9.out.2.1, _, _, _, _, HG9.out.2.2, Lib.hid ⟨fun _ => ⟨rfl, rfl, rfl, rfl⟩, fun h => by omega⟩⟩
        case round =>
          obtain ⟨k, hkn, hk2, rfl, hb, m, s, lo, hi, hrow, HS⟩ := hrel
          have HBW := Lib.hid hb
          have HRW := Lib.hid hrow
          have HL := Lib.hid (Array.getElem?_eq_some_iff.1 hrow).1
          clear hb hrow
          by_cases hlt : k < n
          · by_cases hlt2 : k < 200
            · have hz : (k : Int) < (n : Int) := by omega
              have hz2 : (k : Int) < 200 := by omega
              obtain ⟨q, o, c', hv, _, hcell⟩ := (HR.out.keep HBW.out).at (by rw [← HNN.out]; omega)
              simp only [Value.slice.injEq] at hv
              obtain ⟨rfl, _, rfl⟩ := hv
              obtain ⟨y, hy⟩ : ∃ y, ys[k]? = some y := ⟨ys[k]'(by rw [← HNN.out]; exact hlt), List.getElem?_eq_getElem _⟩
              have hc := hcell k (.int .i16 y) (by simp [i16v, hy])
              have HC := Lib.hid (And.intro (World.block_lt_of_cell? wr _ hc) hc)
              have hyb := HYS.out y (List.mem_of_getElem? hy)
              obtain ⟨xx, hxx⟩ : ∃ x, x = floatOfInt .f64 y := ⟨_, rfl⟩
              have hxf := (int_float y (by omega)).1
              rw [← hxx] at hxf
              have kA := fun wx => GAdd_any k m s lo hi xx wx hxf.1 HS.out.lt.1 HS.out.lt.2 (by omega) (fin_nan hxf)
              have kN := fun (m' s' : Nat) (ha : AddM k m s xx m' s') => HS.out.next y hyb hxx hlt2 ha
              obtain ⟨lo', hlo'⟩ : ∃ q, q = atP (mnR [lo, xx]) := ⟨_, rfl⟩
              obtain ⟨hi', hhi'⟩ : ∃ q, q = atP (mxR [hi, xx]) := ⟨_, rfl⟩
              rw [← hlo', ← hhi'] at kA
              rw [← hlo', ← hhi'] at kN
              have KA := Lib.hid kA
              have HN := Lib.hid kN
              have HYX := Lib.hid hxx
              clear hlo' hhi' kA kN hxx hxf hcell hc hy hyb
              go_upto_region 15 with fail
              refine wp_region_until [some 59, some 60, some 61, some 62, some 63, some 64, some 65, none] [] 7 (fun wx => Below wr.heap.size wr wx) [0, 1, 2, 3, 4, 5, 6, 7] (gawF g k m s lo hi lo' hi' xx q o n c y) (kPg 7 g) (fun wx => wr.grownBy wx (some g)) (by kernel_rfl) (by kernel_rfl) rfl (by kernel_rfl) (by kernel_rfl) (kG_drew _ _) (Below.refl _ _).drew (fun j hj _ _ k h => h.trans ((kPg_below hj k).mono h.size)) (kPg_refl 7 g) (fun _ _ _ h k => kPg_G h k) ?hF ?hstep ?hend
              case hF =>
                exact ⟨fun _ _ _ _ _ _ h => h, ⟨fun _ _ _ _ _ _ h => h, ⟨fun _ _ _ _ _ _ h => h, ⟨fun _ _ _ _ _ _ h => h, ⟨fun _ _ _ _ _ _ h => h, ⟨fun _ _ _ _ _ _ h => h, ⟨fun _ _ _ _ _ _ h => h, ⟨fun j hg _ _ _ k' ⟨m', s', h, h2⟩ => ⟨m', s', ((kPg_below (fun e => by subst e; exact absurd hg (by rw [show goneB _ 7 7 = true by kernel_rfl]; simp)) k').block _ (Array.getElem?_eq_some_iff.1 h).1).trans h, h2⟩, trivial⟩⟩⟩⟩⟩⟩⟩⟩
              case hstep =>
                refine ⟨fun r wx hG hs hq hf => ?_, ?_⟩
                · have hQ := hq rfl
                  have e9 : r 9 = .pointer (some ⟨g, 0, none⟩) := hs 9 rfl
                  refine (if_pos rfl).symm ▸ ?_
                  clear hs hq hf
                  unfold gives
                  refine gives_load_row 27 _ rfl g e9 27 _ (0, 0) _ (hQ.block g HL.out |>.trans HRW.out) Try.underlying27 rfl (gI _ _ _ _ _) ?_
                  exact ⟨kPg_refl _ _ _ _, rfl⟩
                refine ⟨fun r wx hG hs hq hf => ?_, ?_⟩
                · have hQ := hq rfl
                  have e2 : r 2 = .slice (some ⟨q, o, none⟩) n c := hs 2 rfl
                  refine (if_pos rfl).symm ▸ ?_
                  clear hs hq hf
                  unfold gives
                  go_simp
                  exact ⟨kPg_refl _ _ _ _, rfl⟩
                refine ⟨fun r wx hG hs hq hf => ?_, ?_⟩
                · have hQ := hq rfl
                  have e10 : r 10 = .int .i64 k := hs 10 rfl
                  refine (if_pos rfl).symm ▸ ?_
                  clear hs hq hf
                  unfold gives
                  go_simp
                  exact ⟨kPg_refl _ _ _ _, rfl⟩
                refine ⟨fun r wx hG hs hq hf => ?_, ?_⟩
                · have hQ := hq rfl
                  have h1 : r 60 = .slice (some ⟨q, o, none⟩) n c := hf.1
                  have h2 : r 61 = .int .i64 k := hf.2.1
                  refine (if_pos rfl).symm ▸ ?_
                  clear hs hq hf
                  unfold gives
                  have y1 : (0 : Int) ≤ (k : Int) := by omega
                  have y2 : (k : Int) < (n : Int) := by omega
                  go_simp
                  exact ⟨kPg_refl _ _ _ _, rfl⟩
                refine ⟨fun r wx hG hs hq hf => ?_, ?_⟩
                · have hQ := hq rfl
                  have h3 : r 62 = .pointer (some ⟨q, o + k, none⟩) := hf.1
                  refine (if_pos rfl).symm ▸ ?_
                  clear hs hq hf
                  unfold gives
                  have hc := hQ.cell (p := ⟨q, o + k, none⟩) HC.out.1 |>.trans HC.out.2
                  go_simp
                  exact ⟨kPg_refl _ _ _ _, rfl⟩
                refine ⟨fun r wx hG hs hq hf => ?_, ?_⟩
                · have hQ := hq rfl
                  have h4 : r 63 = .int .i16 y := hf.1
                  refine (if_pos rfl).symm ▸ ?_
                  clear hs hq hf
                  unfold gives
                  go_simp
                  rw [← HYX.out]
                  exact ⟨kPg_refl _ _ _ _, rfl⟩
                refine ⟨fun r wx hG hs hq hf => ?_, ?_⟩
                · have hQ := hq rfl
                  have h0 : r 59 = Gv k m s lo hi := hf.1
                  have h5 : r 64 = .float .f64 xx := hf.2.1
                  refine (if_pos rfl).symm ▸ ?_
                  clear hs hq hf
                  unfold gives
                  have hk := KA.out wx
                  go_simp
                  refine hk.mono ?_
                  rintro e wy ⟨m', s', rfl, hA, _, _, hb⟩
                  exact ⟨_, rfl, kPg_below' (by omega) hb, m', s', rfl, hA⟩
                refine ⟨fun r wx hG hs hq hf => ?_, ?_⟩
                · have hQ := hq rfl
                  have e9 : r 9 = .pointer (some ⟨g, 0, none⟩) := hs 9 rfl
                  have h6 : ∃ m' s', (r 65) = Gv (k + 1) m' s' lo' hi' ∧ AddM k m s xx m' s' := hf.1
                  refine (if_pos rfl).symm ▸ ?_
                  clear hs hq hf
                  unfold gives
                  obtain ⟨m', s', hv6, hA⟩ := h6
                  have hrx := (hQ.block g HL.out).trans HRW.out
                  refine gives_store_gauge 27 _ _ rfl g (k + 1) m' s' lo' hi' e9 hv6 27 _ hrx gI' rfl ?_
                  intro wy hy1 hg1
                  exact ⟨kPg_st hg1, m', s', hy1, hA⟩
                exact trivial
              case hend =>
                intro u wz hG hfin
                have z7 : ∃ m' s', GRow wz g (k + 1) m' s' lo' hi' ∧ AddM k m s xx m' s' := hfin 7 (by decide) (by kernel_rfl)
                clear hfin
                simp only [fill]
                go_simp
                obtain ⟨m1, s1, hrow1, hA1⟩ := z7
                have HG1 := HN.out _ _ hA1
                have HBZ := Lib.hid (grow_below HBW.out hG HG9.out.1 HBW.out.size)
                have HRZ := Lib.hid hrow1
                clear hG hrow1 hA1
                obtain ⟨z1, z2, t1, t2, t3, t4, t5⟩ := HG1.tests (by omega)
                have hs1 := fun w => run_float_arith (P := Try.prog) w .sub 25 .f64 lo' 4562254508917369340 z1 t1
                have hs2 := fun w => run_float_arith (P := Try.prog) w .add 25 .f64 hi' 4562254508917369340 z2 t3
                clear t1 t3
                have hc1 := cell_rowG (v := .float .f64 m1) (i := 1) HRZ.out rfl
                have hc2 := cell_rowG (v := .float .f64 s1) (i := 2) HRZ.out rfl
                have hc3 := cell_rowG (v := .float .f64 lo') (i := 3) HRZ.out rfl
                have hc4 := cell_rowG (v := .float .f64 hi') (i := 4) HRZ.out rfl
                go_wp2_with fail
                go_roundw
                case rel => exact ⟨k + 1, by omega, by omega, by go_num, HBZ.out, m1, s1, lo', hi', HRZ.out, Lib.hid ⟨fun e => by omega, fun _ => HG1⟩⟩
                case measure => simp [intOf]; omega
            · have hz : (k : Int) < (n : Int) := by omega
              have hz2 : ¬ (k : Int) < 200 := by omega
              go_wp2_with fail
              go_ret
              exact ⟨rfl, HBW.out⟩
          · have hz : ¬ (k : Int) < (n : Int) := by omega
            go_wp2_with fail
            go_ret
            exact ⟨rfl, HBW.out⟩
theorem bounds_i32 {n : Int} (h : (Lit.int .i32 n).wf = true) : n.natAbs ≤ 2147483648 := by
  simp [Lit.wf, IntKind.min, IntKind.max, IntKind.signed, IntKind.bits] at h
  omega
theorem bounds_i16 {n : Int} (h : (Lit.int .i16 n).wf = true) : n.natAbs ≤ 32768 := by
  simp [Lit.wf, IntKind.min, IntKind.max, IntKind.signed, IntKind.bits] at h
  omega
theorem flat_i16 : ∀ l : List Int, l.flatMap (fun n => [Value.int .i16 n]) = i16v l
  | [] => rfl
  | x :: l => by rw [List.flatMap_cons, flat_i16 l]; rfl

theorem gaugeAlike.law (H : Type) (enc : TypeId × Value → H) (W : World) (base : Nat)
    (v0 : Value) (d0 : DataW H) (p0 : List MemPlace) (g0 : Value.okWide Try.prog W .any base 21 v0) (h0 : DataW.Trod enc Try.prog W 0 (fun _ => true) true 21 v0 d0 p0)
    (v1 : Value) (d1 : DataW H) (p1 : List MemPlace) (g1 : Value.okWide Try.prog W .any base 3 v1) (h1 : DataW.Trod enc Try.prog W 0 (fun _ => true) true 3 v1 d1 p1)
    (v2 : Value) (d2 : DataW H) (p2 : List MemPlace) (g2 : Value.okWide Try.prog W .any base 37 v2) (h2 : DataW.Trod enc Try.prog W 0 (fun _ => true) true 37 v2 d2 p2)
    {ts : List TypeId} {es : List (DataW H)} (hsz : (DataW.weightsEach Try.prog ([21, 3, 37] ++ ts) ([d0, d1, d2] ++ es)).all (· ≤ reachBytes) = true) :
    Calls Try.prog 4 #[v0, v1, v2] W fun e W' => e = .returned (.bool true) ∧ Below W.heap.size W W' := by
  obtain ⟨n0, rfl, _, _, wn0⟩ := open_int Try.underlying21 g0 h0
  obtain ⟨n1, rfl, _, _, wn1⟩ := open_int Try.underlying3 g1 h1
  obtain ⟨a2, m2, c2, rfl⟩ := okWide_slice Try.underlying37 g2
  obtain ⟨l, hr, hl, hq⟩ := (TW.of hsz (j := 2) h2 rfl rfl).elems Try.underlying37 (by kernel_rfl) (fun n : Int => [Value.int .i16 n]) (fun n => n.natAbs ≤ 32768) (fun ds _ htw => by
    obtain ⟨n, hn, wf⟩ := htw.trd.int Try.underlying39
    exact ⟨n, hn, bounds_i16 wf⟩) (by intro a _ u hu; simp at hu; subst hu; rfl)
  rw [flat_i16] at hr
  exact gaugeAlike_walk n0 n1 _ l W (bounds_i32 wn0) (bounds_i64 wn1) (fun y hy => (hq y hy).1) (by rw [show Try.prog.bytesOf 39 = 2 by kernel_rfl] at hl; exact hl) hr
end Go.Proofs.Ytdociiogddihfaa
