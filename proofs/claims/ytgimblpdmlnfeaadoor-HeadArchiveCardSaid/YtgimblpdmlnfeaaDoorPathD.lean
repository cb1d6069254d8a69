/- path.Prove: a leaf's proof, level by level. (printed by gen/pathc.py) -/
import Derived.Test.YtgimblpdmlnfeaaDoorPathC
import Derived.Test.YtgimblpdmlnfeaaDoorSlHash
import Derived.Test.YtgimblpdmlnfeaaDoorLeafG
import Derived.Deep.DeepCutAuto
namespace Go.Proofs.YtgimblpdmlnfeaaDoor
open Go.RowKit Sha Root Path

set_option maxHeartbeats 4000000 in
theorem Prove_bad (W i n : Int) (a : Option Addr) (m c : Nat) (w : World) (hbad : n < 1 ∨ (m : Int) < n ∨ i < 0 ∨ n ≤ i) :
    Calls Tryd.prog 39 #[.int .i64 W, .slice a m c, .int .i64 i, .int .i64 n] w fun e w' => e = .returned (.tuple #[.slice none 0 0, .int .i64 9]) ∧ Below w.heap.size w w' := by
  go_enter Tryd.func39, Tryd.ntmps39
  by_cases h1 : n < 1
  · go_wp2_with fail
    go_ret2
    exact ⟨rfl, Below.refl _ _⟩
  by_cases h2 : (m : Int) < n
  · go_wp2_with fail
    go_ret2
    exact ⟨rfl, Below.refl _ _⟩
  by_cases h3 : i < 0
  · go_wp2_with fail
    go_ret2
    exact ⟨rfl, Below.refl _ _⟩
  · have h4 : n ≤ i := by omega
    go_wp2_with fail
    go_ret2
    exact ⟨rfl, Below.refl _ _⟩
/-- What each operation hands on. -/
def pvF (W : Int) (g j m k2 cap B : Nat) (xs ys nx : List UInt8) (Ln : List (List UInt8)) : Nat → Value → World → Prop
  | 0, v, _ => v = .slice (some ⟨g, 0, none⟩) j cap
  | 1, v, _ => v = .int .i64 W
  | 2, v, _ => v = .slice (some ⟨g, 0, none⟩) m cap
  | 3, v, _ => v = .int .i64 (k2 : Nat)
  | 4, v, _ => v = .pointer (some ⟨g, k2 * 32, none⟩)
  | 5, v, _ => v = .agg (bv xs).toArray
  | 6, v, _ => v = .slice (some ⟨g, 0, none⟩) m cap
  | 7, v, _ => v = .int .i64 (k2 : Nat)
  | 8, v, _ => v = .int .i64 ((k2 : Int) + 1)
  | 9, v, _ => v = .pointer (some ⟨g, (k2 + 1) * 32, none⟩)
  | 10, v, _ => v = .agg (bv ys).toArray
  | 11, v, _ => v = .agg (bv nx).toArray
  | 12, v, w => Rd w 32 v 1 (bv nx)
  | 13, v, w => v = .slice (some ⟨g, 0, none⟩) (j + 1) cap ∧ w.ownsRow B 35 32 (.slice (some ⟨g, 0, none⟩) m cap) m (Ln.flatMap bv)
  | 14, v, w => v = .slice (some ⟨g, 0, none⟩) (j + 1) cap ∧ w.ownsRow B 35 32 (.slice (some ⟨g, 0, none⟩) m cap) m (Ln.flatMap bv)
  | _, _, _ => True

set_option maxHeartbeats 16000000 in
set_option maxRecDepth 100000 in
theorem Prove_good (W : Int) (ls : List (List UInt8)) (i n : Nat) (a : Option Addr) (c : Nat) (w : World) (hW : -9223372036854775808 ≤ W ∧ W ≤ 9223372036854775807) (h32 : ∀ p ∈ ls, p.length = 32) (hl : ls.length * 32 ≤ 140737488351232)
    (hi : i < n) (hn : n ≤ ls.length) (hr : Rd w 32 (.slice a ls.length c) ls.length (ls.flatMap bv)) (hT : Tabs w) :
    Calls Tryd.prog 39 #[.int .i64 W, .slice a ls.length c, .int .i64 i, .int .i64 n] w fun e w' => ∃ va vc, e = .returned (.tuple #[.slice va (prL (nodeH W) (ls.take n) i).length vc, .int .i64 0]) ∧
      w'.ownsRow w.heap.size 35 32 (.slice va (prL (nodeH W) (ls.take n) i).length vc) (prL (nodeH W) (ls.take n) i).length ((prL (nodeH W) (ls.take n) i).flatMap bv) ∧ Below w.heap.size w w' := by
  obtain ⟨b, off, c', hv, hcap, _⟩ := hr.atN (by omega) (by omega)
  simp only [Value.slice.injEq, true_and] at hv
  obtain ⟨rfl, rfl⟩ := hv
  have hrn : Rd w 32 (.slice (some ⟨b, off, none⟩) n c) n ((ls.take n).flatMap bv) := by
    rw [flat_take32 _ _ h32]; exact rd_take hr n hn
  have hln : (ls.take n).length = n := by rw [List.length_take]; omega
  have h32n : ∀ p ∈ ls.take n, p.length = 32 := fun p hp => h32 p (List.mem_of_mem_take hp)
  obtain ⟨out, hout⟩ : ∃ o, o = prL (nodeH W) (ls.take n) i := ⟨_, rfl⟩
  rw [← hout]
  obtain ⟨l0, hl0⟩ : ∃ l, l = ls.take n := ⟨_, rfl⟩
  rw [← hl0] at hrn hln h32n hout
  obtain ⟨L, hL⟩ : ∃ L, L = ls.length := ⟨_, rfl⟩
  rw [← hL] at hn hl hcap ⊢
  have hg3 := hT.size
  have HRN := Lib.hid hrn
  have HT := Lib.hid hT
  have H0 := Lib.hid (And.intro h32n (And.intro hout hln))
  have y1 : ¬ (n : Int) < 1 := by omega
  have y2 : ¬ (L : Int) < (n : Int) := by omega
  have y3 : ¬ (i : Int) < 0 := by omega
  have y4 : ¬ (n : Int) ≤ (i : Int) := by omega
  have y5 : (n : Int) ≤ (c : Int) := by omega
  have y6 : (0 : Int) ≤ (n : Int) := by omega
  clear hr hT h32 hrn h32n hout hln hl0 hL
  go_enter Tryd.func39, Tryd.ntmps39
  go_wp2_with fail
  refine (CloneHash_any _ n _ _ HRN.out (by omega)).mono ?_
  rintro e w1 ⟨v1, rfl, ho1, hb1⟩
  obtain ⟨g, cap, rfl, hBg, hncap, _, hgw1⟩ := own_at ho1 (by omega)
  have H1 := Lib.hid (And.intro ho1 hb1)
  clear ho1 hb1 y1 y2 y3 y4 y5 y6
  go_wp2_with fail
  go_loopw [2, 10, 11] (fun s2 s10 s11 wr => ∃ (iv : Nat) (row pf : List (List UInt8)) (pa : Option Addr) (pc : Nat), s2 = .int .i64 iv ∧ s10 = .slice pa pf.length pc ∧ s11 = .slice (some ⟨g, 0, none⟩) row.length cap ∧ 1 ≤ row.length ∧ pf.length + row.length ≤ n ∧ iv < row.length ∧ (∀ p ∈ row, p.length = 32) ∧
    wr.ownsRow w.heap.size 35 32 (.slice (some ⟨g, 0, none⟩) row.length cap) row.length (row.flatMap bv) ∧ wr.ownsRow w.heap.size 35 32 (.slice pa pf.length pc) pf.length (pf.flatMap bv) ∧ (∀ q, (Value.slice pa pf.length pc).ownBlock = some q → q ≠ g) ∧ pf ++ prL (nodeH W) row iv = out ∧ Below w.heap.size w wr) (fun _ _ s11 _ => (match s11 with | .slice _ k _ => k | _ => 0))
  case atStart => exact ⟨i, l0, [], none, 0, rfl, rfl, by rw [H0.out.2.2], by rw [H0.out.2.2]; omega, by rw [H0.out.2.2]; simp, by rw [H0.out.2.2]; exact hi, H0.out.1, by rw [H0.out.2.2]; exact H1.out.1, World.ownsRow_nil _ _ _ _, fun q hq => by simp [Value.ownBlock] at hq, H0.out.2.1.symm, H1.out.2⟩
  case round =>
    obtain ⟨iv, row, pf, pa, pc, rfl, rfl, rfl, hr1, hpr, hiv, hr32, howr, howp, hpg, hpf, hbw⟩ := hrel
    by_cases h2 : row.length ≤ 1
    · have z1 : ¬ (1 : Int) < (row.length : Int) := by omega
      rw [prL_small _ _ _ h2, List.append_nil] at hpf
      subst hpf
      have HO := Lib.hid (And.intro howp hbw)
      clear howp hbw howr hpg
      go_wp2_with fail
      go_ret2
      exact ⟨_, _, rfl, HO.out.1, HO.out.2⟩
    · have z1 : (1 : Int) < (row.length : Int) := by omega
      have zx := xor1_i64 iv (by omega)
      have hst := prL_step (nodeH W) row iv (by omega)
      obtain ⟨i1, hi1⟩ : ∃ q, q = iv ^^^ 1 := ⟨_, rfl⟩
      rw [← hi1] at zx hst
      have hllen := lvl_length (nodeH W) row
      have hl32 := lvl_32 W row hr32
      obtain ⟨m, hm⟩ : ∃ m, m = row.length := ⟨_, rfl⟩
      have howr' := howr
      rw [← hm] at z1 hr1 hpr hiv h2 hllen howr ⊢
      have hB := hbw.size
      have HOR := Lib.hid (And.intro howr (And.intro howp hpg))
      have HST := Lib.hid (And.intro hst (And.intro hpf hm))
      have H32 := Lib.hid (And.intro hr32 hl32)
      have HBW := Lib.hid hbw
      have hgw : g < wr.heap.size := (howr.lt g rfl).2
      have HR1 := Lib.hid howr'
      clear howr howr' howp hpg hst hpf hr32 hl32 hbw hi1 hm
      go_upto_if 46 with fail
      go_cut [10] (fun s10 wz => RowKit.Hid (∃ (pf2 : List (List UInt8)) (pa2 : Option Addr) (pc2 : Nat), s10 = .slice pa2 pf2.length pc2 ∧ pf2 = pf ++ (row[i1]?).toList ∧ wz.ownsRow w.heap.size 35 32 (.slice pa2 pf2.length pc2) pf2.length (pf2.flatMap bv) ∧ (∀ q, (Value.slice pa2 pf2.length pc2).ownBlock = some q → q ≠ g) ∧
        wz.ownsRow w.heap.size 35 32 (.slice (some ⟨g, 0, none⟩) m cap) m (row.flatMap bv) ∧ Below w.heap.size w wz))
      case first =>
        by_cases hin : i1 < m
        · have z2 : (i1 : Int) < (m : Int) := by omega
          have z3 : (0 : Int) ≤ (i1 : Int) := by omega
          obtain ⟨x, hx⟩ : ∃ x, row[i1]? = some x := ⟨row[i1]'(by rw [← HST.out.2.2]; exact hin), List.getElem?_eq_getElem _⟩
          have hx32 := H32.out.1 x (List.mem_of_getElem? hx)
          have hrg := own_range32 HR1.out H32.out.1 hx
          have HX := Lib.hid (And.intro hx32 (And.intro hrg hx))
          clear hx32 hrg hx
          go_wp2_with (first
            | (with_reducible show wpList _ _ _ (⟨some 51, _, _, _, _, _⟩ :: _) _ _; refine wpList_load_mid rfl _ _ rfl g (i1 * 32) rfl (bv x) _ HX.out.2.1 Tryd.underlying35 rfl (hInfo' _ HX.out.1) ?_)
            | (with_reducible show wpList _ _ _ (⟨some 52, _, _, _, _, _⟩ :: _) _ _; refine wpList_build1 rfl 44 35 _ rfl (bv x) rfl Tryd.underlying44 infoHb (by rw [bv_length]; exact HX.out.1) (by decide) (by decide) ?_)
            | (at_builtin; refine wpList_app (o := ⟨some 53, _, _, _, _, _⟩) Tryd.underlying44 infoHb rfl (by decide) rfl _ _ rfl rfl rfl (own_keep HOR.out.2.1 ((Below.refl _ _).alloc (Nat.le_refl _) _)) (Rd.row wr 35 32 (bv x) (by rw [bv_length]; exact HX.out.1) (bv_one x)) (by omega) (by omega) (by simp; omega) ?_; intro v5 w5 how5 hg5 _))
          replace hg5 := hg5.alloc
          change Grew wr w5 (.slice pa pf.length pc) v5 at hg5
          have hrow5 := HOR.out.1.kept hg5.grown (by
            cases hq : (Value.slice pa pf.length pc).ownBlock with
            | none => exact Classical.em _
            | some q => exact .inr (fun e => by
                simp only [Value.ownBlock, Option.some.injEq] at e
                exact HOR.out.2.2 q hq e.symm))
          have hb5 := hg5.below hB (own_block HOR.out.2.1)
          have hne5 : ∀ q, v5.ownBlock = some q → q ≠ g := fun q hq => by
            rcases hg5.blk q hq with h | h
            · exact HOR.out.2.2 q h
            · omega
          obtain ⟨pa5, pc5, rfl⟩ := own_form how5
          have HC := Lib.hid (And.intro how5 (And.intro hne5 (And.intro hrow5 (HBW.out.trans hb5))))
          clear how5 hne5 hrow5 hb5 hg5
          go_wp2_with fail
          go_meet
          refine ⟨pf ++ [x], pa5, pc5, by rw [List.length_append]; rfl, by rw [HX.out.2.2]; rfl, ?_, ?_, HC.out.2.2.1, HC.out.2.2.2⟩
          · rw [List.length_append, List.flatMap_append, List.flatMap_cons, List.flatMap_nil, List.append_nil]; exact HC.out.1
          · rw [List.length_append]; exact HC.out.2.1
        · have z2 : ¬ (i1 : Int) < (m : Int) := by omega
          go_wp2_with fail
          go_meet
          refine ⟨pf, pa, pc, rfl, ?_, HOR.out.2.1, HOR.out.2.2, HOR.out.1, HBW.out⟩
          rw [List.getElem?_eq_none (by rw [← HST.out.2.2]; omega)]; simp
      case rest =>
        obtain ⟨pf2, pa2, pc2, rfl, hp2, howp2, hpg2, howr2, hbw2⟩ := hcut.out
        have hpl2 : pf2.length ≤ pf.length + 1 := by rw [hp2, List.length_append]; cases row[i1]? <;> simp
        have hpf2 : pf2 ++ prL (nodeH W) (lvl (nodeH W) row) (iv / 2) = out := by
          rw [hp2, List.append_assoc, ← HST.out.1]; exact HST.out.2.1
        have hgwc : g < wc.heap.size := (howr2.lt g rfl).2
        have HC2 := Lib.hid (And.intro howp2 (And.intro hpg2 (And.intro hpf2 hbw2)))
        have HRW := Lib.hid howr2
        have hB2 := hbw2.size
        clear hcut hp2 howp2 hpg2 howr2 hbw2 hpf2 zx
        have y7 : (0 : Int) ≤ (cap : Int) := by omega
        go_wp2_with fail
        go_loopw [13, 14] (fun s13 s14 wr2 => ∃ j : Nat, j ≤ (m + 1) / 2 ∧ s14 = .int .i64 ((2 * j : Nat) : Int) ∧ s13 = .slice (some ⟨g, 0, none⟩) j cap ∧ wr2.ownsRow w.heap.size 35 32 (.slice (some ⟨g, 0, none⟩) m cap) m ((mix (nodeH W) row j).flatMap bv) ∧ wc.grownBy wr2 (some g)) (fun _ s14 _ => m + 2 - (intOf s14).toNat)
        case atStart => exact ⟨0, by omega, rfl, rfl, HRW.out, World.grownBy.refl _ _⟩
        case round =>
          obtain ⟨j, hj, rfl, rfl, hom, hgr⟩ := hrel
          obtain ⟨k2, hk2⟩ : ∃ k, k = 2 * j := ⟨_, rfl⟩
          rw [← hk2]
          by_cases hkm : k2 < m
          · have z2 : (k2 : Int) < (m : Int) := by omega
            have z3 : (0 : Int) ≤ (k2 : Int) := by omega
            have hrl := HST.out.2.2
            have hjm : j ≤ (row.length + 1) / 2 := by omega
            obtain ⟨xs, hx⟩ : ∃ x, row[k2]? = some x := ⟨row[k2]'(by omega), List.getElem?_eq_getElem _⟩
            have hx32 := H32.out.1 xs (List.mem_of_getElem? hx)
            have hml := mix_length (nodeH W) row j hjm
            have hm32 := mix_32 W row j H32.out.1
            have hmm : (mix (nodeH W) row j).length = m := by omega
            have hom' : wr.ownsRow w.heap.size 35 32 (.slice (some ⟨g, 0, none⟩) m cap) (mix (nodeH W) row j).length ((mix (nodeH W) row j).flatMap bv) := by rw [hmm]; exact hom
            clear hmm
            have hrx := own_range32 hom' hm32 (k := k2) (x := xs) (by rw [mix_get _ _ _ _ hjm (by omega)]; exact hx)
            have hlg := lvl_get (nodeH W) row j xs (by rw [← hk2]; exact hx)
            rw [← hk2] at hlg
            have hnew := fun (nx : List UInt8) (h : (lvl (nodeH W) row)[j]? = some nx) => mix_next (nodeH W) row j nx (by omega) h
            have hcut2 : ∀ nx : List UInt8, (lvl (nodeH W) row)[j]? = some nx → ((mix (nodeH W) row j).flatMap bv).take (j * 32) ++ bv nx ++ ((mix (nodeH W) row j).flatMap bv).drop ((j + 1) * 32) = (mix (nodeH W) row (j + 1)).flatMap bv := fun nx h => by
              rw [← hnew nx h, ← flat_take32 _ _ hm32, ← flat_drop32 _ _ hm32, List.flatMap_append, List.flatMap_append, List.flatMap_cons, List.flatMap_nil, List.append_nil]
            have HGR := Lib.hid hgr
            obtain ⟨Ln, hLn⟩ : ∃ l, l = mix (nodeH W) row (j + 1) := ⟨_, rfl⟩
            by_cases hk1 : k2 + 1 < m
            · have z4 : (k2 : Int) + 1 < (m : Int) := by omega
              obtain ⟨ys, hy⟩ : ∃ y, row[k2 + 1]? = some y := ⟨row[k2 + 1]'(by omega), List.getElem?_eq_getElem _⟩
              have hy32 := H32.out.1 ys (List.mem_of_getElem? hy)
              have hry := own_range32 hom' hm32 (k := k2 + 1) (x := ys) (by rw [mix_get _ _ _ _ hjm (by omega)]; exact hy)
              rw [hy] at hlg
              obtain ⟨nx, hnx⟩ : ∃ nx, nx = nodeH W xs ys := ⟨_, rfl⟩
              have hn32 : nx.length = 32 := by rw [hnx]; exact nodeH_length _ _ _
              have hc2 := hcut2 nx (by rw [hnx]; exact hlg)
              rw [← hLn] at hc2
              have hwrg : max 0 4 + 1 ≤ wr.heap.size := by have := hgr.size; omega
              have HND := Lib.hid (fun wx (h : Below wr.heap.size wr wx) => by
                have := Node_any W xs ys wx hx32 hy32 hW ((HT.out.keepB HC2.out.2.2.2).keep (grown_trans hgr (below_grown h none) (fun _ hj => by cases hj)) (fun q hq => by
                  simp only [Option.some.injEq] at hq
                  omega))
                rw [← hnx] at this
                exact this)
              have HRX := Lib.hid (fun wx (h : Below wr.heap.size wr wx) => show wx.rangeAt g (k2 * 32) (bv xs) from fun q u hu => (h.cell (World.block_lt_of_cell? wr _ (hrx q u hu))).trans (hrx q u hu))
              have HRY := Lib.hid (fun wx (h : Below wr.heap.size wr wx) => show wx.rangeAt g ((k2 + 1) * 32) (bv ys) from fun q u hu => (h.cell (World.block_lt_of_cell? wr _ (hry q u hu))).trans (hry q u hu))
              have HXY := Lib.hid (And.intro hx32 (And.intro hy32 hn32))
              have HOW := Lib.hid (fun wx (h : Below wr.heap.size wr wx) => own_keep hom h)
              have HNEW := Lib.hid hc2
              have hjm2 : j + 1 ≤ m := by omega
              rw [hLn] at HNEW
              clear hx hy hx32 hy32 hml hm32 hom' hrx hry hlg hnew hcut2 hnx hn32 hc2 hrl hjm
              obtain ⟨B, hBe⟩ : ∃ B, B = w.heap.size := ⟨_, rfl⟩
              rw [← hBe] at HOW ⊢
              have HBe := Lib.hid hBe
              clear hBe
              clear hLn Ln hom hgr
              obtain ⟨Ln, hLn⟩ : ∃ l, l = mix (nodeH W) row (j + 1) := ⟨_, rfl⟩
              rw [← hLn] at HNEW
              have HLn := Lib.hid hLn
              have HK2 := Lib.hid hk2
              clear hLn hk2
              go_upto_region 15 with fail
              refine wp_region_until [some 67, some 68, some 69, some 70, some 71, some 72, some 73, some 74, some 75, some 76, some 77, some 78, some 79, some 80, some 13] [(0, 13)] 13 (fun wx => Below wr.heap.size wr wx) [0, 1, 2, 3, 4, 5, 6, 7, 8, 9, 10, 11, 12, 13] (pvF W g j m k2 cap B xs ys nx Ln) (kSt 13 g) (fun wx => wr.grownBy wx (some g)) (by kernel_rfl) (by kernel_rfl) rfl (by kernel_rfl) (by kernel_rfl) (grown_drew (World.grownBy.refl _ _)) (Below.refl _ _).drew (fun _ hj _ _ k h => h.trans ((kSt_below hj k).mono h.size)) (fun _ _ => kSt_refl _ _ _ _) (fun _ _ _ h k => kSt_G h k) ?hF ?hstep ?hend
              case hF =>
                exact ⟨fun _ _ _ _ _ _ h => h, ⟨fun _ _ _ _ _ _ h => h, ⟨fun _ _ _ _ _ _ h => h, ⟨fun _ _ _ _ _ _ h => h, ⟨fun _ _ _ _ _ _ h => h, ⟨fun _ _ _ _ _ _ h => h, ⟨fun _ _ _ _ _ _ h => h, ⟨fun _ _ _ _ _ _ h => h, ⟨fun _ _ _ _ _ _ h => h, ⟨fun _ _ _ _ _ _ h => h, ⟨fun _ _ _ _ _ _ h => h, ⟨fun _ _ _ _ _ _ h => h, ⟨fun j hg _ _ _ k h => Rd.keep h (kSt_below (fun e => by subst e; exact absurd hg (by rw [show goneB _ 12 13 = true by kernel_rfl]; simp)) k), ⟨fun j hg _ _ _ k h => ⟨h.1, own_keep h.2 (kSt_below (fun e => by subst e; exact absurd hg (by rw [show goneB _ 13 13 = true by kernel_rfl]; simp)) k)⟩, ⟨fun j hg _ _ _ k h => ⟨h.1, own_keep h.2 (kSt_below (fun e => by subst e; exact absurd hg (by rw [show goneB _ 14 13 = true by kernel_rfl]; simp)) k)⟩, trivial⟩⟩⟩⟩⟩⟩⟩⟩⟩⟩⟩⟩⟩⟩⟩
              case hstep =>
                -- operation 0: Op.move (tmp 13)
                refine ⟨fun r wx hG hs hq hf => ?_, ?_⟩
                · have hQ := hq rfl
                  have e13 : r 13 = .slice (some ⟨g, 0, none⟩) j cap := hs 13 rfl
                  refine (if_pos rfl).symm ▸ ?_
                  clear hs hq hf
                  unfold gives
                  go_simp
                  exact ⟨kSt_refl _ _ _ _, rfl⟩
                -- operation 1: Op.move (tmp 0)
                refine ⟨fun r wx hG hs hq hf => ?_, ?_⟩
                · have hQ := hq rfl
                  have e0 : r 0 = .int .i64 W := hs 0 rfl
                  refine (if_pos rfl).symm ▸ ?_
                  clear hs hq hf
                  unfold gives
                  go_simp
                  exact ⟨kSt_refl _ _ _ _, rfl⟩
                -- operation 2: Op.move (tmp 11)
                refine ⟨fun r wx hG hs hq hf => ?_, ?_⟩
                · have hQ := hq rfl
                  have e11 : r 11 = .slice (some ⟨g, 0, none⟩) m cap := hs 11 rfl
                  refine (if_pos rfl).symm ▸ ?_
                  clear hs hq hf
                  unfold gives
                  go_simp
                  exact ⟨kSt_refl _ _ _ _, rfl⟩
                -- operation 3: Op.move (tmp 14)
                refine ⟨fun r wx hG hs hq hf => ?_, ?_⟩
                · have hQ := hq rfl
                  have e14 : r 14 = .int .i64 (k2 : Nat) := hs 14 rfl
                  refine (if_pos rfl).symm ▸ ?_
                  clear hs hq hf
                  unfold gives
                  go_simp
                  exact ⟨kSt_refl _ _ _ _, rfl⟩
                -- operation 4: Op.indexAddr 22 (tmp 69) (tmp 70)
                refine ⟨fun r wx hG hs hq hf => ?_, ?_⟩
                · have hQ := hq rfl
                  have h2 : r 69 = .slice (some ⟨g, 0, none⟩) m cap := hf.1
                  have h3 : r 70 = .int .i64 (k2 : Nat) := hf.2.1
                  refine (if_pos rfl).symm ▸ ?_
                  clear hs hq hf
                  unfold gives
                  have z0 : (0 : Int) ≤ (k2 : Int) := by omega
                  have z1 : (k2 : Int) < (m : Int) := by omega
                  go_simp
                  exact ⟨kSt_refl _ _ _ _, rfl⟩
                -- operation 5: Op.load 33 (tmp 71)
                refine ⟨fun r wx hG hs hq hf => ?_, ?_⟩
                · have hQ := hq rfl
                  have h4 : r 71 = .pointer (some ⟨g, k2 * 32, none⟩) := hf.1
                  refine (if_pos rfl).symm ▸ ?_
                  clear hs hq hf
                  unfold gives
                  refine gives_load_mid 35 _ rfl g (k2 * 32) h4 (bv xs) _ (HRX.out wx hQ) Tryd.underlying35 rfl (hInfo' _ HXY.out.1) ⟨kSt_refl _ _ _ _, rfl⟩
                -- operation 6: Op.move (tmp 11)
                refine ⟨fun r wx hG hs hq hf => ?_, ?_⟩
                · have hQ := hq rfl
                  have e11 : r 11 = .slice (some ⟨g, 0, none⟩) m cap := hs 11 rfl
                  refine (if_pos rfl).symm ▸ ?_
                  clear hs hq hf
                  unfold gives
                  go_simp
                  exact ⟨kSt_refl _ _ _ _, rfl⟩
                -- operation 7: Op.move (tmp 14)
                refine ⟨fun r wx hG hs hq hf => ?_, ?_⟩
                · have hQ := hq rfl
                  have e14 : r 14 = .int .i64 (k2 : Nat) := hs 14 rfl
                  refine (if_pos rfl).symm ▸ ?_
                  clear hs hq hf
                  unfold gives
                  go_simp
                  exact ⟨kSt_refl _ _ _ _, rfl⟩
                -- operation 8: Op.binOp BinOp.add 3 (tmp 74) (const (Value.int IntKind.i64 1)) 3
                refine ⟨fun r wx hG hs hq hf => ?_, ?_⟩
                · have hQ := hq rfl
                  have h7 : r 74 = .int .i64 (k2 : Nat) := hf.1
                  refine (if_pos rfl).symm ▸ ?_
                  clear hs hq hf
                  unfold gives
                  have zw : IntKind.i64.wrap ((k2 : Int) + 1) = (k2 : Int) + 1 := IntWalk.i64_in _ (by omega)
                  go_simp
                  exact ⟨kSt_refl _ _ _ _, rfl⟩
                -- operation 9: Op.indexAddr 22 (tmp 73) (tmp 75)
                refine ⟨fun r wx hG hs hq hf => ?_, ?_⟩
                · have hQ := hq rfl
                  have h6 : r 73 = .slice (some ⟨g, 0, none⟩) m cap := hf.1
                  have h8 : r 75 = .int .i64 ((k2 : Int) + 1) := hf.2.1
                  refine (if_pos rfl).symm ▸ ?_
                  clear hs hq hf
                  unfold gives
                  have z0 : (0 : Int) ≤ (k2 : Int) + 1 := by omega
                  have z1 : (k2 : Int) + 1 < (m : Int) := by omega
                  have z2 : ((k2 : Int) + 1).toNat = k2 + 1 := by omega
                  go_simp
                  exact ⟨kSt_refl _ _ _ _, rfl⟩
                -- operation 10: Op.load 33 (tmp 76)
                refine ⟨fun r wx hG hs hq hf => ?_, ?_⟩
                · have hQ := hq rfl
                  have h9 : r 76 = .pointer (some ⟨g, (k2 + 1) * 32, none⟩) := hf.1
                  refine (if_pos rfl).symm ▸ ?_
                  clear hs hq hf
                  unfold gives
                  refine gives_load_mid 35 _ rfl g ((k2 + 1) * 32) h9 (bv ys) _ (HRY.out wx hQ) Tryd.underlying35 rfl (hInfo' _ HXY.out.2.1) ⟨kSt_refl _ _ _ _, rfl⟩
                -- operation 11: Op.call ( callee := Callee.value (func 29), args := #[tmp 68, tmp 72, tmp 77], argTypes := #[3, 33, 33] )
                refine ⟨fun r wx hG hs hq hf => ?_, ?_⟩
                · have hQ := hq rfl
                  have h1 : r 68 = .int .i64 W := hf.1
                  have h5 : r 72 = .agg (bv xs).toArray := hf.2.1
                  have h10 : r 77 = .agg (bv ys).toArray := hf.2.2.1
                  refine (if_pos rfl).symm ▸ ?_
                  clear hs hq hf
                  unfold gives
                  go_simp
                  refine (HND.out wx hQ).mono ?_
                  rintro e wy ⟨rfl, hb1⟩
                  exact ⟨_, rfl, kSt_of rfl hb1, rfl⟩
                -- operation 12: Op.buildSlice 22 1 #[(0, tmp 78)]
                refine ⟨fun r wx hG hs hq hf => ?_, ?_⟩
                · have hQ := hq rfl
                  have h11 : r 78 = .agg (bv nx).toArray := hf.1
                  refine (if_pos rfl).symm ▸ ?_
                  clear hs hq hf
                  unfold gives
                  refine gives_build1p 44 35 _ rfl (bv nx) h11 Tryd.underlying44 infoHb (by rw [bv_length]; exact HXY.out.2.2) (by decide) (by decide) ?_
                  exact ⟨kSt_of rfl ((Below.refl _ _).alloc (Nat.le_refl _) _), Rd.row wx 35 32 (bv nx) (by rw [bv_length]; exact HXY.out.2.2) (bv_one nx)⟩
                -- operation 13: Op.call ( callee := Callee.builtin Builtin.append, args := #[tmp 67, tmp 79], argTypes := #[22, 22] )
                refine ⟨fun r wx hG hs hq hf => ?_, ?_⟩
                · have hQ := hq rfl
                  have h0 : r 67 = .slice (some ⟨g, 0, none⟩) j cap := hf.1
                  have h12 : Rd wx 32 (r 79) 1 (bv nx) := hf.2.1
                  refine (if_pos rfl).symm ▸ ?_
                  clear hs hq hf
                  unfold gives
                  refine gives_app_in Tryd.underlying44 infoHb _ _ rfl h0 rfl (HOW.out wx hQ) h12 (by decide) (by omega) ?_
                  intro wy ho hgy
                  exact ⟨kSt_at hgy, rfl, by rw [← HNEW.out]; exact ho⟩
                -- operation 14: Op.assign (tmp 80)
                refine ⟨fun r wx hG hs hq hf => ?_, ?_⟩
                · have h13 : (r 80) = .slice (some ⟨g, 0, none⟩) (j + 1) cap ∧ wx.ownsRow B 35 32 (.slice (some ⟨g, 0, none⟩) m cap) m (Ln.flatMap bv) := hf.1
                  refine (if_pos rfl).symm ▸ ?_
                  clear hs hq hf
                  unfold gives
                  obtain ⟨h13a, h13b⟩ := h13
                  go_simp
                  exact ⟨kSt_refl _ _ _ _, rfl, h13b⟩
                exact trivial
              case hend =>
                intro u wz hG hfin
                have z14 : (u 14) = .slice (some ⟨g, 0, none⟩) (j + 1) cap ∧ wz.ownsRow B 35 32 (.slice (some ⟨g, 0, none⟩) m cap) m (Ln.flatMap bv) := hfin 14 (by decide) (by kernel_rfl)
                clear hfin
                simp only [fill]
                obtain ⟨hu13, howz⟩ := z14
                rw [hu13]
                clear hu13
                have HZ := Lib.hid (And.intro howz hG)
                clear howz hG
                go_simp
                go_wp2_with fail
                go_roundw
                case rel =>
                  have hk2 := HK2.out
                  exact ⟨j + 1, by omega, by go_num, rfl, by rw [← HLn.out]; exact HZ.out.1, grown_trans HGR.out HZ.out.2 (fun _ hj => .inl hj)⟩
                case measure =>
                  have hk2 := HK2.out
                  simp [intOf]; omega
            · have z4 : ¬ (k2 : Int) + 1 < (m : Int) := by omega
              rw [List.getElem?_eq_none (l := row) (i := k2 + 1) (by omega)] at hlg
              have hc2 := hcut2 xs hlg
              have hjm2 : j + 1 ≤ m := by omega
              have HX := Lib.hid (And.intro hx32 (And.intro hrx (And.intro hc2 hom)))
              have HK2 := Lib.hid hk2
              clear hx hx32 hml hm32 hom' hrx hlg hnew hcut2 hc2 hrl hjm hom hgr hk2
              go_wp2_with (first
                | (with_reducible show wpList _ _ _ (⟨some 85, _, _, _, _, _⟩ :: _) _ _; refine wpList_load_mid rfl _ _ rfl g (k2 * 32) rfl (bv xs) _ HX.out.2.1 Tryd.underlying35 rfl (hInfo' _ HX.out.1) ?_)
                | (with_reducible show wpList _ _ _ (⟨some 86, _, _, _, _, _⟩ :: _) _ _; refine wpList_build1 rfl 44 35 _ rfl (bv xs) rfl Tryd.underlying44 infoHb (by rw [bv_length]; exact HX.out.1) (by decide) (by decide) ?_)
                | (at_builtin; refine wpList_app_in (o := ⟨some 87, _, _, _, _, _⟩) Tryd.underlying44 infoHb rfl _ _ rfl rfl rfl (own_keep HX.out.2.2.2 ((Below.refl _ _).alloc (Nat.le_refl _) _)) (Rd.row _ 35 32 (bv xs) (by rw [bv_length]; exact HX.out.1) (bv_one xs)) (by decide) hjm2 ?_; intro w6 how6 hg6))
              rw [HX.out.2.2.1] at how6
              have hg7 := grown_trans HGR.out (grown_trans (below_grown ((Below.refl _ _).alloc (Nat.le_refl _) _) (some g)) hg6 (fun _ hj => .inl hj)) (fun _ hj => .inl hj)
              have HZ := Lib.hid (And.intro how6 hg7)
              clear how6 hg6 hg7
              go_roundw
              case rel =>
                have hk2 := HK2.out
                exact ⟨j + 1, by omega, by go_num, rfl, HZ.out.1, HZ.out.2⟩
              case measure =>
                have hk2 := HK2.out
                simp [intOf]; omega
          · have z2 : ¬ (k2 : Int) < (m : Int) := by omega
            have hjm : j = (m + 1) / 2 := by omega
            have hos := own_short hom j (by omega)
            have hm32 := mix_32 W row j H32.out.1
            rw [← flat_take32 _ _ hm32, hjm, HST.out.2.2, mix_all] at hos
            rw [← HST.out.2.2, ← hllen] at hos
            have howp3 := HC2.out.1.kept hgr (by
              cases hq : (Value.slice pa2 pf2.length pc2).ownBlock with
              | none => simp
              | some q => exact .inr (fun e => HC2.out.2.1 q hq (by simpa using e)))
            have hbw3 : Below w.heap.size w wr := HC2.out.2.2.2.trans ⟨hgr.os, hgr.tape, hgr.output, hgr.size, fun q hq => hgr.block q (by omega) (fun e => by simp only [Option.some.injEq] at e; omega)⟩
            have HZ := Lib.hid (And.intro hos (And.intro howp3 hbw3))
            clear hos howp3 hbw3 hom hgr hm32
            go_wp2_with fail
            go_roundw
            case rel => exact ⟨iv / 2, lvl (nodeH W) row, pf2, pa2, pc2, by go_num, rfl, by rw [hllen, hjm], by omega, by omega, by omega, H32.out.2, HZ.out.1, HZ.out.2.1, HC2.out.2.1, HC2.out.2.2.1, HZ.out.2.2⟩
            case measure => simp []; omega
end Go.Proofs.YtgimblpdmlnfeaaDoor
