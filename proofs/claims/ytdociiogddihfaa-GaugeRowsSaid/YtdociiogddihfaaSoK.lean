/- The reference's Rows. (printed by gen/sok.py) -/
import Derived.Test.YtdociiogddihfaaSoJ
namespace Go.Proofs.Ytdociiogddihfaa
open Go.ChangeShapes Go.WideShapes Go.ChangeAt Go.RowKit

/-- A store into a row of one's own. -/
theorem own_set {w : World} {B g n cap k : Nat} {e : TypeId} {xs : List Value} (h : w.ownsRow B e 1 (.slice (some ⟨g, 0, none⟩) n cap) n xs) (u : Value) : (w.setCell ⟨g, k, none⟩ u).ownsRow B e 1 (.slice (some ⟨g, 0, none⟩) n cap) n (xs.set k u) := by
  obtain ⟨hl, ⟨h2, _⟩ | ⟨g', cap', cur, hv, hb, hg, hc, hm, hs, ht⟩⟩ := h
  · cases h2
  · cases hv
    refine ⟨by simpa using hl, .inr ⟨g, cap, cur.setIfInBounds k u, rfl, hb, heap_setCell_same w g k cur e u hg, hc, hm, by simpa using hs, ?_⟩⟩
    rw [Array.toList_setIfInBounds, List.take_set, ht]
theorem own_cellK {w : World} {B g n cap k : Nat} {e : TypeId} {xs : List Value} {u : Value} (h : w.ownsRow B e 1 (.slice (some ⟨g, 0, none⟩) n cap) n xs) (hk : xs[k]? = some u) : w.cell? ⟨g, k, none⟩ = some u ∧ w.frozen? ⟨g, k, none⟩ = false := by
  obtain ⟨hl, ⟨h2, _⟩ | ⟨g', cap', cur, hv, hb, hg, hc, hm, hs, ht⟩⟩ := h
  · cases h2
  · cases hv
    have hkl := (List.getElem?_eq_some_iff.1 hk).1
    rw [← ht, List.getElem?_take_of_lt (by omega)] at hk
    have h2 : cur[k]? = some u := by simpa using hk
    exact ⟨by simp [World.cell?, hg, h2], by simp [World.frozen?, hg]⟩
/-- What each operation hands on. -/
def rrF (q o n c g i1 cap i k kp s : Nat) (gx gy : GG) (tv : Bool) : Nat → Value → World → Prop
  | 0, v, _ => v = .int .i64 k
  | 1, v, _ => v = .bool true
  | 2, v, _ => v = .bool true
  | 3, v, _ => v = .slice (some ⟨q, o, none⟩) n c
  | 4, v, _ => v = .int .i64 i
  | 5, v, _ => v = .pointer (some ⟨q, o + i * 5, none⟩)
  | 6, v, _ => v = Gv gx.n gx.m gx.s gx.l gx.h
  | 7, v, _ => v = .slice (some ⟨q, o, none⟩) n c
  | 8, v, _ => v = .slice (some ⟨g, 0, none⟩) i1 cap
  | 9, v, _ => v = .int .i64 k
  | 10, v, _ => v = .int .i64 kp
  | 11, v, _ => v = .pointer (some ⟨g, kp, none⟩)
  | 12, v, _ => v = .int .i64 s
  | 13, v, _ => v = .pointer (some ⟨q, o + s * 5, none⟩)
  | 14, v, _ => v = Gv gy.n gy.m gy.s gy.l gy.h
  | 15, v, _ => v = .bool tv
  | 16, v, _ => v = .bool tv
  | _, _, _ => True

set_option maxHeartbeats 8000000 in
set_option maxRecDepth 100000 in
theorem RRows_any (gs : List GG) (v : Value) (n : Nat) (w : World) (hn : gs.length = n) (hnb : n < 1000000) (hg : ∀ g ∈ gs, g.n < 18446744073709551616 ∧ g.m < 18446744073709551616) (hr : Rd w 5 v n (gs.flatMap gcl)) :
    Calls Try.prog 25 #[v] w fun e w' => ∃ v', e = .returned v' ∧ ∃ S, w'.ownsRow w.heap.size 3 1 v' n (sv S) ∧ Srt (K1 gs) (K2 gs) S ∧ S.Perm (List.range' 0 n) ∧ Below w.heap.size w w' := by
  obtain ⟨a, c, rfl⟩ := hr.form
  have HR := Lib.hid hr
  have HG := Lib.hid (And.intro hn hg)
  obtain ⟨W0, hW0⟩ : ∃ q, q = w.heap.size := ⟨_, rfl⟩
  rw [← hW0]
  have HW0 := Lib.hid hW0
  clear hr hn hg hW0
  go_enter Try.func25, Try.ntmps25
  go_upto_region 3 with fail
  go_loopw [3, 4] (fun s3 s4 wr => ∃ (i : Nat) (S : List Nat), s4 = .int .i64 i ∧ i ≤ n ∧ Hid (wr.ownsRow W0 3 1 s3 i (sv S) ∧ Srt (K1 gs) (K2 gs) S ∧ S.Perm (List.range' 0 i)) ∧ Hid (Below W0 w wr)) (fun _ i _ => n - (intOf i).toNat)
  case atStart => exact ⟨0, [], rfl, Nat.zero_le _, Lib.hid ⟨World.ownsRow_nil _ _ _ _, List.Pairwise.nil, List.Perm.refl _⟩, Lib.hid (Below.refl _ _)⟩
  case round =>
    obtain ⟨i, S, rfl, hin, HS, HB⟩ := hrel
    by_cases hlt : i < n
    · have hz : (i : Int) < (n : Int) := by omega
      have hform := own_form HS.out.1
      obtain ⟨ao, co, rfl⟩ := hform
      have hSl : S.length = i := by have := HS.out.2.2.length_eq; simpa using this
      have HSL := Lib.hid hSl
      clear hSl
      have hbs := HB.out.size
      go_wp2_with (at_builtin; refine wpList_app Try.underlying52 infoInt rfl (by decide) rfl _ _ rfl rfl rfl (HS.out.1.alloc _) (Rd.one _ _ _ rfl) (by omega) (by omega) (by have := HW0.out; simp; omega) ?_)
      intro v2 wa hown2 hga _
      have HOA := Lib.hid (And.intro hown2 hga)
      clear hown2 hga
      have hgb : Below W0 wr wa := (HOA.out.2.alloc).below (by have := HW0.out; omega) (own_block HS.out.1)
      have hown := HOA.out.1
      obtain ⟨g, cap, hv2, hgW, _, _, hglt⟩ := own_at hown (by omega)
      subst hv2
      have hsv : sv S ++ [Value.int .i64 (i : Int)] = sv (S ++ [i]) := by simp [sv]
      rw [hsv] at hown
      obtain ⟨i1, hi1⟩ : ∃ q, q = i + 1 := ⟨_, rfl⟩
      rw [← hi1] at hown ⊢
      have HO2 := Lib.hid hown
      have HB2 := Lib.hid (HB.out.trans hgb)
      have HI1 := Lib.hid hi1
      have hi1b : i < i1 ∧ i1 ≤ n := by omega
      have HGW := Lib.hid (And.intro hgW (show W0 ≤ w.heap.size by have := HW0.out; omega))
      clear hgb hown hgW hglt hsv hi1 HOA hbs
      go_wp2_with fail
      go_loopw [5] (fun s5 wr => ∃ (k : Nat) (S1 S2 : List Nat) (y : Nat), s5 = .int .i64 k ∧ k ≤ i ∧ Hid (S = S1 ++ S2 ∧ S1.length = k ∧ (∀ s, S2.head? = some s → tl (K1 gs) (K2 gs) i s)) ∧ Hid (wr.ownsRow W0 3 1 (.slice (some ⟨g, 0, none⟩) i1 cap) i1 (sv (S1 ++ y :: S2))) ∧ Hid (Below W0 w wr)) (fun k _ => (intOf k).toNat)
      case atStart => exact ⟨i, S, [], i, rfl, Nat.le_refl _, Lib.hid ⟨by simp, HSL.out, by simp⟩, HO2, HB2⟩
      case round =>
        clear HB2 HO2 HB
        obtain ⟨k, S1, S2, y, rfl, hki, HL, HO, HB⟩ := hrel
        by_cases hk0 : 0 < k
        · have hz0 : (0 : Int) < (k : Int) := by omega
          obtain ⟨S1', s, hS1⟩ : ∃ t s, S1 = t ++ [s] := by
            have hne : S1 ≠ [] := by rintro rfl; have := HL.out.2.1; simp at this; omega
            exact ⟨S1.dropLast, S1.getLast hne, (List.dropLast_concat_getLast hne).symm⟩
          subst hS1
          obtain ⟨kp, hkp⟩ : ∃ q, q = S1'.length := ⟨_, rfl⟩
          have hkk : k = kp + 1 := by have := HL.out.2.1; simp at this; omega
          have hmem := HS.out.2.2.mem_iff (a := s)
          have hsi : s < i := by
            have h2 := hmem.1 (by rw [HL.out.1]; simp)
            rw [List.mem_range'_1] at h2; omega
          have hrow := HO.out
          have hrd := HR.out.keep (by have := HB.out; rwa [HW0.out] at this)
          obtain ⟨q, o, c', hv, _⟩ := hrd.atG (by omega) (by omega)
          simp only [Value.slice.injEq, true_and] at hv
          obtain ⟨rfl, rfl⟩ := hv
          have hxs : sv (S1' ++ [s] ++ y :: S2) = sv S1' ++ .int .i64 s :: .int .i64 y :: sv S2 := by simp [sv]
          have hsvl : (sv S1').length = kp := by simp [sv, hkp]
          have g1 : (sv (S1' ++ [s] ++ y :: S2))[kp]? = some (.int .i64 s) := by rw [hxs, ← hsvl]; simp
          have g2 : (sv (S1' ++ [s] ++ y :: S2))[k]? = some (.int .i64 y) := by
            rw [hxs, hkk, ← hsvl, List.getElem?_append_right (by omega)]; simp
          have hsetl : (sv (S1' ++ [s] ++ y :: S2)).set k (.int .i64 s) = sv (S1' ++ s :: s :: S2) := by
            rw [hxs, hkk, ← hsvl, List.set_append_right _ _ (by omega)]; simp [sv]
          have hseti : (sv (S1' ++ [s] ++ y :: S2)).set k (.int .i64 i) = sv (S1' ++ [s] ++ i :: S2) := by
            rw [hxs, hkk, ← hsvl, List.set_append_right _ _ (by omega)]; simp [sv]
          have HGS := Lib.hid (And.intro g1 (And.intro g2 (And.intro hsetl hseti)))
          have HCK := Lib.hid (own_cellK hrow g1).1
          have hgd : ∀ z, z < n → ((gs[z]?).getD gz).n < 18446744073709551616 ∧ ((gs[z]?).getD gz).m < 18446744073709551616 := fun z hz => by
            obtain ⟨g, hg⟩ : ∃ g, gs[z]? = some g := ⟨_, List.getElem?_eq_getElem (by have := HG.out.1; omega)⟩
            rw [hg]; exact HG.out.2 g (List.mem_of_getElem? hg)
          have HCx := Lib.hid (gs_cells hrd HG.out.1 hlt)
          have HCy := Lib.hid (gs_cells hrd HG.out.1 (show s < n by omega))
          obtain ⟨gx, hgx⟩ : ∃ q, q = (gs[i]?).getD gz := ⟨_, rfl⟩
          obtain ⟨gy, hgy⟩ : ∃ q, q = (gs[s]?).getD gz := ⟨_, rfl⟩
          obtain ⟨tv, htv⟩ : ∃ q, q = kl (K1 gs) (K2 gs) i s := ⟨_, rfl⟩
          have htv2 := (cfG_kl gs i s).trans htv.symm
          unfold cfG K1 K2 at htv2
          rw [← hgx, ← hgy] at htv2
          have HTV : Hid (decide (orZ (ordP gx.m gy.m) (ordZ (spK gx.n gx.s) (spK gy.n gy.s)) < 0) = tv) := Lib.hid htv2
          have HTL := Lib.hid htv
          have HV : Hid (gx.n < 18446744073709551616 ∧ gy.n < 18446744073709551616 ∧ gx.m < 18446744073709551616 ∧ gy.m < 18446744073709551616) := Lib.hid (by rw [hgx, hgy]; exact ⟨(hgd i hlt).1, (hgd s (by omega)).1, (hgd i hlt).2, (hgd s (by omega)).2⟩)
          rw [← hgx] at HCx
          rw [← hgy] at HCy
          have HN := Lib.hid (show (i : Int) < (n : Int) ∧ (s : Int) < (n : Int) ∧ (kp : Int) < (i1 : Int) by omega)
          have zkp : IntKind.i64.wrap ((k : Int) - 1) = (kp : Int) := by rw [IntKind.wrap_i64]; omega
          have pk0 : (0 : Int) ≤ (k : Int) := by omega
          have pk1 : (k : Int) < (i1 : Int) := by omega
          have pp0 : (0 : Int) ≤ (kp : Int) := by omega
          have pp1 : (kp : Int) < (i1 : Int) := by omega
          have HKK := Lib.hid (And.intro hkk (And.intro hkp hsi))
          clear hkk hkp hmem hsi hrow hrd hxs hsvl g1 g2 hsetl hseti hgd hgx hgy htv htv2
          go_upto_region 7 with fail
          refine wp_region_steps [some 18, some 19, some 20, some 21, some 22, some 23, some 24, some 25, some 26, some 27, some 28, some 29, some 30, some 31, some 32, some 33, some 34] [] (rrF q o n c g i1 cap i k kp s gx gy tv) (fun _ wx wy => Below wx.heap.size wx wy) (fun wx => Below wr.heap.size wr wx) (by kernel_rfl) (by kernel_rfl) rfl (by kernel_rfl) (Below.refl _ _).drew (fun _ wx => Below.refl _ _) (fun _ wx wy h k => h.trans (k.mono h.size)) ?hF ?hstep ?hend
          case hF =>
            exact ⟨fun _ _ _ _ _ _ h => h, ⟨fun _ _ _ _ _ _ h => h, ⟨fun _ _ _ _ _ _ h => h, ⟨fun _ _ _ _ _ _ h => h, ⟨fun _ _ _ _ _ _ h => h, ⟨fun _ _ _ _ _ _ h => h, ⟨fun _ _ _ _ _ _ h => h, ⟨fun _ _ _ _ _ _ h => h, ⟨fun _ _ _ _ _ _ h => h, ⟨fun _ _ _ _ _ _ h => h, ⟨fun _ _ _ _ _ _ h => h, ⟨fun _ _ _ _ _ _ h => h, ⟨fun _ _ _ _ _ _ h => h, ⟨fun _ _ _ _ _ _ h => h, ⟨fun _ _ _ _ _ _ h => h, ⟨fun _ _ _ _ _ _ h => h, ⟨fun _ _ _ _ _ _ h => h, trivial⟩⟩⟩⟩⟩⟩⟩⟩⟩⟩⟩⟩⟩⟩⟩⟩⟩
          case hstep =>
            refine ⟨fun r wx hG hs hq hf => ?_, ?_⟩
            · have e5 : r 5 = .int .i64 k := hs 5 rfl
              refine (if_pos rfl).symm ▸ ?_
              clear hs hq hf
              unfold gives
              go_simp
              exact ⟨Below.refl _ _, rfl⟩
            refine ⟨fun r wx hG hs hq hf => ?_, ?_⟩
            · have h0 : r 18 = .int .i64 k := hf.1
              refine (if_pos rfl).symm ▸ ?_
              clear hs hq hf
              unfold gives
              go_simp
              exact ⟨Below.refl _ _, rfl⟩
            refine ⟨fun r wx hG hs hq hf => ?_, ?_⟩
            · have h1 : r 19 = .bool true := hf.1
              refine (if_pos rfl).symm ▸ ?_
              clear hs hq hf
              unfold gives
              go_simp
              exact ⟨Below.refl _ _, rfl⟩
            refine ⟨fun r wx hG hs hq hf => ?_, ?_⟩
            · have e0 : r 0 = .slice (some ⟨q, o, none⟩) n c := hs 0 rfl
              have h2 : r 20 = .bool true := hf.1
              have hy : ydD [some 18, some 19, some 20, some 21, some 22, some 23, some 24, some 25, some 26, some 27, some 28, some 29, some 30, some 31, some 32, some 33, some 34] r 2 = some true := by show (match r 20 with | .bool b => some b | _ => none) = some true; rw [h2]
              simp only [Region.wanted, hy, beq_self_eq_true, if_true]
              clear hs hq hf hy
              unfold gives
              go_simp
              exact ⟨Below.refl _ _, rfl⟩
            refine ⟨fun r wx hG hs hq hf => ?_, ?_⟩
            · have e4 : r 4 = .int .i64 i := hs 4 rfl
              have h2 : r 20 = .bool true := hf.1
              have hy : ydD [some 18, some 19, some 20, some 21, some 22, some 23, some 24, some 25, some 26, some 27, some 28, some 29, some 30, some 31, some 32, some 33, some 34] r 2 = some true := by show (match r 20 with | .bool b => some b | _ => none) = some true; rw [h2]
              simp only [Region.wanted, hy, beq_self_eq_true, if_true]
              clear hs hq hf hy
              unfold gives
              go_simp
              exact ⟨Below.refl _ _, rfl⟩
            refine ⟨fun r wx hG hs hq hf => ?_, ?_⟩
            · have h3 : r 21 = .slice (some ⟨q, o, none⟩) n c := hf.1
              have h4 : r 22 = .int .i64 i := hf.2.1
              have h2 : r 20 = .bool true := hf.2.2.1
              have hy : ydD [some 18, some 19, some 20, some 21, some 22, some 23, some 24, some 25, some 26, some 27, some 28, some 29, some 30, some 31, some 32, some 33, some 34] r 2 = some true := by show (match r 20 with | .bool b => some b | _ => none) = some true; rw [h2]
              simp only [Region.wanted, hy, beq_self_eq_true, if_true]
              clear hs hq hf hy
              unfold gives
              have y1 : (0 : Int) ≤ (i : Int) := by omega
              have y2 : (i : Int) < (n : Int) := HN.out.1
              go_simp
              exact ⟨Below.refl _ _, rfl⟩
            refine ⟨fun r wx hG hs hq hf => ?_, ?_⟩
            · have h5 : r 23 = .pointer (some ⟨q, o + i * 5, none⟩) := hf.1
              have h2 : r 20 = .bool true := hf.2.1
              have hy : ydD [some 18, some 19, some 20, some 21, some 22, some 23, some 24, some 25, some 26, some 27, some 28, some 29, some 30, some 31, some 32, some 33, some 34] r 2 = some true := by show (match r 20 with | .bool b => some b | _ => none) = some true; rw [h2]
              simp only [Region.wanted, hy, beq_self_eq_true, if_true]
              clear hs hq hf hy
              unfold gives
              have hc0 := (hG.cell (World.block_lt_of_cell? wr _ HCx.out.1)).trans HCx.out.1
              have hc1 := (hG.cell (World.block_lt_of_cell? wr _ HCx.out.2.1)).trans HCx.out.2.1
              have hc2 := (hG.cell (World.block_lt_of_cell? wr _ HCx.out.2.2.1)).trans HCx.out.2.2.1
              have hc3 := (hG.cell (World.block_lt_of_cell? wr _ HCx.out.2.2.2.1)).trans HCx.out.2.2.2.1
              have hc4 := (hG.cell (World.block_lt_of_cell? wr _ HCx.out.2.2.2.2)).trans HCx.out.2.2.2.2
              go_simp
              exact ⟨Below.refl _ _, rfl⟩
            refine ⟨fun r wx hG hs hq hf => ?_, ?_⟩
            · have e0 : r 0 = .slice (some ⟨q, o, none⟩) n c := hs 0 rfl
              have h2 : r 20 = .bool true := hf.1
              have hy : ydD [some 18, some 19, some 20, some 21, some 22, some 23, some 24, some 25, some 26, some 27, some 28, some 29, some 30, some 31, some 32, some 33, some 34] r 2 = some true := by show (match r 20 with | .bool b => some b | _ => none) = some true; rw [h2]
              simp only [Region.wanted, hy, beq_self_eq_true, if_true]
              clear hs hq hf hy
              unfold gives
              go_simp
              exact ⟨Below.refl _ _, rfl⟩
            refine ⟨fun r wx hG hs hq hf => ?_, ?_⟩
            · have e3 : r 3 = .slice (some ⟨g, 0, none⟩) i1 cap := hs 3 rfl
              have h2 : r 20 = .bool true := hf.1
              have hy : ydD [some 18, some 19, some 20, some 21, some 22, some 23, some 24, some 25, some 26, some 27, some 28, some 29, some 30, some 31, some 32, some 33, some 34] r 2 = some true := by show (match r 20 with | .bool b => some b | _ => none) = some true; rw [h2]
              simp only [Region.wanted, hy, beq_self_eq_true, if_true]
              clear hs hq hf hy
              unfold gives
              go_simp
              exact ⟨Below.refl _ _, rfl⟩
            refine ⟨fun r wx hG hs hq hf => ?_, ?_⟩
            · have e5 : r 5 = .int .i64 k := hs 5 rfl
              have h2 : r 20 = .bool true := hf.1
              have hy : ydD [some 18, some 19, some 20, some 21, some 22, some 23, some 24, some 25, some 26, some 27, some 28, some 29, some 30, some 31, some 32, some 33, some 34] r 2 = some true := by show (match r 20 with | .bool b => some b | _ => none) = some true; rw [h2]
              simp only [Region.wanted, hy, beq_self_eq_true, if_true]
              clear hs hq hf hy
              unfold gives
              go_simp
              exact ⟨Below.refl _ _, rfl⟩
            refine ⟨fun r wx hG hs hq hf => ?_, ?_⟩
            · have h9 : r 27 = .int .i64 k := hf.1
              have h2 : r 20 = .bool true := hf.2.1
              have hy : ydD [some 18, some 19, some 20, some 21, some 22, some 23, some 24, some 25, some 26, some 27, some 28, some 29, some 30, some 31, some 32, some 33, some 34] r 2 = some true := by show (match r 20 with | .bool b => some b | _ => none) = some true; rw [h2]
              simp only [Region.wanted, hy, beq_self_eq_true, if_true]
              clear hs hq hf hy
              unfold gives
              go_simp
              exact ⟨Below.refl _ _, rfl⟩
            refine ⟨fun r wx hG hs hq hf => ?_, ?_⟩
            · have h8 : r 26 = .slice (some ⟨g, 0, none⟩) i1 cap := hf.1
              have h10 : r 28 = .int .i64 kp := hf.2.1
              have h2 : r 20 = .bool true := hf.2.2.1
              have hy : ydD [some 18, some 19, some 20, some 21, some 22, some 23, some 24, some 25, some 26, some 27, some 28, some 29, some 30, some 31, some 32, some 33, some 34] r 2 = some true := by show (match r 20 with | .bool b => some b | _ => none) = some true; rw [h2]
              simp only [Region.wanted, hy, beq_self_eq_true, if_true]
              clear hs hq hf hy
              unfold gives
              have y1 : (0 : Int) ≤ (kp : Int) := by omega
              have y2 : (kp : Int) < (i1 : Int) := HN.out.2.2
              go_simp
              exact ⟨Below.refl _ _, rfl⟩
            refine ⟨fun r wx hG hs hq hf => ?_, ?_⟩
            · have h11 : r 29 = .pointer (some ⟨g, kp, none⟩) := hf.1
              have h2 : r 20 = .bool true := hf.2.1
              have hy : ydD [some 18, some 19, some 20, some 21, some 22, some 23, some 24, some 25, some 26, some 27, some 28, some 29, some 30, some 31, some 32, some 33, some 34] r 2 = some true := by show (match r 20 with | .bool b => some b | _ => none) = some true; rw [h2]
              simp only [Region.wanted, hy, beq_self_eq_true, if_true]
              clear hs hq hf hy
              unfold gives
              have hc := (hG.cell (World.block_lt_of_cell? wr _ HCK.out)).trans HCK.out
              go_simp
              exact ⟨Below.refl _ _, rfl⟩
            refine ⟨fun r wx hG hs hq hf => ?_, ?_⟩
            · have h7 : r 25 = .slice (some ⟨q, o, none⟩) n c := hf.1
              have h12 : r 30 = .int .i64 s := hf.2.1
              have h2 : r 20 = .bool true := hf.2.2.1
              have hy : ydD [some 18, some 19, some 20, some 21, some 22, some 23, some 24, some 25, some 26, some 27, some 28, some 29, some 30, some 31, some 32, some 33, some 34] r 2 = some true := by show (match r 20 with | .bool b => some b | _ => none) = some true; rw [h2]
              simp only [Region.wanted, hy, beq_self_eq_true, if_true]
              clear hs hq hf hy
              unfold gives
              have y1 : (0 : Int) ≤ (s : Int) := by omega
              have y2 : (s : Int) < (n : Int) := HN.out.2.1
              go_simp
              exact ⟨Below.refl _ _, rfl⟩
            refine ⟨fun r wx hG hs hq hf => ?_, ?_⟩
            · have h13 : r 31 = .pointer (some ⟨q, o + s * 5, none⟩) := hf.1
              have h2 : r 20 = .bool true := hf.2.1
              have hy : ydD [some 18, some 19, some 20, some 21, some 22, some 23, some 24, some 25, some 26, some 27, some 28, some 29, some 30, some 31, some 32, some 33, some 34] r 2 = some true := by show (match r 20 with | .bool b => some b | _ => none) = some true; rw [h2]
              simp only [Region.wanted, hy, beq_self_eq_true, if_true]
              clear hs hq hf hy
              unfold gives
              have hc0 := (hG.cell (World.block_lt_of_cell? wr _ HCy.out.1)).trans HCy.out.1
              have hc1 := (hG.cell (World.block_lt_of_cell? wr _ HCy.out.2.1)).trans HCy.out.2.1
              have hc2 := (hG.cell (World.block_lt_of_cell? wr _ HCy.out.2.2.1)).trans HCy.out.2.2.1
              have hc3 := (hG.cell (World.block_lt_of_cell? wr _ HCy.out.2.2.2.1)).trans HCy.out.2.2.2.1
              have hc4 := (hG.cell (World.block_lt_of_cell? wr _ HCy.out.2.2.2.2)).trans HCy.out.2.2.2.2
              go_simp
              exact ⟨Below.refl _ _, rfl⟩
            refine ⟨fun r wx hG hs hq hf => ?_, ?_⟩
            · have h6 : r 24 = Gv gx.n gx.m gx.s gx.l gx.h := hf.1
              have h14 : r 32 = Gv gy.n gy.m gy.s gy.l gy.h := hf.2.1
              have h2 : r 20 = .bool true := hf.2.2.1
              have hy : ydD [some 18, some 19, some 20, some 21, some 22, some 23, some 24, some 25, some 26, some 27, some 28, some 29, some 30, some 31, some 32, some 33, some 34] r 2 = some true := by show (match r 20 with | .bool b => some b | _ => none) = some true; rw [h2]
              simp only [Region.wanted, hy, beq_self_eq_true, if_true]
              clear hs hq hf hy
              unfold gives
              have hk := Ahead_any gx gy wx HV.out
              rw [HTV.out] at hk
              go_simp
              refine hk.mono ?_
              rintro e wy ⟨rfl, hb1⟩
              exact ⟨_, rfl, hb1, rfl⟩
            refine ⟨fun r wx hG hs hq hf => ?_, ?_⟩
            · have h2 : r 20 = .bool true := hf.1
              have h15 : r 33 = .bool tv := hf.2.1
              refine (if_pos rfl).symm ▸ ?_
              clear hs hq hf
              unfold gives
              go_simp
              exact ⟨Below.refl _ _, rfl⟩
            exact trivial
          case hend =>
            intro u wz hG hfin
            have z16 : u 16 = .bool tv := hfin 16 (by decide) (by kernel_rfl)
            clear hfin
            simp only [fill]
            go_simp
            have HBZ := Lib.hid (HB.out.trans (hG.mono (by have := HB.out.size; have := HW0.out; omega)))
            have howz := own_keep HO.out hG
            have ck1 := own_cellK howz HGS.out.1
            have ck2 := own_cellK howz HGS.out.2.1
            have c1 := ck1.1
            have c2 := ck2.1
            have f2 := ck2.2
            have hst1 := own_set (k := k) howz (.int .i64 s)
            rw [HGS.out.2.2.1] at hst1
            have hst2 := own_set (k := k) howz (.int .i64 i)
            rw [HGS.out.2.2.2] at hst2
            have HST1 := Lib.hid hst1
            have HST := Lib.hid hst2
            clear hst1 hst2 ck1 ck2 howz hG
            cases tv with
            | true =>
              go_wp2_with fail
              go_roundw
              case rel =>
                exact ⟨kp, S1', s :: S2, s, rfl, by have := HKK.out.1; omega, Lib.hid ⟨by rw [HL.out.1]; simp, HKK.out.2.1.symm, fun r hr => by simp at hr; subst hr; exact kl_tl HTL.out.symm⟩, HST1, Lib.hid (grow_below HBZ.out (grown_set k _) HGW.out.1 (by have := HBZ.out.size; have := HW0.out; omega))⟩
              case measure => have := HKK.out.1; simp [intOf]; omega
            | false =>
              go_wp2_with fail
              go_roundw
              case rel =>
                refine ⟨i + 1, (S1' ++ [s]) ++ i :: S2, by go_num, by omega, Lib.hid ⟨?_, ?_, ?_⟩, Lib.hid (grow_below HBZ.out (grown_set k _) HGW.out.1 (by have := HBZ.out.size; have := HW0.out; omega))⟩
                · have h := HST.out
                  rw [show i + 1 = i1 from HI1.out.symm]; exact h
                · have h1 := HS.out.2.1
                  rw [HL.out.1] at h1
                  exact srt_put h1 (fun r hr => by simp at hr; subst hr; exact tl_of_not HTL.out.symm HKK.out.2.2) HL.out.2.2
                · have h1 := HS.out.2.2
                  rw [HL.out.1] at h1
                  rw [List.range'_concat]
                  refine List.perm_middle.trans ((List.Perm.cons i h1).trans ?_)
                  simpa using List.perm_append_comm (l₁ := [i]) (l₂ := List.range' 0 i)
              case measure => simp [intOf]; omega
        · have hz0 : ¬ (0 : Int) < (k : Int) := by omega
          have mixed : Try.prog.follows .mixedOrders = true := by kernel_rfl
          go_upto_region 7 with fail
          go_big_region_o
          have hS1 : S1 = [] := List.eq_nil_of_length_eq_zero (by have := HL.out.2.1; omega)
          subst hS1
          have hbd : Below wr.heap.size wr wr.drew := (Below.refl _ _).drew
          have HBZ := Lib.hid (HB.out.trans (hbd.mono (by have := HB.out.size; have := HW0.out; omega)))
          have howz := own_keep HO.out hbd
          obtain ⟨wz, hwz⟩ : ∃ q, q = wr.drew := ⟨_, rfl⟩
          rw [← hwz] at HBZ howz ⊢
          have hk : k = 0 := by omega
          have ck2 := own_cellK (k := k) (u := .int .i64 y) howz (by rw [hk]; simp [sv])
          have c2 := ck2.1
          have f2 := ck2.2
          have hst2 := own_set (k := k) howz (.int .i64 i)
          rw [show (sv ([] ++ y :: S2)).set k (.int .i64 (i : Int)) = sv ([] ++ i :: S2) by rw [hk]; simp [sv]] at hst2
          have HST := Lib.hid hst2
          have pk0 : (0 : Int) ≤ (k : Int) := by omega
          have pk1 : (k : Int) < (i1 : Int) := by omega
          clear hst2 ck2 howz hbd hwz hk
          go_wp2_with fail
          go_roundw
          case rel =>
            refine ⟨i + 1, (([] : List Nat)) ++ i :: S2, by go_num, by omega, Lib.hid ⟨?_, ?_, ?_⟩, Lib.hid (grow_below HBZ.out (grown_set k _) HGW.out.1 (by have := HBZ.out.size; have := HW0.out; omega))⟩
            · have h := HST.out
              rw [show i + 1 = i1 from HI1.out.symm]; exact h
            · have h1 := HS.out.2.1
              rw [HL.out.1] at h1
              exact srt_put (a := []) h1 (by simp) HL.out.2.2
            · have h1 := HS.out.2.2
              rw [HL.out.1] at h1
              rw [List.range'_concat]
              refine List.perm_middle.trans ((List.Perm.cons i h1).trans ?_)
              simpa using List.perm_append_comm (l₁ := [i]) (l₂ := List.range' 0 i)
          case measure => simp [intOf]; omega
    · have hz : ¬ (i : Int) < (n : Int) := by omega
      obtain rfl : i = n := by omega
      go_wp2_with fail
      go_ret
      exact ⟨_, rfl, S, HS.out.1, HS.out.2.1, HS.out.2.2, HB.out⟩
end Go.Proofs.Ytdociiogddihfaa
