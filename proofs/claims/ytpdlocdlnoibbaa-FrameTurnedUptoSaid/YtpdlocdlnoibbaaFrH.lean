/- The law FrameLays: any records are laid, or refused. -/
import Derived.Test.YtpdlocdlnoibbaaFrG
namespace Go.Proofs.Ytpdlocdlnoibbaa
open Go.ChangeShapes Go.WideShapes Go.ChangeAt Go.RowKit

theorem flat_one7 {α β : Type} (f : α → β) : ∀ l : List α, l.flatMap (fun a => [f a]) = l.map f
  | [] => rfl
  | x :: l => by rw [List.flatMap_cons, flat_one7 f l]; rfl
theorem layF_le (K : Nat) (hK : K < 18446744073709551616) : ∀ ls : List (List UInt8), (∀ r ∈ ls, r.length ≤ K) → (layF ls).length ≤ ls.length * (K + 13)
  | [], _ => by simp [layF]
  | r :: ls, h => by
    have h1 := h r (by simp)
    have h2 := layF_le K hK ls (fun x hx => h x (by simp [hx]))
    have h3 := numB_len r.length (by omega)
    have h4 := frm_length r
    simp only [layF, List.length_append, List.length_cons, Nat.add_mul]
    omega
/-- A list of texts that is an argument. -/
theorem open_txs {H : Type} {enc : TypeId × Value → H} {W : World} {v : Value} (t1 : TB enc Try.prog W 35 [v]) : ∃ ls, Txs W v ls ∧ ls.length ≤ 1048576 ∧ (∀ r ∈ ls, r.length ≤ 1048576) ∧ (layF ls).length ≤ 100000000000000 := by
  obtain ⟨l, hr1, hn1, hq⟩ := TB.elems (P := Try.prog) (size := 1) (α := Value × List UInt8) Try.underlying35 (by kernel_rfl) (fun a => [a.1]) (fun a => a.1.oneCell' = true ∧ Rd W 1 a.1 a.2.length (bv a.2) ∧ a.2.length ≤ 1048576)
    (fun ds hl htb => by
      obtain ⟨u, rfl⟩ := List.length_eq_one_iff.1 hl
      obtain ⟨a, n, c, hv, _, _⟩ := htb.slice Try.underlying22
      obtain rfl : u = .slice a n c := by simpa using hv
      obtain ⟨l, hr, hl⟩ := TB.bytes (P := Try.prog) Try.underlying22 Try.underlying5 (by kernel_rfl) htb
      exact ⟨(_, l), rfl, rfl, hr, hl⟩)
    (fun a ha u hu => by simp only [List.mem_singleton] at hu; subst hu; exact ha.1) t1
  have hfm : l.flatMap (fun a => [a.1]) = l.map (·.1) := flat_one7 (·.1) l
  rw [hfm] at hr1
  have hm : ∀ r ∈ l.map (·.2), r.length ≤ 1048576 := fun t ht => by obtain ⟨x, hx, rfl⟩ := List.mem_map.1 ht; exact (hq x hx).1.2.2
  refine ⟨l.map (·.2), ⟨l.map (·.1), by simp, by rw [List.length_map]; exact hr1, fun i t u h1 h2 => ?_⟩, by rw [List.length_map]; exact hn1, hm, ?_⟩
  · rw [List.getElem?_map] at h1 h2
    obtain ⟨x, hx, rfl⟩ := Option.map_eq_some_iff.1 h1
    rw [hx] at h2
    obtain rfl := Option.some.inj h2
    exact (hq x (List.mem_of_getElem? hx)).1.2.1
  · have h1 := layF_le 1048576 (by omega) _ hm
    rw [List.length_map] at h1
    have h2 : l.length * (1048576 + 13) ≤ 1048576 * (1048576 + 13) := Nat.mul_le_mul_right _ hn1
    omega
set_option maxHeartbeats 4000000 in
set_option maxRecDepth 100000 in
theorem frameLays_walk (v : Value) (ls : List (List UInt8)) (w : World) (h : Txs w v ls) (hnl : ls.length ≤ 1048576) (hrl : ∀ r ∈ ls, r.length ≤ 1048576) (hLB : (layF ls).length ≤ 100000000000000) :
    Calls Try.prog 6 #[v] w fun e w' => e = .returned (.bool true) ∧ Below w.heap.size w w' := by
  have haw := awake07_any w
  have HT := Lib.hid h
  obtain ⟨vs, hvl, hr, hel⟩ := h
  obtain ⟨a, c, rfl⟩ := hr.form
  obtain ⟨n, hn⟩ : ∃ n, n = ls.length := ⟨_, rfl⟩
  rw [← hn] at hr hnl HT ⊢
  have HX := Lib.hid (And.intro hn hvl)
  have HR := Lib.hid hr
  have HEL := Lib.hid hel
  have HRL := Lib.hid hrl
  clear hr hel hn hvl hrl
  go_enter Try.func6, Try.ntmps6
  go_wp2_with fail
  refine haw.mono ?_
  rintro e w1 ⟨rfl, hb1⟩
  have hz01 := hb1.size
  have HB1 := Lib.hid hb1
  clear hb1 haw
  go_wp2_with fail
  go_loopw [3, 4] (fun s3 s4 wr => ∃ (i : Nat) (us : List Value), i ≤ n ∧ s4 = .int .i64 i ∧ OwnT wr w1.heap.size s3 us (ls.take i) ∧ Below w.heap.size w wr ∧ w1.heap.size ≤ wr.heap.size) (fun _ s4 _ => n - (intOf s4).toNat)
  case atStart => exact ⟨0, [], Nat.zero_le _, rfl, by simpa using OwnT.nil w1 w1.heap.size, HB1.out, Nat.le_refl _⟩
  case round =>
    obtain ⟨i, us, hi, rfl, hown, hbr, hzr⟩ := hrel
    obtain ⟨acc, hacc⟩ : ∃ acc, acc = ls.take i := ⟨_, rfl⟩
    rw [← hacc] at hown
    have hal : acc.length = i := by rw [hacc, List.length_take]; have := HX.out.1; omega
    obtain ⟨al, cl, hs3⟩ := own_formq hown.own
    subst hs3
    by_cases hA : i < n
    · obtain ⟨l, hl⟩ : ∃ l, ls[i]? = some l := ⟨ls[i]'(by have := HX.out.1; omega), List.getElem?_eq_getElem _⟩
      obtain ⟨u, hu⟩ : ∃ u, vs[i]? = some u := ⟨vs[i]'(by have := HX.out; omega), List.getElem?_eq_getElem _⟩
      have hrl0 := HEL.out i l u hl hu
      have hl20 := HRL.out l (List.mem_of_getElem? hl)
      obtain ⟨pa, ca, rfl⟩ := hrl0.form
      obtain ⟨b1, o1, k1, hv1, _, cell1⟩ := HR.out.at (by omega)
      simp only [Value.slice.injEq, true_and] at hv1
      obtain ⟨rfl, rfl⟩ := hv1
      have hc1 := cell1 i _ hu
      have bq1 := World.block_lt_of_cell? _ _ hc1
      have hcT := (hbr.cell (p := ⟨b1, o1 + i, none⟩) bq1).trans hc1
      have hrlr := hrl0.keep hbr
      have hi0 : (0 : Int) ≤ (i : Int) := by omega
      have zi : (i : Int) < (n : Int) := by omega
      have HW7 : Hid (IntKind.i64.wrap ((i : Int) + 1) = ((i + 1 : Nat) : Int)) := Lib.hid ((IntWalk.i64_in _ (by omega)).trans (by omega))
      have hcA : (wr.alloc (.cells #[] 5)).cell? ⟨b1, o1 + i, none⟩ = some (.slice pa l.length ca) := by
        have hbA : Below wr.heap.size wr (wr.alloc (.cells #[] 5)) := (Below.refl _ _).alloc (Nat.le_refl _) _
        exact (hbA.cell (p := ⟨b1, o1 + i, none⟩) (World.block_lt_of_cell? _ _ hcT)).trans hcT
      have HS := Lib.hid (And.intro hl hacc)
      have HO := Lib.hid (And.intro hown (And.intro hbr hal))
      clear hl hu hrl0 cell1 hc1 hcT hacc hal hown hbr
      go_wp2_with (at_builtin; refine wpList_app Try.underlying22 info8 rfl (by decide) rfl _ _ rfl rfl rfl (own_new wr 5 1 0 wr.heap.size [] rfl (by omega) (Nat.le_refl _)) (hrlr.alloc _) (by omega) (by omega) (by simp) ?_)
      intro v2 w2 hown2 hg2 _
      have hb2 := hg2.alloc.below (B := wr.heap.size) (Nat.le_refl _) (fun j hj => by simp [Value.ownBlock] at hj; omega)
      have hz2 := hb2.size
      have hO2 := HO.out.1.below hb2
      have hal : acc.length ≤ i := Nat.le_of_eq HO.out.2.2
      have hr2 := own_rd hown2 (by first | exact bv_one _ | simpa using bv_one _)
      have hfar : ∀ j, v2.ownBlock = some j → j < w2.heap.size ∧ (Value.slice al acc.length cl).ownBlock ≠ some j := fun j hj => by
        have h1 := hown2.lt j hj
        refine ⟨h1.2, fun e => ?_⟩
        have h2 := (HO.out.1.own.lt j e).2
        omega
      have hO2o := hO2.own
      obtain ⟨a2, c2, hv2⟩ := hr2.form
      have H2 := Lib.hid (And.intro hO2 (And.intro hr2 (And.intro hfar (HO.out.2.1.trans (hb2.mono HO.out.2.1.size)))))
      clear hO2 hfar hb2 hg2 hown2 hrlr hcA hr2
      subst hv2
      go_wp2_with (at_builtin; refine wpList_app Try.underlying35 infoS8 rfl (by decide) rfl _ _ rfl rfl rfl (hO2o.alloc _) (Rd.one w2 _ 22 rfl) (by omega) (by omega) (by simp; omega) ?_)
      intro v3 w3 hown3 hg3 _
      have hg3' := hg3.alloc
      have hnew := H2.out.1.app (l0 := l) hown3 hg3' (by first | exact H2.out.2.1 | simpa using H2.out.2.1) rfl H2.out.2.2.1
      have hb3 := H2.out.2.2.2.trans (hg3'.below (by omega) (fun j hj => by have := own_block hO2o j hj; omega))
      obtain ⟨a3, c3, rfl⟩ := own_formq hown3
      have HF := Lib.hid (And.intro hnew (And.intro hb3 (show w1.heap.size ≤ w3.heap.size by have := hg3'.grown.size; omega)))
      clear hnew hb3 hg3 hg3' hown3 hO2o hal
      go_wp2_with fail
      go_roundw
      case rel =>
        have e : ls.take (i + 1) = acc ++ [l] := by rw [List.take_add_one, HS.out.1, ← HS.out.2]; rfl
        exact ⟨i + 1, us ++ [.slice a2 l.length c2], by omega, by first | rfl | (rw [HW7.out]) | go_num, by rw [e]; exact HF.out.1, HF.out.2.1, HF.out.2.2⟩
      case measure =>
        simp [intOf]
        omega
    · have zi : ¬ ((i : Int) < (n : Int)) := by omega
      obtain rfl : acc = ls := by rw [hacc]; exact List.take_of_length_le (by have := HX.out.1; omega)
      have ht0 := hown.txs
      have hlay := Lay_any _ acc wr ht0 (by omega) hLB
      have HF := Lib.hid (And.intro ht0 hbr)
      have hz0 := hbr.size
      obtain ⟨E, hE⟩ : ∃ E, E = layE acc := ⟨_, rfl⟩
      obtain ⟨O, hO⟩ : ∃ O, O = layO acc := ⟨_, rfl⟩
      have HEO := Lib.hid (And.intro hE hO)
      have HAL := Lib.hid hal
      have hnac : acc.length ≤ 1048576 := by omega
      clear ht0 hbr hown hacc hE hO hal
      go_wp2_with fail
      refine hlay.mono ?_
      rintro e w2 ⟨hb2, v2, rfl, ho2⟩
      rw [← HEO.out.1]
      rw [← HEO.out.2] at ho2
      have hb02 := HF.out.2.trans (hb2.mono hz0)
      have hrl := refLay_any _ acc w2 (HT.out.below hb02) (by omega) hLB
      have hz2 := hb2.size
      have ht2 := HF.out.1.below hb2
      obtain ⟨a2, c2, rfl⟩ := own_formq ho2
      clear hb2 hlay
      go_wp2_with fail
      refine hrl.mono ?_
      rintro e w3 ⟨hb3, v3, rfl, ho3⟩
      rw [← HEO.out.1]
      rw [← HEO.out.2] at ho3
      have hb03 := hb02.trans (hb3.mono (by omega))
      obtain ⟨a3, c3, rfl⟩ := own_formq ho3
      have hsx := string_of_bytes (P := Try.prog) Try.underlying22 Try.underlying5 Try.underlying9 ((own_rd ho2 (bv_one _)).keep hb3)
      have hsy := string_of_bytes (P := Try.prog) Try.underlying22 Try.underlying5 Try.underlying9 (own_rd ho3 (bv_one _))
      have hsame := Same_any _ _ acc w3 (ht2.below hb3) (HT.out.below hb03) (by omega)
      have hz3 := hb3.size
      have HB3 := Lib.hid hb03
      clear hb02 hb03 hb3 ho2 ho3 ht2 hrl
      go_wp2_with fail
      refine hsame.mono ?_
      rintro e w4 ⟨rfl, hb4⟩
      have HB4 := Lib.hid (HB3.out.trans (hb4.mono (by omega)))
      clear hb4 hsame
      go_wp2_with fail
      go_ret
      exact ⟨rfl, HB4.out⟩
theorem frameLays.law (H : Type) (enc : TypeId × Value → H) (W : World) (base : Nat)
    (v0 : Value) (d0 : DataW H) (p0 : List MemPlace) (g0 : Value.okWide Try.prog W .any base 35 v0) (h0 : DataW.Trod enc Try.prog W 0 (fun _ => true) true 35 v0 d0 p0)
    (hsz : Rows.uptoSmall H [d0] = true) :
    Calls Try.prog 6 #[v0] W fun e W' => e = .returned (.bool true) ∧ Below W.heap.size W W' := by
  obtain ⟨a, n, c, rfl⟩ := okWide_slice Try.underlying35 g0
  have t0 := TB.of (P := Try.prog) hsz h0 (by simp)
  obtain ⟨ls, hr, hl, hm, hb⟩ := open_txs t0
  exact frameLays_walk _ ls W hr hl hm hb
end Go.Proofs.Ytpdlocdlnoibbaa
