/- The reference's Leaves. -/
import Derived.Test.YtfibhmgjkooemaaDoorTxw
import Derived.Test.YtfibhmgjkooemaaDoorLeafJR
import Derived.Test.YtfibhmgjkooemaaDoorLeafI
namespace Go.Proofs.YtfibhmgjkooemaaDoor
open Go.RowKit Sha

set_option maxHeartbeats 8000000 in
set_option maxRecDepth 100000 in
theorem refLeaves_any (W : Int) (ts : List (List UInt8)) (v : Value) (w : World) (hW : -9223372036854775808 ≤ W ∧ W ≤ 9223372036854775807) (hl : ts.length ≤ 1000000) (hts : ∀ t ∈ ts, t.length ≤ 140737488351232) (hr : Txw w v ts) (hG : TabsR w) :
    Calls Tryd.prog 19 #[.int .i64 W, v] w fun e w' => ∃ va vc, e = .returned (.slice va ts.length vc) ∧
      w'.ownsRow w.heap.size 35 32 (.slice va ts.length vc) ts.length ((ts.map (leafH W)).flatMap bv) ∧ Below w.heap.size w w' := by
  obtain ⟨vs, hvl, hrv, hrt⟩ := hr
  obtain ⟨a, c, rfl⟩ := hrv.form
  obtain ⟨n, hn⟩ : ∃ n, n = ts.length := ⟨_, rfl⟩
  rw [← hn] at hrv hvl hl ⊢
  have HR := Lib.hid (And.intro hvl (And.intro hrv (And.intro hrt (And.intro hts hn))))
  have HG := Lib.hid hG
  clear hvl hrv hrt hts hG hn
  go_enter Tryd.func19, Tryd.ntmps19
  go_wp2_with fail
  go_loopw [5, 6] (fun s5 s6 wr => ∃ (i : Nat) (va : Option Addr) (vc : Nat), i ≤ n ∧ s6 = .int .i64 i ∧ s5 = .slice va i vc ∧ Hid (wr.ownsRow w.heap.size 35 32 (.slice va i vc) i (((ts.take i).map (leafH W)).flatMap bv) ∧ Below w.heap.size w wr)) (fun _ s6 _ => n - (intOf s6).toNat)
  case atStart => exact ⟨0, none, 0, by omega, rfl, rfl, Lib.hid ⟨by simpa using World.ownsRow_nil w w.heap.size 35 32, Below.refl _ _⟩⟩
  case round =>
    obtain ⟨i, va, vc, hi, rfl, rfl, HI⟩ := hrel
    by_cases hlt : i < n
    · have hkz : (i : Int) < (n : Int) := by omega
      have hk0 : (0 : Int) ≤ (i : Int) := by omega
      obtain ⟨t, ht⟩ : ∃ t, ts[i]? = some t := ⟨ts[i]'(by rw [← HR.out.2.2.2.2]; exact hlt), List.getElem?_eq_getElem _⟩
      obtain ⟨u, hu⟩ : ∃ u, vs[i]? = some u := ⟨vs[i]'(by rw [HR.out.1]; exact hlt), List.getElem?_eq_getElem _⟩
      have hrx := HR.out.2.2.1 i t u ht hu
      obtain ⟨ta, tc, rfl⟩ := hrx.form
      obtain ⟨q, o, c', hv, hcn, cell⟩ := (HR.out.2.1.keep HI.out.2).at (by omega)
      simp only [Value.slice.injEq, true_and] at hv
      obtain ⟨rfl, rfl⟩ := hv
      have hc := cell i _ hu
      have htl := HR.out.2.2.2.1 t (List.mem_of_getElem? ht)
      have hleaf := refLeaf_any W t (.slice ta t.length tc) wr hW (by omega) (hrx.keep HI.out.2) (HG.out.keepB HI.out.2)
      have HL := Lib.hid hleaf
      have HT := Lib.hid ht
      clear hleaf cell hrx htl ht hu
      go_wp2_with fail
      refine HL.out.mono ?_
      rintro e wb ⟨rfl, hbb⟩
      have hx32 := leafH_length W t
      obtain ⟨x, hx⟩ : ∃ x, x = leafH W t := ⟨_, rfl⟩
      rw [← hx] at hx32 ⊢
      have HX := Lib.hid (And.intro hx32 hx)
      have how := own_keep HI.out.1 hbb
      have hbw := HI.out.2.trans (hbb.mono HI.out.2.size)
      have HO := Lib.hid (And.intro how hbw)
      have hB := hbw.size
      clear hx hx32 how hbw hbb HI HL hc
      go_wp2_with (first
        | (with_reducible show wpList _ _ _ (⟨some 20, _, _, _, _, _⟩ :: _) _ _; refine wpList_build1 rfl 36 35 _ rfl (bv x) rfl Tryd.underlying36 infoHb (by rw [bv_length]; exact HX.out.1) (by decide) (by decide) ?_)
        | (at_builtin; refine wpList_app (o := ⟨some 21, _, _, _, _, _⟩) Tryd.underlying36 infoHb rfl (by decide) rfl _ _ rfl rfl rfl (own_keep HO.out.1 ((Below.refl _ _).alloc (Nat.le_refl _) _)) (Rd.row wb 35 32 (bv x) (by rw [bv_length]; exact HX.out.1) (bv_one x)) (by omega) (by omega) (by simp; omega) ?_; intro v5 w5 how5 hg5 _))
      replace hg5 := hg5.alloc
      change Grew wb w5 (.slice va i vc) v5 at hg5
      have hb5 := hg5.below hB (own_block HO.out.1)
      obtain ⟨pa5, pc5, rfl⟩ := own_form how5
      have HC := Lib.hid (And.intro how5 (HO.out.2.trans hb5))
      clear how5 hb5 hg5 HO
      go_wp2_with fail
      go_roundw
      case rel => exact ⟨i + 1, pa5, pc5, by omega, by go_num, rfl, Lib.hid ⟨by rw [List.take_add_one, HT.out, Option.toList_some, List.map_append, List.flatMap_append]; simpa [← HX.out.2] using HC.out.1, HC.out.2⟩⟩
      case measure => simp [intOf]; omega
    · have hin : i = n := by omega
      have hkz : ¬ (i : Int) < (n : Int) := by omega
      subst hin
      have ho := HI.out.1
      rw [List.take_of_length_le (by rw [← HR.out.2.2.2.2]; exact Nat.le_refl _)] at ho
      have HF := Lib.hid (And.intro ho HI.out.2)
      clear ho HI hlt
      go_wp2_with fail
      go_ret
      exact ⟨_, _, rfl, HF.out.1, HF.out.2⟩
end Go.Proofs.YtfibhmgjkooemaaDoor
