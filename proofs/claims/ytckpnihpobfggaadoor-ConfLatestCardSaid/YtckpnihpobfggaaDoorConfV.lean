/- The law ConfLatest: the walk. -/
import Derived.Test.YtckpnihpobfggaaDoorConfU
namespace Go.Proofs.YtckpnihpobfggaaDoor
open Go.RowKit

/-- The entry that is put behind. -/
def putE (g : Nat) : EE := ⟨0, 2, 0, 0, .slice none 0 0, .slice (some ⟨g, 0, none⟩) 1 1⟩
theorem rd_ent (w : World) (o : Obj) : Rd ((w.alloc o).alloc (.cells #[.int .u64 0, .int .i64 2, .int .u64 0, .int .u64 0, .slice none 0 0, .slice (some ⟨w.heap.size, 0, none⟩) 1 1] 35)) 6 (.slice (some ⟨w.heap.size + 1, 0, none⟩) 1 1) 1 (putE w.heap.size).cells := by
  have h1 : ∀ u ∈ (putE w.heap.size).cells, u.oneCell' = true := by
    intro u hu
    simp only [putE, EE.cells, List.mem_cons, List.not_mem_nil, or_false] at hu
    rcases hu with rfl | rfl | rfl | rfl | rfl | rfl <;> rfl
  have := own_rd (own_new (w.alloc o) 35 6 1 0 (putE w.heap.size).cells rfl (by omega) (Nat.zero_le _)) h1
  simpa [putE, EE.cells] using this

theorem Rd.blk {w w' : World} {size n c g o : Nat} {xs : List Value} (h : Rd w size (.slice (some ⟨g, o, none⟩) n c) n xs) (hb : w'.heap[g]? = w.heap[g]?) : Rd w' size (.slice (some ⟨g, o, none⟩) n c) n xs := by
  obtain ⟨hl, h1, ⟨h2, _⟩ | ⟨ad, c', hv, hc, hcell⟩⟩ := h
  · cases h2
  · cases hv
    refine ⟨hl, h1, .inr ⟨_, _, rfl, hc, fun j u hu => ?_⟩⟩
    have := hcell j u hu
    rw [Addr.add_lit] at this ⊢
    exact (World.cell?_of_block (a := ⟨g, o + j, none⟩) hb).trans this
set_option maxRecDepth 100000 in
set_option maxHeartbeats 8000000 in
theorem ConfLatest_any (v u : Value) (l : List Nat) (es : List EE) (w : World) (hr : Rd w 1 v l.length (uv l)) (hl : l.length * 8 ≤ 140737488351232) (hu : Rd w 6 u es.length (ecells es)) (hlp : es.length * 80 ≤ 140737488351232) (hes : ∀ e ∈ es, MOk w e) (hT : TabD w) :
    Calls Tryd.prog 6 #[v, u] w fun e w' => e = .returned (.bool true) ∧ Below w.heap.size w w' := by
  obtain ⟨M, hM⟩ : ∃ M : EE → List Nat, ∀ e, MOk w e → Rd w 1 e.m (M e).length (uv (M e)) ∧ (M e).length * 8 ≤ 140737488351232 := by
    have hex : ∀ e, ∃ ml : List Nat, MOk w e → Rd w 1 e.m ml.length (uv ml) ∧ ml.length * 8 ≤ 140737488351232 := fun e => by
      by_cases h : MOk w e
      · obtain ⟨ml, h1, h2, _⟩ := h
        exact ⟨ml, fun _ => ⟨h1, h2⟩⟩
      · exact ⟨[], fun h' => absurd h' h⟩
    exact Classical.axiomOfChoice hex
  have hA := awake20_any w hT
  have h1 := fun wx (h : Below w.heap.size w wx) => Latest_list v u l wx (MOk_no w) (fun e he => ent_one e he) es hes M (fun e he => ⟨(hM e he).1.keep h, (hM e he).2⟩) (hr.keep h) hl (hu.keep h) (by omega)
  have h2 := fun wx (h : Below w.heap.size w wx) => refLatest_any v u wx es (hu.keep h) (by omega)
  obtain ⟨a, c, rfl⟩ := hu.form
  have HU := Lib.hid hu
  have HM := Lib.hid hM
  have HES := Lib.hid hes
  have HR := Lib.hid hr
  clear hu hT hM hes hr
  go_enter Tryd.func6, Tryd.ntmps6
  go_wp2_with fail
  refine hA.mono ?_
  rintro e w1 ⟨rfl, hb1⟩
  clear hA
  go_wp2_with fail
  refine (h1 w1 hb1).mono ?_
  rintro e w2 ⟨v1, X, rfl, hX, hb2, hlast⟩
  have hb2 := hb1.trans (hb2.mono hb1.size)
  obtain ⟨xa, xc, rfl⟩ := hX.form
  have HX := Lib.hid (And.intro hX hlast)
  clear hb1 hX hlast h1
  have hown := own_new w2 35 6 0 w2.heap.size [] (by simp) (by omega) (Nat.le_refl _)
  have hpr := (HU.out.keep hb2).alloc (.cells #[] 35)
  have HB2 := Lib.hid hb2
  have HO := Lib.hid (And.intro hown hpr)
  clear hown hpr hb2
  go_wp2_with (first
    | (at_builtin; refine wpList_app (o := ⟨some 14, _, _, _, _, _⟩) Tryd.underlying31 infoEnt rfl (by decide) rfl _ _ rfl rfl rfl HO.out.1 HO.out.2 (by omega) (by omega) (by simp) ?_; intro v3 w3 ho3 hg3 hi3; clear hi3)
    | (at_builtin; refine wpList_app (o := ⟨some 18, _, _, _, _, _⟩) Tryd.underlying31 infoEnt rfl (by decide) rfl _ _ rfl rfl rfl (own_keep ho3 (below2 w3 _ _)) (rd_ent w3 _) (by omega) (by omega) (by have := hg3.grown.size; simp at this ⊢; omega) ?_; intro v5 w5 ho5 hg5 hi5; clear hi5))
  obtain ⟨g7, hg7⟩ : ∃ g, g = w3.heap.size := ⟨_, rfl⟩
  rw [← hg7] at ho5 ⊢
  have k3 : Below w2.heap.size w2 w3 := hg3.alloc.below (Nat.le_refl _) (own_block HO.out.1)
  have k5 : Below w2.heap.size w3 w5 := hg5.alloc.alloc.below k3.size (own_block ho3)
  have hb5 : Below w.heap.size w w5 := HB2.out.trans ((k3.trans k5).mono HB2.out.size)
  have r7 : Rd w5 1 (.slice (some ⟨g7, 0, none⟩) 1 1) 1 (uv [7]) := by
    rw [hg7]
    refine Rd.blk ((rd_lit w3 [7] _ 25 rfl (by decide)).alloc _) (hg5.grown.block _ (by simp; omega) (fun e => ?_))
    have := (ho3.lt _ e.symm).2
    omega
  obtain ⟨es2, hes2⟩ : ∃ q, q = es ++ [putE g7] := ⟨_, rfl⟩
  have hlen2 : es2.length = es.length + 1 := by rw [hes2]; simp
  have ho5' : w5.ownsRow w2.heap.size 35 6 v5 es2.length (ecells es2) := by
    rw [hlen2, hes2, ecells_append]
    have e0 : ecells [putE g7] = (putE g7).cells := by simp [ecells]
    rw [e0]
    simpa using ho5
  obtain ⟨va5, vc5, rfl⟩ := own_form ho5'
  have hput : ∀ u ∈ (putE g7).cells, u.oneCell' = true := by
    intro u hu
    simp only [putE, EE.cells, List.mem_cons, List.not_mem_nil, or_false] at hu
    rcases hu with rfl | rfl | rfl | rfl | rfl | rfl <;> rfl
  have hmem2 : ∀ e ∈ es2, MOk w e ∨ e = putE g7 := by
    intro e he
    rw [hes2] at he
    rcases List.mem_append.1 he with he | he
    · exact .inl (HES.out e he)
    · exact .inr (List.mem_singleton.1 he)
  have hlast2 : lastConf es2 = lastConf es := by rw [hes2]; exact last_put es (putE g7) (show (2 : Int) ≠ 3 by decide)
  have hone2 : ∀ e, MOk w e ∨ e = putE g7 → ∀ u ∈ e.cells, u.oneCell' = true := by
    intro e he
    rcases he with he | rfl
    · exact ent_one e he
    · exact hput
  have r5 : Rd w5 6 (.slice va5 es2.length vc5) es2.length (ecells es2) := own_rd ho5' (fun u hu => by
    obtain ⟨e, he, hu⟩ := List.mem_flatMap.1 hu
    exact hone2 e (hmem2 e he) u hu)
  have HE2 := Lib.hid (And.intro hmem2 (And.intro hlast2 hone2))
  have HL2 := Lib.hid hlen2
  clear hlen2
  have rX : Rd w5 1 (.slice xa X.length xc) X.length (uv X) := HX.out.1.keep (k3.trans k5)
  have hXl : X.length * 8 ≤ 140737488351232 := by
    rcases HX.out.2 with ⟨_, h⟩ | ⟨e, h1, h⟩
    · rw [h]; exact hl
    · rw [h]; exact (HM.out e (HES.out e (last_mem es e h1))).2
  have HW := Lib.hid (And.intro r7 (And.intro r5 rX))
  clear ho5 ho5' k3 k5 hg3 hg5 ho3 hput hmem2 hlast2 hone2 hes2 r7 r5 rX hg7
  refine (h2 w5 hb5).mono ?_
  rintro e w6 ⟨⟨v2, rfl, hv2⟩, hb6⟩
  have hr2 : Rd w6 1 v2 X.length (uv X) := by
    have hb := hb5.trans (hb6.mono hb5.size)
    rcases HX.out.2 with ⟨h1, h⟩ | ⟨e, h1, h⟩
    · rcases hv2 with ⟨_, rfl⟩ | ⟨x, h3, _⟩
      · rw [h]; exact HR.out.keep hb
      · rw [h1] at h3; cases h3
    · rcases hv2 with ⟨h3, _⟩ | ⟨x, h3, rfl⟩
      · rw [h1] at h3; cases h3
      · rw [h1] at h3
        obtain rfl := Option.some.inj h3
        rw [h]; exact (HM.out e (HES.out e (last_mem es e h1))).1.keep hb
  obtain ⟨a2, c2, rfl⟩ := hr2.form
  have hn1 := refNums_any _ _ X X w6 (by omega) (by omega) (HW.out.2.2.keep hb6) hr2
  rw [decide_eq_true rfl] at hn1
  clear h2 hv2 hr2
  go_wp2_with fail
  refine hn1.mono ?_
  rintro e w7 ⟨rfl, hb7⟩
  have hb67 := hb6.trans (hb7.mono hb6.size)
  have hb7 := hb5.trans (hb67.mono hb5.size)
  clear hn1 hb6
  obtain ⟨M2, hM2, hM3⟩ : ∃ M2 : EE → List Nat, (∀ e, MOk w e → M2 e = M e) ∧ (∀ e, ¬ MOk w e → M2 e = [7]) := by
    classical
    exact ⟨fun e => if MOk w e then M e else [7], fun e he => if_pos he, fun e he => if_neg he⟩
  have hL := Latest_list v (.slice va5 es2.length vc5) l w7 (P := fun e => MOk w e ∨ e = putE g7) (.inl (MOk_no w)) HE2.out.2.2 es2 HE2.out.1 M2 (fun e he => by
      by_cases hk : MOk w e
      · rw [hM2 e hk]; exact ⟨(HM.out e hk).1.keep hb7, (HM.out e hk).2⟩
      · rw [hM3 e hk]
        rcases he with he | rfl
        · exact absurd he hk
        · exact ⟨HW.out.1.keep hb67, by decide⟩) (HR.out.keep hb7) hl (HW.out.2.1.keep hb67) (by have := HL2.out; omega)
  rw [HE2.out.2.1] at hL
  have rX7 := HW.out.2.2.keep hb67
  have H2 := Lib.hid hM2
  clear hM2 hM3
  go_wp2_with fail
  refine hL.mono ?_
  rintro e w8 ⟨v8, X8, rfl, r8, hb8, hlast⟩
  have hX8 : X8 = X := by
    rcases HX.out.2 with ⟨h1, h⟩ | ⟨e, h1, h⟩
    · rcases hlast with ⟨_, h3⟩ | ⟨x, h3, _⟩
      · rw [h, h3]
      · rw [h1] at h3; cases h3
    · rcases hlast with ⟨h3, _⟩ | ⟨x, h3, h4⟩
      · rw [h1] at h3; cases h3
      · rw [h1] at h3
        obtain rfl := Option.some.inj h3
        rw [h, h4]; exact H2.out e (HES.out e (last_mem es e h1))
  subst hX8
  obtain ⟨a8, c8, rfl⟩ := r8.form
  have hn2 := refNums_any _ _ X8 X8 w8 (by omega) (by omega) r8 (rX7.keep hb8)
  rw [decide_eq_true rfl] at hn2
  have hb8 := hb7.trans (hb8.mono hb7.size)
  clear hL hlast rX7 r8 hb7
  go_wp2_with fail
  refine hn2.mono ?_
  rintro e w9 ⟨rfl, hb9⟩
  have hb9 := hb8.trans (hb9.mono hb8.size)
  clear hn2 hb8
  go_wp2_with fail
  go_ret
  exact ⟨rfl, hb9⟩
end Go.Proofs.YtckpnihpobfggaaDoor
