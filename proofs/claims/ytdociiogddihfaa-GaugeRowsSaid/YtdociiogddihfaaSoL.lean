/- GaugeRows: the walk. -/
import Derived.Test.YtdociiogddihfaaSoK
import Derived.Test.YtdociiogddihfaaGaK
namespace Go.Proofs.Ytdociiogddihfaa
open Go.ChangeShapes Go.WideShapes Go.ChangeAt Go.RowKit

/-- A raw gauge's cells. -/
def rcl (g : GG) : List Value := [.int .u64 g.n, .int .u64 g.m, .int .u64 g.s, .int .u64 g.l, .int .u64 g.h]
theorem infoGauge : (Try.prog.info? 27).map (fun i => (i.zero, i.size, i.bytes)) = some (some (Gv 0 0 0 0 0), 5, 40) := by kernel_rfl
theorem rs_cells {w : World} {q o c n : Nat} {gs : List GG} (h : Rd w 5 (.slice (some ⟨q, o, none⟩) n c) n (gs.flatMap rcl)) {x : Nat} {g : GG} (hg : gs[x]? = some g) (hx : x < n) :
    w.cell? ⟨q, o + x * 5, none⟩ = some (.int .u64 g.n) ∧ w.cell? ⟨q, o + x * 5 + 1, none⟩ = some (.int .u64 g.m) ∧ w.cell? ⟨q, o + x * 5 + 2, none⟩ = some (.int .u64 g.s) ∧ w.cell? ⟨q, o + x * 5 + 3, none⟩ = some (.int .u64 g.l) ∧ w.cell? ⟨q, o + x * 5 + 4, none⟩ = some (.int .u64 g.h) := by
  obtain ⟨q', o', c', hv, hcell⟩ := h.atG (by omega) (by omega)
  simp only [Value.slice.injEq, Option.some.injEq, Addr.mk.injEq, true_and, and_true] at hv
  obtain ⟨⟨rfl, rfl⟩, rfl⟩ := hv
  have key : ∀ (l : List GG) (x k : Nat) (g : GG), l[x]? = some g → k < 5 → (l.flatMap rcl)[x * 5 + k]? = (rcl g)[k]? := by
    intro l
    induction l with
    | nil => intro x k g h; simp at h
    | cons a l ih =>
      intro x k g h hk
      cases x with
      | zero =>
        simp at h; subst h
        rw [List.flatMap_cons, List.getElem?_append_left (by simp [rcl]; omega)]; congr 1; omega
      | succ x =>
        rw [List.getElem?_cons_succ] at h
        rw [List.flatMap_cons, List.getElem?_append_right (by simp [rcl]; omega), ← ih x k g h hk]
        congr 1; simp [rcl]; omega
  exact ⟨hcell (x * 5) _ (key gs x 0 g hg (by omega)), hcell (x * 5 + 1) _ (key gs x 1 g hg (by omega)), hcell (x * 5 + 2) _ (key gs x 2 g hg (by omega)), hcell (x * 5 + 3) _ (key gs x 3 g hg (by omega)), hcell (x * 5 + 4) _ (key gs x 4 g hg (by omega))⟩
/-- One gauge made. -/
theorem rd_gg (w : World) (e : TypeId) (g : GG) : Rd (w.alloc (.cells #[.int .u64 g.n, .float .f64 g.m, .float .f64 g.s, .float .f64 g.l, .float .f64 g.h] e)) 5 (.slice (some ⟨w.heap.size, 0, none⟩) 1 1) 1 (gcl g) := by
  refine ⟨rfl, by simp [gcl, Value.oneCell'], .inr ⟨_, _, rfl, Nat.le_refl _, fun j u hu => ?_⟩⟩
  rw [Addr.add_lit, Nat.zero_add, World.cell?_alloc_at _ _ _ _ rfl]
  simpa [gcl] using hu
set_option maxHeartbeats 8000000 in
set_option maxRecDepth 100000 in
theorem gaugeRows_walk (v : Value) (L : List GG) (w : World) (hq : ∀ g ∈ L, g.n < 18446744073709551616 ∧ g.m < 18446744073709551616) (hl : L.length * 40 ≤ 140737488351232) (hr : Rd w 5 v L.length (L.flatMap rcl)) :
    Calls Try.prog 6 #[v] w fun e w' => e = .returned (.bool true) ∧ Below w.heap.size w w' := by
  obtain ⟨a, c, rfl⟩ := hr.form
  obtain ⟨n, hn⟩ : ∃ n, n = L.length := ⟨_, rfl⟩
  rw [← hn] at hr hl ⊢
  have HR := Lib.hid hr
  have HQ := Lib.hid (And.intro hn hq)
  obtain ⟨W0, hW0⟩ : ∃ q, q = w.heap.size := ⟨_, rfl⟩
  have HW0 := Lib.hid hW0
  clear hr hn hq hW0
  go_enter Try.func6, Try.ntmps6
  go_wp2_with fail
  refine (awake06_any _).mono ?_
  rintro e w1 ⟨rfl, hb1⟩
  have hrd1 := HR.out.keep hb1
  have HR1 := Lib.hid hrd1
  have HB1 := Lib.hid hb1
  clear hb1 hrd1
  go_upto_region 5 with fail
  go_loopw [3, 4] (fun s3 s4 wr => ∃ (k : Nat), s4 = .int .i64 k ∧ k ≤ n ∧ k ≤ 100 ∧ Hid (wr.ownsRow W0 27 5 s3 k ((L.take k).flatMap gcl)) ∧ Hid (Below W0 w wr)) (fun _ k _ => n - (intOf k).toNat)
  case atStart => exact ⟨0, rfl, Nat.zero_le _, by omega, Lib.hid (World.ownsRow_nil _ _ _ _), Lib.hid (by rw [HW0.out]; exact HB1.out)⟩
  case round =>
    obtain ⟨k, rfl, hkn, hk100, HO, HB⟩ := hrel
    obtain ⟨a3, c3, rfl⟩ := own_form HO.out
    by_cases hlt : k < n ∧ k < 100
    · have hz : (k : Int) < (n : Int) := by omega
      have hz2 : (k : Int) < 100 := by omega
      have hz3 : (0 : Int) ≤ (k : Int) := by omega
      have hrd := HR.out.keep (by have := HB.out; rwa [HW0.out] at this)
      obtain ⟨q, o, c', hv, _⟩ := hrd.atG (by omega) (by omega)
      simp only [Value.slice.injEq, true_and] at hv
      obtain ⟨rfl, rfl⟩ := hv
      obtain ⟨g, hg⟩ : ∃ g, L[k]? = some g := ⟨_, List.getElem?_eq_getElem (by have := HQ.out.1; omega)⟩
      have hcc := rs_cells hrd hg hlt.1
      have c0 := hcc.1
      have c1 := hcc.2.1
      have c2 := hcc.2.2.1
      have c3' := hcc.2.2.2.1
      have c4 := hcc.2.2.2.2
      have HG := Lib.hid hg
      clear hrd hcc hg
      go_wp2_with fail
      refine (Raw_gauge g.n g.m g.s g.l g.h wr).mono ?_
      rintro e w2 ⟨rfl, hb2⟩
      have ho2 := own_keep HO.out hb2
      have hb2' := HB.out.trans (hb2.mono (by have := HB.out.size; have := HW0.out; omega))
      obtain ⟨k1, hk1⟩ : ∃ q, q = k + 1 := ⟨_, rfl⟩
      have hx : (L.take k).flatMap gcl ++ gcl g = (L.take k1).flatMap gcl := by
        rw [hk1, List.take_add_one, HG.out]; simp
      have HX := Lib.hid hx
      have HO2 := Lib.hid ho2
      have HB2 := Lib.hid hb2'
      have HK1 := Lib.hid hk1
      clear hb2 c0 c1 c2 c3' c4 HO HB ho2 hb2' hx hk1
      go_wp2_with (at_builtin; go_loud (refine wpList_app Try.underlying51 infoGauge rfl (by decide) rfl _ _ rfl rfl rfl (own_keep HO2.out ((Below.refl _ _).alloc (Nat.le_refl _) _)) (rd_gg w2 27 g) (by omega) (by omega) (by have := HB2.out.size; have := HW0.out; simp; omega) ?_))
      intro v3 w3 ho3 hg3 _
      have hb3 := HB2.out.trans (hg3.alloc.below (by have := HB2.out.size; have := HW0.out; omega) (own_block HO2.out))
      have HO3 := Lib.hid ho3
      have HB3 := Lib.hid hb3
      clear ho3 hg3 hb3 HO2 HB2
      go_wp2_with fail
      go_roundw
      case rel =>
        refine ⟨k1, by have := HK1.out; subst this; go_num, by have := HK1.out; omega, by have := HK1.out; omega, Lib.hid ?_, HB3⟩
        have h := HO3.out
        have hx := HX.out
        have hk := HK1.out
        subst hk
        rw [← hx]; exact h
      case measure => simp [intOf]; omega
    · have htake : (L.take k).length = k := by have := HQ.out.1; simp; omega
      have hq2 : ∀ g ∈ L.take k, g.n < 18446744073709551616 ∧ g.m < 18446744073709551616 := fun g hg => HQ.out.2 g (List.mem_of_mem_take hg)
      obtain ⟨gs, hgs⟩ : ∃ q, q = L.take k := ⟨_, rfl⟩
      have ho := HO.out
      rw [← hgs] at htake hq2 ho
      have hrd : Rd wr 5 (.slice a3 k c3) k (gs.flatMap gcl) := own_rd ho (by
        intro u hu
        obtain ⟨g, _, hg⟩ := List.mem_flatMap.1 hu
        simp only [gcl, List.mem_cons, List.mem_nil_iff, or_false] at hg
        rcases hg with rfl | rfl | rfl | rfl | rfl <;> rfl)
      have HRD := Lib.hid hrd
      have HT := Lib.hid (And.intro htake hq2)
      clear htake hq2 hgs ho hrd HO
      by_cases hkk : k < n
      · have hz : (k : Int) < (n : Int) := by omega
        have hz2 : ¬ (k : Int) < 100 := by omega
        go_wp2_with fail
        refine (GRows_any gs (.slice a3 k c3) k wr HT.out.1 (by omega) HT.out.2 HRD.out).mono ?_
        rintro e w4 ⟨BB, xs, rfl, hrow4, hsrt4, hperm4, hb4⟩
        have H4 := Lib.hid (And.intro hrow4 (And.intro hsrt4 (And.intro hperm4 (And.intro (HRD.out.keep hb4) (HB.out.trans (hb4.mono (by have := HB.out.size; have := HW0.out; omega)))))))
        clear hrow4 hsrt4 hperm4 hb4
        go_wp2_with fail
        refine (RRows_any gs (.slice a3 k c3) k w4 HT.out.1 (by omega) HT.out.2 H4.out.2.2.2.1).mono ?_
        rintro e w5 ⟨v6, rfl, S, hown5, hsrt5, hperm5, hb5⟩
        obtain rfl : xs = S := srt_unique H4.out.2.1 hsrt5 (H4.out.2.2.1.trans hperm5.symm)
        obtain ⟨a6, c6, rfl⟩ := own_form hown5
        have hlen : xs.length = k := by have := hperm5.length_eq; simpa using this
        have hrd6 : Rd w5 1 (.slice a6 k c6) k (sv xs) := own_rd hown5 (by
          intro u hu
          obtain ⟨g, _, rfl⟩ := List.mem_map.1 hu
          rfl)
        have H5 := Lib.hid (And.intro (H4.out.1.keep hb5) (And.intro hrd6 (And.intro hlen (H4.out.2.2.2.2.trans (hb5.mono (by have := H4.out.2.2.2.2.size; have := HW0.out; omega))))))
        clear hown5 hsrt5 hperm5 hrd6 hlen hb5 H4 HRD HT HB
        go_upto_region 13 with fail
        go_loopw [7] (fun s7 wz => ∃ (j : Nat), s7 = .int .i64 j ∧ j ≤ k ∧ Hid (Below w5.heap.size w5 wz)) (fun j _ => k - (intOf j).toNat)
        case atStart => exact ⟨0, rfl, Nat.zero_le _, Lib.hid (Below.refl _ _)⟩
        case round =>
          obtain ⟨j, rfl, hjk, HZ⟩ := hrel
          by_cases hj : j < k
          · have hz9 : (j : Int) < (k : Int) := by omega
            have hz8 : (0 : Int) ≤ (j : Int) := by omega
            obtain ⟨q, o, c', hv, _, hcell⟩ := (H5.out.2.1.keep HZ.out).at (by omega)
            simp only [Value.slice.injEq, true_and] at hv
            obtain ⟨rfl, rfl⟩ := hv
            obtain ⟨x, hx⟩ : ∃ x, xs[j]? = some x := ⟨_, List.getElem?_eq_getElem (by have := H5.out.2.2.1; omega)⟩
            have d1 := (H5.out.1.keep HZ.out).cell hx
            have d2 := hcell j (.int .i64 x) (by simp [sv, hx])
            have mixed : Try.prog.follows .mixedOrders = true := by kernel_rfl
            clear hcell hx
            go_upto_region 15 with fail
            go_big_region_o
            go_wp2_with fail
            go_roundw
            case rel => exact ⟨j + 1, by go_num, by omega, Lib.hid HZ.out.drew⟩
            case measure => simp [intOf]; omega
          · obtain rfl : j = k := by omega
            have hz9 : ¬ (j : Int) < (j : Int) := by omega
            go_wp2_with fail
            go_ret
            exact ⟨rfl, by rw [← HW0.out]; exact H5.out.2.2.2.trans (HZ.out.mono (by have := H5.out.2.2.2.size; have := HW0.out; omega))⟩
      · have hz : ¬ (k : Int) < (n : Int) := by omega
        go_wp2_with fail
        refine (GRows_any gs (.slice a3 k c3) k wr HT.out.1 (by omega) HT.out.2 HRD.out).mono ?_
        rintro e w4 ⟨BB, xs, rfl, hrow4, hsrt4, hperm4, hb4⟩
        have H4 := Lib.hid (And.intro hrow4 (And.intro hsrt4 (And.intro hperm4 (And.intro (HRD.out.keep hb4) (HB.out.trans (hb4.mono (by have := HB.out.size; have := HW0.out; omega)))))))
        clear hrow4 hsrt4 hperm4 hb4
        go_wp2_with fail
        refine (RRows_any gs (.slice a3 k c3) k w4 HT.out.1 (by omega) HT.out.2 H4.out.2.2.2.1).mono ?_
        rintro e w5 ⟨v6, rfl, S, hown5, hsrt5, hperm5, hb5⟩
        obtain rfl : xs = S := srt_unique H4.out.2.1 hsrt5 (H4.out.2.2.1.trans hperm5.symm)
        obtain ⟨a6, c6, rfl⟩ := own_form hown5
        have hlen : xs.length = k := by have := hperm5.length_eq; simpa using this
        have hrd6 : Rd w5 1 (.slice a6 k c6) k (sv xs) := own_rd hown5 (by
          intro u hu
          obtain ⟨g, _, rfl⟩ := List.mem_map.1 hu
          rfl)
        have H5 := Lib.hid (And.intro (H4.out.1.keep hb5) (And.intro hrd6 (And.intro hlen (H4.out.2.2.2.2.trans (hb5.mono (by have := H4.out.2.2.2.2.size; have := HW0.out; omega))))))
        clear hown5 hsrt5 hperm5 hrd6 hlen hb5 H4 HRD HT HB
        go_upto_region 13 with fail
        go_loopw [7] (fun s7 wz => ∃ (j : Nat), s7 = .int .i64 j ∧ j ≤ k ∧ Hid (Below w5.heap.size w5 wz)) (fun j _ => k - (intOf j).toNat)
        case atStart => exact ⟨0, rfl, Nat.zero_le _, Lib.hid (Below.refl _ _)⟩
        case round =>
          obtain ⟨j, rfl, hjk, HZ⟩ := hrel
          by_cases hj : j < k
          · have hz9 : (j : Int) < (k : Int) := by omega
            have hz8 : (0 : Int) ≤ (j : Int) := by omega
            obtain ⟨q, o, c', hv, _, hcell⟩ := (H5.out.2.1.keep HZ.out).at (by omega)
            simp only [Value.slice.injEq, true_and] at hv
            obtain ⟨rfl, rfl⟩ := hv
            obtain ⟨x, hx⟩ : ∃ x, xs[j]? = some x := ⟨_, List.getElem?_eq_getElem (by have := H5.out.2.2.1; omega)⟩
            have d1 := (H5.out.1.keep HZ.out).cell hx
            have d2 := hcell j (.int .i64 x) (by simp [sv, hx])
            have mixed : Try.prog.follows .mixedOrders = true := by kernel_rfl
            clear hcell hx
            go_upto_region 15 with fail
            go_big_region_o
            go_wp2_with fail
            go_roundw
            case rel => exact ⟨j + 1, by go_num, by omega, Lib.hid HZ.out.drew⟩
            case measure => simp [intOf]; omega
          · obtain rfl : j = k := by omega
            have hz9 : ¬ (j : Int) < (j : Int) := by omega
            go_wp2_with fail
            go_ret
            exact ⟨rfl, by rw [← HW0.out]; exact H5.out.2.2.2.trans (HZ.out.mono (by have := H5.out.2.2.2.size; have := HW0.out; omega))⟩
end Go.Proofs.Ytdociiogddihfaa
