/- The law MacMarks. -/
import Derived.Test.YtkcnakijfmemlaaDoorDerive
import Derived.Test.YtkcnakijfmemlaaDoorRows
namespace Go.Proofs.YtkcnakijfmemlaaDoor
open Go.ChangeShapes Go.WideShapes Go.ChangeAt Go.RowKit Sha

set_option maxHeartbeats 4000000 in
set_option maxRecDepth 100000 in
theorem macMarks_walk (key text : List UInt8) (n : Nat) (v v1 : Value) (w : World) (hl : key.length ≤ 140737488351232) (hl1 : text.length ≤ 140737488351232) (hn : n < 18446744073709551616) (hr : Rd w 1 v key.length (bv key)) (hr1 : Rd w 1 v1 text.length (bv text)) (hT : TabsR w) :
    Calls Tryd.prog 11 #[v, v1, .int .u64 n] w fun e w' => e = .returned (.bool true) ∧ Below w.heap.size w w' := by
  have hgd := eq_guard
  have HR := Lib.hid (And.intro hr hr1)
  clear hr hr1
  go_enter Tryd.func11, Tryd.ntmps11
  go_wp2_with fail
  refine (awake04_any w hT.toTabs).mono ?_
  rintro e w1 ⟨rfl, hb1⟩
  have hown0 := own_new w1 5 1 0 w1.heap.size [] rfl (by omega) (Nat.le_refl _)
  have hra := (HR.out.1.keep hb1).alloc (.cells #[] 5)
  go_wp2_with (at_builtin; go_loud (refine wpList_app Tryd.underlying22 infoU8s rfl (by decide) rfl _ _ rfl rfl rfl hown0 hra (by omega) (by omega) (by simp) ?_))
  intro v2 w2 ho hg _
  have hb2 : Below w1.heap.size w1 w2 := ((Below.refl _ _).alloc (Nat.le_refl _) _).trans (hg.below (by simp) (own_block hown0))
  have hr2 : Rd w2 1 v2 key.length (bv key) := by
    have h := own_rd ho (bv_one _)
    simpa using h
  have hbw2 := hb1.trans (hb2.mono hb1.size)
  have H2 := Lib.hid (And.intro hr2 hbw2)
  clear hown0 hra ho hg hb2 hr2 hbw2 hb1
  go_upto_region 4 with fail
  have hown0 := own_new w2 5 1 0 w2.heap.size [] rfl (by omega) (Nat.le_refl _)
  have hra := (HR.out.2.keep H2.out.2).alloc (.cells #[] 5)
  go_wp2_with (at_builtin; go_loud (refine wpList_app Tryd.underlying22 infoU8s rfl (by decide) rfl _ _ rfl rfl rfl hown0 hra (by omega) (by omega) (by simp) ?_))
  intro v3 w3 ho hg _
  have hb3 : Below w2.heap.size w2 w3 := ((Below.refl _ _).alloc (Nat.le_refl _) _).trans (hg.below (by simp) (own_block hown0))
  have hr3 : Rd w3 1 v3 text.length (bv text) := by
    have h := own_rd ho (bv_one _)
    simpa using h
  have hrk3 := H2.out.1.keep hb3
  have hbw3 := H2.out.2.trans (hb3.mono H2.out.2.size)
  have H3 := Lib.hid (And.intro hrk3 (And.intro hr3 hbw3))
  clear hown0 hra ho hg hb3 hr3 hrk3 hbw3 H2
  go_upto_region 5 with fail
  go_wp2_with fail
  refine (macMark_any key text v2 v3 w3 (by omega) (by omega) H3.out.1 H3.out.2.1 (hT.toTabs.keepB H3.out.2.2)).mono ?_
  rintro e w4 ⟨rfl, hb4⟩
  have hbw4 := H3.out.2.2.trans (hb4.mono H3.out.2.2.size)
  go_wp2_with fail
  refine (refMark_any key text v v1 w4 hl (by omega) (HR.out.1.keep hbw4) (HR.out.2.keep hbw4) (hT.keepB hbw4)).mono ?_
  rintro e w5 ⟨rfl, hb5⟩
  have hbw5 := hbw4.trans (hb5.mono hbw4.size)
  have hrk5 := (H3.out.1.keep hb4).keep hb5
  have hrt5 := (H3.out.2.1.keep hb4).keep hb5
  have he := fun w => eqIn_hash (macB key text) (macB key text) (macB_length _ _) (macB_length _ _) w
  simp only [BEq.rfl] at he
  generalize (bv (macB key text)).toArray = A at *
  have H5 := Lib.hid (And.intro hrk5 (And.intro hrt5 hbw5))
  clear hrk5 hrt5 hbw5 hb5 hb4 hbw4 H3
  go_wp2_with fail
  refine (Derive_any key n v2 w5 (by omega) hn H5.out.1 (hT.toTabs.keepB H5.out.2.2)).mono ?_
  rintro e w6 ⟨rfl, hb6⟩
  have hbw6 := H5.out.2.2.trans (hb6.mono H5.out.2.2.size)
  go_wp2_with fail
  refine (refDerive_any key n v w6 hl hn (HR.out.1.keep hbw6) (hT.keepB hbw6)).mono ?_
  rintro e w7 ⟨rfl, hb7⟩
  have hbw7 := hbw6.trans (hb7.mono hbw6.size)
  have he2 := fun w => eqIn_hash (macB key (nodeT n)) (macB key (nodeT n)) (macB_length _ _) (macB_length _ _) w
  simp only [BEq.rfl] at he2
  generalize (bv (macB key (nodeT n))).toArray = A2 at *
  have hcv1 := string_of_bytes (P := Tryd.prog) Tryd.underlying22 Tryd.underlying5 Tryd.underlying9 ((H5.out.1.keep hb6).keep hb7)
  have hcv2 := string_of_bytes (P := Tryd.prog) Tryd.underlying22 Tryd.underlying5 Tryd.underlying9 (HR.out.1.keep hbw7)
  have hcv3 := string_of_bytes (P := Tryd.prog) Tryd.underlying22 Tryd.underlying5 Tryd.underlying9 ((H5.out.2.1.keep hb6).keep hb7)
  have hcv4 := string_of_bytes (P := Tryd.prog) Tryd.underlying22 Tryd.underlying5 Tryd.underlying9 (HR.out.2.keep hbw7)
  clear hb6 hb7 hbw6 H5
  go_wp2_with fail
  go_ret
  exact ⟨by simp, hbw7⟩

theorem macMarks.law (H : Type) (enc : TypeId × Value → H) (W : World) (base : Nat)
    (v0 : Value) (d0 : DataW H) (p0 : List MemPlace) (g0 : Value.okWide Tryd.prog W .any base 22 v0) (h0 : DataW.Trod enc Tryd.prog W 0 (fun _ => true) true 22 v0 d0 p0)
    (v1 : Value) (d1 : DataW H) (p1 : List MemPlace) (g1 : Value.okWide Tryd.prog W .any base 22 v1) (h1 : DataW.Trod enc Tryd.prog W 0 (fun _ => true) true 22 v1 d1 p1)
    (v2 : Value) (d2 : DataW H) (p2 : List MemPlace) (g2 : Value.okWide Tryd.prog W .any base 36 v2) (h2 : DataW.Trod enc Tryd.prog W 0 (fun _ => true) true 36 v2 d2 p2)
    {ts : List TypeId} {es : List (DataW H)} (hsz : (DataW.weightsEach Tryd.prog ([22, 22, 36] ++ ts) ([d0, d1, d2] ++ es)).all (· ≤ reachBytes) = true) (hG : TabsR W) :
    Calls Tryd.prog 11 #[v0, v1, v2] W fun e W' => e = .returned (.bool true) ∧ Below W.heap.size W W' := by
  obtain ⟨l, hrl, hdl⟩ := open_bytes Tryd.underlying22 Tryd.underlying5 (by kernel_rfl) (okWide_slice Tryd.underlying22 g0) h0
  have hl := bytes_reach (l := l) (j := 0) hsz rfl Tryd.underlying22 (by kernel_rfl) (by rcases hdl with ⟨rfl, rfl⟩ | ⟨s, rfl⟩ <;> simp)
  obtain ⟨m, hrm, hdm⟩ := open_bytes Tryd.underlying22 Tryd.underlying5 (by kernel_rfl) (okWide_slice Tryd.underlying22 g1) h1
  have hm := bytes_reach (l := m) (j := 1) hsz rfl Tryd.underlying22 (by kernel_rfl) (by rcases hdm with ⟨rfl, rfl⟩ | ⟨s, rfl⟩ <;> simp)
  obtain ⟨a, rfl, _, _, wa⟩ := open_int Tryd.underlying36 g2 h2
  obtain ⟨a, rfl, ha⟩ := u64_nat wa
  exact macMarks_walk l m a v0 v1 W hl hm ha hrl hrm hG
end Go.Proofs.YtkcnakijfmemlaaDoor
