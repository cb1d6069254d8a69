/- The laws of sha: ShaHashes, ShaRooted, ShaNarrows. -/
import Derived.Test.YtkcnakijfmemlaaDoorShaL
import Derived.Test.YtkcnakijfmemlaaDoorOpen
import Derived.Stop.BytesEq
namespace Go.Proofs.YtkcnakijfmemlaaDoor
open Go.ChangeShapes Go.WideShapes Go.ChangeAt Go.RowKit Sha

/-- Two hashes are compared. -/
theorem eqIn_hash (xs ys : List UInt8) (hx : xs.length = 32) (hy : ys.length = 32) (w : World) :
    (Op.equalIn 10000 25 (.agg (bv xs).toArray) (.agg (bv ys).toArray)).run Tryd.prog w = .ok (xs == ys) w :=
  run_equalIn_bytes (P := Tryd.prog) w 9998 25 5 32 Tryd.underlying25 Tryd.underlying5 (fun _ => rfl) xs ys hx hy
theorem eq_guard : Tryd.prog.eqGuardType Tryd.prog.depth 25 = false := by kernel_rfl
theorem own_base_rd {w w' : World} {v : Value} {n : Nat} {xs : List Value} (h : Rd w 1 v n xs) (hb : Below w.heap.size w w') : Rd w' 1 v n xs := h.keep hb

set_option maxHeartbeats 4000000 in
set_option maxRecDepth 100000 in
theorem shaHashes_walk (l : List UInt8) (v : Value) (w : World) (hl : l.length ≤ 140737488351232) (hr : Rd w 1 v l.length (bv l)) (hG : TabsR w) :
    Calls Tryd.prog 3 #[v] w fun e w' => e = .returned (.bool true) ∧ Below w.heap.size w w' := by
  have hgd := eq_guard
  go_enter Tryd.func3, Tryd.ntmps3
  go_wp2_with fail
  refine (awake03_any w hG.toTabs).mono ?_
  rintro e w1 ⟨rfl, hb1⟩
  have hr1 := hr.keep hb1
  have hown0 := own_new w1 5 1 0 w1.heap.size [] rfl (by omega) (Nat.le_refl _)
  have hra := hr1.alloc (.cells #[] 5)
  go_wp2_with (at_builtin; go_loud (refine wpList_app Tryd.underlying22 infoU8s rfl (by decide) rfl _ _ rfl rfl rfl hown0 hra (by omega) (by omega) (by simp) ?_))
  intro v2 w2 ho hg _
  have hb2 : Below w1.heap.size w1 w2 := ((Below.refl _ _).alloc (Nat.le_refl _) _).trans (hg.below (by simp) (own_block hown0))
  have hr2 := own_rd ho (bv_one _)
  have hbw2 := hb1.trans (hb2.mono hb1.size)
  clear hown0 hra ho hg
  go_wp2_with fail
  refine (shaSum_any l v2 w2 (by omega) hr2 (hG.toTabs.keepB hbw2)).mono ?_
  rintro e w3 ⟨rfl, hb3⟩
  have hbw3 := hbw2.trans (hb3.mono hbw2.size)
  go_wp2_with fail
  refine (refSumSha_any l v w3 (by omega) (hr.keep hbw3) (hG.keepB hbw3)).mono ?_
  rintro e w4 ⟨rfl, hb4⟩
  have hbw4 := hbw3.trans (hb4.mono hbw3.size)
  have he := fun w => eqIn_hash (Sha.sum l) (Sha.sum l) (sum_length l) (sum_length l) w
  rw [show (Sha.sum l == Sha.sum l) = true by simp] at he
  generalize (bv (Sha.sum l)).toArray = A at *
  have hcv := string_of_bytes (P := Tryd.prog) Tryd.underlying22 Tryd.underlying5 Tryd.underlying9 ((hr2.keep hb3).keep hb4)
  have hcv3 := string_of_bytes (P := Tryd.prog) Tryd.underlying22 Tryd.underlying5 Tryd.underlying9 (hr.keep hbw4)
  go_wp2_with fail
  go_ret
  exact ⟨by simp, hbw4⟩

theorem shaHashes.law (H : Type) (enc : TypeId × Value → H) (W : World) (base : Nat)
    (v0 : Value) (d0 : DataW H) (p0 : List MemPlace) (g0 : Value.okWide Tryd.prog W .any base 22 v0) (h0 : DataW.Trod enc Tryd.prog W 0 (fun _ => true) true 22 v0 d0 p0)
    {ts : List TypeId} {es : List (DataW H)} (hsz : (DataW.weightsEach Tryd.prog ([22] ++ ts) ([d0] ++ es)).all (· ≤ reachBytes) = true) (hG : TabsR W) :
    Calls Tryd.prog 3 #[v0] W fun e W' => e = .returned (.bool true) ∧ Below W.heap.size W W' := by
  obtain ⟨l, hrl, hdl⟩ := open_bytes Tryd.underlying22 Tryd.underlying5 (by kernel_rfl) (okWide_slice Tryd.underlying22 g0) h0
  have hl := bytes_reach (l := l) (j := 0) hsz rfl Tryd.underlying22 (by kernel_rfl) (by rcases hdl with ⟨rfl, rfl⟩ | ⟨s, rfl⟩ <;> simp)
  exact shaHashes_walk l v0 W hl hrl hG

theorem made_zs (m : Nat) : (madeCells #[Value.int .u8 0] m).toList = bv (zs m) := by
  rw [bv_zs]
  apply List.ext_getElem
  · simp [madeCells]
  · intro i h1 h2
    simp [madeCells, Nat.mod_one]
/-- A byte of a read row is written. -/
theorem Rd.setB {w : World} {g n c : Nat} {l : List UInt8} (h : Rd w 1 (.slice (some ⟨g, 0, none⟩) n c) n (bv l)) (k : Nat) (x : UInt8) :
    Rd (w.setCell ⟨g, k, none⟩ (.int .u8 x.toNat)) 1 (.slice (some ⟨g, 0, none⟩) n c) n (bv (l.set k x)) := by
  obtain ⟨h1, h2, h3⟩ := h
  refine ⟨by rw [bv_length, List.length_set, ← bv_length]; exact h1, bv_one _, ?_⟩
  rcases h3 with ⟨h3, _⟩ | ⟨ad, c', h3, hc, hcell⟩
  · cases h3
  · simp only [Value.slice.injEq, Option.some.injEq, true_and] at h3
    obtain ⟨rfl, rfl⟩ := h3
    refine .inr ⟨_, _, rfl, hc, fun j u hu => ?_⟩
    rw [Addr.add_lit, Nat.zero_add]
    have hj : j < l.length := by have := (List.getElem?_eq_some_iff.1 hu).1; rwa [bv_length, List.length_set] at this
    have hold := hcell j (.int .u8 l[j].toNat) (by simp [bv, hj])
    rw [Addr.add_lit, Nat.zero_add] at hold
    simp only [bv, List.getElem?_map, List.getElem?_set] at hu
    by_cases hjk : k = j
    · subst hjk
      rw [if_pos rfl, if_pos hj] at hu
      simp only [Option.map_some, Option.some.injEq] at hu
      rw [← hu]
      exact World.cell?_setCell_same _ _ _ hold
    · rw [if_neg hjk] at hu
      rw [World.cell?_setCell_other _ _ _ _ (by intro e; simp at e), hold, ← hu]
      simp [hj]
set_option maxHeartbeats 4000000 in
set_option maxRecDepth 100000 in
theorem shaRooted_walk (n at_ : Int) (c : UInt8) (w : World) (_hn : -9223372036854775808 ≤ n ∧ n ≤ 9223372036854775807) (_ha : -9223372036854775808 ≤ at_ ∧ at_ ≤ 9223372036854775807) (hG : TabsR w) :
    Calls Tryd.prog 5 #[.int .i64 n, .int .i64 at_, .int .u8 c.toNat] w fun e w' => e = .returned (.bool true) ∧ Below w.heap.size w w' := by
  have hgd := eq_guard
  go_enter Tryd.func5, Tryd.ntmps5
  go_wp2_with fail
  refine (awake03_any w hG.toTabs).mono ?_
  rintro e w1 ⟨rfl, hb1⟩
  obtain ⟨m, hm, hm3⟩ : ∃ m : Nat, (IntKind.u64.wrap n).tmod 301 = (m : Int) ∧ m < 301 := by
    have h0 : 0 ≤ IntKind.u64.wrap n := by
      rw [show IntKind.u64.wrap n = n % 18446744073709551616 from rfl]; omega
    refine ⟨((IntKind.u64.wrap n).tmod 301).toNat, ?_, ?_⟩
    · rw [Int.tmod_eq_emod_of_nonneg h0]; omega
    · rw [Int.tmod_eq_emod_of_nonneg h0]; omega
  have hm64 : wrap64 (m : Int) = (m : Int) := IntWalk.wrap64_in _ (by omega)
  obtain ⟨i, hi, hz0, hz1, hz2⟩ := info_parts infoU8s
  go_wp2_with (at_make; go_loud (refine wpList_make_full _ rfl _ _ 22 rfl w1.heap.size 5 i (.int .u8 0) 1 Tryd.underlying22 hi hz0 hz1 _ _ _ _ m rfl rfl rfl rfl (by rw [hz2]; omega) (by simp [maxLen]; omega) (Nat.le_refl _) ?_))
  intro w2 ho hg2
  rw [made_zs] at ho
  have hb2 : Below w1.heap.size w1 w2 := grown_below hg2
  have hbw2 := hb1.trans (hb2.mono hb1.size)
  by_cases hm0 : m = 0
  · have hmz : ¬ (0 : Int) < (m : Int) := by omega
    have hr3 := own_rd ho (bv_one _)
    have hbw3 := hbw2
    obtain ⟨b, hb, hbl⟩ : ∃ b : List UInt8, b = zs m ∧ b.length = m := ⟨_, rfl, by simp [zs]⟩
    rw [← hb] at hr3
    have hr3 : Rd w2 1 (.slice (some ⟨w1.heap.size, 0, none⟩) m m) b.length (bv b) := by rw [hbl]; exact hr3
    have hl300 : b.length < 301 := by omega
    generalize w2 = w3 at *
    clear ho hg2 hb2 hm64 hb hbl hm0
    iterate 1
      go_wp2_with fail
      refine (shaSum_any b _ w3 (by omega) hr3 (hG.toTabs.keepB hbw3)).mono ?_
      rintro e w4 ⟨rfl, hb4⟩
      have hbw4 := hbw3.trans (hb4.mono hbw3.size)
      go_wp2_with fail
      refine (refSumSha_any b _ w4 (by omega) (hr3.keep hb4) (hG.keepB hbw4)).mono ?_
      rintro e w5 ⟨rfl, hb5⟩
      have hbw5 := hbw4.trans (hb5.mono hbw4.size)
      have he := fun w => eqIn_hash (Sha.sum b) (Sha.sum b) (sum_length b) (sum_length b) w
      rw [show (Sha.sum b == Sha.sum b) = true by simp] at he
      generalize (bv (Sha.sum b)).toArray = A at *
      go_wp2_with fail
      go_ret
      exact ⟨by simp, hbw5⟩
  · have hmz : (0 : Int) < (m : Int) := by omega
    obtain ⟨k, hk, hkm⟩ : ∃ k : Nat, (IntKind.u64.wrap at_).tmod (m : Int) = (k : Int) ∧ k < m := by
      have h0 : 0 ≤ IntKind.u64.wrap at_ := by
        rw [show IntKind.u64.wrap at_ = at_ % 18446744073709551616 from rfl]; omega
      have h1 := Int.emod_lt_of_pos (IntKind.u64.wrap at_) hmz
      have h2 := Int.emod_nonneg (IntKind.u64.wrap at_) (show (m : Int) ≠ 0 by omega)
      refine ⟨((IntKind.u64.wrap at_).tmod m).toNat, ?_, ?_⟩
      · rw [Int.tmod_eq_emod_of_nonneg h0]; omega
      · rw [Int.tmod_eq_emod_of_nonneg h0]; omega
    have hk64 : wrap64 (k : Int) = (k : Int) := IntWalk.wrap64_in _ (by omega)
    have hmu : IntKind.u64.wrap (m : Int) = (m : Int) := IntWalk.u64_in _ (by omega)
    have hmn : ¬ (m : Int) = 0 := by omega
    have hkz : (k : Int) < (m : Int) := by omega
    have hrz := own_rd ho (bv_one _)
    have hck : w2.cell? ⟨w1.heap.size, k, none⟩ = some (.int .u8 (0 : Nat)) := by
      obtain ⟨bb, off, c', hv, hcp, hcell⟩ := hrz.at (by omega)
      simp only [Value.slice.injEq, Option.some.injEq, Addr.mk.injEq, true_and, and_true] at hv
      obtain ⟨⟨rfl, rfl⟩, rfl⟩ := hv
      have := hcell k (.int .u8 (0 : Nat)) (by simp [bv, zs, hkm])
      rwa [Nat.zero_add] at this
    have hfk : w2.frozen? ⟨w1.heap.size, k, none⟩ = false := ho.frozenAt k
    have hr3 := Rd.setB hrz k c
    have hbw3 := hbw2.setCell (p := ⟨w1.heap.size, k, none⟩) hb1.size (.int .u8 c.toNat)
    obtain ⟨b, hb, hbl⟩ : ∃ b : List UInt8, b = (zs m).set k c ∧ b.length = m := ⟨_, rfl, by simp [zs]⟩
    rw [← hb] at hr3
    obtain ⟨w3, hw3⟩ : ∃ x : World, x = w2.setCell ⟨w1.heap.size, k, none⟩ (.int .u8 c.toNat) := ⟨_, rfl⟩
    rw [← hw3] at hr3 hbw3
    have HR := Lib.hid (And.intro hr3 (And.intro hbw3 hw3))
    clear hr3 hbw3 hw3 hrz ho hg2 hb2 hm64 hb
    go_upto_region 6 with fail
    rw [← HR.out.2.2]
    obtain ⟨hr3, hbw3, hx⟩ := HR.out
    have hr3 : Rd w3 1 (.slice (some ⟨w1.heap.size, 0, none⟩) m m) b.length (bv b) := by rw [hbl]; exact hr3
    have hl300 : b.length < 301 := by omega
    clear hck hfk HR hx hbl
    iterate 1
      go_wp2_with fail
      refine (shaSum_any b _ w3 (by omega) hr3 (hG.toTabs.keepB hbw3)).mono ?_
      rintro e w4 ⟨rfl, hb4⟩
      have hbw4 := hbw3.trans (hb4.mono hbw3.size)
      go_wp2_with fail
      refine (refSumSha_any b _ w4 (by omega) (hr3.keep hb4) (hG.keepB hbw4)).mono ?_
      rintro e w5 ⟨rfl, hb5⟩
      have hbw5 := hbw4.trans (hb5.mono hbw4.size)
      have he := fun w => eqIn_hash (Sha.sum b) (Sha.sum b) (sum_length b) (sum_length b) w
      rw [show (Sha.sum b == Sha.sum b) = true by simp] at he
      generalize (bv (Sha.sum b)).toArray = A at *
      go_wp2_with fail
      go_ret
      exact ⟨by simp, hbw5⟩
end Go.Proofs.YtkcnakijfmemlaaDoor
