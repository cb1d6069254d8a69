/- The reference's Root, Split, Hashes. (printed by gen/leafr.py, then cut) -/
import Derived.Test.YtdjmebfjanophaaDoorLeafT
namespace Go.Proofs.YtdjmebfjanophaaDoor
open Go.RowKit Sha Root

set_option maxHeartbeats 2000000 in
theorem Split_any (n : Nat) (w : World) (h2 : 2 ≤ n) (hn : n ≤ 140737488355328) :
    Calls Tryd.prog 44 #[.int .i64 n] w fun e w' => e = .returned (.int .i64 (top n)) ∧ Below w.heap.size w w' := by
  go_enter Tryd.func44, Tryd.ntmps44
  go_wp2_with fail
  go_loopw [3] (fun s3 wr => ∃ K p : Nat, K = 2 ^ p ∧ s3 = .int .i64 K ∧ K < n ∧ Below w.heap.size w wr) (fun s3 _ => n - (intOf s3).toNat)
  case atStart => exact ⟨1, 0, rfl, rfl, by omega, Below.refl _ _⟩
  case round =>
    obtain ⟨K, p, hK, rfl, hKn, hb⟩ := hrel
    have hK1 : 1 ≤ K := by rw [hK]; exact Nat.pow_pos (by omega)
    have zw : IntKind.i64.wrap ((n : Int) - (K : Int)) = (n : Int) - (K : Int) := IntWalk.i64_in _ (by omega)
    have HK := Lib.hid hK
    clear hK
    by_cases hlt : K < n - K
    · have z1 : (K : Int) < (n : Int) - (K : Int) := by omega
      go_wp2_with fail
      go_roundw
      case rel => exact ⟨K * 2, p + 1, by rw [HK.out, Nat.pow_succ], by go_num, by omega, hb⟩
      case measure => simp [intOf]; omega
    · have z1 : ¬ (K : Int) < (n : Int) - (K : Int) := by omega
      go_wp2_with fail
      go_ret
      refine ⟨congrArg (fun q : Nat => Ending.returned (Value.int .i64 (q : Int))) ?_, hb⟩
      have := HK.out
      rw [this]
      exact (hi_unique (n - 1) p (by omega) (by rw [Nat.pow_succ]; omega)).symm

set_option maxHeartbeats 4000000 in
set_option maxRecDepth 100000 in
theorem refRoot_nil (n : Int) (a : Option Addr) (c : Nat) (w : World) (hn : -9223372036854775808 ≤ n ∧ n ≤ 9223372036854775807) (hT : TabsR w) :
    Calls Tryd.prog 45 #[.int .i64 n, .slice a ([] : List (List UInt8)).length c] w fun e w' => e = .returned (.agg (bv (rootH n [])).toArray) ∧ Below w.heap.size w w' := by
  have hz := (zero_of_info info32).1
  have hol := emptyH_length n
  have H0 := fun wx (h : Below w.heap.size w wx) => refEmpty_any n wx hn (hT.keepB h)
  rw [show rootH n [] = emptyH n from rfl]
  obtain ⟨out, hout⟩ : ∃ x, x = emptyH n := ⟨_, rfl⟩
  rw [← hout] at H0 hol ⊢
  have HE := Lib.hid H0
  have HOL := Lib.hid hol
  clear H0 hol hout
  go_enter Tryd.func45, Tryd.ntmps45
  go_wp2_with fail
  have hb0 : Below w.heap.size w (w.alloc (.cells (bv (zs 32)).toArray 33)) := (Below.refl _ _).alloc (Nat.le_refl _) _
  refine (HE.out _ hb0).mono ?_
  rintro e w1 ⟨rfl, hb1⟩
  have hres1 : w1.heap[w.heap.size]? = some (.cells (bv (zs 32)).toArray 33 (0, 0)) := (hb1.block _ (by simp)).trans (heap_alloc_new _ _)
  have hbw1 := hb0.trans (hb1.mono (by simp))
  have HX := Lib.hid (And.intro hres1 hbw1)
  clear hb0 hb1 hres1 hbw1
  go_wp2_with (with_reducible show wpList _ _ _ (⟨none, Op.store _ _ _, _, _, _, _⟩ :: _) _ _; refine wpList_store_whole rfl _ _ _ rfl w.heap.size (bv out) rfl rfl _ _ HX.out.1 (hInfo' _ HOL.out) (by rw [bv_length, bv_length, HOL.out]; simp [zs]) (bv_one _) ?_; intro w9 HG9 hg9)
  refine bodyPost_ret (v := .agg (bv out).toArray) ?_ ?_ ?_
  · exact results_cell_row Tryd.results45 _ _ w.heap.size 33 _ (0, 0) _ rfl HG9.out Tryd.underlying33 rfl (hInfo _ HOL.out)
  · rfl
  · exact ⟨rfl, below_grow HX.out.2 hg9 (Nat.le_refl _) (Array.getElem?_eq_some_iff.1 HX.out.1).1⟩
set_option maxHeartbeats 4000000 in
set_option maxRecDepth 100000 in
theorem refRoot_one (n : Int) (x : List UInt8) (a : Option Addr) (c : Nat) (w : World) (hx : x.length = 32) (hr : Rd w 32 (.slice a ([x] : List (List UInt8)).length c) ([x] : List (List UInt8)).length (([x] : List (List UInt8)).flatMap bv)) (_hT : TabsR w) :
    Calls Tryd.prog 45 #[.int .i64 n, .slice a ([x] : List (List UInt8)).length c] w fun e w' => e = .returned (.agg (bv (rootH n [x])).toArray) ∧ Below w.heap.size w w' := by
  have hz := (zero_of_info info32).1
  rw [show rootH n [x] = x from rfl]
  obtain ⟨b, off, c', hv, _, hcell⟩ := hr.atN (by simp) (by omega)
  simp only [Value.slice.injEq, true_and] at hv
  obtain ⟨rfl, rfl⟩ := hv
  have hrg : w.rangeAt b off (bv x) := fun j u hu => hcell j u (by simpa using hu)
  have hbw : b < w.heap.size := World.block_lt_of_cell? w _ (hrg 0 _ (List.getElem?_eq_getElem (by rw [bv_length, hx]; omega)))
  have hrg0 : (w.alloc (.cells (bv (zs 32)).toArray 33)).rangeAt b off (bv x) := fun j u hu => (((Below.refl w.heap.size w).alloc (Nat.le_refl _) _).cell (p := ⟨b, off + j, none⟩) hbw).trans (hrg j u hu)
  have HRG := Lib.hid hrg0
  have HX := Lib.hid hx
  have H7 := Lib.hid (heap_alloc_new w (.cells (bv (zs 32)).toArray 33))
  clear hrg hrg0 hx hcell hr
  go_enter Tryd.func45, Tryd.ntmps45
  go_wp2_with (first
    | (with_reducible show wpList _ _ _ (⟨some 17, _, _, _, _, _⟩ :: _) _ _; refine wpList_load_mid rfl _ _ rfl b off rfl (bv x) _ HRG.out Tryd.underlying33 rfl (hInfo' _ HX.out) ?_)
    | (with_reducible show wpList _ _ _ (⟨none, Op.store _ _ _, _, _, _, _⟩ :: _) _ _; refine wpList_store_whole rfl _ _ _ rfl w.heap.size (bv x) rfl rfl (bv (zs 32)) _ H7.out (hInfo' _ HX.out) (by rw [bv_length, bv_length, HX.out]; simp [zs]) (bv_one _) ?_; intro w9 HG9 hg9))
  refine bodyPost_ret (v := .agg (bv x).toArray) ?_ ?_ ?_
  · exact results_cell_row Tryd.results45 _ _ w.heap.size 33 _ (0, 0) _ rfl HG9.out Tryd.underlying33 rfl (hInfo _ HX.out)
  · rfl
  · exact ⟨rfl, below_grow ((Below.refl _ _).alloc (Nat.le_refl _) _) hg9 (Nat.le_refl _) (by simp)⟩

/-- What each operation hands on. -/
def rrF (n : Int) (b off m c t R : Nat) (ra rb rt : List UInt8) : Nat → Value → World → Prop
  | 0, v, _ => v = .int .i64 n
  | 1, v, _ => v = .int .i64 n
  | 2, v, _ => v = .slice (some ⟨b, off, none⟩) m c
  | 3, v, _ => v = .int .i64 (t : Nat)
  | 4, v, _ => v = .slice (some ⟨b, off, none⟩) t c
  | 5, v, _ => v = .agg (bv ra).toArray
  | 6, v, _ => v = .int .i64 n
  | 7, v, _ => v = .slice (some ⟨b, off, none⟩) m c
  | 8, v, _ => v = .int .i64 (t : Nat)
  | 9, v, _ => v = .slice (some ⟨b, off + t * 32, none⟩) (m - t) (c - t)
  | 10, v, _ => v = .agg (bv rb).toArray
  | 11, v, _ => v = .agg (bv rt).toArray
  | 12, _, w => w.heap[R]? = some (.cells (bv rt).toArray 33 (0, 0))
  | _, _, _ => True

set_option maxHeartbeats 8000000 in
set_option maxRecDepth 100000 in
theorem refRoot_any (n : Int) (hn : -9223372036854775808 ≤ n ∧ n ≤ 9223372036854775807) : ∀ (f : Nat) (ls : List (List UInt8)) (a : Option Addr) (c : Nat) (w : World), ls.length ≤ f → (∀ p ∈ ls, p.length = 32) → ls.length ≤ 140737488355328 → Rd w 32 (.slice a ls.length c) ls.length (ls.flatMap bv) → TabsR w →
    Calls Tryd.prog 45 #[.int .i64 n, .slice a ls.length c] w fun e w' => e = .returned (.agg (bv (rootH n ls)).toArray) ∧ Below w.heap.size w w' := by
  intro f
  induction f with
  | zero => 
    intro ls a c w hf h32 hl hr hT
    have h0 : ls = [] := List.eq_nil_of_length_eq_zero (by omega)
    subst h0
    exact refRoot_nil n a c w hn hT
  | succ f ih =>
    intro ls a c w hf h32 hl hr hT
    by_cases h0 : ls.length = 0
    · have h0 : ls = [] := List.eq_nil_of_length_eq_zero h0
      subst h0
      exact refRoot_nil n a c w hn hT
    by_cases h1 : ls.length = 1
    · obtain ⟨x, rfl⟩ : ∃ x, ls = [x] := by
        match ls, h1 with
        | [x], _ => exact ⟨x, rfl⟩
      exact refRoot_one n x a c w (h32 x (by simp)) hr hT
    · have hm2 : 2 ≤ ls.length := by omega
      obtain ⟨b, off, c', hv, hcap, hcell⟩ := hr.atN (by omega) (by omega)
      simp only [Value.slice.injEq, true_and] at hv
      obtain ⟨rfl, rfl⟩ := hv
      have hz := (zero_of_info info32).1
      obtain ⟨t, ht⟩ : ∃ t, t = top ls.length := ⟨_, rfl⟩
      have ht1 : 1 ≤ t := by rw [ht]; exact hi_pos _
      have htl : t < ls.length := by have := hi_le (ls.length - 1) (by omega); rw [ht]; unfold top; omega
      have hroot : rootH n ls = nodeH n (rootH n (ls.take t)) (rootH n (ls.drop t)) := by rw [ht]; exact rootL_node (nodeH n) (emptyH n) ls hm2
      have hla : (ls.take t).length = t := by rw [List.length_take]; omega
      have hlb : (ls.drop t).length = ls.length - t := by rw [List.length_drop]
      have hRA : Rd w 32 (.slice (some ⟨b, off, none⟩) t c) t ((ls.take t).flatMap bv) := by rw [flat_take32 _ _ h32]; exact rd_take hr t (by omega)
      have hRB : Rd w 32 (.slice (some ⟨b, off + t * 32, none⟩) (ls.length - t) (c - t)) (ls.length - t) ((ls.drop t).flatMap bv) := by rw [flat_drop32 _ _ h32]; exact rd_drop hr t (by omega)
      have hra := fun wx (h : Below w.heap.size w wx) => ih (ls.take t) (some ⟨b, off, none⟩) c wx (by omega) (fun q hq => h32 q (List.mem_of_mem_take hq)) (by omega) (by rw [hla]; exact hRA.keep h) (hT.keepB h)
      have hrb := fun wx (h : Below w.heap.size w wx) => ih (ls.drop t) (some ⟨b, off + t * 32, none⟩) (c - t) wx (by omega) (fun q hq => h32 q (List.mem_of_mem_drop hq)) (by omega) (by rw [hlb]; exact hRB.keep h) (hT.keepB h)
      rw [hla] at hra
      rw [hlb] at hrb
      have l1 := rootH_32 n (ls.take t) (fun q hq => h32 q (List.mem_of_mem_take hq))
      have l2 := rootH_32 n (ls.drop t) (fun q hq => h32 q (List.mem_of_mem_drop hq))
      have l3 := rootH_32 n ls h32
      have hnd := fun wx (h : Below w.heap.size w wx) => refNode_any n _ _ wx l1 l2 hn (hT.keepB h)
      rw [← hroot] at hnd
      have hsp := fun wx => Split_any ls.length wx hm2 hl
      rw [← ht] at hsp
      obtain ⟨rt, hrt⟩ : ∃ x, x = rootH n ls := ⟨_, rfl⟩
      rw [← hrt] at hnd l3 ⊢
      obtain ⟨ra, hra'⟩ : ∃ x, x = rootH n (ls.take t) := ⟨_, rfl⟩
      obtain ⟨rb, hrb'⟩ : ∃ x, x = rootH n (ls.drop t) := ⟨_, rfl⟩
      obtain ⟨m, hm⟩ : ∃ m, m = ls.length := ⟨_, rfl⟩
      rw [← hra'] at hra hnd
      rw [← hrb'] at hrb hnd
      rw [← hm] at hsp hrb hcap htl hm2 hl ⊢
      have HSP := Lib.hid hsp
      have HOL := Lib.hid l3
      have HA0 := Lib.hid hra
      have HB0 := Lib.hid hrb
      have HN0 := Lib.hid hnd
      clear hsp l1 l2 l3 hra hrb hnd hRA hRB hla hlb hroot ht hcell hr hT ih h32 hm hrt hf h0 h1 hra' hrb'
      go_enter Tryd.func45, Tryd.ntmps45
      have y0 : ((m : Int) == 0) = false := by simp; omega
      have y1 : ((m : Int) == 1) = false := by simp; omega
      go_wp2_with fail
      refine (HSP.out _).mono ?_
      rintro e w1 ⟨rfl, hb1⟩
      obtain ⟨R, hR⟩ : ∃ R, R = w.heap.size := ⟨_, rfl⟩
      have hb0 : Below w.heap.size w (w.alloc (.cells (bv (zs 32)).toArray 33)) := (Below.refl _ _).alloc (Nat.le_refl _) _
      have hrow0 : w1.heap[R]? = some (.cells (bv (zs 32)).toArray 33 (0, 0)) := by rw [hR]; exact (hb1.block _ (by simp)).trans (heap_alloc_new _ _)
      have hbw : Below w.heap.size w w1 := hb0.trans (hb1.mono (by simp))
      have hRs : R ≤ w1.heap.size := by rw [hR]; exact hbw.size
      have HBW := Lib.hid hbw
      have HRE := Lib.hid hR
      have HRA := Lib.hid (fun wx (h : Below R w1 wx) => HA0.out wx (hbw.trans (by rw [← hR]; exact h)))
      have HRB := Lib.hid (fun wx (h : Below R w1 wx) => HB0.out wx (hbw.trans (by rw [← hR]; exact h)))
      have HND := Lib.hid (fun wx (h : Below R w1 wx) => HN0.out wx (hbw.trans (by rw [← hR]; exact h)))
      rw [← hR]
      clear hb0 hb1 hbw hR HA0 HB0 HN0 HSP y0 y1
      go_upto_region 7 with fail
      refine wp_region_until [some 20, some 21, some 22, some 23, some 24, some 25, some 26, some 27, some 28, some 29, some 30, some 31, none] [] 12 (fun wx => wx.heap[R]? = some (.cells (bv (zs 32)).toArray 33 (0, 0))) [0, 1, 2, 3, 4, 5, 6, 7, 8, 9, 10, 11, 12] (rrF n b off m c t R ra rb rt) (kOne 12 R) (fun wx => Below R w1 wx) (by kernel_rfl) (by kernel_rfl) rfl (by kernel_rfl) (by kernel_rfl) (Below.refl _ _).drew hrow0 ((fun _ hj _ _ k h => ((kOne_below hj k).block _ (Array.getElem?_eq_some_iff.1 h).1).trans h)) (fun _ _ => kOne_refl _ _ _ _) (fun _ _ _ h k => h.trans (kOne_base (Nat.le_trans hRs h.size) k)) ?hF ?hstep ?hend
      case hF =>
        exact ⟨fun _ _ _ _ _ _ h => h, ⟨fun _ _ _ _ _ _ h => h, ⟨fun _ _ _ _ _ _ h => h, ⟨fun _ _ _ _ _ _ h => h, ⟨fun _ _ _ _ _ _ h => h, ⟨fun _ _ _ _ _ _ h => h, ⟨fun _ _ _ _ _ _ h => h, ⟨fun _ _ _ _ _ _ h => h, ⟨fun _ _ _ _ _ _ h => h, ⟨fun _ _ _ _ _ _ h => h, ⟨fun _ _ _ _ _ _ h => h, ⟨fun _ _ _ _ _ _ h => h, ⟨fun j hg _ _ _ k h => ((kOne_below (fun e => by subst e; exact absurd hg (by rw [show goneB _ 12 12 = true by kernel_rfl]; simp)) k).block _ (Array.getElem?_eq_some_iff.1 h).1).trans h, trivial⟩⟩⟩⟩⟩⟩⟩⟩⟩⟩⟩⟩⟩
      case hstep =>
        -- operation 0: Op.move (tmp 0)
        refine ⟨fun r wx hG hs hq hf => ?_, ?_⟩
        · have hQ := hq rfl
          have e0 : r 0 = .int .i64 n := hs 0 rfl
          refine (if_pos rfl).symm ▸ ?_
          clear hs hq hf
          unfold gives
          go_simp
          exact ⟨kOne_refl _ _ _ _, rfl⟩
        -- operation 1: Op.move (tmp 0)
        refine ⟨fun r wx hG hs hq hf => ?_, ?_⟩
        · have hQ := hq rfl
          have e0 : r 0 = .int .i64 n := hs 0 rfl
          refine (if_pos rfl).symm ▸ ?_
          clear hs hq hf
          unfold gives
          go_simp
          exact ⟨kOne_refl _ _ _ _, rfl⟩
        -- operation 2: Op.move (tmp 1)
        refine ⟨fun r wx hG hs hq hf => ?_, ?_⟩
        · have hQ := hq rfl
          have e1 : r 1 = .slice (some ⟨b, off, none⟩) m c := hs 1 rfl
          refine (if_pos rfl).symm ▸ ?_
          clear hs hq hf
          unfold gives
          go_simp
          exact ⟨kOne_refl _ _ _ _, rfl⟩
        -- operation 3: Op.move (tmp 6)
        refine ⟨fun r wx hG hs hq hf => ?_, ?_⟩
        · have hQ := hq rfl
          have e6 : r 6 = .int .i64 t := hs 6 rfl
          refine (if_pos rfl).symm ▸ ?_
          clear hs hq hf
          unfold gives
          go_simp
          exact ⟨kOne_refl _ _ _ _, rfl⟩
        -- operation 4: Op.slice 30 (tmp 22) none (some (tmp 23)) none
        refine ⟨fun r wx hG hs hq hf => ?_, ?_⟩
        · have hQ := hq rfl
          have h2 : r 22 = .slice (some ⟨b, off, none⟩) m c := hf.1
          have h3 : r 23 = .int .i64 (t : Nat) := hf.2.1
          refine (if_pos rfl).symm ▸ ?_
          clear hs hq hf
          unfold gives
          have z0 : (0 : Int) ≤ (t : Int) := by omega
          have z1 : (t : Int) ≤ (c : Int) := by omega
          go_simp
          exact ⟨kOne_refl _ _ _ _, rfl⟩
        -- operation 5: Op.call ( callee := Callee.value (func 17), args := #[tmp 21, tmp 24], argTypes := #[3, 30] )
        refine ⟨fun r wx hG hs hq hf => ?_, ?_⟩
        · have hQ := hq rfl
          have h1 : r 21 = .int .i64 n := hf.1
          have h4 : r 24 = .slice (some ⟨b, off, none⟩) t c := hf.2.1
          refine (if_pos rfl).symm ▸ ?_
          clear hs hq hf
          unfold gives
          go_simp
          refine (HRA.out wx hG).mono ?_
          rintro e wy ⟨rfl, hb1⟩
          exact ⟨_, rfl, kOne_of rfl hb1, rfl⟩
        -- operation 6: Op.move (tmp 0)
        refine ⟨fun r wx hG hs hq hf => ?_, ?_⟩
        · have hQ := hq rfl
          have e0 : r 0 = .int .i64 n := hs 0 rfl
          refine (if_pos rfl).symm ▸ ?_
          clear hs hq hf
          unfold gives
          go_simp
          exact ⟨kOne_refl _ _ _ _, rfl⟩
        -- operation 7: Op.move (tmp 1)
        refine ⟨fun r wx hG hs hq hf => ?_, ?_⟩
        · have hQ := hq rfl
          have e1 : r 1 = .slice (some ⟨b, off, none⟩) m c := hs 1 rfl
          refine (if_pos rfl).symm ▸ ?_
          clear hs hq hf
          unfold gives
          go_simp
          exact ⟨kOne_refl _ _ _ _, rfl⟩
        -- operation 8: Op.move (tmp 6)
        refine ⟨fun r wx hG hs hq hf => ?_, ?_⟩
        · have hQ := hq rfl
          have e6 : r 6 = .int .i64 t := hs 6 rfl
          refine (if_pos rfl).symm ▸ ?_
          clear hs hq hf
          unfold gives
          go_simp
          exact ⟨kOne_refl _ _ _ _, rfl⟩
        -- operation 9: Op.slice 30 (tmp 27) (some (tmp 28)) none none
        refine ⟨fun r wx hG hs hq hf => ?_, ?_⟩
        · have hQ := hq rfl
          have h7 : r 27 = .slice (some ⟨b, off, none⟩) m c := hf.1
          have h8 : r 28 = .int .i64 (t : Nat) := hf.2.1
          refine (if_pos rfl).symm ▸ ?_
          clear hs hq hf
          unfold gives
          have z0 : (0 : Int) ≤ (t : Int) := by omega
          have z1 : (t : Int) ≤ (m : Int) := by omega
          have z2 : (m : Int) ≤ (c : Int) := by omega
          have z3 : ¬ c = t := by omega
          have z4 : ((m : Int) - (t : Int)).toNat = m - t := by omega
          have z5 : ((c : Int) - (t : Int)).toNat = c - t := by omega
          go_simp
          exact ⟨kOne_refl _ _ _ _, rfl⟩
        -- operation 10: Op.call ( callee := Callee.value (func 17), args := #[tmp 26, tmp 29], argTypes := #[3, 30] )
        refine ⟨fun r wx hG hs hq hf => ?_, ?_⟩
        · have hQ := hq rfl
          have h6 : r 26 = .int .i64 n := hf.1
          have h9 : r 29 = .slice (some ⟨b, off + t * 32, none⟩) (m - t) (c - t) := hf.2.1
          refine (if_pos rfl).symm ▸ ?_
          clear hs hq hf
          unfold gives
          go_simp
          refine (HRB.out wx hG).mono ?_
          rintro e wy ⟨rfl, hb1⟩
          exact ⟨_, rfl, kOne_of rfl hb1, rfl⟩
        -- operation 11: Op.call ( callee := Callee.value (func 15), args := #[tmp 20, tmp 25, tmp 30], argTypes := #[3, 24, 24] )
        refine ⟨fun r wx hG hs hq hf => ?_, ?_⟩
        · have hQ := hq rfl
          have h0 : r 20 = .int .i64 n := hf.1
          have h5 : r 25 = .agg (bv ra).toArray := hf.2.1
          have h10 : r 30 = .agg (bv rb).toArray := hf.2.2.1
          refine (if_pos rfl).symm ▸ ?_
          clear hs hq hf
          unfold gives
          go_simp
          refine (HND.out wx hG).mono ?_
          rintro e wy ⟨rfl, hb1⟩
          exact ⟨_, rfl, kOne_of rfl hb1, rfl⟩
        -- operation 12: Op.store 24 (tmp 4) (tmp 31)
        refine ⟨fun r wx hG hs hq hf => ?_, ?_⟩
        · have hQ := hq rfl
          have e4 : r 4 = .pointer (some ⟨R, 0, none⟩) := hs 4 rfl
          have h11 : r 31 = .agg (bv rt).toArray := hf.1
          refine (if_pos rfl).symm ▸ ?_
          clear hs hq hf
          unfold gives
          refine gives_store_row 33 _ _ rfl R (bv rt) e4 h11 (bv (zs 32)) 33 hQ (hInfo' _ HOL.out) (by rw [bv_length, bv_length, HOL.out]; simp [zs]) (bv_one _) ?_
          intro wy h1 h2
          exact ⟨kOne_at (below_grow (Below.refl _ _) h2 (Nat.le_refl _) (Array.getElem?_eq_some_iff.1 hQ).1), h1⟩
        exact trivial
      case hend =>
        intro u wz hG hfin
        have z12 : wz.heap[R]? = some (.cells (bv rt).toArray 33 (0, 0)) := hfin 12 (by decide) (by kernel_rfl)
        clear hfin
        simp only [fill]
        go_simp
        go_wp2_with fail
        refine bodyPost_ret (v := .agg (bv rt).toArray) ?_ ?_ ?_
        · exact results_cell_row Tryd.results45 _ _ R 33 _ (0, 0) _ rfl z12 Tryd.underlying33 rfl (hInfo _ HOL.out)
        · rfl
        · exact ⟨rfl, HBW.out.trans (hG.mono (by rw [HRE.out]; exact Nat.le_refl _))⟩

/-- What each operation hands on. -/
def rhF (b1 o1 b2 o2 m c1 c2 i : Nat) (x : List UInt8) : Nat → Value → World → Prop
  | 0, v, _ => v = .slice (some ⟨b1, o1, none⟩) m c1
  | 1, v, _ => v = .int .i64 (i : Nat)
  | 2, v, _ => v = .pointer (some ⟨b1, o1 + i * 32, none⟩)
  | 3, v, _ => v = .agg (bv x).toArray
  | 4, v, _ => v = .slice (some ⟨b2, o2, none⟩) m c2
  | 5, v, _ => v = .int .i64 (i : Nat)
  | 6, v, _ => v = .pointer (some ⟨b2, o2 + i * 32, none⟩)
  | 7, v, _ => v = .agg (bv x).toArray
  | 8, v, _ => v = .bool false
  | _, _, _ => True

set_option maxHeartbeats 8000000 in
set_option maxRecDepth 100000 in
theorem Hashes_any (ls : List (List UInt8)) (u v : Value) (w : World) (h32 : ∀ p ∈ ls, p.length = 32) (hl : ls.length ≤ 140737488355328) (hu : Rd w 32 u ls.length (ls.flatMap bv)) (hv : Rd w 32 v ls.length (ls.flatMap bv)) :
    Calls Tryd.prog 18 #[u, v] w fun e w' => e = .returned (.bool true) ∧ Below w.heap.size w w' := by
  obtain ⟨a1, c1, rfl⟩ := hu.form
  obtain ⟨a2, c2, rfl⟩ := hv.form
  have HU := Lib.hid hu
  have HV := Lib.hid hv
  clear hu hv
  go_enter Tryd.func18, Tryd.ntmps18
  go_wp2_with fail
  go_loopw [5] (fun s5 wr => ∃ i : Nat, i ≤ ls.length ∧ s5 = .int .i64 i ∧ Below w.heap.size w wr) (fun s5 _ => ls.length - (intOf s5).toNat)
  case atStart => exact ⟨0, by omega, rfl, Below.refl _ _⟩
  case round =>
    obtain ⟨i, hi, rfl, hb⟩ := hrel
    by_cases hlt : i < ls.length
    · have y1 : (i : Int) < (ls.length : Int) := by omega
      obtain ⟨x, hx⟩ : ∃ x, ls[i]? = some x := ⟨ls[i], List.getElem?_eq_getElem hlt⟩
      have hx32 := h32 x (List.mem_of_getElem? hx)
      obtain ⟨b1, o1, c1', hv1, _, hc1⟩ := (HU.out.keep hb).atN (by omega) (by omega)
      obtain ⟨b2, o2, c2', hv2, _, hc2⟩ := (HV.out.keep hb).atN (by omega) (by omega)
      simp only [Value.slice.injEq, true_and] at hv1 hv2
      obtain ⟨rfl, rfl⟩ := hv1
      obtain ⟨rfl, rfl⟩ := hv2
      have hr1 : wr.rangeAt b1 (o1 + i * 32) (bv x) := fun j q hq => by
        have hj : j < 32 := by have := (List.getElem?_eq_some_iff.1 hq).1; rwa [bv_length, hx32] at this
        have := hc1 (i * 32 + j) q (by rw [flat_at32 ls i j x h32 hx hj]; exact hq)
        rwa [← Nat.add_assoc] at this
      have hr2 : wr.rangeAt b2 (o2 + i * 32) (bv x) := fun j q hq => by
        have hj : j < 32 := by have := (List.getElem?_eq_some_iff.1 hq).1; rwa [bv_length, hx32] at this
        have := hc2 (i * 32 + j) q (by rw [flat_at32 ls i j x h32 hx hj]; exact hq)
        rwa [← Nat.add_assoc] at this
      have hb1 : b1 < wr.heap.size := World.block_lt_of_cell? wr _ (hr1 0 _ (List.getElem?_eq_getElem (by rw [bv_length, hx32]; omega)))
      have hb2 : b2 < wr.heap.size := World.block_lt_of_cell? wr _ (hr2 0 _ (List.getElem?_eq_getElem (by rw [bv_length, hx32]; omega)))
      have hq := fun w => eqIn_hash x x hx32 hx32 w
      simp only [beq_self_eq_true] at hq
      obtain ⟨m, hm⟩ : ∃ m, m = ls.length := ⟨_, rfl⟩
      rw [← hm] at y1 hlt ⊢
      have HRG := Lib.hid (And.intro hr1 hr2)
      have HX32 := Lib.hid hx32
      have HEQ := Lib.hid hq
      have HB := Lib.hid hb
      clear hr1 hr2 hx32 hq hb hc1 hc2 hx hm HU HV h32
      go_upto_region 6 with fail
      refine wp_region_steps [some 17, some 18, some 19, some 20, some 21, some 22, some 23, some 24, some 25] [] (rhF b1 o1 b2 o2 m c1 c2 i x) (fun _ wx wy => Below wx.heap.size wx wy) (fun wx => Below wr.heap.size wr wx) (by kernel_rfl) (by kernel_rfl) rfl (by kernel_rfl) (Below.refl _ _).drew (fun _ wx => Below.refl _ _) (fun _ wx wy h k => h.trans (k.mono h.size)) ?hF ?hstep ?hend
      case hF =>
        exact ⟨fun _ _ _ _ _ _ h => h, ⟨fun _ _ _ _ _ _ h => h, ⟨fun _ _ _ _ _ _ h => h, ⟨fun _ _ _ _ _ _ h => h, ⟨fun _ _ _ _ _ _ h => h, ⟨fun _ _ _ _ _ _ h => h, ⟨fun _ _ _ _ _ _ h => h, ⟨fun _ _ _ _ _ _ h => h, ⟨fun _ _ _ _ _ _ h => h, trivial⟩⟩⟩⟩⟩⟩⟩⟩⟩
      case hstep =>
        -- operation 0: Op.move (tmp 0)
        refine ⟨fun r wx hG hs hq hf => ?_, ?_⟩
        · have e0 : r 0 = .slice (some ⟨b1, o1, none⟩) m c1 := hs 0 rfl
          refine (if_pos rfl).symm ▸ ?_
          clear hs hq hf
          unfold gives
          go_simp
          exact ⟨Below.refl _ _, rfl⟩
        -- operation 1: Op.move (tmp 5)
        refine ⟨fun r wx hG hs hq hf => ?_, ?_⟩
        · have e5 : r 5 = .int .i64 i := hs 5 rfl
          refine (if_pos rfl).symm ▸ ?_
          clear hs hq hf
          unfold gives
          go_simp
          exact ⟨Below.refl _ _, rfl⟩
        -- operation 2: Op.indexAddr 30 (tmp 17) (tmp 18)
        refine ⟨fun r wx hG hs hq hf => ?_, ?_⟩
        · have h0 : r 17 = .slice (some ⟨b1, o1, none⟩) m c1 := hf.1
          have h1 : r 18 = .int .i64 (i : Nat) := hf.2.1
          refine (if_pos rfl).symm ▸ ?_
          clear hs hq hf
          unfold gives
          have z0 : (0 : Int) ≤ (i : Int) := by omega
          have z1 : (i : Int) < (m : Int) := by omega
          go_simp
          exact ⟨Below.refl _ _, rfl⟩
        -- operation 3: Op.load 24 (tmp 19)
        refine ⟨fun r wx hG hs hq hf => ?_, ?_⟩
        · have h2 : r 19 = .pointer (some ⟨b1, o1 + i * 32, none⟩) := hf.1
          refine (if_pos rfl).symm ▸ ?_
          clear hs hq hf
          unfold gives
          refine gives_load_mid 33 _ rfl b1 (o1 + i * 32) h2 (bv x) _ (fun q u hu => (hG.cell (p := ⟨b1, o1 + i * 32 + q, none⟩) hb1).trans (HRG.out.1 q u hu)) Tryd.underlying33 rfl (hInfo' _ HX32.out) ⟨Below.refl _ _, rfl⟩
        -- operation 4: Op.move (tmp 1)
        refine ⟨fun r wx hG hs hq hf => ?_, ?_⟩
        · have e1 : r 1 = .slice (some ⟨b2, o2, none⟩) m c2 := hs 1 rfl
          refine (if_pos rfl).symm ▸ ?_
          clear hs hq hf
          unfold gives
          go_simp
          exact ⟨Below.refl _ _, rfl⟩
        -- operation 5: Op.move (tmp 5)
        refine ⟨fun r wx hG hs hq hf => ?_, ?_⟩
        · have e5 : r 5 = .int .i64 i := hs 5 rfl
          refine (if_pos rfl).symm ▸ ?_
          clear hs hq hf
          unfold gives
          go_simp
          exact ⟨Below.refl _ _, rfl⟩
        -- operation 6: Op.indexAddr 30 (tmp 21) (tmp 22)
        refine ⟨fun r wx hG hs hq hf => ?_, ?_⟩
        · have h4 : r 21 = .slice (some ⟨b2, o2, none⟩) m c2 := hf.1
          have h5 : r 22 = .int .i64 (i : Nat) := hf.2.1
          refine (if_pos rfl).symm ▸ ?_
          clear hs hq hf
          unfold gives
          have z0 : (0 : Int) ≤ (i : Int) := by omega
          have z1 : (i : Int) < (m : Int) := by omega
          go_simp
          exact ⟨Below.refl _ _, rfl⟩
        -- operation 7: Op.load 24 (tmp 23)
        refine ⟨fun r wx hG hs hq hf => ?_, ?_⟩
        · have h6 : r 23 = .pointer (some ⟨b2, o2 + i * 32, none⟩) := hf.1
          refine (if_pos rfl).symm ▸ ?_
          clear hs hq hf
          unfold gives
          refine gives_load_mid 33 _ rfl b2 (o2 + i * 32) h6 (bv x) _ (fun q u hu => (hG.cell (p := ⟨b2, o2 + i * 32 + q, none⟩) hb2).trans (HRG.out.2 q u hu)) Tryd.underlying33 rfl (hInfo' _ HX32.out) ⟨Below.refl _ _, rfl⟩
        -- operation 8: Op.binOp BinOp.neq 24 (tmp 20) (tmp 24) 24
        refine ⟨fun r wx hG hs hq hf => ?_, ?_⟩
        · have h3 : r 20 = .agg (bv x).toArray := hf.1
          have h7 : r 24 = .agg (bv x).toArray := hf.2.1
          refine (if_pos rfl).symm ▸ ?_
          clear hs hq hf
          unfold gives
          have hgd := eq_guard
          have he := HEQ.out wx
          go_simp
          exact ⟨Below.refl _ _, rfl⟩
        exact trivial
      case hend =>
        intro u wz hG hfin
        have z8 : u 8 = .bool false := hfin 8 (by decide) (by kernel_rfl)
        clear hfin
        simp only [fill]
        go_simp
        go_wp2_with fail
        go_roundw
        case rel => exact ⟨i + 1, by omega, by go_num, HB.out.trans (hG.mono HB.out.size)⟩
        case measure => simp [intOf]; omega
    · have y1 : ¬ (i : Int) < (ls.length : Int) := by omega
      go_wp2_with fail
      go_ret
      exact ⟨rfl, hb⟩
end Go.Proofs.YtdjmebfjanophaaDoor
