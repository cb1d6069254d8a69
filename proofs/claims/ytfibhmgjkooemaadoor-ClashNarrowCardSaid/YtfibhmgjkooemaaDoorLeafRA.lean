/- Parts of lists that are read: plain words. · The reference's Root, Split, Hashes. (printed by gen/leafr.py, then cut) -/
import Derived.Test.YtfibhmgjkooemaaDoorLeafI
namespace Go.Proofs.YtfibhmgjkooemaaDoor
open Go.RowKit Sha Root

theorem rd_take {w : World} {size : Nat} {a : Option Addr} {n c : Nat} {xs : List Value} (h : Rd w size (.slice a n c) n xs) (k : Nat) (hk : k ≤ n) : Rd w size (.slice a k c) k (xs.take (k * size)) := by
  obtain ⟨hl, h1, ⟨hv, h0⟩ | ⟨ad, c', hv, hc, hcell⟩⟩ := h
  · simp only [Value.slice.injEq] at hv
    obtain ⟨rfl, h2, rfl⟩ := hv
    obtain rfl : k = 0 := by omega
    exact ⟨by simp, by simp, .inl ⟨rfl, rfl⟩⟩
  · simp only [Value.slice.injEq, true_and] at hv
    obtain ⟨rfl, rfl⟩ := hv
    have hle : k * size ≤ n * size := Nat.mul_le_mul_right _ hk
    refine ⟨by rw [List.length_take]; omega, fun u hu => h1 u (List.mem_of_mem_take hu), .inr ⟨ad, c, rfl, by omega, fun j u hu => hcell j u ?_⟩⟩
    have hj : j < k * size := by have := (List.getElem?_eq_some_iff.1 hu).1; rw [List.length_take] at this; omega
    rwa [List.getElem?_take_of_lt hj] at hu
theorem rd_drop {w : World} {size b off n c : Nat} {xs : List Value} (h : Rd w size (.slice (some ⟨b, off, none⟩) n c) n xs) (k : Nat) (hk : k ≤ n) : Rd w size (.slice (some ⟨b, off + k * size, none⟩) (n - k) (c - k)) (n - k) (xs.drop (k * size)) := by
  obtain ⟨hl, h1, ⟨hv, h0⟩ | ⟨ad, c', hv, hc, hcell⟩⟩ := h
  · simp at hv
  · simp only [Value.slice.injEq, Option.some.injEq, true_and] at hv
    obtain ⟨rfl, rfl⟩ := hv
    refine ⟨by rw [List.length_drop, hl, Nat.sub_mul], fun u hu => h1 u (List.mem_of_mem_drop hu), .inr ⟨_, _, rfl, by omega, fun j u hu => ?_⟩⟩
    rw [List.getElem?_drop] at hu
    have := hcell (k * size + j) u hu
    rw [Addr.add_lit] at this ⊢
    rwa [← Nat.add_assoc] at this
theorem take_one_eq {α : Type} {l : List α} {x : α} (h : l[0]? = some x) : l.take 1 = [x] := by
  cases l with
  | nil => simp at h
  | cons a l => simp at h; subst h; rfl
theorem top_of (p m : Nat) (h1 : 2 ^ p < m) (h2 : m ≤ 2 * 2 ^ p) : top m = 2 ^ p := by
  unfold top
  exact hi_unique (m - 1) p (by omega) (by rw [Nat.pow_succ]; omega)
end Go.Proofs.YtfibhmgjkooemaaDoor
namespace Go.Proofs.YtfibhmgjkooemaaDoor
open Go.RowKit Sha Root

set_option maxHeartbeats 2000000 in
theorem Split_any (n : Nat) (w : World) (h2 : 2 ≤ n) (hn : n ≤ 140737488355328) :
    Calls Tryd.prog 35 #[.int .i64 n] w fun e w' => e = .returned (.int .i64 (top n)) ∧ Below w.heap.size w w' := by
  go_enter Tryd.func35, Tryd.ntmps35
  go_wp2_with fail
  go_loopw [3] (fun s3 wr => ∃ K p : Nat, K = 2 ^ p ∧ s3 = .int .i64 K ∧ K < n ∧ Below w.heap.size w wr) (fun s3 _ => n - (intOf s3).toNat)
  case atStart => exact ⟨1, 0, rfl, rfl, by omega, Below.refl _ _⟩
  case round =>
    obtain ⟨K, p, hK, rfl, hKn, hb⟩ := hrel
    have hK1 : 1 ≤ K := by rw [hK]; exact Nat.pow_pos (by omega)
    have zw : IntKind.i64.wrap ((n : Int) - (K : Int)) = (n : Int) - (K : Int) := IntWalk.i64_in _ (by omega)
    have HK := Lib.hid hK
    clear hK
    by_cases hlt : K < n - K
    · have z1 : (K : Int) < (n : Int) - (K : Int) := by omega
      go_wp2_with fail
      go_roundw
      case rel => exact ⟨K * 2, p + 1, by rw [HK.out, Nat.pow_succ], by go_num, by omega, hb⟩
      case measure => simp [intOf]; omega
    · have z1 : ¬ (K : Int) < (n : Int) - (K : Int) := by omega
      go_wp2_with fail
      go_ret
      refine ⟨congrArg (fun q : Nat => Ending.returned (Value.int .i64 (q : Int))) ?_, hb⟩
      have := HK.out
      rw [this]
      exact (hi_unique (n - 1) p (by omega) (by rw [Nat.pow_succ]; omega)).symm

set_option maxHeartbeats 4000000 in
set_option maxRecDepth 100000 in
theorem refRoot_nil (n : Int) (a : Option Addr) (c : Nat) (w : World) (hn : -9223372036854775808 ≤ n ∧ n ≤ 9223372036854775807) (hT : TabsR w) :
    Calls Tryd.prog 62 #[.int .i64 n, .slice a ([] : List (List UInt8)).length c] w fun e w' => e = .returned (.agg (bv (rootH n [])).toArray) ∧ Below w.heap.size w w' := by
  have hz := (zero_of_info info32).1
  have hol := emptyH_length n
  have H0 := fun wx (h : Below w.heap.size w wx) => refEmpty_any n wx hn (hT.keepB h)
  rw [show rootH n [] = emptyH n from rfl]
  obtain ⟨out, hout⟩ : ∃ x, x = emptyH n := ⟨_, rfl⟩
  rw [← hout] at H0 hol ⊢
  have HE := Lib.hid H0
  have HOL := Lib.hid hol
  clear H0 hol hout
  go_enter Tryd.func62, Tryd.ntmps62
  go_wp2_with fail
  have hb0 : Below w.heap.size w (w.alloc (.cells (bv (zs 32)).toArray 35)) := (Below.refl _ _).alloc (Nat.le_refl _) _
  refine (HE.out _ hb0).mono ?_
  rintro e w1 ⟨rfl, hb1⟩
  have hres1 : w1.heap[w.heap.size]? = some (.cells (bv (zs 32)).toArray 35 (0, 0)) := (hb1.block _ (by simp)).trans (heap_alloc_new _ _)
  have hbw1 := hb0.trans (hb1.mono (by simp))
  have HX := Lib.hid (And.intro hres1 hbw1)
  clear hb0 hb1 hres1 hbw1
  go_wp2_with (with_reducible show wpList _ _ _ (⟨none, Op.store _ _ _, _, _, _, _⟩ :: _) _ _; refine wpList_store_whole rfl _ _ _ rfl w.heap.size (bv out) rfl rfl _ _ HX.out.1 (hInfo' _ HOL.out) (by rw [bv_length, bv_length, HOL.out]; simp [zs]) (bv_one _) ?_; intro w9 HG9 hg9)
  refine bodyPost_ret (v := .agg (bv out).toArray) ?_ ?_ ?_
  · exact results_cell_row Tryd.results62 _ _ w.heap.size 35 _ (0, 0) _ rfl HG9.out Tryd.underlying35 rfl (hInfo _ HOL.out)
  · rfl
  · exact ⟨rfl, below_grow HX.out.2 hg9 (Nat.le_refl _) (Array.getElem?_eq_some_iff.1 HX.out.1).1⟩
set_option maxHeartbeats 4000000 in
set_option maxRecDepth 100000 in
theorem refRoot_one (n : Int) (x : List UInt8) (a : Option Addr) (c : Nat) (w : World) (hx : x.length = 32) (hr : Rd w 32 (.slice a ([x] : List (List UInt8)).length c) ([x] : List (List UInt8)).length (([x] : List (List UInt8)).flatMap bv)) (_hT : TabsR w) :
    Calls Tryd.prog 62 #[.int .i64 n, .slice a ([x] : List (List UInt8)).length c] w fun e w' => e = .returned (.agg (bv (rootH n [x])).toArray) ∧ Below w.heap.size w w' := by
  have hz := (zero_of_info info32).1
  rw [show rootH n [x] = x from rfl]
  obtain ⟨b, off, c', hv, _, hcell⟩ := hr.atN (by simp) (by omega)
  simp only [Value.slice.injEq, true_and] at hv
  obtain ⟨rfl, rfl⟩ := hv
  have hrg : w.rangeAt b off (bv x) := fun j u hu => hcell j u (by simpa using hu)
  have hbw : b < w.heap.size := World.block_lt_of_cell? w _ (hrg 0 _ (List.getElem?_eq_getElem (by rw [bv_length, hx]; omega)))
  have hrg0 : (w.alloc (.cells (bv (zs 32)).toArray 35)).rangeAt b off (bv x) := fun j u hu => (((Below.refl w.heap.size w).alloc (Nat.le_refl _) _).cell (p := ⟨b, off + j, none⟩) hbw).trans (hrg j u hu)
  have HRG := Lib.hid hrg0
  have HX := Lib.hid hx
  have H7 := Lib.hid (heap_alloc_new w (.cells (bv (zs 32)).toArray 35))
  clear hrg hrg0 hx hcell hr
  go_enter Tryd.func62, Tryd.ntmps62
  go_wp2_with (first
    | (with_reducible show wpList _ _ _ (⟨some 17, _, _, _, _, _⟩ :: _) _ _; refine wpList_load_mid rfl _ _ rfl b off rfl (bv x) _ HRG.out Tryd.underlying35 rfl (hInfo' _ HX.out) ?_)
    | (with_reducible show wpList _ _ _ (⟨none, Op.store _ _ _, _, _, _, _⟩ :: _) _ _; refine wpList_store_whole rfl _ _ _ rfl w.heap.size (bv x) rfl rfl (bv (zs 32)) _ H7.out (hInfo' _ HX.out) (by rw [bv_length, bv_length, HX.out]; simp [zs]) (bv_one _) ?_; intro w9 HG9 hg9))
  refine bodyPost_ret (v := .agg (bv x).toArray) ?_ ?_ ?_
  · exact results_cell_row Tryd.results62 _ _ w.heap.size 35 _ (0, 0) _ rfl HG9.out Tryd.underlying35 rfl (hInfo _ HX.out)
  · rfl
  · exact ⟨rfl, below_grow ((Below.refl _ _).alloc (Nat.le_refl _) _) hg9 (Nat.le_refl _) (by simp)⟩

/-- What each operation hands on. -/
def rrF (n : Int) (b off m c t R : Nat) (ra rb rt : List UInt8) : Nat → Value → World → Prop
  | 0, v, _ => v = .int .i64 n
  | 1, v, _ => v = .int .i64 n
  | 2, v, _ => v = .slice (some ⟨b, off, none⟩) m c
  | 3, v, _ => v = .int .i64 (t : Nat)
  | 4, v, _ => v = .slice (some ⟨b, off, none⟩) t c
  | 5, v, _ => v = .agg (bv ra).toArray
  | 6, v, _ => v = .int .i64 n
  | 7, v, _ => v = .slice (some ⟨b, off, none⟩) m c
  | 8, v, _ => v = .int .i64 (t : Nat)
  | 9, v, _ => v = .slice (some ⟨b, off + t * 32, none⟩) (m - t) (c - t)
  | 10, v, _ => v = .agg (bv rb).toArray
  | 11, v, _ => v = .agg (bv rt).toArray
  | 12, _, w => w.heap[R]? = some (.cells (bv rt).toArray 35 (0, 0))
  | _, _, _ => True

set_option maxHeartbeats 8000000 in
set_option maxRecDepth 100000 in
theorem refRoot_any (n : Int) (hn : -9223372036854775808 ≤ n ∧ n ≤ 9223372036854775807) : ∀ (f : Nat) (ls : List (List UInt8)) (a : Option Addr) (c : Nat) (w : World), ls.length ≤ f → (∀ p ∈ ls, p.length = 32) → ls.length ≤ 140737488355328 → Rd w 32 (.slice a ls.length c) ls.length (ls.flatMap bv) → TabsR w →
    Calls Tryd.prog 62 #[.int .i64 n, .slice a ls.length c] w fun e w' => e = .returned (.agg (bv (rootH n ls)).toArray) ∧ Below w.heap.size w w' := by
  intro f
  induction f with
  | zero => 
    intro ls a c w hf h32 hl hr hT
    have h0 : ls = [] := List.eq_nil_of_length_eq_zero (by omega)
    subst h0
    exact refRoot_nil n a c w hn hT
  | succ f ih =>
    intro ls a c w hf h32 hl hr hT
    by_cases h0 : ls.length = 0
    · have h0 : ls = [] := List.eq_nil_of_length_eq_zero h0
      subst h0
      exact refRoot_nil n a c w hn hT
    by_cases h1 : ls.length = 1
    · obtain ⟨x, rfl⟩ : ∃ x, ls = [x] := by
        match ls, h1 with
        | [x], _ => exact ⟨x, rfl⟩
      exact refRoot_one n x a c w (h32 x (by simp)) hr hT
    · have hm2 : 2 ≤ ls.length := by omega
      obtain ⟨b, off, c', hv, hcap, hcell⟩ := hr.atN (by omega) (by omega)
      simp only [Value.slice.injEq, true_and] at hv
      obtain ⟨rfl, rfl⟩ := hv
      have hz := (zero_of_info info32).1
      obtain ⟨t, ht⟩ : ∃ t, t = top ls.length := ⟨_, rfl⟩
      have ht1 : 1 ≤ t := by rw [ht]; exact hi_pos _
      have htl : t < ls.length := by have := hi_le (ls.length - 1) (by omega); rw [ht]; unfold top; omega
      have hroot : rootH n ls = nodeH n (rootH n (ls.take t)) (rootH n (ls.drop t)) := by rw [ht]; exact rootL_node (nodeH n) (emptyH n) ls hm2
      have hla : (ls.take t).length = t := by rw [List.length_take]; omega
      have hlb : (ls.drop t).length = ls.length - t := by rw [List.length_drop]
      have hRA : Rd w 32 (.slice (some ⟨b, off, none⟩) t c) t ((ls.take t).flatMap bv) := by rw [flat_take32 _ _ h32]; exact rd_take hr t (by omega)
      have hRB : Rd w 32 (.slice (some ⟨b, off + t * 32, none⟩) (ls.length - t) (c - t)) (ls.length - t) ((ls.drop t).flatMap bv) := by rw [flat_drop32 _ _ h32]; exact rd_drop hr t (by omega)
      have hra := fun wx (h : Below w.heap.size w wx) => ih (ls.take t) (some ⟨b, off, none⟩) c wx (by omega) (fun q hq => h32 q (List.mem_of_mem_take hq)) (by omega) (by rw [hla]; exact hRA.keep h) (hT.keepB h)
      have hrb := fun wx (h : Below w.heap.size w wx) => ih (ls.drop t) (some ⟨b, off + t * 32, none⟩) (c - t) wx (by omega) (fun q hq => h32 q (List.mem_of_mem_drop hq)) (by omega) (by rw [hlb]; exact hRB.keep h) (hT.keepB h)
      rw [hla] at hra
      rw [hlb] at hrb
      have l1 := rootH_32 n (ls.take t) (fun q hq => h32 q (List.mem_of_mem_take hq))
      have l2 := rootH_32 n (ls.drop t) (fun q hq => h32 q (List.mem_of_mem_drop hq))
      have l3 := rootH_32 n ls h32
      have hnd := fun wx (h : Below w.heap.size w wx) => refNode_any n _ _ wx l1 l2 hn (hT.keepB h)
      rw [← hroot] at hnd
      have hsp := fun wx => Split_any ls.length wx hm2 hl
      rw [← ht] at hsp
      obtain ⟨rt, hrt⟩ : ∃ x, x = rootH n ls := ⟨_, rfl⟩
      rw [← hrt] at hnd l3 ⊢
      obtain ⟨ra, hra'⟩ : ∃ x, x = rootH n (ls.take t) := ⟨_, rfl⟩
      obtain ⟨rb, hrb'⟩ : ∃ x, x = rootH n (ls.drop t) := ⟨_, rfl⟩
      obtain ⟨m, hm⟩ : ∃ m, m = ls.length := ⟨_, rfl⟩
      rw [← hra'] at hra hnd
      rw [← hrb'] at hrb hnd
      rw [← hm] at hsp hrb hcap htl hm2 hl ⊢
      have HSP := Lib.hid hsp
      have HOL := Lib.hid l3
      have HA0 := Lib.hid hra
      have HB0 := Lib.hid hrb
      have HN0 := Lib.hid hnd
      clear hsp l1 l2 l3 hra hrb hnd hRA hRB hla hlb hroot ht hcell hr hT ih h32 hm hrt hf h0 h1 hra' hrb'
      go_enter Tryd.func62, Tryd.ntmps62
      have y0 : ((m : Int) == 0) = false := by simp; omega
      have y1 : ((m : Int) == 1) = false := by simp; omega
      go_wp2_with fail
      refine (HSP.out _).mono ?_
      rintro e w1 ⟨rfl, hb1⟩
      obtain ⟨R, hR⟩ : ∃ R, R = w.heap.size := ⟨_, rfl⟩
      have hb0 : Below w.heap.size w (w.alloc (.cells (bv (zs 32)).toArray 35)) := (Below.refl _ _).alloc (Nat.le_refl _) _
      have hrow0 : w1.heap[R]? = some (.cells (bv (zs 32)).toArray 35 (0, 0)) := by rw [hR]; exact (hb1.block _ (by simp)).trans (heap_alloc_new _ _)
      have hbw : Below w.heap.size w w1 := hb0.trans (hb1.mono (by simp))
      have hRs : R ≤ w1.heap.size := by rw [hR]; exact hbw.size
      have HBW := Lib.hid hbw
      have HRE := Lib.hid hR
      have HRA := Lib.hid (fun wx (h : Below R w1 wx) => HA0.out wx (hbw.trans (by rw [← hR]; exact h)))
      have HRB := Lib.hid (fun wx (h : Below R w1 wx) => HB0.out wx (hbw.trans (by rw [← hR]; exact h)))
      have HND := Lib.hid (fun wx (h : Below R w1 wx) => HN0.out wx (hbw.trans (by rw [← hR]; exact h)))
      rw [← hR]
      clear hb0 hb1 hbw hR HA0 HB0 HN0 HSP y0 y1
      go_upto_region 7 with fail
      refine wp_region_until [some 20, some 21, some 22, some 23, some 24, some 25, some 26, some 27, some 28, some 29, some 30, some 31, none] [] 12 (fun wx => wx.heap[R]? = some (.cells (bv (zs 32)).toArray 35 (0, 0))) [0, 1, 2, 3, 4, 5, 6, 7, 8, 9, 10, 11, 12] (rrF n b off m c t R ra rb rt) (kOne 12 R) (fun wx => Below R w1 wx) (by kernel_rfl) (by kernel_rfl) rfl (by kernel_rfl) (by kernel_rfl) (Below.refl _ _).drew hrow0 ((fun _ hj _ _ k h => ((kOne_below hj k).block _ (Array.getElem?_eq_some_iff.1 h).1).trans h)) (fun _ _ => kOne_refl _ _ _ _) (fun _ _ _ h k => h.trans (kOne_base (Nat.le_trans hRs h.size) k)) ?hF ?hstep ?hend
      case hF =>
        exact ⟨fun _ _ _ _ _ _ h => h, ⟨fun _ _ _ _ _ _ h => h, ⟨fun _ _ _ _ _ _ h => h, ⟨fun _ _ _ _ _ _ h => h, ⟨fun _ _ _ _ _ _ h => h, ⟨fun _ _ _ _ _ _ h => h, ⟨fun _ _ _ _ _ _ h => h, ⟨fun _ _ _ _ _ _ h => h, ⟨fun _ _ _ _ _ _ h => h, ⟨fun _ _ _ _ _ _ h => h, ⟨fun _ _ _ _ _ _ h => h, ⟨fun _ _ _ _ _ _ h => h, ⟨fun j hg _ _ _ k h => ((kOne_below (fun e => by subst e; exact absurd hg (by rw [show goneB _ 12 12 = true by kernel_rfl]; simp)) k).block _ (Array.getElem?_eq_some_iff.1 h).1).trans h, trivial⟩⟩⟩⟩⟩⟩⟩⟩⟩⟩⟩⟩⟩
      case hstep =>
        refine ⟨fun r wx hG hs hq hf => ?_, ?_⟩
        · have hQ := hq rfl
          have e0 : r 0 = .int .i64 n := hs 0 rfl
          refine (if_pos rfl).symm ▸ ?_
          clear hs hq hf
          unfold gives
          go_simp
          exact ⟨kOne_refl _ _ _ _, rfl⟩
        refine ⟨fun r wx hG hs hq hf => ?_, ?_⟩
        · have hQ := hq rfl
          have e0 : r 0 = .int .i64 n := hs 0 rfl
          refine (if_pos rfl).symm ▸ ?_
          clear hs hq hf
          unfold gives
          go_simp
          exact ⟨kOne_refl _ _ _ _, rfl⟩
        refine ⟨fun r wx hG hs hq hf => ?_, ?_⟩
        · have hQ := hq rfl
          have e1 : r 1 = .slice (some ⟨b, off, none⟩) m c := hs 1 rfl
          refine (if_pos rfl).symm ▸ ?_
          clear hs hq hf
          unfold gives
          go_simp
          exact ⟨kOne_refl _ _ _ _, rfl⟩
        refine ⟨fun r wx hG hs hq hf => ?_, ?_⟩
        · have hQ := hq rfl
          have e6 : r 6 = .int .i64 t := hs 6 rfl
          refine (if_pos rfl).symm ▸ ?_
          clear hs hq hf
          unfold gives
          go_simp
          exact ⟨kOne_refl _ _ _ _, rfl⟩
        refine ⟨fun r wx hG hs hq hf => ?_, ?_⟩
        · have hQ := hq rfl
          have h2 : r 22 = .slice (some ⟨b, off, none⟩) m c := hf.1
          have h3 : r 23 = .int .i64 (t : Nat) := hf.2.1
          refine (if_pos rfl).symm ▸ ?_
          clear hs hq hf
          unfold gives
          have z0 : (0 : Int) ≤ (t : Int) := by omega
          have z1 : (t : Int) ≤ (c : Int) := by omega
          go_simp
          exact ⟨kOne_refl _ _ _ _, rfl⟩
        refine ⟨fun r wx hG hs hq hf => ?_, ?_⟩
        · have hQ := hq rfl
          have h1 : r 21 = .int .i64 n := hf.1
          have h4 : r 24 = .slice (some ⟨b, off, none⟩) t c := hf.2.1
          refine (if_pos rfl).symm ▸ ?_
          clear hs hq hf
          unfold gives
          go_simp
          refine (HRA.out wx hG).mono ?_
          rintro e wy ⟨rfl, hb1⟩
          exact ⟨_, rfl, kOne_of rfl hb1, rfl⟩
        refine ⟨fun r wx hG hs hq hf => ?_, ?_⟩
        · have hQ := hq rfl
          have e0 : r 0 = .int .i64 n := hs 0 rfl
          refine (if_pos rfl).symm ▸ ?_
          clear hs hq hf
          unfold gives
          go_simp
          exact ⟨kOne_refl _ _ _ _, rfl⟩
        refine ⟨fun r wx hG hs hq hf => ?_, ?_⟩
        · have hQ := hq rfl
          have e1 : r 1 = .slice (some ⟨b, off, none⟩) m c := hs 1 rfl
          refine (if_pos rfl).symm ▸ ?_
          clear hs hq hf
          unfold gives
          go_simp
          exact ⟨kOne_refl _ _ _ _, rfl⟩
        refine ⟨fun r wx hG hs hq hf => ?_, ?_⟩
        · have hQ := hq rfl
          have e6 : r 6 = .int .i64 t := hs 6 rfl
          refine (if_pos rfl).symm ▸ ?_
          clear hs hq hf
          unfold gives
          go_simp
          exact ⟨kOne_refl _ _ _ _, rfl⟩
        refine ⟨fun r wx hG hs hq hf => ?_, ?_⟩
        · have hQ := hq rfl
          have h7 : r 27 = .slice (some ⟨b, off, none⟩) m c := hf.1
          have h8 : r 28 = .int .i64 (t : Nat) := hf.2.1
          refine (if_pos rfl).symm ▸ ?_
          clear hs hq hf
          unfold gives
          have z0 : (0 : Int) ≤ (t : Int) := by omega
          have z1 : (t : Int) ≤ (m : Int) := by omega
          have z2 : (m : Int) ≤ (c : Int) := by omega
          have z3 : ¬ c = t := by omega
          have z4 : ((m : Int) - (t : Int)).toNat = m - t := by omega
          have z5 : ((c : Int) - (t : Int)).toNat = c - t := by omega
          go_simp
          exact ⟨kOne_refl _ _ _ _, rfl⟩
        refine ⟨fun r wx hG hs hq hf => ?_, ?_⟩
        · have hQ := hq rfl
          have h6 : r 26 = .int .i64 n := hf.1
          have h9 : r 29 = .slice (some ⟨b, off + t * 32, none⟩) (m - t) (c - t) := hf.2.1
          refine (if_pos rfl).symm ▸ ?_
          clear hs hq hf
          unfold gives
          go_simp
          refine (HRB.out wx hG).mono ?_
          rintro e wy ⟨rfl, hb1⟩
          exact ⟨_, rfl, kOne_of rfl hb1, rfl⟩
        refine ⟨fun r wx hG hs hq hf => ?_, ?_⟩
        · have hQ := hq rfl
          have h0 : r 20 = .int .i64 n := hf.1
          have h5 : r 25 = .agg (bv ra).toArray := hf.2.1
          have h10 : r 30 = .agg (bv rb).toArray := hf.2.2.1
          refine (if_pos rfl).symm ▸ ?_
          clear hs hq hf
          unfold gives
          go_simp
          refine (HND.out wx hG).mono ?_
          rintro e wy ⟨rfl, hb1⟩
          exact ⟨_, rfl, kOne_of rfl hb1, rfl⟩
        refine ⟨fun r wx hG hs hq hf => ?_, ?_⟩
        · have hQ := hq rfl
          have e4 : r 4 = .pointer (some ⟨R, 0, none⟩) := hs 4 rfl
          have h11 : r 31 = .agg (bv rt).toArray := hf.1
          refine (if_pos rfl).symm ▸ ?_
          clear hs hq hf
          unfold gives
          refine gives_store_row 35 _ _ rfl R (bv rt) e4 h11 (bv (zs 32)) 35 hQ (hInfo' _ HOL.out) (by rw [bv_length, bv_length, HOL.out]; simp [zs]) (bv_one _) ?_
          intro wy h1 h2
          exact ⟨kOne_at (below_grow (Below.refl _ _) h2 (Nat.le_refl _) (Array.getElem?_eq_some_iff.1 hQ).1), h1⟩
        exact trivial
      case hend =>
        intro u wz hG hfin
        have z12 : wz.heap[R]? = some (.cells (bv rt).toArray 35 (0, 0)) := hfin 12 (by decide) (by kernel_rfl)
        clear hfin
        simp only [fill]
        go_simp
        go_wp2_with fail
        refine bodyPost_ret (v := .agg (bv rt).toArray) ?_ ?_ ?_
        · exact results_cell_row Tryd.results62 _ _ R 35 _ (0, 0) _ rfl z12 Tryd.underlying35 rfl (hInfo _ HOL.out)
        · rfl
        · exact ⟨rfl, HBW.out.trans (hG.mono (by rw [HRE.out]; exact Nat.le_refl _))⟩

end Go.Proofs.YtfibhmgjkooemaaDoor
