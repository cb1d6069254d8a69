/- The state of a hash: its sum. · The hash of a text: the program's, the reference's. · The reference's hash of a text. · A hash narrowed: the program's, the reference's. · A hash narrowed: the reference's. -/
import Derived.Test.YtfibhmgjkooemaaDoorShaS
import Derived.LoopN
namespace Go.Proofs.YtfibhmgjkooemaaDoor
open Go.RowKit Sha

/-- The world within a sum: the state's row, the answer's row. -/
structure SI (w wr : World) (s : W8) (y : List UInt8) (n : Nat) : Prop where
  len : y.length = 64
  row : wr.heap[w.heap.size]? = some (.cells (rowL s y n).toArray 89 (0, 0))
  res : wr.heap[w.heap.size + 1]? = some (.cells (bv (zs 32)).toArray 35 (0, 0))
  bl : Below w.heap.size w wr
theorem SI.setR {w wr : World} {s : W8} {y : List UInt8} {n : Nat} (h : SI w wr s y n) (j : Nat) (x : UInt8) (hj : j < 64) : SI w (wr.setCell ⟨w.heap.size, 8 + j, none⟩ (.int .u8 x.toNat)) s (y.set j x) n where
  len := by simp [h.len]
  row := by rw [heap_setCell_same _ _ _ _ _ _ h.row, rowL_setR _ _ _ _ _ (by rw [h.len]; exact hj)]
  res := (heap_setCell_other _ _ _ _ (by simp)).trans h.res
  bl := h.bl.setCell (p := ⟨_, _, none⟩) (Nat.le_refl _) _
theorem SI.byte {w wr : World} {s : W8} {y : List UInt8} {n : Nat} (h : SI w wr s y n) (j : Nat) (x : UInt8) (hx : y[j]? = some x) : wr.cell? ⟨w.heap.size, 8 + j, none⟩ = some (.int .u8 x.toNat) := by
  rw [cell_of_row _ _ _ _ _ _ h.row, List.getElem?_toArray, rowL_r _ _ _ _ _ hx]
theorem SI.n {w wr : World} {s : W8} {y : List UInt8} {n : Nat} (h : SI w wr s y n) : wr.cell? ⟨w.heap.size, 72, none⟩ = some (.int .u64 (n : Nat)) := by
  rw [cell_of_row _ _ _ _ _ _ h.row, List.getElem?_toArray, rowL_n _ _ _ h.len]
/-- A block is mixed in. -/
theorem SI.mix {w wr : World} {s : W8} {y : List UInt8} {n : Nat} (h : SI w wr s y n) (hG : Tabs w) :
    Calls Tryd.prog 78 #[.pointer (some ⟨w.heap.size, 0, none⟩), .slice (some ⟨w.heap.size, 8, none⟩) 64 64] wr fun e w' => e = .returned (.tuple #[]) ∧ RowKit.Hid (SI w w' (blk s y) y n) := by
  refine (mix_any w.heap.size w.heap.size 8 64 64 s y (bv y ++ [Value.int .u64 (n : Nat)]).toArray 89 wr h.len (Nat.le_refl _) (Nat.le_refl _) (by rw [← rowL_arr]; exact h.row) (fun j x hx => h.byte j x hx) (hG.keepB h.bl)).mono ?_
  rintro e w' ⟨rfl, hr, hg⟩
  rw [← rowL_arr] at hr
  exact ⟨rfl, show SI _ _ _ _ _ from ⟨h.len, hr, (hg.block _ (Array.getElem?_eq_some_iff.1 h.res).1 (by simp)).trans h.res, below_grow h.bl hg (Nat.le_refl _) (Array.getElem?_eq_some_iff.1 h.row).1⟩⟩
theorem u64_sh (n _k : Nat) (h : n * 8 < 18446744073709551616) : IntKind.u64.wrap ((n : Int) * 8) = ((n * 8 : Nat) : Int) := (IntWalk.u64_in _ (by omega)).trans (by omega)

set_option maxHeartbeats 4000000 in
set_option maxRecDepth 100000 in
theorem StSum_any (l : List UInt8) (w : World) (hl : l.length ≤ 1152921504606846976) (hG : Tabs w) :
    Calls Tryd.prog 59 #[.agg (stv l)] w fun e w' => e = .returned (.agg (bv (Sha.sum l)).toArray) ∧ Below w.heap.size w w' := by
  have hz := (zero_of_info info32).1
  have hz64 := (zero_of_info info64).1
  obtain ⟨p, hp⟩ : ∃ p, p = l.length % 64 := ⟨_, rfl⟩
  have hp64 : p < 64 := by omega
  have hpz1 : (p : Int) < 64 := by omega
  have hpz0 : (0 : Int) ≤ (p : Int) := by omega
  have hand : bits .and .u64 (l.length : Int) 63 = (p : Int) := by rw [u64_and63 _ (by omega), hp]
  have HP := Lib.hid hp
  clear hp
  have hA : stv l = (rowL (hs l (l.length / 64)) (tail64 l) l.length).toArray := rfl
  have hsz : (stv l).size = 73 := stL_length l
  have HO := Lib.hid (show Sha.sum l = outB (hs (pad l) ((pad l).length / 64)) from rfl)
  generalize Sha.sum l = out at *
  generalize stv l = A at *
  have HA := Lib.hid hA
  clear hA
  go_enter Tryd.func59, Tryd.ntmps59
  go_upto_region 1 with fail
  obtain ⟨w1, hw1⟩ : ∃ x : World, x = (w.alloc (.cells A 89)).alloc (.cells (bv (zs 32)).toArray 35) := ⟨_, rfl⟩
  rw [← hw1]
  have hI1 : SI w w1 (hs l (l.length / 64)) (tail64 l) l.length := by
    rw [hw1]
    refine ⟨tail64_length l, by rw [← HA.out, heap_alloc_old _ _ (by simp), heap_alloc_new], ?_, ((Below.refl _ _).alloc (Nat.le_refl _) _).alloc (by simp) _⟩
    have h := heap_alloc_new (w.alloc (.cells A 89)) (.cells (bv (zs 32)).toArray 35)
    simpa using h
  have hn1 := hI1.n
  have hf1 := frozen_of_row _ _ (8 + p) _ _ hI1.row
  have hc1 : w1.cell? ⟨w.heap.size, 8 + p, none⟩ = some (.int .u8 (0 : Nat)) := by
    exact hI1.byte p 0 (by rw [HP.out]; exact tail_at l)
  have H1 := Lib.hid hI1
  clear hI1 hw1
  go_upto_region 3 with fail
  obtain ⟨w2, hw2⟩ : ∃ x : World, x = w1.setCell ⟨w.heap.size, 8 + p, none⟩ (.int .u8 128) := ⟨_, rfl⟩
  rw [← hw2]
  have hI2 : SI w w2 (hs l (l.length / 64)) ((tail64 l).set p 128) l.length := by rw [hw2]; exact H1.out.setR p 128 hp64
  have H2 := Lib.hid hI2
  clear H1 hI2 hw2 hn1 hf1 hc1
  go_upto_if 15 with fail
  go_cut [3] (fun s3 wq => s3 = .int .i64 p ∧ ∃ s y, RowKit.Hid (SI w wq s y l.length ∧ blk s (y.take 56 ++ be 8 (l.length * 8)) = hs (pad l) ((pad l).length / 64)))
  case first =>
    by_cases h56 : p < 56
    · have hd : decide ((56 : Int) ≤ (p : Int)) = false := decide_eq_false (by omega)
      go_wp2_with fail
      go_meet
      exact ⟨rfl, _, _, show _ ∧ _ from ⟨H2.out, by have h := HP.out; rw [h]; exact pad_low l (by omega)⟩⟩
    · have hd : (56 : Int) ≤ (p : Int) := by omega
      have HL := Lib.hid (show 56 ≤ p by omega)
      clear h56
      go_wp2_with fail
      refine (H2.out.mix hG).mono ?_
      rintro e w3 ⟨rfl, H3⟩
      go_wp2_with (with_reducible show wpList _ _ _ (⟨none, Op.store _ _ _, _, _, _, _⟩ :: _) _ _; refine wpList_store_splice rfl _ _ _ rfl w.heap.size 8 (bv (zs 64)) rfl rfl _ _ H3.out.row (by kernel_rfl) (by rw [rowL_length _ _ _ H3.out.len]; simp [bv_length, zs]) (bv_one _) ?_; intro w5 HG5 hg5)
      go_meet
      have h := HG5.out
      rw [show (8 : Nat) = 8 + 0 from rfl, rowL_splice _ _ _ _ 0 (by rw [H3.out.len]; simp [zs]), splice_all _ _ (by rw [H3.out.len]; simp [zs])] at h
      refine ⟨rfl, _, zs 64, show _ ∧ _ from ⟨⟨by simp [zs], h, (hg5.block _ (Array.getElem?_eq_some_iff.1 H3.out.res).1 (by simp)).trans H3.out.res,
            below_grow H3.out.bl hg5 (Nat.le_refl _) (Array.getElem?_eq_some_iff.1 H3.out.row).1⟩, ?_⟩⟩
      have hp := HP.out
      rw [hp]
      exact pad_high l (by rw [← hp]; exact HL.out)
  case rest =>
    obtain ⟨rfl, s, y, HS⟩ := hcut
    have hn := HS.out.1.n
    obtain ⟨b56, hb56⟩ : ∃ x, x = UInt8.ofNat (l.length * 8 / 72057594037927936 % 256) := ⟨_, rfl⟩
    have v56 : ((l.length : Int) * 8 / 72057594037927936) = (b56.toNat : Int) := by rw [hb56, u8_int]; omega
    obtain ⟨b57, hb57⟩ : ∃ x, x = UInt8.ofNat (l.length * 8 / 281474976710656 % 256) := ⟨_, rfl⟩
    have v57 : ((l.length : Int) * 8 / 281474976710656 % 256) = (b57.toNat : Int) := by rw [hb57, u8_int]; omega
    obtain ⟨b58, hb58⟩ : ∃ x, x = UInt8.ofNat (l.length * 8 / 1099511627776 % 256) := ⟨_, rfl⟩
    have v58 : ((l.length : Int) * 8 / 1099511627776 % 256) = (b58.toNat : Int) := by rw [hb58, u8_int]; omega
    obtain ⟨b59, hb59⟩ : ∃ x, x = UInt8.ofNat (l.length * 8 / 4294967296 % 256) := ⟨_, rfl⟩
    have v59 : ((l.length : Int) * 8 / 4294967296 % 256) = (b59.toNat : Int) := by rw [hb59, u8_int]; omega
    obtain ⟨b60, hb60⟩ : ∃ x, x = UInt8.ofNat (l.length * 8 / 16777216 % 256) := ⟨_, rfl⟩
    have v60 : ((l.length : Int) * 8 / 16777216 % 256) = (b60.toNat : Int) := by rw [hb60, u8_int]; omega
    obtain ⟨b61, hb61⟩ : ∃ x, x = UInt8.ofNat (l.length * 8 / 65536 % 256) := ⟨_, rfl⟩
    have v61 : ((l.length : Int) * 8 / 65536 % 256) = (b61.toNat : Int) := by rw [hb61, u8_int]; omega
    obtain ⟨b62, hb62⟩ : ∃ x, x = UInt8.ofNat (l.length * 8 / 256 % 256) := ⟨_, rfl⟩
    have v62 : ((l.length : Int) * 8 / 256 % 256) = (b62.toNat : Int) := by rw [hb62, u8_int]; omega
    obtain ⟨b63, hb63⟩ : ∃ x, x = UInt8.ofNat (l.length * 8 % 256) := ⟨_, rfl⟩
    have v63 : ((l.length : Int) * 8 % 256) = (b63.toNat : Int) := by rw [hb63, u8_int]; omega
    have HB := Lib.hid (show be 8 (l.length * 8) = [b56, b57, b58, b59, b60, b61, b62, b63] by rw [be8, hb56, hb57, hb58, hb59, hb60, hb61, hb62, hb63])
    clear hb56 hb57 hb58 hb59 hb60 hb61 hb62 hb63
    have hw8 : IntKind.u64.wrap ((l.length : Int) * 8) = ((l.length * 8 : Nat) : Int) := u64_sh _ 3 (by omega)
    have hy := HS.out.1.len
    obtain ⟨y56, e56⟩ : ∃ x, y[56]? = some x := ⟨_, List.getElem?_eq_getElem (by omega)⟩
    obtain ⟨y57, e57⟩ : ∃ x, y[57]? = some x := ⟨_, List.getElem?_eq_getElem (by omega)⟩
    obtain ⟨y58, e58⟩ : ∃ x, y[58]? = some x := ⟨_, List.getElem?_eq_getElem (by omega)⟩
    obtain ⟨y59, e59⟩ : ∃ x, y[59]? = some x := ⟨_, List.getElem?_eq_getElem (by omega)⟩
    obtain ⟨y60, e60⟩ : ∃ x, y[60]? = some x := ⟨_, List.getElem?_eq_getElem (by omega)⟩
    obtain ⟨y61, e61⟩ : ∃ x, y[61]? = some x := ⟨_, List.getElem?_eq_getElem (by omega)⟩
    obtain ⟨y62, e62⟩ : ∃ x, y[62]? = some x := ⟨_, List.getElem?_eq_getElem (by omega)⟩
    obtain ⟨y63, e63⟩ : ∃ x, y[63]? = some x := ⟨_, List.getElem?_eq_getElem (by omega)⟩
    have c56 : wc.cell? ⟨w.heap.size, 64, none⟩ = _ := HS.out.1.byte _ _ e56
    have c57 : wc.cell? ⟨w.heap.size, 65, none⟩ = _ := HS.out.1.byte _ _ e57
    have c58 : wc.cell? ⟨w.heap.size, 66, none⟩ = _ := HS.out.1.byte _ _ e58
    have c59 : wc.cell? ⟨w.heap.size, 67, none⟩ = _ := HS.out.1.byte _ _ e59
    have c60 : wc.cell? ⟨w.heap.size, 68, none⟩ = _ := HS.out.1.byte _ _ e60
    have c61 : wc.cell? ⟨w.heap.size, 69, none⟩ = _ := HS.out.1.byte _ _ e61
    have c62 : wc.cell? ⟨w.heap.size, 70, none⟩ = _ := HS.out.1.byte _ _ e62
    have c63 : wc.cell? ⟨w.heap.size, 71, none⟩ = _ := HS.out.1.byte _ _ e63
    have f56 := frozen_of_row _ _ 64 _ _ HS.out.1.row
    have f57 := frozen_of_row _ _ 65 _ _ HS.out.1.row
    have f58 := frozen_of_row _ _ 66 _ _ HS.out.1.row
    have f59 := frozen_of_row _ _ 67 _ _ HS.out.1.row
    have f60 := frozen_of_row _ _ 68 _ _ HS.out.1.row
    have f61 := frozen_of_row _ _ 69 _ _ HS.out.1.row
    have f62 := frozen_of_row _ _ 70 _ _ HS.out.1.row
    have f63 := frozen_of_row _ _ 71 _ _ HS.out.1.row
    clear e56 e57 e58 e59 e60 e61 e62 e63 hy
    go_wp2_with fail
    refine wp_loop_rounds 9 ?_
    iterate 8 (rw [rounds_succ]; go_wp2_with fail)
    obtain ⟨w3, hw3⟩ : ∃ x : World, x = (((((((wc.setCell ⟨w.heap.size, 64, none⟩ (.int .u8 b56.toNat)).setCell ⟨w.heap.size, 65, none⟩ (.int .u8 b57.toNat)).setCell ⟨w.heap.size, 66, none⟩ (.int .u8 b58.toNat)).setCell ⟨w.heap.size, 67, none⟩ (.int .u8 b59.toNat)).setCell ⟨w.heap.size, 68, none⟩ (.int .u8 b60.toNat)).setCell ⟨w.heap.size, 69, none⟩ (.int .u8 b61.toNat)).setCell ⟨w.heap.size, 70, none⟩ (.int .u8 b62.toNat)).setCell ⟨w.heap.size, 71, none⟩ (.int .u8 b63.toNat) := ⟨_, rfl⟩
    rw [← hw3]
    have hI3 : SI w w3 s (y.take 56 ++ be 8 (l.length * 8)) l.length := by
      rw [HB.out, ← set8 y HS.out.1.len, hw3]
      exact (((((((HS.out.1.setR 56 b56 (by omega)).setR 57 b57 (by omega)).setR 58 b58 (by omega)).setR 59 b59 (by omega)).setR 60 b60 (by omega)).setR 61 b61 (by omega)).setR 62 b62 (by omega)).setR 63 b63 (by omega)
    have hmix := hI3.mix hG
    rw [HS.out.2] at hmix
    have HM := Lib.hid hmix
    clear hw3 hI3 hmix c56 c57 c58 c59 c60 c61 c62 c63 f56 f57 f58 f59 f60 f61 f62 f63 v56 v57 v58 v59 v60 v61 v62 v63 hn hw8 HS
    rw [rounds_succ]
    go_wp2_with fail
    refine HM.out.mono ?_
    rintro e w4 ⟨rfl, H4⟩
    clear HM
    have HO := HO.out
    generalize hs (pad l) ((pad l).length / 64) = z at *
    generalize y.take 56 ++ be 8 (l.length * 8) = y2 at *
    obtain ⟨X8, hX8⟩ : ∃ X, X = (ws (off8 z) 8).toList := ⟨_, rfl⟩
    have hrange : w4.rangeAt w.heap.size 0 X8 := fun j x hx => by
      rw [hX8] at hx
      have hj : j < 8 := by have := (List.getElem?_eq_some_iff.1 hx).1; simpa [ws_size] using this
      rw [cell_of_row _ _ _ _ _ _ H4.out.row, List.getElem?_toArray, Nat.zero_add, rowL_w _ _ _ _ hj]
      rw [Array.getElem?_toList, ws_get _ _ _ hj] at hx
      exact hx
    have hsz8 : (Tryd.prog.info? 86).map (·.size) = some X8.length := by rw [hX8]; kernel_rfl
    have hidx : ∀ i, i < 8 → X8.toArray[i]? = some (.int .u32 (off8 z i).toNat) := fun i hi => by rw [hX8]; exact ws_get _ _ _ hi
    have HXX := Lib.hid (And.intro hrange hsz8)
    clear hrange hsz8 hX8
    go_wp2_with (with_reducible show wpList _ _ _ (⟨some 41, _, _, _, _, _⟩ :: _) _ _; refine wpList_load_mid rfl _ _ rfl w.heap.size 0 rfl X8 _ HXX.out.1 Tryd.underlying86 rfl HXX.out.2 ?_)
    generalize X8.toArray = A8' at *
    go_loopw [42] (fun s42 wr => ∃ i : Nat, i ≤ 8 ∧ s42 = .int .i64 i ∧ wr.heap[w.heap.size + 1]? = some (.cells (bv (bs (fun j => if j < 4 * i then out.getD j 0 else 0) 32)).toArray 35 (0, 0)) ∧ Below w.heap.size w wr) (fun i _ => 8 - (intOf i).toNat)
    case atStart => exact ⟨0, by omega, rfl, H4.out.res, H4.out.bl⟩
    case round =>
      clear H4 HXX
      obtain ⟨i, hi, rfl, hr, hb⟩ := hrel
      by_cases hil : i < 8
      · have hiz : (i : Int) < 8 := by omega
        have hi0 : (0 : Int) ≤ (i : Int) := by omega
        have hAi := fun w' => run_index_w A8' i _ w' hil (hidx i hil)
        have hbg := (hG.keepB hb).begin i hil
        obtain ⟨x, hx⟩ : ∃ x, x = z.l.getD i 0 := ⟨_, rfl⟩
        have hsum : (((off8 z i).toNat : Int) + ((begin0.l.getD i 0).toNat : Int)) % 4294967296 = (x.toNat : Int) := by
          rw [i_add, hx, ← off_add z i hil, UInt32.add_comm]
        have hget := out_get z i hil
        rw [← HO, ← hx] at hget
        generalize (begin0.l.getD i 0) = bg at *
        generalize off8 z i = of at *
        unfold u at hbg
        obtain ⟨b0, hb0⟩ : ∃ b, b = out.getD (4 * i) 0 := ⟨_, rfl⟩
        obtain ⟨b1, hb1⟩ : ∃ b, b = out.getD (4 * i + 1) 0 := ⟨_, rfl⟩
        obtain ⟨b2, hb2⟩ : ∃ b, b = out.getD (4 * i + 2) 0 := ⟨_, rfl⟩
        obtain ⟨b3, hb3⟩ : ∃ b, b = out.getD (4 * i + 3) 0 := ⟨_, rfl⟩
        have v0 : (x.toNat : Int) / 16777216 = (b0.toNat : Int) := by rw [hb0, hget.1, u8_int]; have := x.toNat_lt; omega
        have v1 : (x.toNat : Int) / 65536 % 256 = (b1.toNat : Int) := by rw [hb1, hget.2.1, u8_int]; omega
        have v2 : (x.toNat : Int) / 256 % 256 = (b2.toNat : Int) := by rw [hb2, hget.2.2.1, u8_int]; omega
        have v3 : (x.toNat : Int) % 256 = (b3.toNat : Int) := by rw [hb3, hget.2.2.2, u8_int]
        have h4 : IntKind.i64.wrap (4 * (i : Int)) = 4 * (i : Int) := IntWalk.i64_in _ (by omega)
        have h41 : IntKind.i64.wrap (4 * (i : Int) + 1) = 4 * (i : Int) + 1 := IntWalk.i64_in _ (by omega)
        have h42 : IntKind.i64.wrap (4 * (i : Int) + 2) = 4 * (i : Int) + 2 := IntWalk.i64_in _ (by omega)
        have h43 : IntKind.i64.wrap (4 * (i : Int) + 3) = 4 * (i : Int) + 3 := IntWalk.i64_in _ (by omega)
        have l0 : (0 : Int) ≤ 4 * (i : Int) ∧ 4 * (i : Int) < 32 := by omega
        have l1 : (0 : Int) ≤ 4 * (i : Int) + 1 ∧ 4 * (i : Int) + 1 < 32 := by omega
        have l2 : (0 : Int) ≤ 4 * (i : Int) + 2 ∧ 4 * (i : Int) + 2 < 32 := by omega
        have l3 : (0 : Int) ≤ 4 * (i : Int) + 3 ∧ 4 * (i : Int) + 3 < 32 := by omega
        have t0 : (4 * (i : Int)).toNat = 4 * i := by omega
        have t1 : (4 * (i : Int) + 1).toNat = 4 * i + 1 := by omega
        have t2 : (4 * (i : Int) + 2).toNat = 4 * i + 2 := by omega
        have t3 : (4 * (i : Int) + 3).toNat = 4 * i + 3 := by omega
        have cell (j : Nat) (h1 : 4 * i ≤ j) (h2 : j < 32) : wr.cell? ⟨w.heap.size + 1, j, none⟩ = some (.int .u8 (0 : Nat)) := by
          rw [cell_of_row _ _ _ _ _ _ hr, List.getElem?_toArray]
          simp only [bv, List.getElem?_map, bs_get _ _ _ h2]
          rw [if_neg (by omega)]; rfl
        have c0 := cell (4 * i) (by omega) (by omega)
        have c1 := cell (4 * i + 1) (by omega) (by omega)
        have c2 := cell (4 * i + 2) (by omega) (by omega)
        have c3 := cell (4 * i + 3) (by omega) (by omega)
        have f0 := frozen_of_row _ _ (4 * i) _ _ hr
        have f1 := frozen_of_row _ _ (4 * i + 1) _ _ hr
        have f2 := frozen_of_row _ _ (4 * i + 2) _ _ hr
        have f3 := frozen_of_row _ _ (4 * i + 3) _ _ hr
        have HX := Lib.hid (And.intro hr (And.intro hb (And.intro hb0 (And.intro hb1 (And.intro hb2 hb3)))))
        clear cell hr hb hb0 hb1 hb2 hb3 hget hx
        go_wp2_with fail
        go_roundw
        case rel =>
          obtain ⟨hr, hb, hb0, hb1, hb2, hb3⟩ := HX.out
          have e (k : Nat) (hk : k < 4) : (bs (fun j => if j < 4 * i + k then out.getD j 0 else 0) 32).set (4 * i + k) (out.getD (4 * i + k) 0) = bs (fun j => if j < 4 * i + (k + 1) then out.getD j 0 else 0) 32 :=
            bs_set _ _ 32 _ _ (by simp) (fun j hj hne => by
              by_cases h1 : j < 4 * i + k
              · simp [h1, show j < 4 * i + (k + 1) by omega]
              · simp [h1, show ¬ j < 4 * i + (k + 1) by omega])
          have r1 := heap_setCell_same _ (w.heap.size + 1) (4 * i) _ _ (.int .u8 b0.toNat) hr
          have r2 := heap_setCell_same _ (w.heap.size + 1) (4 * i + 1) _ _ (.int .u8 b1.toNat) r1
          have r3 := heap_setCell_same _ (w.heap.size + 1) (4 * i + 2) _ _ (.int .u8 b2.toNat) r2
          have r4 := heap_setCell_same _ (w.heap.size + 1) (4 * i + 3) _ _ (.int .u8 b3.toNat) r3
          have e0 := e 0 (by omega)
          simp only [Nat.add_zero] at e0
          rw [rowB_set, rowB_set, rowB_set, rowB_set, hb0, hb1, hb2, hb3, e0, e 1 (by omega), e 2 (by omega), e 3 (by omega), show 4 * i + (3 + 1) = 4 * (i + 1) by omega, ← hb0, ← hb1, ← hb2, ← hb3] at r4
          exact ⟨i + 1, by omega, by go_num, r4, (((hb.setCell (p := ⟨_, _, none⟩) (by simp) _).setCell (p := ⟨_, _, none⟩) (by simp) _).setCell (p := ⟨_, _, none⟩) (by simp) _).setCell (p := ⟨_, _, none⟩) (by simp) _⟩
        case measure => simp [intOf]; omega
      · have hiz : ¬ (i : Int) < 8 := by omega
        obtain rfl : i = 8 := by omega
        have hol : out.length = 32 := by rw [HO]; exact outB_length z
        have hr' : wr.heap[w.heap.size + 1]? = some (.cells (bv out).toArray 35 (0, 0)) := by
          rw [hr]
          have e1 := bs_self out
          rw [hol] at e1
          rw [bs_congr _ (fun j => out.getD j 0) 32 (fun j hj => by rw [if_pos (by omega)]), e1]
        have HX := Lib.hid (And.intro hr' (And.intro hb hol))
        clear hr hr' hb hol
        go_wp2_with (first
          | (with_reducible show wpList _ _ _ (⟨some 78, _, _, _, _, _⟩ :: _) _ _; refine wpList_load_row rfl _ _ rfl (w.heap.size + 1) rfl _ _ (0, 0) _ HX.out.1 Tryd.underlying35 rfl (hInfo _ HX.out.2.2) ?_)
          | (with_reducible show wpList _ _ _ (⟨none, Op.store _ _ _, _, _, _, _⟩ :: _) _ _; refine wpList_store_splice rfl _ _ _ rfl (w.heap.size + 1) 0 _ rfl rfl _ _ HX.out.1 (hInfo' _ HX.out.2.2) (by omega) (bv_one _) ?_; intro w9 HG9 hg9))
        have hend : w9.heap[w.heap.size + 1]? = some (.cells (bv out).toArray 35 (0, 0)) := by have h := HG9.out; rw [splice_all _ _ rfl] at h; exact h
        refine bodyPost_ret (v := .agg (bv out).toArray) ?_ ?_ ?_
        · exact results_cell_row Tryd.results59 _ _ (w.heap.size + 1) 35 _ (0, 0) _ rfl hend Tryd.underlying35 rfl (hInfo _ HX.out.2.2)
        · rfl
        · exact ⟨by rw [HO], below_grow HX.out.2.1 hg9 (by omega) (Array.getElem?_eq_some_iff.1 HX.out.1).1⟩
end Go.Proofs.YtfibhmgjkooemaaDoor
namespace Go.Proofs.YtfibhmgjkooemaaDoor
open Go.RowKit Sha

theorem wpList_store_whole {P : Program} {ops : Array Oper} {rest : List Oper} {op : Oper} {a : Act} {w : World} {Q : Exit → Act → World → Prop} (hgd : op.guard = none) (ty : TypeId) (x y : Operand) (ho : op.op = .store ty x y)
    (g : Nat) (cs : List Value) (hx : a.eval x = .pointer (some ⟨g, 0, none⟩)) (hy : a.eval y = .agg cs.toArray)
    (cur : List Value) (t : TypeId) (hg : w.heap[g]? = some (.cells cur.toArray t (0, 0))) (hi : (P.info? ty).map (·.size) = some cs.length) (hfit : cs.length = cur.length) (h1 : ∀ v ∈ cs, v.oneCell' = true)
    (h : ∀ w', Hid (w'.heap[g]? = some (.cells cs.toArray t (0, 0))) → w.grownBy w' (some g) → wpList P ops Q rest (a.put op.dst undef) w') : wpList P ops Q (op :: rest) a w :=
  wpList_store_splice hgd ty x y ho g 0 cs hx hy cur t hg hi (by omega) h1 fun w' h2 h3 => h w' (by rw [splice_all _ _ hfit] at h2; exact h2) h3

set_option maxHeartbeats 4000000 in
set_option maxRecDepth 100000 in
theorem shaSum_any (b : List UInt8) (v : Value) (w : World) (hl : b.length ≤ 1152921504606846976) (hr : Rd w 1 v b.length (bv b)) (hG : Tabs w) :
    Calls Tryd.prog 79 #[v] w fun e w' => e = .returned (.agg (bv (Sha.sum b)).toArray) ∧ Below w.heap.size w w' := by
  have hz := (zero_of_info info32).1
  have hzs := (zero_of_info infoSt).1
  have hol : (Sha.sum b).length = 32 := sum_length b
  have H0 := Lib.hid (fun w' hr' hG' => Write_any [] b v w' (by simp; omega) hr' hG')
  have H1 := Lib.hid (fun w' hG' => StSum_any b w' hl hG')
  rw [← stv_nil, List.nil_append] at H0
  generalize Sha.sum b = out at *
  generalize stv b = sb at *
  go_enter Tryd.func79, Tryd.ntmps79
  go_wp2_with fail
  have hb0 : Below w.heap.size w (w.alloc (.cells (bv (zs 32)).toArray 35)) := (Below.refl _ _).alloc (Nat.le_refl _) _
  refine (H0.out _ (hr.keep hb0) (hG.keepB hb0)).mono ?_
  rintro e w1 ⟨rfl, hb1⟩
  have hres1 : w1.heap[w.heap.size]? = some (.cells (bv (zs 32)).toArray 35 (0, 0)) := (hb1.block _ (by simp)).trans (heap_alloc_new _ _)
  have hbw1 := hb0.trans (hb1.mono (by simp))
  go_wp2_with fail
  refine (H1.out _ (hG.keepB hbw1)).mono ?_
  rintro e w2 ⟨rfl, hb2⟩
  have hres2 : w2.heap[w.heap.size]? = some (.cells (bv (zs 32)).toArray 35 (0, 0)) := (hb2.block _ (Array.getElem?_eq_some_iff.1 hres1).1).trans hres1
  have hbw2 := hbw1.trans (hb2.mono hbw1.size)
  have HX := Lib.hid (And.intro hres2 (And.intro hbw2 hol))
  clear hb0 hb1 hb2 hres1 hres2 hbw1 hbw2 H0 H1 hol
  go_wp2_with (with_reducible show wpList _ _ _ (⟨none, Op.store _ _ _, _, _, _, _⟩ :: _) _ _; refine wpList_store_whole rfl _ _ _ rfl w.heap.size _ rfl rfl _ _ HX.out.1 (hInfo' _ HX.out.2.2) (by rw [bv_length, bv_length, HX.out.2.2]; simp [zs]) (bv_one _) ?_; intro w9 HG9 hg9)
  refine bodyPost_ret (v := .agg (bv out).toArray) ?_ ?_ ?_
  · exact results_cell_row Tryd.results79 _ _ w.heap.size 35 _ (0, 0) _ rfl HG9.out Tryd.underlying35 rfl (hInfo _ HX.out.2.2)
  · rfl
  · exact ⟨rfl, below_grow HX.out.2.1 hg9 (Nat.le_refl _) (Array.getElem?_eq_some_iff.1 HX.out.1).1⟩
end Go.Proofs.YtfibhmgjkooemaaDoor
namespace Go.Proofs.YtfibhmgjkooemaaDoor
open Go.RowKit Sha

theorem infoU8s : (Tryd.prog.info? 5).map (fun i => (i.zero, i.size, i.bytes)) = some (some (.int .u8 0), 1, 1) := by kernel_rfl
theorem row_step (out : List UInt8) (i : Nat) (y : UInt8) (hy : y = out.getD i 0) (_hi : i < 32) :
    (bs (fun j => if j < i then out.getD j 0 else 0) 32).set i y = bs (fun j => if j < i + 1 then out.getD j 0 else 0) 32 :=
  bs_set _ _ 32 _ _ (by simp [hy]) (fun j hj hne => by
    by_cases h1 : j < i
    · simp [h1, show j < i + 1 by omega]
    · simp [h1, show ¬ j < i + 1 by omega])
theorem A8_len (v : W8) : (A8 v).toList.length = 8 := rfl
theorem zs_snoc (k : Nat) : zs k ++ [0] = zs (k + 1) := by unfold zs; rw [List.replicate_succ']

set_option maxHeartbeats 4000000 in
set_option maxRecDepth 100000 in
theorem refSumSha_any (b : List UInt8) (v : Value) (w : World) (hl : b.length ≤ 140737488355000) (hr : Rd w 1 v b.length (bv b)) (hG : TabsR w) :
    Calls Tryd.prog 53 #[v] w fun e w' => e = .returned (.agg (bv (Sha.sum b)).toArray) ∧ Below w.heap.size w w' := by
  obtain ⟨a, c, rfl⟩ := hr.form
  have hz := (zero_of_info info32).1
  have HO := Lib.hid (And.intro (sum_length b) (show Sha.sum b = outB (hs (pad b) ((pad b).length / 64)) from rfl))
  generalize Sha.sum b = out at *
  go_enter Tryd.func53, Tryd.ntmps53
  go_upto_region 1 with fail
  obtain ⟨w1, hw1⟩ : ∃ x : World, x = w.alloc (.cells (bv (zs 32)).toArray 35) := ⟨_, rfl⟩
  rw [← hw1]
  have hb1 : Below w.heap.size w w1 := by rw [hw1]; exact (Below.refl _ _).alloc (Nat.le_refl _) _
  have hres1 : w1.heap[w.heap.size]? = some (.cells (bv (zs 32)).toArray 35 (0, 0)) := by rw [hw1]; exact heap_alloc_new _ _
  have hlt1 : w.heap.size < w1.heap.size := by rw [hw1]; simp
  clear hw1
  have hr1 := hr.keep hb1
  have hown0 := own_new w1 5 1 0 w1.heap.size [] rfl (by omega) (Nat.le_refl _)
  have hra := hr1.alloc (.cells #[] 5)
  have H1 := Lib.hid (And.intro hb1 (And.intro hres1 hlt1))
  have HA := Lib.hid (And.intro hown0 hra)
  have HR := Lib.hid hr
  clear hr hr1 hb1 hres1 hlt1 hown0 hra
  go_upto_region 2 with (first
    | (with_reducible show wpList _ _ _ (⟨some 12, _, _, _, _, _⟩ :: _) _ _
       refine wpList_app Tryd.underlying25 infoU8s rfl (by decide) rfl _ _ rfl rfl rfl HA.out.1 HA.out.2 (by omega) (by omega) (by simp) ?_
       intro v' wy ho hg _
       have hby := hg.below (by simp) (own_block HA.out.1)
       have hb2 : Below w1.heap.size w1 wy := ((Below.refl _ _).alloc (Nat.le_refl _) _).trans hby
       have hn0 : 0 + b.length = b.length := by omega
       rw [hn0, List.nil_append] at ho
       obtain ⟨a2, c2, rfl⟩ := (own_rd ho (bv_one _)).form
       have H2 := Lib.hid (And.intro (own_keep ho ((Below.refl _ _).alloc (Nat.le_refl _) (.cells #[.int .u8 128] 5))) hb2)
       clear ho hg hby hb2 hn0)
    | (with_reducible show wpList _ _ _ (⟨some 14, _, _, _, _, _⟩ :: _) _ _
       refine wpList_app Tryd.underlying25 infoU8s rfl (by decide) rfl _ _ rfl rfl rfl H2.out.1 (Rd.one wy (.int .u8 128) 5 rfl) (by omega) (by omega) (by have := H2.out.2.size; simp; omega) ?_
       intro v' wz ho hg _
       have hbz : Below w1.heap.size wy wz := ((Below.refl _ _).alloc H2.out.2.size _).trans (hg.below (by have := H2.out.2.size; simp; omega) (own_block H2.out.1))
       have hb3 := H2.out.2.trans hbz
       rw [show bv b ++ [Value.int .u8 128] = bv (b ++ [128]) by simp [bv]] at ho
       have H3 := Lib.hid (And.intro ho hb3)
       obtain ⟨a3, c3, rfl⟩ := (own_rd ho (bv_one _)).form
       clear ho hg hbz hb3 H2))
  have hc0 : gap b.length < 64 := by unfold gap; omega
  have hgq := show gap b.length = (119 - b.length % 64) % 64 from rfl
  generalize gap b.length = q at *
  have HQ := Lib.hid (And.intro hc0 hgq)
  clear hc0 hgq
  go_wp2_with fail
  go_loopw [3] (fun s3 wr => ∃ k, RowKit.Hid (k ≤ q ∧ wr.ownsRow w1.heap.size 5 1 s3 (b.length + 1 + k) (bv (b ++ [128] ++ zs k)) ∧ Below w1.heap.size w1 wr)) (fun s3 _ => match s3 with | .slice _ n _ => b.length + 1 + q - n | _ => 0)
  case atStart => exact ⟨0, show _ ∧ _ from ⟨by omega, by simpa [zs] using H3.out.1, H3.out.2⟩⟩
  case round =>
    clear H3
    obtain ⟨k, HK⟩ := hrel
    obtain ⟨a4, c4, rfl⟩ := (own_rd HK.out.2.1 (bv_one _)).form
    by_cases hkq : k < q
    · have hm : ¬ ((b.length : Int) + 1 + (k : Int)) % 64 = 56 := by have := HQ.out.2; omega
      have hm2 : ¬ ((b.length : Int) + 1 + (k : Int)).tmod 64 = 56 := by rw [Int.tmod_eq_emod_of_nonneg (by omega)]; exact hm
      have HKQ := Lib.hid hkq
      clear hkq
      go_wp2_with (with_reducible show wpList _ _ _ (⟨some 21, _, _, _, _, _⟩ :: _) _ _
                   refine wpList_app Tryd.underlying25 infoU8s rfl (by decide) rfl _ _ rfl rfl rfl (own_keep HK.out.2.1 ((Below.refl _ _).alloc (Nat.le_refl _) _)) (Rd.one wr (.int .u8 0) 5 rfl) (by have := HK.out.1; have := HQ.out.1; omega) (by have := HK.out.1; have := HQ.out.1; omega) (by have := HK.out.2.2.size; simp; omega) ?_
                   intro v' wy ho hg _)
      have hby : Below w1.heap.size wr wy := ((Below.refl _ _).alloc HK.out.2.2.size _).trans (hg.below (by have := HK.out.2.2.size; simp; omega) (own_block HK.out.2.1))
      rw [show bv (b ++ [128] ++ zs k) ++ [Value.int .u8 0] = bv (b ++ [128] ++ zs (k + 1)) by rw [← zs_snoc]; simp [bv]] at ho
      have H2 := Lib.hid (show k + 1 ≤ q ∧ wy.ownsRow w1.heap.size 5 1 v' (b.length + 1 + (k + 1)) _ ∧ _ from ⟨HKQ.out, ho, HK.out.2.2.trans hby⟩)
      obtain ⟨a5, c5, rfl⟩ := (own_rd ho (bv_one _)).form
      clear ho hg hby
      go_roundw
      case rel => exact ⟨k + 1, H2⟩
      case measure => have := HKQ.out; dsimp only; omega
    · have hm : ((b.length : Int) + 1 + (k : Int)) % 64 = 56 := by have := HQ.out.2; have := HK.out.1; omega
      have hm2 : ((b.length : Int) + 1 + (k : Int)).tmod 64 = 56 := by rw [Int.tmod_eq_emod_of_nonneg (by omega)]; exact hm
      obtain rfl : k = q := by have := HK.out.1; omega
      have h8 : IntKind.u64.wrap ((b.length : Int) * 8) = (b.length : Int) * 8 := IntWalk.u64_in _ (by omega)
      have HA8 := Lib.hid (And.intro HK.out.2.1 HK.out.2.2)
      clear HK
      go_wp2_with fail
      go_loopw [5, 3] (fun s5 s3 wq => ∃ j : Nat, j ≤ 8 ∧ s5 = .int .i64 ((j : Int) - 1) ∧ RowKit.Hid (wq.ownsRow w1.heap.size 5 1 s3 (b.length + 1 + k + (8 - j)) (bv (b ++ [128] ++ zs k ++ be (8 - j) (b.length * 8 / 256 ^ j))) ∧ Below w1.heap.size w1 wq)) (fun s5 _ _ => (intOf s5 + 1).toNat)
      case atStart => exact ⟨8, Nat.le_refl _, rfl, show _ ∧ _ from ⟨by simpa [be] using HA8.out.1, HA8.out.2⟩⟩
      case round =>
        clear HA8
        obtain ⟨j, hj8, rfl, HJ⟩ := hrel
        obtain ⟨a5, c5, hs⟩ := (own_rd HJ.out.1 (bv_one _)).form
        subst hs
        by_cases hj0 : j = 0
        · subst hj0
          have hpl : (pad b).length = b.length + 9 + k := by rw [pad_length]; have := HQ.out.2; unfold gap; omega
          have hpm := pad_mod b
          have hpe : b ++ [128] ++ zs k ++ be (8 - 0) (b.length * 8 / 256 ^ 0) = pad b := by
            have := HQ.out.2
            rw [show k = gap b.length from this]; simp [pad]
          have hk64 := HQ.out.1
          rw [hpe, show b.length + 1 + k + (8 - 0) = (pad b).length by omega] at HJ
          rw [show b.length + 1 + k + (8 - 0) = (pad b).length by omega, show ((0 : Nat) : Int) - 1 = -1 from rfl]
          obtain ⟨L, hL⟩ : ∃ L, L = (pad b).length := ⟨_, rfl⟩
          rw [← hL] at HJ ⊢ hpm hpl
          rw [← hL] at HO
          have HRD := Lib.hid (And.intro (own_rd HJ.out.1 (bv_one _)) hL)
          have hbq := H1.out.1.trans (HJ.out.2.mono (Nat.le_of_lt H1.out.2.2))
          have hresq := (HJ.out.2.block _ H1.out.2.2).trans H1.out.2.1
          have HW := Lib.hid (And.intro hbq (And.intro hresq (show w.heap.size < wr.heap.size from Nat.lt_of_lt_of_le H1.out.2.2 HJ.out.2.size)))
          have HL := Lib.hid (And.intro hpl (And.intro hpm hk64))
          clear hL hbq hresq hpe hpl hpm HJ HQ HR H1 hk64
          go_wp2_with fail
          generalize wr = wo at *
          obtain ⟨w3, hw3⟩ : ∃ x : World, x = wo.alloc (.cells #[Value.int IntKind.u32 1779033703, Value.int IntKind.u32 3144134277, Value.int IntKind.u32 1013904242, Value.int IntKind.u32 2773480762, Value.int IntKind.u32 1359893119, Value.int IntKind.u32 2600822924, Value.int IntKind.u32 528734635, Value.int IntKind.u32 1541459225] 86) := ⟨_, rfl⟩
          rw [← hw3]
          have hh3 : w3.heap[wo.heap.size]? = some (.cells (A8 (hs (pad b) 0)) 86 (0, 0)) := by rw [hw3]; exact heap_alloc_new _ _
          have hb3 : Below wo.heap.size wo w3 := by rw [hw3]; exact (Below.refl _ _).alloc (Nat.le_refl _) _
          have H3 := Lib.hid (And.intro hh3 hb3)
          clear hw3 hh3 hb3
          go_loopw [7] (fun s7 wr => ∃ e : Nat, s7 = .int .i64 (64 * (e : Int)) ∧ RowKit.Hid (64 * e ≤ L ∧ wr.heap[wo.heap.size]? = some (.cells (A8 (hs (pad b) e)) 86 (0, 0)) ∧ Below wo.heap.size wo wr)) (fun s7 _ => L - (intOf s7).toNat)
          case atStart => exact ⟨0, rfl, show _ ∧ _ from ⟨by omega, H3.out⟩⟩
          case round =>
            clear H3
            obtain ⟨e, rfl, HE⟩ := hrel
            by_cases hel : 64 * e < L
            · have hz1 : 64 * (e : Int) < (L : Int) := by omega
              have hL1 : L ≤ 140737488355200 := by have := HL.out.1; have := HL.out.2.2; omega
              have hle : 64 * e + 64 ≤ L := by have := HL.out.2.1; omega
              obtain ⟨bb, off, c', hv, hcp, hcell⟩ := (HRD.out.1.keep HE.out.2.2).at (by omega)
              simp only [Value.slice.injEq, true_and] at hv
              obtain ⟨rfl, rfl⟩ := hv
              have hx64 : (((pad b).drop (64 * e)).take 64).length = 64 := by rw [List.length_take, List.length_drop, ← HRD.out.2]; omega
              have hblk := fun w' hG' hrd => block_any bb (off + 64 * e) 64 (c5 - 64 * e) (hs (pad b) e) (((pad b).drop (64 * e)).take 64) w' hx64 (by omega) (by omega) hrd hG'
              have HB := Lib.hid (And.intro hblk (And.intro hcell hle))
              have hc (i : Nat) (x : UInt32) (hi : (A8 (hs (pad b) e))[i]? = some (.int .u32 x.toNat)) : wr.cell? ⟨wo.heap.size, i, none⟩ = some (.int .u32 x.toNat) := by
                rw [cell_of_row _ _ _ _ _ _ HE.out.2.1, hi]
              have d0 := hc 0 _ rfl
              have d1 := hc 1 _ rfl
              have d2 := hc 2 _ rfl
              have d3 := hc 3 _ rfl
              have d4 := hc 4 _ rfl
              have d5 := hc 5 _ rfl
              have d6 := hc 6 _ rfl
              have d7 := hc 7 _ rfl
              clear hc hcell hblk
              have hz2 : (64 * (e : Int) + 64) ≤ (c5 : Int) := by omega
              have hz3 : (0 : Int) ≤ 64 * (e : Int) := by omega
              have hz4 : (64 * (e : Int)).toNat = 64 * e := by omega
              have hz5 : (64 * (e : Int) + 64).toNat = 64 * e + 64 := by omega
              have hz7 : (0 : Int) ≤ 64 * (e : Int) + 64 := by omega
              have hz8 : 64 * (e : Int) ≤ 64 * (e : Int) + 64 := by omega
              have hz9 : ¬ c5 = 64 * e := by omega
              have hz6 : IntKind.i64.wrap (64 * (e : Int) + 64) = 64 * (e : Int) + 64 := IntWalk.i64_in _ (by omega)
              go_wp2_with fail
              go_still_tail 6, (by kernel_rfl)
              change wpList _ _ _ _ _ wr.drew
              have HD := Lib.hid (show wr.drew.heap[wo.heap.size]? = _ ∧ Below wo.heap.size wo wr.drew from ⟨HE.out.2.1, HE.out.2.2.drew⟩)
              have hcl : 64 * e + 64 ≤ L := hle
              clear d0 d1 d2 d3 d4 d5 d6 d7 HE
              go_wp2_with fail
              refine (HB.out.1 _ (hG.keepB (HW.out.1.trans ((HD.out.2.mono (Nat.le_of_lt HW.out.2.2))))) (fun j x hx => ?_)).mono ?_
              · have hj := (List.getElem?_eq_some_iff.1 hx).1
                rw [hx64] at hj
                rw [List.getElem?_take_of_lt hj, List.getElem?_drop] at hx
                rw [Nat.add_assoc]
                exact HB.out.2.1 (64 * e + j) _ (by simp [bv, hx])
              rintro e1 w4 ⟨rfl, hb4⟩
              have hh4 := (hb4.block _ (Array.getElem?_eq_some_iff.1 HD.out.1).1).trans HD.out.1
              have hb4' := HD.out.2.trans (hb4.mono HD.out.2.size)
              have hnx : blk (hs (pad b) e) (((pad b).drop (64 * e)).take 64) = hs (pad b) (e + 1) := rfl
              rw [hnx]
              obtain ⟨z1, hz1⟩ : ∃ z1, z1 = hs (pad b) (e + 1) := ⟨_, rfl⟩
              rw [← hz1]
              have HZ := Lib.hid hz1
              clear hz1
              generalize hs (pad b) e = z0 at *
              have H4 := Lib.hid (And.intro hh4 hb4')
              clear HB hnx hx64 hh4 hb4 hb4' HD
              have hcs : A8 z1 = [Value.int .u32 z1.a.toNat, .int .u32 z1.b.toNat, .int .u32 z1.c.toNat, .int .u32 z1.d.toNat, .int .u32 z1.e.toNat, .int .u32 z1.f.toNat, .int .u32 z1.g.toNat, .int .u32 z1.h.toNat].toArray := rfl
              rw [hcs]
              obtain ⟨cs, hcs2⟩ : ∃ cs, cs = [Value.int .u32 z1.a.toNat, .int .u32 z1.b.toNat, .int .u32 z1.c.toNat, .int .u32 z1.d.toNat, .int .u32 z1.e.toNat, .int .u32 z1.f.toNat, .int .u32 z1.g.toNat, .int .u32 z1.h.toNat] := ⟨_, rfl⟩
              rw [← hcs2] at hcs ⊢
              have hcl8 : cs.length = 8 := by rw [hcs2]; rfl
              have hc1 : ∀ u ∈ cs, u.oneCell' = true := by
                rw [hcs2]; intro u hu; simp at hu
                rcases hu with rfl | rfl | rfl | rfl | rfl | rfl | rfl | rfl <;> rfl
              have HC := Lib.hid (And.intro hcs (And.intro hcl8 hc1))
              clear hcs hcs2 hcl8 hc1
              go_wp2_with (with_reducible show wpList _ _ _ (⟨none, Op.store _ _ _, _, _, _, _⟩ :: _) _ _; go_loud (refine wpList_store_whole rfl _ _ _ rfl wo.heap.size cs rfl rfl _ _ H4.out.1 (by rw [HC.out.2.1]; kernel_rfl) (by rw [HC.out.2.1, A8_len]) HC.out.2.2 ?_; intro w9 HG9 hg9))
              have hh9 := HG9.out
              rw [← HC.out.1, HZ.out] at hh9
              go_roundw
              case rel => exact ⟨e + 1, by go_num, show _ ∧ _ from ⟨by omega, hh9, below_grow H4.out.2 hg9 (Nat.le_refl _) (Array.getElem?_eq_some_iff.1 H4.out.1).1⟩⟩
              case measure => simp [intOf]; omega
            · have hz1 : ¬ 64 * (e : Int) < (L : Int) := by omega
              obtain rfl : L = 64 * e := by have := HE.out.1; omega
              have hL1 : 64 * e ≤ 140737488355200 := by have := HL.out.1; have := HL.out.2.2; omega
              have hee : e = 64 * e / 64 := by omega
              rw [← hee] at HO
              generalize hs (pad b) e = z at *
              clear hee HRD hel
              have HB := Lib.hid (HW.out.1.trans (HE.out.2.2.mono (Nat.le_of_lt HW.out.2.2)))
              have HV := Lib.hid ((HE.out.2.2.block _ HW.out.2.2).trans HW.out.2.1)
              have HT := Lib.hid (And.intro HW.out.2.2 (Array.getElem?_eq_some_iff.1 HE.out.2.1).1)
              clear HW
              go_wp2_with fail
              generalize wr = wk at *
              obtain ⟨w3, hw3⟩ : ∃ x : World, x = wk.alloc (.cells (bv (zs 32)).toArray 35) := ⟨_, rfl⟩
              rw [← hw3]
              have hh3 : w3.heap[wk.heap.size]? = some (.cells (bv (bs (fun j => if j < 0 then out.getD j 0 else 0) 32)).toArray 35 (0, 0)) := by rw [hw3]; exact heap_alloc_new _ _
              have hb3 : Below wk.heap.size wk w3 := by rw [hw3]; exact (Below.refl _ _).alloc (Nat.le_refl _) _
              have H3 := Lib.hid (And.intro hh3 hb3)
              clear hw3 hh3 hb3
              go_loopw [9] (fun s9 wx => ∃ i : Nat, i ≤ 32 ∧ s9 = .int .i64 i ∧ RowKit.Hid (wx.heap[wk.heap.size]? = some (.cells (bv (bs (fun j => if j < i then out.getD j 0 else 0) 32)).toArray 35 (0, 0)) ∧ Below wk.heap.size wk wx)) (fun s9 _ => 32 - (intOf s9).toNat)
              case atStart => exact ⟨0, by omega, rfl, H3⟩
              case round =>
                clear H3
                obtain ⟨i, hi, rfl, HI⟩ := hrel
                by_cases hil : i < 32
                · have hiz : (i : Int) < 32 := by omega
                  have hi0 : (0 : Int) ≤ (i : Int) := by omega
                  obtain ⟨q, hq⟩ : ∃ q, q = i / 4 := ⟨_, rfl⟩
                  have hq8 : q < 8 := by omega
                  have hget := out_get z q hq8
                  rw [← HO.out.2] at hget
                  obtain ⟨x, hx⟩ : ∃ x, x = z.l.getD q 0 := ⟨_, rfl⟩
                  rw [← hx] at hget
                  have hcx : wr.cell? ⟨wo.heap.size, q, none⟩ = some (.int .u32 x.toNat) := by
                    rw [cell_of_row _ _ _ _ _ _ ((HI.out.2.block _ HT.out.2).trans HE.out.2.1), A8_ws, ws_get _ _ _ hq8, hx]; rfl
                  have hfr := frozen_of_row _ _ i _ _ HI.out.1
                  have hc0 : wr.cell? ⟨wk.heap.size, i, none⟩ = some (.int .u8 (0 : Nat)) := by
                    rw [cell_of_row _ _ _ _ _ _ HI.out.1, List.getElem?_toArray]
                    simp only [bv, List.getElem?_map, bs_get _ _ _ hil]
                    rw [if_neg (by omega)]; rfl
                  have hd1 : (i : Int).tdiv 4 = (q : Int) := by rw [Int.tdiv_eq_ediv_of_nonneg hi0]; omega
                  have hd2 : (i : Int) / 4 = (q : Int) := by omega
                  have hq80 : (0 : Int) ≤ (q : Int) ∧ (q : Int) < 8 := by omega
                  obtain ⟨y, hy⟩ : ∃ y, y = out.getD i 0 := ⟨_, rfl⟩
                  have h4 : i % 4 = 0 ∨ i % 4 = 1 ∨ i % 4 = 2 ∨ i % 4 = 3 := by omega
                  have HX := Lib.hid (And.intro hy (And.intro hil HI.out))
                  clear HI hx
                  rcases h4 with h4 | h4 | h4 | h4
                  · have hm1 : (i : Int).tmod 4 = 0 := by rw [Int.tmod_eq_emod_of_nonneg hi0]; omega
                    have hm2 : (i : Int) % 4 = 0 := by omega
                    rw [show i = 4 * q by omega, hget.1] at hy
                    have v0 : (x.toNat : Int) / 16777216 = (y.toNat : Int) := by rw [hy, u8_int]; have := x.toNat_lt; omega
                    have v1 : (y.toNat : Int) % 256 = (y.toNat : Int) := by have := y.toNat_lt; omega
                    clear hget hy hq h4
                    go_wp2_with fail
                    go_roundw
                    case rel =>
                      obtain ⟨hy, hil, hr, hb⟩ := HX.out
                      refine ⟨i + 1, by omega, by go_num, show _ ∧ _ from ⟨?_, hb.setCell (p := ⟨_, _, none⟩) (Nat.le_refl _) _⟩⟩
                      rw [heap_setCell_same _ _ _ _ _ _ hr, rowB_set, row_step out i y hy hil]
                    case measure => simp [intOf]; omega
                  · have hm1 : (i : Int).tmod 4 = 1 := by rw [Int.tmod_eq_emod_of_nonneg hi0]; omega
                    have hm2 : (i : Int) % 4 = 1 := by omega
                    rw [show i = 4 * q + 1 by omega, hget.2.1] at hy
                    have v0 : (x.toNat : Int) / 65536 % 256 = (y.toNat : Int) := by rw [hy, u8_int]; omega
                    have v1 : (y.toNat : Int) % 256 = (y.toNat : Int) := by have := y.toNat_lt; omega
                    clear hget hy hq h4
                    go_wp2_with fail
                    go_roundw
                    case rel =>
                      obtain ⟨hy, hil, hr, hb⟩ := HX.out
                      refine ⟨i + 1, by omega, by go_num, show _ ∧ _ from ⟨?_, hb.setCell (p := ⟨_, _, none⟩) (Nat.le_refl _) _⟩⟩
                      rw [heap_setCell_same _ _ _ _ _ _ hr, rowB_set, row_step out i y hy hil]
                    case measure => simp [intOf]; omega
                  · have hm1 : (i : Int).tmod 4 = 2 := by rw [Int.tmod_eq_emod_of_nonneg hi0]; omega
                    have hm2 : (i : Int) % 4 = 2 := by omega
                    rw [show i = 4 * q + 2 by omega, hget.2.2.1] at hy
                    have v0 : (x.toNat : Int) / 256 % 256 = (y.toNat : Int) := by rw [hy, u8_int]; omega
                    have v1 : (y.toNat : Int) % 256 = (y.toNat : Int) := by have := y.toNat_lt; omega
                    clear hget hy hq h4
                    go_wp2_with fail
                    go_roundw
                    case rel =>
                      obtain ⟨hy, hil, hr, hb⟩ := HX.out
                      refine ⟨i + 1, by omega, by go_num, show _ ∧ _ from ⟨?_, hb.setCell (p := ⟨_, _, none⟩) (Nat.le_refl _) _⟩⟩
                      rw [heap_setCell_same _ _ _ _ _ _ hr, rowB_set, row_step out i y hy hil]
                    case measure => simp [intOf]; omega
                  · have hm1 : (i : Int).tmod 4 = 3 := by rw [Int.tmod_eq_emod_of_nonneg hi0]; omega
                    have hm2 : (i : Int) % 4 = 3 := by omega
                    rw [show i = 4 * q + 3 by omega, hget.2.2.2] at hy
                    have v0 : (x.toNat : Int) % 256 = (y.toNat : Int) := by rw [hy, u8_int]
                    have v1 : (y.toNat : Int) % 256 = (y.toNat : Int) := by have := y.toNat_lt; omega
                    clear hget hy hq h4
                    go_wp2_with fail
                    go_roundw
                    case rel =>
                      obtain ⟨hy, hil, hr, hb⟩ := HX.out
                      refine ⟨i + 1, by omega, by go_num, show _ ∧ _ from ⟨?_, hb.setCell (p := ⟨_, _, none⟩) (Nat.le_refl _) _⟩⟩
                      rw [heap_setCell_same _ _ _ _ _ _ hr, rowB_set, row_step out i y hy hil]
                    case measure => simp [intOf]; omega
                · have hiz : ¬ (i : Int) < 32 := by omega
                  obtain rfl : i = 32 := by omega
                  have hr' : wr.heap[wk.heap.size]? = some (.cells (bv out).toArray 35 (0, 0)) := by
                    rw [HI.out.1]
                    have e1 := bs_self out
                    rw [HO.out.1] at e1
                    rw [bs_congr _ (fun j => out.getD j 0) 32 (fun j hj => by rw [if_pos (by omega)]), e1]
                  have hv := (HI.out.2.block _ (Array.getElem?_eq_some_iff.1 HV.out).1).trans HV.out
                  have HX := Lib.hid (And.intro hr' (And.intro (HB.out.trans (HI.out.2.mono HB.out.size)) hv))
                  clear hr' hv HI
                  have hz32 : ¬ (32 : Int) < 32 := by decide
                  go_wp2_with (first
                    | (with_reducible show wpList _ _ _ (⟨some 70, _, _, _, _, _⟩ :: _) _ _; refine wpList_load_row rfl _ _ rfl wk.heap.size rfl _ _ (0, 0) _ HX.out.1 Tryd.underlying35 rfl (hInfo _ HO.out.1) ?_)
                    | (with_reducible show wpList _ _ _ (⟨none, Op.store _ _ _, _, _, _, _⟩ :: _) _ _; refine wpList_store_whole rfl _ _ _ rfl w.heap.size _ rfl rfl _ _ HX.out.2.2 (hInfo' _ HO.out.1) (by rw [bv_length, bv_length, HO.out.1]; simp [zs]) (bv_one _) ?_; intro w9 HG9 hg9))
                  refine bodyPost_ret (v := .agg (bv out).toArray) ?_ ?_ ?_
                  · exact results_cell_row Tryd.results53 _ _ w.heap.size 35 _ (0, 0) _ rfl HG9.out Tryd.underlying35 rfl (hInfo _ HO.out.1)
                  · rfl
                  · exact ⟨rfl, below_grow HX.out.2.1 hg9 (Nat.le_refl _) (Array.getElem?_eq_some_iff.1 HX.out.2.2).1⟩
        · obtain ⟨p, rfl⟩ : ∃ p, j = p + 1 := ⟨j - 1, by omega⟩
          clear hj0
          have hp1 : ((p + 1 : Nat) : Int) - 1 = (p : Int) := by omega
          rw [hp1]
          have hp0 : (0 : Int) ≤ (p : Int) := by omega
          have hp8 : IntKind.i64.wrap (8 * (p : Int)) = 8 * (p : Int) := IntWalk.i64_in _ (by omega)
          have hpu : IntKind.u64.wrap (8 * (p : Int)) = 8 * (p : Int) := IntWalk.u64_in _ (by omega)
          have hpow : ((UInt8.ofNat (b.length * 8 / 256 ^ p % 256)).toNat : Int) = (b.length : Int) * 8 / 2 ^ (8 * p) % 256 := by
            rw [u8_int, show (2 : Int) ^ (8 * p) = ((256 ^ p : Nat) : Int) by rw [Int.pow_mul]; simp]; simp
          have hbe := be_step 8 (b.length * 8) p hj8
          have e7 : 8 - (p + 1) = 7 - p := by omega
          rw [e7] at HJ hbe ⊢
          have HB := Lib.hid (And.intro hpow (And.intro hbe hj8))
          clear hpow hbe e7
          go_wp2_with (at_builtin; go_loud (refine wpList_app Tryd.underlying25 infoU8s rfl (by decide) rfl _ _ rfl rfl rfl (own_keep HJ.out.1 ((Below.refl _ _).alloc (Nat.le_refl _) _)) (Rd.one wr (.int .u8 (b.length * 8 / 2 ^ (8 * p) % 256)) 5 rfl) (by have := HQ.out.1; omega) (by have := HQ.out.1; omega) (by have := HJ.out.2.size; simp; omega) ?_))
          intro v' wy ho hg _
          have hby : Below w1.heap.size wr wy := ((Below.refl _ _).alloc HJ.out.2.size _).trans (hg.below (by have := HJ.out.2.size; simp; omega) (own_block HJ.out.1))
          have hle := HB.out.2.2
          rw [show bv (b ++ 128 :: (zs k ++ be (7 - p) (b.length * 8 / 256 ^ (p + 1)))) ++ [Value.int .u8 (b.length * 8 / 2 ^ (8 * p) % 256)] = bv (b ++ [128] ++ zs k ++ be (8 - p) (b.length * 8 / 256 ^ p)) by rw [HB.out.2.1, ← HB.out.1]; simp [bv], show b.length + 1 + k + (7 - p) + 1 = b.length + 1 + k + (8 - p) by omega] at ho
          have H2 := Lib.hid (And.intro ho (HJ.out.2.trans hby))
          obtain ⟨a6, c6, hs⟩ := (own_rd ho (bv_one _)).form
          subst hs
          clear ho hg hby
          go_wp2_with fail
          go_roundw
          case rel => exact ⟨p, by omega, by congr 1, H2⟩
          case measure => simp [intOf]
end Go.Proofs.YtfibhmgjkooemaaDoor
namespace Go.Proofs.YtfibhmgjkooemaaDoor
open Go.RowKit Sha

/-- The first m bits of a byte. -/
def mk : Nat → UInt8
  | 0 => 0 | 1 => 128 | 2 => 192 | 3 => 224 | 4 => 240 | 5 => 248 | 6 => 252 | 7 => 254 | _ => 255
def nar (l : List UInt8) (k : Nat) : List UInt8 := bs (fun j => l.getD j 0 &&& mk (k - 8 * j)) 32
def clip (n : Int) : Nat := (max 0 (min n 256)).toNat
theorem clip_le (n : Int) : clip n ≤ 256 := by unfold clip; omega
theorem mk_min (a : Nat) : mk a = mk (min a 8) := by
  by_cases h : a < 8
  · rw [Nat.min_eq_left (by omega)]
  · obtain ⟨k, rfl⟩ : ∃ k, a = k + 8 := ⟨a - 8, by omega⟩
    rw [Nat.min_eq_right (by omega)]; rfl
theorem nar_length (l : List UInt8) (k : Nat) : (nar l k).length = 32 := bs_length _ _
theorem nar_getD (l : List UInt8) (k j : Nat) (h : j < 32) : (nar l k).getD j 0 = l.getD j 0 &&& mk (k - 8 * j) := by
  rw [List.getD_eq_getElem?_getD, nar, bs_get _ _ _ h]; rfl
theorem nar_all (l : List UInt8) (h : l.length = 32) : nar l 256 = l := by
  have e := bs_self l
  rw [h] at e
  refine (bs_congr _ _ 32 fun j hj => ?_).trans e
  rw [mk_min, Nat.min_eq_right (by omega)]
  exact UInt8.and_neg_one
theorem nar_none (l : List UInt8) : nar l 0 = zs 32 := by
  have : nar l 0 = bs (fun _ => 0) 32 := bs_congr _ _ 32 fun j hj => by
    rw [Nat.zero_sub]; exact UInt8.and_zero
  rw [this]; rfl
/-- One bit more. -/
theorem mk_next : ∀ r : Fin 8, mk r.1 ||| UInt8.ofNat (128 / 2 ^ r.1) = mk (r.1 + 1) := by decide
theorem u8_dist (x y z : UInt8) : x &&& (y ||| z) = x &&& y ||| x &&& z := by
  apply UInt8.eq_of_toBitVec_eq
  apply BitVec.eq_of_getLsbD_eq
  intro i hi
  simp [Bool.and_or_distrib_left]
theorem nar_next (l : List UInt8) (i : Nat) (hi : i < 256) :
    (nar l i).set (i / 8) ((nar l i).getD (i / 8) 0 ||| (l.getD (i / 8) 0 &&& UInt8.ofNat (128 / 2 ^ (i % 8)))) = nar l (i + 1) := by
  refine bs_set _ _ 32 (i / 8) _ ?_ fun j hj hne => ?_
  · rw [nar_getD _ _ _ (by omega), ← u8_dist]
    have e := mk_next ⟨i % 8, by omega⟩
    simp only [] at e
    rw [show i - 8 * (i / 8) = i % 8 by omega, e, show i + 1 - 8 * (i / 8) = i % 8 + 1 by omega]
  · rcases Nat.lt_or_gt_of_ne hne with h | h
    · rw [mk_min, mk_min (i - 8 * j), Nat.min_eq_right (by omega), Nat.min_eq_right (by omega)]
    · rw [show i + 1 - 8 * j = 0 by omega, show i - 8 * j = 0 by omega]
/-- The program's form: one byte masked, the rest cleared. -/
theorem nar_form (l : List UInt8) (h : l.length = 32) (k : Nat) (hk : k < 256) :
    splice (l.set (k / 8) (l.getD (k / 8) 0 &&& mk (k % 8))) (k / 8 + 1) (zs (31 - k / 8)) = nar l k := by
  apply List.ext_getElem?
  intro j
  by_cases hj : j < 32
  · rw [nar, bs_get _ _ _ hj, splice, List.getElem?_append]
    have hl : (List.take (k / 8 + 1) (l.set (k / 8) (l.getD (k / 8) 0 &&& mk (k % 8)))).length = k / 8 + 1 := by simp [h]; omega
    rw [hl]
    by_cases h1 : j < k / 8 + 1
    · rw [if_pos h1, List.getElem?_take_of_lt h1, List.getElem?_set]
      by_cases h2 : k / 8 = j
      · subst h2
        rw [if_pos rfl, if_pos (by omega), show k - 8 * (k / 8) = k % 8 by omega]
      · rw [if_neg h2, mk_min, Nat.min_eq_right (by omega), List.getElem?_eq_getElem (by omega), List.getD_eq_getElem?_getD, List.getElem?_eq_getElem (by omega)]
        exact congrArg some UInt8.and_neg_one.symm
    · rw [if_neg h1, List.getElem?_append_left (by simp [zs]; omega), show k - 8 * j = 0 by omega]
      rw [zs, List.getElem?_replicate_of_lt (by omega)]
      exact congrArg some UInt8.and_zero.symm
  · rw [List.getElem?_eq_none, List.getElem?_eq_none (by rw [nar_length]; omega)]
    rw [length_splice _ _ _ (by simp [zs, h]; omega)]; simp [h]; omega
theorem i8_and (x y : UInt8) : bits .and .u8 (x.toNat : Int) (y.toNat : Int) = ((x &&& y).toNat : Int) := by
  rw [Go.u8_and_nat _ _ x.toNat_lt y.toNat_lt, UInt8.toNat_and]
theorem i8_or (x y : UInt8) : bits .or .u8 (x.toNat : Int) (y.toNat : Int) = ((x ||| y).toNat : Int) := by
  rw [Go.u8_or_nat _ _ x.toNat_lt y.toNat_lt, UInt8.toNat_or]
theorem splice_bv (a b : List UInt8) (j : Nat) : splice (bv a) j (bv b) = bv (splice a j b) := by simp [splice, bv, List.map_take, List.map_drop]
theorem bv_zs (k : Nat) : bv (zs k) = List.replicate k (.int .u8 0) := by simp [bv, zs]

/-- clear on a slice of a row that is known whole. -/
theorem wpList_clear_row {P : Program} {w : World} {ops : Array Oper} {rest : List Oper} {o : Oper} {a : Act} {Q : Exit → Act → World → Prop} (hgd : o.guard = none) (x : Operand) (t : TypeId)
    (ho : o.op = .call { callee := .builtin .clear, args := #[x], argTypes := #[t] }) (e : TypeId) (z : Value) (ht : P.underlying t = some (.slice e)) (hv : ∀ w, (zeroValue e).run P w = .ok z w) (hz : z.cells = #[z]) (h1 : z.oneCell' = true)
    (ap : Option Addr) (n c : Nat) (hx : a.eval x = .slice ap n c) (g off : Nat) (hap : n ≠ 0 → ap = some ⟨g, off, none⟩)
    (cur : List Value) (T : TypeId) (hg : w.heap[g]? = some (.cells cur.toArray T (0, 0))) (hfit : off + n ≤ cur.length)
    (h : ∀ w', Hid (w'.heap[g]? = some (.cells (splice cur off (List.replicate n z)).toArray T (0, 0))) → w.grownBy w' (some g) → wpList P ops Q rest (a.put o.dst (.tuple #[])) w') :
    wpList P ops Q (o :: rest) a w := by
  refine wpList_plain hgd fun K hK => ?_
  have hrun : ∃ w', (Builtin.clear_ #[t] o.type #[.slice ap n c]).run P w = .ok (.tuple #[]) w' ∧ w'.heap[g]? = some (.cells (splice cur off (List.replicate n z)).toArray T (0, 0)) ∧ w.grownBy w' (some g) := by
    by_cases h0 : n = 0
    · subst h0
      refine ⟨w, ?_, by rw [hg]; simp [splice], World.grownBy.refl _ _⟩
      cases ap <;> simp [Builtin.clear_, run_underlying ht]
    · obtain ⟨m, rfl⟩ : ∃ m, n = m + 1 := ⟨n - 1, by omega⟩
      rw [hap h0]
      have hzc : (Builtin.zeroCells z.cells (m + 1)).toList = List.replicate (m + 1) z := by
        rw [hz]
        simp [Builtin.zeroCells]
        apply List.ext_getElem
        · simp
        · intro i h1 h2
          simp [Nat.mod_one]
      have hst := run_storeCells_at P g off T (List.replicate (m + 1) z) 0 cur.toArray w hg (by simpa using hfit) (by intro v hv'; rw [List.eq_of_mem_replicate hv']; exact h1)
      refine ⟨_, ?_, setRow_heap w g _ (splice cur off (List.replicate (m + 1) z)).toArray T _ hg, grown_setRow w g _⟩
      simp only [Nat.add_zero] at hst
      simp [Builtin.clear_, run_underlying ht, hv, hzc, hst, splice]
  obtain ⟨w', hr, h2, h3⟩ := hrun
  unfold Oper.wp
  simp [execOp, ho, resolve, invoke, builtin, hx, hr, Result.andThen]
  exact hK _ _ (h w' h2 h3)

set_option maxHeartbeats 4000000 in
set_option maxRecDepth 100000 in
theorem Narrow_any (l : List UInt8) (n : Int) (w : World) (hl : l.length = 32) (hn : -9223372036854775808 ≤ n ∧ n ≤ 9223372036854775807) :
    Calls Tryd.prog 57 #[.agg (bv l).toArray, .int .i64 n] w fun e w' => e = .returned (.agg (bv (nar l (clip n))).toArray) ∧ Below w.heap.size w w' := by
  have hz := (zero_of_info info32).1
  obtain ⟨k, hk⟩ : ∃ k, k = clip n := ⟨_, rfl⟩
  have hk2 : k ≤ 256 := by rw [hk]; exact clip_le n
  obtain ⟨A, hA⟩ : ∃ A, A = (bv l).toArray := ⟨_, rfl⟩
  have hsz : A.size = 32 := by rw [hA]; simp [bv_length, hl]
  rw [← hk, ← hA]
  go_enter Tryd.func57, Tryd.ntmps57
  go_upto_region 2 with fail
  have hkz : (if 0 < if 256 < n then 256 else n then if 256 < n then 256 else n else 0) = (k : Int) := by rw [hk]; unfold clip; split <;> split <;> omega
  rw [hkz]
  clear hkz
  generalize (if 256 < n then 256 else n) = n6
  obtain ⟨w1, hw1⟩ : ∃ x : World, x = (w.alloc (.cells (bv l).toArray 35)).alloc (.cells (bv (zs 32)).toArray 35) := ⟨_, rfl⟩
  rw [← hw1]
  have hr1 : w1.heap[w.heap.size]? = some (.cells (bv l).toArray 35 (0, 0)) := by
    rw [hw1]; exact (heap_alloc_old _ _ (by simp)).trans (heap_alloc_new _ _)
  have hs1 : w1.heap[w.heap.size + 1]? = some (.cells (bv (zs 32)).toArray 35 (0, 0)) := by
    rw [hw1]
    have h := heap_alloc_new (w.alloc (.cells (bv l).toArray 35)) (.cells (bv (zs 32)).toArray 35)
    simpa using h
  have hb1 : Below w.heap.size w w1 := by rw [hw1]; exact ((Below.refl _ _).alloc (Nat.le_refl _) _).alloc (by simp) _
  clear hw1 hA hsz hk
  go_upto_if 9 with fail
  go_cut [] (fun wq => RowKit.Hid (wq.heap[w.heap.size]? = some (.cells (bv (nar l k)).toArray 35 (0, 0)) ∧ wq.heap[w.heap.size + 1]? = some (.cells (bv (zs 32)).toArray 35 (0, 0)) ∧ Below w.heap.size w wq))
  case first =>
    by_cases hk256 : k = 256
    · subst hk256
      have hkf : ¬ (256 : Int) < 256 := by decide
      have HC := Lib.hid (And.intro hr1 (And.intro hs1 hb1))
      go_wp2_with fail
      go_meet
      rw [nar_all l hl]; exact HC
    · have hkl : k < 256 := by omega
      have hkt : (k : Int) < 256 := by omega
      have hkd : decide ((k : Int) < 256) = true := decide_eq_true hkt
      obtain ⟨q, hq⟩ : ∃ q, q = k / 8 := ⟨_, rfl⟩
      have hq32 : q < 32 := by omega
      have hqz : (0 : Int) ≤ (q : Int) ∧ (q : Int) < 32 := by omega
      have hd1 : (k : Int).tdiv 8 = (q : Int) := by rw [Int.tdiv_eq_ediv_of_nonneg (by omega)]; omega
      have hd2 : (k : Int) / 8 = (q : Int) := by omega
      have hqw : IntKind.i64.wrap (q : Int) = (q : Int) := IntWalk.i64_in _ (by omega)
      have hqw1 : IntKind.i64.wrap ((q : Int) + 1) = (q : Int) + 1 := IntWalk.i64_in _ (by omega)
      obtain ⟨r, hr⟩ : ∃ r, r = k % 8 := ⟨_, rfl⟩
      have hr8 : r = 0 ∨ r = 1 ∨ r = 2 ∨ r = 3 ∨ r = 4 ∨ r = 5 ∨ r = 6 ∨ r = 7 := by omega
      have hm1 : (k : Int).tmod 8 = (r : Int) := by rw [Int.tmod_eq_emod_of_nonneg (by omega)]; omega
      have hm2 : (k : Int) % 8 = (r : Int) := by omega
      obtain ⟨x, hx⟩ : ∃ x, x = l.getD q 0 := ⟨_, rfl⟩
      have hx1 : l[q]? = some x := by rw [hx, List.getD_eq_getElem?_getD, List.getElem?_eq_getElem (by omega)]; rfl
      have hc : w1.cell? ⟨w.heap.size, q, none⟩ = some (.int .u8 x.toNat) := by
        rw [cell_of_row _ _ _ _ _ _ hr1, List.getElem?_toArray]; simp [bv, hx1]
      have hf := frozen_of_row _ _ q _ _ hr1
      have HC := Lib.hid (And.intro hr1 (And.intro hs1 hb1))
      have HQ := Lib.hid (And.intro hq (And.intro hr (And.intro hx hkl)))
      clear hr1 hs1 hb1 hx1 hq hx hr hk256
      rcases hr8 with rfl | rfl | rfl | rfl | rfl | rfl | rfl | rfl
      · go_wp2_with fail
        go_still_tail 10, (by kernel_rfl)
        rw [show bits BinOp.xor IntKind.u8 (if IntKind.u8.signed = true then -1 else IntKind.u8.max) 255 = ((mk 0).toNat : Int) from rfl, i8_and]
        obtain ⟨y, hy⟩ : ∃ y, y = x &&& mk 0 := ⟨_, rfl⟩
        rw [← hy]
        have hrow2 : splice (l.set q y) (q + 1) (zs (31 - q)) = nar l k := by
          have e := nar_form l hl k HQ.out.2.2.2
          rw [← HQ.out.1, ← HQ.out.2.2.1, ← HQ.out.2.1, ← hy] at e; exact e
        clear hy HQ
        iterate 1
          change wpList _ _ _ _ _ w1.drew
          have hc' : w1.drew.cell? ⟨w.heap.size, q, none⟩ = some (.int .u8 x.toNat) := hc
          have hf' : w1.drew.frozen? ⟨w.heap.size, q, none⟩ = false := hf
          have HC' : RowKit.Hid (w1.drew.heap[w.heap.size]? = some (.cells (bv l).toArray 35 (0, 0)) ∧ w1.drew.heap[w.heap.size + 1]? = some (.cells (bv (zs 32)).toArray 35 (0, 0)) ∧ Below w.heap.size w w1.drew) := ⟨HC.out.1, HC.out.2.1, HC.out.2.2.drew⟩
          clear hc hf HC
          generalize w1.drew = w2 at *
          go_upto_region 4 with fail
          obtain ⟨w3, hw3⟩ : ∃ x : World, x = w2.setCell ⟨w.heap.size, q, none⟩ (.int .u8 y.toNat) := ⟨_, rfl⟩
          rw [← hw3]
          have hr3 : w3.heap[w.heap.size]? = some (.cells (bv (l.set q y)).toArray 35 (0, 0)) := by rw [hw3, heap_setCell_same _ _ _ _ _ _ HC'.out.1, rowB_set]
          have hs3 : w3.heap[w.heap.size + 1]? = some (.cells (bv (zs 32)).toArray 35 (0, 0)) := by rw [hw3]; exact (heap_setCell_other _ _ _ _ (by simp)).trans HC'.out.2.1
          have hb3 : Below w.heap.size w w3 := by rw [hw3]; exact HC'.out.2.2.setCell (p := ⟨_, _, none⟩) (Nat.le_refl _) _
          have H3 := Lib.hid (And.intro hr3 (And.intro hs3 (And.intro hb3 hrow2)))
          clear hw3 hr3 hs3 hb3 hrow2 hc' hf' HC'
          have hq1 : (q : Int) + 1 ≤ 32 := by omega
          have hq2 : (0 : Int) ≤ (q : Int) + 1 := by omega
          have hq3 : ((q : Int) + 1).toNat = q + 1 := by omega
          go_wp2_with (with_reducible show wpList _ _ _ (⟨none, Op.call _, _, _, _, _⟩ :: _) _ _; go_loud (refine wpList_clear_row rfl _ _ rfl 5 (.int .u8 0) rfl (fun _ => rfl) rfl rfl _ (31 - q) _ rfl w.heap.size (q + 1) (fun _ => by rw [if_neg (by omega)]) (bv (l.set q y)) _ H3.out.1 (by rw [bv_length, List.length_set]; omega) ?_; intro w9 HG9 hg9))
          all_goals
            go_meet
            refine show _ ∧ _ from ⟨?_, (hg9.block _ (Array.getElem?_eq_some_iff.1 H3.out.2.1).1 (by simp)).trans H3.out.2.1, below_grow H3.out.2.2.1 hg9 (Nat.le_refl _) (Array.getElem?_eq_some_iff.1 H3.out.1).1⟩
            have h := HG9.out
            rw [← bv_zs, splice_bv, H3.out.2.2.2] at h
            exact h
      · go_wp2_with fail
        go_still_tail 10, (by kernel_rfl)
        rw [show bits BinOp.xor IntKind.u8 (if IntKind.u8.signed = true then -1 else IntKind.u8.max) 127 = ((mk 1).toNat : Int) from rfl, i8_and]
        obtain ⟨y, hy⟩ : ∃ y, y = x &&& mk 1 := ⟨_, rfl⟩
        rw [← hy]
        have hrow2 : splice (l.set q y) (q + 1) (zs (31 - q)) = nar l k := by
          have e := nar_form l hl k HQ.out.2.2.2
          rw [← HQ.out.1, ← HQ.out.2.2.1, ← HQ.out.2.1, ← hy] at e; exact e
        clear hy HQ
        iterate 1
          change wpList _ _ _ _ _ w1.drew
          have hc' : w1.drew.cell? ⟨w.heap.size, q, none⟩ = some (.int .u8 x.toNat) := hc
          have hf' : w1.drew.frozen? ⟨w.heap.size, q, none⟩ = false := hf
          have HC' : RowKit.Hid (w1.drew.heap[w.heap.size]? = some (.cells (bv l).toArray 35 (0, 0)) ∧ w1.drew.heap[w.heap.size + 1]? = some (.cells (bv (zs 32)).toArray 35 (0, 0)) ∧ Below w.heap.size w w1.drew) := ⟨HC.out.1, HC.out.2.1, HC.out.2.2.drew⟩
          clear hc hf HC
          generalize w1.drew = w2 at *
          go_upto_region 4 with fail
          obtain ⟨w3, hw3⟩ : ∃ x : World, x = w2.setCell ⟨w.heap.size, q, none⟩ (.int .u8 y.toNat) := ⟨_, rfl⟩
          rw [← hw3]
          have hr3 : w3.heap[w.heap.size]? = some (.cells (bv (l.set q y)).toArray 35 (0, 0)) := by rw [hw3, heap_setCell_same _ _ _ _ _ _ HC'.out.1, rowB_set]
          have hs3 : w3.heap[w.heap.size + 1]? = some (.cells (bv (zs 32)).toArray 35 (0, 0)) := by rw [hw3]; exact (heap_setCell_other _ _ _ _ (by simp)).trans HC'.out.2.1
          have hb3 : Below w.heap.size w w3 := by rw [hw3]; exact HC'.out.2.2.setCell (p := ⟨_, _, none⟩) (Nat.le_refl _) _
          have H3 := Lib.hid (And.intro hr3 (And.intro hs3 (And.intro hb3 hrow2)))
          clear hw3 hr3 hs3 hb3 hrow2 hc' hf' HC'
          have hq1 : (q : Int) + 1 ≤ 32 := by omega
          have hq2 : (0 : Int) ≤ (q : Int) + 1 := by omega
          have hq3 : ((q : Int) + 1).toNat = q + 1 := by omega
          go_wp2_with (with_reducible show wpList _ _ _ (⟨none, Op.call _, _, _, _, _⟩ :: _) _ _; go_loud (refine wpList_clear_row rfl _ _ rfl 5 (.int .u8 0) rfl (fun _ => rfl) rfl rfl _ (31 - q) _ rfl w.heap.size (q + 1) (fun _ => by rw [if_neg (by omega)]) (bv (l.set q y)) _ H3.out.1 (by rw [bv_length, List.length_set]; omega) ?_; intro w9 HG9 hg9))
          all_goals
            go_meet
            refine show _ ∧ _ from ⟨?_, (hg9.block _ (Array.getElem?_eq_some_iff.1 H3.out.2.1).1 (by simp)).trans H3.out.2.1, below_grow H3.out.2.2.1 hg9 (Nat.le_refl _) (Array.getElem?_eq_some_iff.1 H3.out.1).1⟩
            have h := HG9.out
            rw [← bv_zs, splice_bv, H3.out.2.2.2] at h
            exact h
      · go_wp2_with fail
        go_still_tail 10, (by kernel_rfl)
        rw [show bits BinOp.xor IntKind.u8 (if IntKind.u8.signed = true then -1 else IntKind.u8.max) 63 = ((mk 2).toNat : Int) from rfl, i8_and]
        obtain ⟨y, hy⟩ : ∃ y, y = x &&& mk 2 := ⟨_, rfl⟩
        rw [← hy]
        have hrow2 : splice (l.set q y) (q + 1) (zs (31 - q)) = nar l k := by
          have e := nar_form l hl k HQ.out.2.2.2
          rw [← HQ.out.1, ← HQ.out.2.2.1, ← HQ.out.2.1, ← hy] at e; exact e
        clear hy HQ
        iterate 1
          change wpList _ _ _ _ _ w1.drew
          have hc' : w1.drew.cell? ⟨w.heap.size, q, none⟩ = some (.int .u8 x.toNat) := hc
          have hf' : w1.drew.frozen? ⟨w.heap.size, q, none⟩ = false := hf
          have HC' : RowKit.Hid (w1.drew.heap[w.heap.size]? = some (.cells (bv l).toArray 35 (0, 0)) ∧ w1.drew.heap[w.heap.size + 1]? = some (.cells (bv (zs 32)).toArray 35 (0, 0)) ∧ Below w.heap.size w w1.drew) := ⟨HC.out.1, HC.out.2.1, HC.out.2.2.drew⟩
          clear hc hf HC
          generalize w1.drew = w2 at *
          go_upto_region 4 with fail
          obtain ⟨w3, hw3⟩ : ∃ x : World, x = w2.setCell ⟨w.heap.size, q, none⟩ (.int .u8 y.toNat) := ⟨_, rfl⟩
          rw [← hw3]
          have hr3 : w3.heap[w.heap.size]? = some (.cells (bv (l.set q y)).toArray 35 (0, 0)) := by rw [hw3, heap_setCell_same _ _ _ _ _ _ HC'.out.1, rowB_set]
          have hs3 : w3.heap[w.heap.size + 1]? = some (.cells (bv (zs 32)).toArray 35 (0, 0)) := by rw [hw3]; exact (heap_setCell_other _ _ _ _ (by simp)).trans HC'.out.2.1
          have hb3 : Below w.heap.size w w3 := by rw [hw3]; exact HC'.out.2.2.setCell (p := ⟨_, _, none⟩) (Nat.le_refl _) _
          have H3 := Lib.hid (And.intro hr3 (And.intro hs3 (And.intro hb3 hrow2)))
          clear hw3 hr3 hs3 hb3 hrow2 hc' hf' HC'
          have hq1 : (q : Int) + 1 ≤ 32 := by omega
          have hq2 : (0 : Int) ≤ (q : Int) + 1 := by omega
          have hq3 : ((q : Int) + 1).toNat = q + 1 := by omega
          go_wp2_with (with_reducible show wpList _ _ _ (⟨none, Op.call _, _, _, _, _⟩ :: _) _ _; go_loud (refine wpList_clear_row rfl _ _ rfl 5 (.int .u8 0) rfl (fun _ => rfl) rfl rfl _ (31 - q) _ rfl w.heap.size (q + 1) (fun _ => by rw [if_neg (by omega)]) (bv (l.set q y)) _ H3.out.1 (by rw [bv_length, List.length_set]; omega) ?_; intro w9 HG9 hg9))
          all_goals
            go_meet
            refine show _ ∧ _ from ⟨?_, (hg9.block _ (Array.getElem?_eq_some_iff.1 H3.out.2.1).1 (by simp)).trans H3.out.2.1, below_grow H3.out.2.2.1 hg9 (Nat.le_refl _) (Array.getElem?_eq_some_iff.1 H3.out.1).1⟩
            have h := HG9.out
            rw [← bv_zs, splice_bv, H3.out.2.2.2] at h
            exact h
      · go_wp2_with fail
        go_still_tail 10, (by kernel_rfl)
        rw [show bits BinOp.xor IntKind.u8 (if IntKind.u8.signed = true then -1 else IntKind.u8.max) 31 = ((mk 3).toNat : Int) from rfl, i8_and]
        obtain ⟨y, hy⟩ : ∃ y, y = x &&& mk 3 := ⟨_, rfl⟩
        rw [← hy]
        have hrow2 : splice (l.set q y) (q + 1) (zs (31 - q)) = nar l k := by
          have e := nar_form l hl k HQ.out.2.2.2
          rw [← HQ.out.1, ← HQ.out.2.2.1, ← HQ.out.2.1, ← hy] at e; exact e
        clear hy HQ
        iterate 1
          change wpList _ _ _ _ _ w1.drew
          have hc' : w1.drew.cell? ⟨w.heap.size, q, none⟩ = some (.int .u8 x.toNat) := hc
          have hf' : w1.drew.frozen? ⟨w.heap.size, q, none⟩ = false := hf
          have HC' : RowKit.Hid (w1.drew.heap[w.heap.size]? = some (.cells (bv l).toArray 35 (0, 0)) ∧ w1.drew.heap[w.heap.size + 1]? = some (.cells (bv (zs 32)).toArray 35 (0, 0)) ∧ Below w.heap.size w w1.drew) := ⟨HC.out.1, HC.out.2.1, HC.out.2.2.drew⟩
          clear hc hf HC
          generalize w1.drew = w2 at *
          go_upto_region 4 with fail
          obtain ⟨w3, hw3⟩ : ∃ x : World, x = w2.setCell ⟨w.heap.size, q, none⟩ (.int .u8 y.toNat) := ⟨_, rfl⟩
          rw [← hw3]
          have hr3 : w3.heap[w.heap.size]? = some (.cells (bv (l.set q y)).toArray 35 (0, 0)) := by rw [hw3, heap_setCell_same _ _ _ _ _ _ HC'.out.1, rowB_set]
          have hs3 : w3.heap[w.heap.size + 1]? = some (.cells (bv (zs 32)).toArray 35 (0, 0)) := by rw [hw3]; exact (heap_setCell_other _ _ _ _ (by simp)).trans HC'.out.2.1
          have hb3 : Below w.heap.size w w3 := by rw [hw3]; exact HC'.out.2.2.setCell (p := ⟨_, _, none⟩) (Nat.le_refl _) _
          have H3 := Lib.hid (And.intro hr3 (And.intro hs3 (And.intro hb3 hrow2)))
          clear hw3 hr3 hs3 hb3 hrow2 hc' hf' HC'
          have hq1 : (q : Int) + 1 ≤ 32 := by omega
          have hq2 : (0 : Int) ≤ (q : Int) + 1 := by omega
          have hq3 : ((q : Int) + 1).toNat = q + 1 := by omega
          go_wp2_with (with_reducible show wpList _ _ _ (⟨none, Op.call _, _, _, _, _⟩ :: _) _ _; go_loud (refine wpList_clear_row rfl _ _ rfl 5 (.int .u8 0) rfl (fun _ => rfl) rfl rfl _ (31 - q) _ rfl w.heap.size (q + 1) (fun _ => by rw [if_neg (by omega)]) (bv (l.set q y)) _ H3.out.1 (by rw [bv_length, List.length_set]; omega) ?_; intro w9 HG9 hg9))
          all_goals
            go_meet
            refine show _ ∧ _ from ⟨?_, (hg9.block _ (Array.getElem?_eq_some_iff.1 H3.out.2.1).1 (by simp)).trans H3.out.2.1, below_grow H3.out.2.2.1 hg9 (Nat.le_refl _) (Array.getElem?_eq_some_iff.1 H3.out.1).1⟩
            have h := HG9.out
            rw [← bv_zs, splice_bv, H3.out.2.2.2] at h
            exact h
      · go_wp2_with fail
        go_still_tail 10, (by kernel_rfl)
        rw [show bits BinOp.xor IntKind.u8 (if IntKind.u8.signed = true then -1 else IntKind.u8.max) 15 = ((mk 4).toNat : Int) from rfl, i8_and]
        obtain ⟨y, hy⟩ : ∃ y, y = x &&& mk 4 := ⟨_, rfl⟩
        rw [← hy]
        have hrow2 : splice (l.set q y) (q + 1) (zs (31 - q)) = nar l k := by
          have e := nar_form l hl k HQ.out.2.2.2
          rw [← HQ.out.1, ← HQ.out.2.2.1, ← HQ.out.2.1, ← hy] at e; exact e
        clear hy HQ
        iterate 1
          change wpList _ _ _ _ _ w1.drew
          have hc' : w1.drew.cell? ⟨w.heap.size, q, none⟩ = some (.int .u8 x.toNat) := hc
          have hf' : w1.drew.frozen? ⟨w.heap.size, q, none⟩ = false := hf
          have HC' : RowKit.Hid (w1.drew.heap[w.heap.size]? = some (.cells (bv l).toArray 35 (0, 0)) ∧ w1.drew.heap[w.heap.size + 1]? = some (.cells (bv (zs 32)).toArray 35 (0, 0)) ∧ Below w.heap.size w w1.drew) := ⟨HC.out.1, HC.out.2.1, HC.out.2.2.drew⟩
          clear hc hf HC
          generalize w1.drew = w2 at *
          go_upto_region 4 with fail
          obtain ⟨w3, hw3⟩ : ∃ x : World, x = w2.setCell ⟨w.heap.size, q, none⟩ (.int .u8 y.toNat) := ⟨_, rfl⟩
          rw [← hw3]
          have hr3 : w3.heap[w.heap.size]? = some (.cells (bv (l.set q y)).toArray 35 (0, 0)) := by rw [hw3, heap_setCell_same _ _ _ _ _ _ HC'.out.1, rowB_set]
          have hs3 : w3.heap[w.heap.size + 1]? = some (.cells (bv (zs 32)).toArray 35 (0, 0)) := by rw [hw3]; exact (heap_setCell_other _ _ _ _ (by simp)).trans HC'.out.2.1
          have hb3 : Below w.heap.size w w3 := by rw [hw3]; exact HC'.out.2.2.setCell (p := ⟨_, _, none⟩) (Nat.le_refl _) _
          have H3 := Lib.hid (And.intro hr3 (And.intro hs3 (And.intro hb3 hrow2)))
          clear hw3 hr3 hs3 hb3 hrow2 hc' hf' HC'
          have hq1 : (q : Int) + 1 ≤ 32 := by omega
          have hq2 : (0 : Int) ≤ (q : Int) + 1 := by omega
          have hq3 : ((q : Int) + 1).toNat = q + 1 := by omega
          go_wp2_with (with_reducible show wpList _ _ _ (⟨none, Op.call _, _, _, _, _⟩ :: _) _ _; go_loud (refine wpList_clear_row rfl _ _ rfl 5 (.int .u8 0) rfl (fun _ => rfl) rfl rfl _ (31 - q) _ rfl w.heap.size (q + 1) (fun _ => by rw [if_neg (by omega)]) (bv (l.set q y)) _ H3.out.1 (by rw [bv_length, List.length_set]; omega) ?_; intro w9 HG9 hg9))
          all_goals
            go_meet
            refine show _ ∧ _ from ⟨?_, (hg9.block _ (Array.getElem?_eq_some_iff.1 H3.out.2.1).1 (by simp)).trans H3.out.2.1, below_grow H3.out.2.2.1 hg9 (Nat.le_refl _) (Array.getElem?_eq_some_iff.1 H3.out.1).1⟩
            have h := HG9.out
            rw [← bv_zs, splice_bv, H3.out.2.2.2] at h
            exact h
      · go_wp2_with fail
        go_still_tail 10, (by kernel_rfl)
        rw [show bits BinOp.xor IntKind.u8 (if IntKind.u8.signed = true then -1 else IntKind.u8.max) 7 = ((mk 5).toNat : Int) from rfl, i8_and]
        obtain ⟨y, hy⟩ : ∃ y, y = x &&& mk 5 := ⟨_, rfl⟩
        rw [← hy]
        have hrow2 : splice (l.set q y) (q + 1) (zs (31 - q)) = nar l k := by
          have e := nar_form l hl k HQ.out.2.2.2
          rw [← HQ.out.1, ← HQ.out.2.2.1, ← HQ.out.2.1, ← hy] at e; exact e
        clear hy HQ
        iterate 1
          change wpList _ _ _ _ _ w1.drew
          have hc' : w1.drew.cell? ⟨w.heap.size, q, none⟩ = some (.int .u8 x.toNat) := hc
          have hf' : w1.drew.frozen? ⟨w.heap.size, q, none⟩ = false := hf
          have HC' : RowKit.Hid (w1.drew.heap[w.heap.size]? = some (.cells (bv l).toArray 35 (0, 0)) ∧ w1.drew.heap[w.heap.size + 1]? = some (.cells (bv (zs 32)).toArray 35 (0, 0)) ∧ Below w.heap.size w w1.drew) := ⟨HC.out.1, HC.out.2.1, HC.out.2.2.drew⟩
          clear hc hf HC
          generalize w1.drew = w2 at *
          go_upto_region 4 with fail
          obtain ⟨w3, hw3⟩ : ∃ x : World, x = w2.setCell ⟨w.heap.size, q, none⟩ (.int .u8 y.toNat) := ⟨_, rfl⟩
          rw [← hw3]
          have hr3 : w3.heap[w.heap.size]? = some (.cells (bv (l.set q y)).toArray 35 (0, 0)) := by rw [hw3, heap_setCell_same _ _ _ _ _ _ HC'.out.1, rowB_set]
          have hs3 : w3.heap[w.heap.size + 1]? = some (.cells (bv (zs 32)).toArray 35 (0, 0)) := by rw [hw3]; exact (heap_setCell_other _ _ _ _ (by simp)).trans HC'.out.2.1
          have hb3 : Below w.heap.size w w3 := by rw [hw3]; exact HC'.out.2.2.setCell (p := ⟨_, _, none⟩) (Nat.le_refl _) _
          have H3 := Lib.hid (And.intro hr3 (And.intro hs3 (And.intro hb3 hrow2)))
          clear hw3 hr3 hs3 hb3 hrow2 hc' hf' HC'
          have hq1 : (q : Int) + 1 ≤ 32 := by omega
          have hq2 : (0 : Int) ≤ (q : Int) + 1 := by omega
          have hq3 : ((q : Int) + 1).toNat = q + 1 := by omega
          go_wp2_with (with_reducible show wpList _ _ _ (⟨none, Op.call _, _, _, _, _⟩ :: _) _ _; go_loud (refine wpList_clear_row rfl _ _ rfl 5 (.int .u8 0) rfl (fun _ => rfl) rfl rfl _ (31 - q) _ rfl w.heap.size (q + 1) (fun _ => by rw [if_neg (by omega)]) (bv (l.set q y)) _ H3.out.1 (by rw [bv_length, List.length_set]; omega) ?_; intro w9 HG9 hg9))
          all_goals
            go_meet
            refine show _ ∧ _ from ⟨?_, (hg9.block _ (Array.getElem?_eq_some_iff.1 H3.out.2.1).1 (by simp)).trans H3.out.2.1, below_grow H3.out.2.2.1 hg9 (Nat.le_refl _) (Array.getElem?_eq_some_iff.1 H3.out.1).1⟩
            have h := HG9.out
            rw [← bv_zs, splice_bv, H3.out.2.2.2] at h
            exact h
      · go_wp2_with fail
        go_still_tail 10, (by kernel_rfl)
        rw [show bits BinOp.xor IntKind.u8 (if IntKind.u8.signed = true then -1 else IntKind.u8.max) 3 = ((mk 6).toNat : Int) from rfl, i8_and]
        obtain ⟨y, hy⟩ : ∃ y, y = x &&& mk 6 := ⟨_, rfl⟩
        rw [← hy]
        have hrow2 : splice (l.set q y) (q + 1) (zs (31 - q)) = nar l k := by
          have e := nar_form l hl k HQ.out.2.2.2
          rw [← HQ.out.1, ← HQ.out.2.2.1, ← HQ.out.2.1, ← hy] at e; exact e
        clear hy HQ
        iterate 1
          change wpList _ _ _ _ _ w1.drew
          have hc' : w1.drew.cell? ⟨w.heap.size, q, none⟩ = some (.int .u8 x.toNat) := hc
          have hf' : w1.drew.frozen? ⟨w.heap.size, q, none⟩ = false := hf
          have HC' : RowKit.Hid (w1.drew.heap[w.heap.size]? = some (.cells (bv l).toArray 35 (0, 0)) ∧ w1.drew.heap[w.heap.size + 1]? = some (.cells (bv (zs 32)).toArray 35 (0, 0)) ∧ Below w.heap.size w w1.drew) := ⟨HC.out.1, HC.out.2.1, HC.out.2.2.drew⟩
          clear hc hf HC
          generalize w1.drew = w2 at *
          go_upto_region 4 with fail
          obtain ⟨w3, hw3⟩ : ∃ x : World, x = w2.setCell ⟨w.heap.size, q, none⟩ (.int .u8 y.toNat) := ⟨_, rfl⟩
          rw [← hw3]
          have hr3 : w3.heap[w.heap.size]? = some (.cells (bv (l.set q y)).toArray 35 (0, 0)) := by rw [hw3, heap_setCell_same _ _ _ _ _ _ HC'.out.1, rowB_set]
          have hs3 : w3.heap[w.heap.size + 1]? = some (.cells (bv (zs 32)).toArray 35 (0, 0)) := by rw [hw3]; exact (heap_setCell_other _ _ _ _ (by simp)).trans HC'.out.2.1
          have hb3 : Below w.heap.size w w3 := by rw [hw3]; exact HC'.out.2.2.setCell (p := ⟨_, _, none⟩) (Nat.le_refl _) _
          have H3 := Lib.hid (And.intro hr3 (And.intro hs3 (And.intro hb3 hrow2)))
          clear hw3 hr3 hs3 hb3 hrow2 hc' hf' HC'
          have hq1 : (q : Int) + 1 ≤ 32 := by omega
          have hq2 : (0 : Int) ≤ (q : Int) + 1 := by omega
          have hq3 : ((q : Int) + 1).toNat = q + 1 := by omega
          go_wp2_with (with_reducible show wpList _ _ _ (⟨none, Op.call _, _, _, _, _⟩ :: _) _ _; go_loud (refine wpList_clear_row rfl _ _ rfl 5 (.int .u8 0) rfl (fun _ => rfl) rfl rfl _ (31 - q) _ rfl w.heap.size (q + 1) (fun _ => by rw [if_neg (by omega)]) (bv (l.set q y)) _ H3.out.1 (by rw [bv_length, List.length_set]; omega) ?_; intro w9 HG9 hg9))
          all_goals
            go_meet
            refine show _ ∧ _ from ⟨?_, (hg9.block _ (Array.getElem?_eq_some_iff.1 H3.out.2.1).1 (by simp)).trans H3.out.2.1, below_grow H3.out.2.2.1 hg9 (Nat.le_refl _) (Array.getElem?_eq_some_iff.1 H3.out.1).1⟩
            have h := HG9.out
            rw [← bv_zs, splice_bv, H3.out.2.2.2] at h
            exact h
      · go_wp2_with fail
        go_still_tail 10, (by kernel_rfl)
        rw [show bits BinOp.xor IntKind.u8 (if IntKind.u8.signed = true then -1 else IntKind.u8.max) 1 = ((mk 7).toNat : Int) from rfl, i8_and]
        obtain ⟨y, hy⟩ : ∃ y, y = x &&& mk 7 := ⟨_, rfl⟩
        rw [← hy]
        have hrow2 : splice (l.set q y) (q + 1) (zs (31 - q)) = nar l k := by
          have e := nar_form l hl k HQ.out.2.2.2
          rw [← HQ.out.1, ← HQ.out.2.2.1, ← HQ.out.2.1, ← hy] at e; exact e
        clear hy HQ
        iterate 1
          change wpList _ _ _ _ _ w1.drew
          have hc' : w1.drew.cell? ⟨w.heap.size, q, none⟩ = some (.int .u8 x.toNat) := hc
          have hf' : w1.drew.frozen? ⟨w.heap.size, q, none⟩ = false := hf
          have HC' : RowKit.Hid (w1.drew.heap[w.heap.size]? = some (.cells (bv l).toArray 35 (0, 0)) ∧ w1.drew.heap[w.heap.size + 1]? = some (.cells (bv (zs 32)).toArray 35 (0, 0)) ∧ Below w.heap.size w w1.drew) := ⟨HC.out.1, HC.out.2.1, HC.out.2.2.drew⟩
          clear hc hf HC
          generalize w1.drew = w2 at *
          go_upto_region 4 with fail
          obtain ⟨w3, hw3⟩ : ∃ x : World, x = w2.setCell ⟨w.heap.size, q, none⟩ (.int .u8 y.toNat) := ⟨_, rfl⟩
          rw [← hw3]
          have hr3 : w3.heap[w.heap.size]? = some (.cells (bv (l.set q y)).toArray 35 (0, 0)) := by rw [hw3, heap_setCell_same _ _ _ _ _ _ HC'.out.1, rowB_set]
          have hs3 : w3.heap[w.heap.size + 1]? = some (.cells (bv (zs 32)).toArray 35 (0, 0)) := by rw [hw3]; exact (heap_setCell_other _ _ _ _ (by simp)).trans HC'.out.2.1
          have hb3 : Below w.heap.size w w3 := by rw [hw3]; exact HC'.out.2.2.setCell (p := ⟨_, _, none⟩) (Nat.le_refl _) _
          have H3 := Lib.hid (And.intro hr3 (And.intro hs3 (And.intro hb3 hrow2)))
          clear hw3 hr3 hs3 hb3 hrow2 hc' hf' HC'
          have hq1 : (q : Int) + 1 ≤ 32 := by omega
          have hq2 : (0 : Int) ≤ (q : Int) + 1 := by omega
          have hq3 : ((q : Int) + 1).toNat = q + 1 := by omega
          go_wp2_with (with_reducible show wpList _ _ _ (⟨none, Op.call _, _, _, _, _⟩ :: _) _ _; go_loud (refine wpList_clear_row rfl _ _ rfl 5 (.int .u8 0) rfl (fun _ => rfl) rfl rfl _ (31 - q) _ rfl w.heap.size (q + 1) (fun _ => by rw [if_neg (by omega)]) (bv (l.set q y)) _ H3.out.1 (by rw [bv_length, List.length_set]; omega) ?_; intro w9 HG9 hg9))
          all_goals
            go_meet
            refine show _ ∧ _ from ⟨?_, (hg9.block _ (Array.getElem?_eq_some_iff.1 H3.out.2.1).1 (by simp)).trans H3.out.2.1, below_grow H3.out.2.2.1 hg9 (Nat.le_refl _) (Array.getElem?_eq_some_iff.1 H3.out.1).1⟩
            have h := HG9.out
            rw [← bv_zs, splice_bv, H3.out.2.2.2] at h
            exact h
  case rest =>
    clear hr1 hs1 hb1
    have hnl := nar_length l k
    obtain ⟨out, ho⟩ : ∃ out, out = nar l k := ⟨_, rfl⟩
    rw [← ho] at hcut hnl
    have HO := Lib.hid ho
    clear ho
    go_wp2_with (first
      | (with_reducible show wpList _ _ _ (⟨some 24, _, _, _, _, _⟩ :: _) _ _; refine wpList_load_row rfl _ _ rfl w.heap.size rfl _ _ (0, 0) _ hcut.out.1 Tryd.underlying35 rfl (hInfo _ hnl) ?_)
      | (with_reducible show wpList _ _ _ (⟨none, Op.store _ _ _, _, _, _, _⟩ :: _) _ _; refine wpList_store_whole rfl _ _ _ rfl (w.heap.size + 1) _ rfl rfl _ _ hcut.out.2.1 (hInfo' _ hnl) (by rw [bv_length, bv_length, hnl]; simp [zs]) (bv_one _) ?_; intro w9 HG9 hg9))
    refine bodyPost_ret (v := .agg (bv out).toArray) ?_ ?_ ?_
    · exact results_cell_row Tryd.results57 _ _ (w.heap.size + 1) 35 _ (0, 0) _ rfl HG9.out Tryd.underlying35 rfl (hInfo _ hnl)
    · rfl
    · exact ⟨by rw [HO.out], below_grow hcut.out.2.2 hg9 (by omega) (Array.getElem?_eq_some_iff.1 hcut.out.2.1).1⟩
end Go.Proofs.YtfibhmgjkooemaaDoor
namespace Go.Proofs.YtfibhmgjkooemaaDoor
open Go.RowKit Sha

theorem and_c0 (x : UInt8) : bits BinOp.and IntKind.u8 (x.toNat : Int) 128 = ((x &&& UInt8.ofNat (128 / 2 ^ 0)).toNat : Int) := by
  have e := i8_and x (UInt8.ofNat (128 / 2 ^ 0))
  rwa [show ((UInt8.ofNat (128 / 2 ^ 0)).toNat : Int) = 128 from rfl] at e
theorem and_c1 (x : UInt8) : bits BinOp.and IntKind.u8 (x.toNat : Int) 64 = ((x &&& UInt8.ofNat (128 / 2 ^ 1)).toNat : Int) := by
  have e := i8_and x (UInt8.ofNat (128 / 2 ^ 1))
  rwa [show ((UInt8.ofNat (128 / 2 ^ 1)).toNat : Int) = 64 from rfl] at e
theorem and_c2 (x : UInt8) : bits BinOp.and IntKind.u8 (x.toNat : Int) 32 = ((x &&& UInt8.ofNat (128 / 2 ^ 2)).toNat : Int) := by
  have e := i8_and x (UInt8.ofNat (128 / 2 ^ 2))
  rwa [show ((UInt8.ofNat (128 / 2 ^ 2)).toNat : Int) = 32 from rfl] at e
theorem and_c3 (x : UInt8) : bits BinOp.and IntKind.u8 (x.toNat : Int) 16 = ((x &&& UInt8.ofNat (128 / 2 ^ 3)).toNat : Int) := by
  have e := i8_and x (UInt8.ofNat (128 / 2 ^ 3))
  rwa [show ((UInt8.ofNat (128 / 2 ^ 3)).toNat : Int) = 16 from rfl] at e
theorem and_c4 (x : UInt8) : bits BinOp.and IntKind.u8 (x.toNat : Int) 8 = ((x &&& UInt8.ofNat (128 / 2 ^ 4)).toNat : Int) := by
  have e := i8_and x (UInt8.ofNat (128 / 2 ^ 4))
  rwa [show ((UInt8.ofNat (128 / 2 ^ 4)).toNat : Int) = 8 from rfl] at e
theorem and_c5 (x : UInt8) : bits BinOp.and IntKind.u8 (x.toNat : Int) 4 = ((x &&& UInt8.ofNat (128 / 2 ^ 5)).toNat : Int) := by
  have e := i8_and x (UInt8.ofNat (128 / 2 ^ 5))
  rwa [show ((UInt8.ofNat (128 / 2 ^ 5)).toNat : Int) = 4 from rfl] at e
theorem and_c6 (x : UInt8) : bits BinOp.and IntKind.u8 (x.toNat : Int) 2 = ((x &&& UInt8.ofNat (128 / 2 ^ 6)).toNat : Int) := by
  have e := i8_and x (UInt8.ofNat (128 / 2 ^ 6))
  rwa [show ((UInt8.ofNat (128 / 2 ^ 6)).toNat : Int) = 2 from rfl] at e
theorem and_c7 (x : UInt8) : bits BinOp.and IntKind.u8 (x.toNat : Int) 1 = ((x &&& UInt8.ofNat (128 / 2 ^ 7)).toNat : Int) := by
  have e := i8_and x (UInt8.ofNat (128 / 2 ^ 7))
  rwa [show ((UInt8.ofNat (128 / 2 ^ 7)).toNat : Int) = 1 from rfl] at e

set_option maxHeartbeats 4000000 in
set_option maxRecDepth 100000 in
theorem refNarrow_any (l : List UInt8) (n : Int) (w : World) (hl : l.length = 32) (hn : -9223372036854775808 ≤ n ∧ n ≤ 9223372036854775807) :
    Calls Tryd.prog 52 #[.agg (bv l).toArray, .int .i64 n] w fun e w' => e = .returned (.agg (bv (nar l (clip n))).toArray) ∧ Below w.heap.size w w' := by
  have hz := (zero_of_info info32).1
  obtain ⟨k, hk⟩ : ∃ k, k = clip n := ⟨_, rfl⟩
  have hkn : (k : Int) = max 0 (min n 256) := by rw [hk]; unfold clip; omega
  rw [← hk]
  have HK := Lib.hid hkn
  obtain ⟨A, hA⟩ : ∃ A, A = (bv l).toArray := ⟨_, rfl⟩
  have hsz : A.size = 32 := by rw [hA]; simp [bv_length, hl]
  rw [← hA]
  clear hk hkn
  go_enter Tryd.func52, Tryd.ntmps52
  go_upto_region 2 with fail
  obtain ⟨w1, hw1⟩ : ∃ x : World, x = ((w.alloc (.cells (bv l).toArray 35)).alloc (.cells (bv (zs 32)).toArray 35)).alloc (.cells (bv (zs 32)).toArray 35) := ⟨_, rfl⟩
  rw [← hw1]
  have hr1 : w1.heap[w.heap.size]? = some (.cells (bv l).toArray 35 (0, 0)) := by
    rw [hw1]; exact (heap_alloc_old _ _ (by simp; omega)).trans ((heap_alloc_old _ _ (by simp)).trans (heap_alloc_new _ _))
  have hs1 : w1.heap[w.heap.size + 1]? = some (.cells (bv (zs 32)).toArray 35 (0, 0)) := by
    rw [hw1]
    have h := heap_alloc_new (w.alloc (.cells (bv l).toArray 35)) (.cells (bv (zs 32)).toArray 35)
    exact (heap_alloc_old _ _ (by simp)).trans (by simpa using h)
  have ho1 : w1.heap[w.heap.size + 2]? = some (.cells (bv (nar l 0)).toArray 35 (0, 0)) := by
    rw [hw1, nar_none]
    have h := heap_alloc_new ((w.alloc (.cells (bv l).toArray 35)).alloc (.cells (bv (zs 32)).toArray 35)) (.cells (bv (zs 32)).toArray 35)
    simpa using h
  have hb1 : Below w.heap.size w w1 := by rw [hw1]; exact (((Below.refl _ _).alloc (Nat.le_refl _) _).alloc (by simp) _).alloc (by simp; omega) _
  have H1 := Lib.hid (And.intro hr1 (And.intro hs1 (And.intro ho1 hb1)))
  clear hw1 hA hsz hr1 hs1 ho1 hb1
  go_wp2_with fail
  go_loopw [6] (fun s6 wx => ∃ i : Nat, i ≤ k ∧ s6 = .int .i64 i ∧ RowKit.Hid (wx.heap[w.heap.size]? = some (.cells (bv l).toArray 35 (0, 0)) ∧ wx.heap[w.heap.size + 1]? = some (.cells (bv (zs 32)).toArray 35 (0, 0)) ∧
      wx.heap[w.heap.size + 2]? = some (.cells (bv (nar l i)).toArray 35 (0, 0)) ∧ Below w.heap.size w wx)) (fun s6 _ => k - (intOf s6).toNat)
  case atStart => exact ⟨0, by omega, rfl, H1⟩
  case round =>
    clear H1
    obtain ⟨i, hi, rfl, HI⟩ := hrel
    by_cases hil : i < k
    · have hi256 : (i : Int) < 256 := by have := HK.out; omega
      have hin : (i : Int) < n := by have := HK.out; omega
      have hi0 : (0 : Int) ≤ (i : Int) := by omega
      obtain ⟨q, hq⟩ : ∃ q, q = i / 8 := ⟨_, rfl⟩
      have hq32 : q < 32 := by omega
      have hqz : (0 : Int) ≤ (q : Int) ∧ (q : Int) < 32 := by omega
      have hd1 : (i : Int).tdiv 8 = (q : Int) := by rw [Int.tdiv_eq_ediv_of_nonneg (by omega)]; omega
      have hd2 : (i : Int) / 8 = (q : Int) := by omega
      have hqw : IntKind.i64.wrap (q : Int) = (q : Int) := IntWalk.i64_in _ (by omega)
      obtain ⟨r, hr⟩ : ∃ r, r = i % 8 := ⟨_, rfl⟩
      have hr8 : r = 0 ∨ r = 1 ∨ r = 2 ∨ r = 3 ∨ r = 4 ∨ r = 5 ∨ r = 6 ∨ r = 7 := by omega
      have hm1 : (i : Int).tmod 8 = (r : Int) := by rw [Int.tmod_eq_emod_of_nonneg (by omega)]; omega
      have hm2 : (i : Int) % 8 = (r : Int) := by omega
      obtain ⟨x, hx⟩ : ∃ x, x = l.getD q 0 := ⟨_, rfl⟩
      have hx1 : l[q]? = some x := by rw [hx, List.getD_eq_getElem?_getD, List.getElem?_eq_getElem (by omega)]; rfl
      have hc : wr.cell? ⟨w.heap.size, q, none⟩ = some (.int .u8 x.toNat) := by
        rw [cell_of_row _ _ _ _ _ _ HI.out.1, List.getElem?_toArray]; simp [bv, hx1]
      obtain ⟨y, hy⟩ : ∃ y, y = (nar l i).getD q 0 := ⟨_, rfl⟩
      have hy1 : (nar l i)[q]? = some y := by rw [hy, List.getD_eq_getElem?_getD, List.getElem?_eq_getElem (by rw [nar_length]; omega)]; rfl
      have hcy : wr.cell? ⟨w.heap.size + 2, q, none⟩ = some (.int .u8 y.toNat) := by
        rw [cell_of_row _ _ _ _ _ _ HI.out.2.2.1, List.getElem?_toArray]; simp [bv, hy1]
      have hf := frozen_of_row _ _ q _ _ HI.out.2.2.1
      have hnext := nar_next l i (by omega)
      rw [← hq, ← hr, ← hx, ← hy] at hnext
      have HC := Lib.hid (And.intro HI.out hnext)
      clear HI hx1 hx hy1 hy hnext hq hr
      rcases hr8 with rfl | rfl | rfl | rfl | rfl | rfl | rfl | rfl
      · go_wp2_with fail
        go_still_tail 15, (by kernel_rfl)
        rw [show (128 : Int) / 2 ^ min (IntKind.u64.wrap 0).toNat 8 = 128 from rfl, and_c0, i8_or]
        iterate 1
          obtain ⟨v, hv⟩ : ∃ v, v = y ||| x &&& UInt8.ofNat (128 / 2 ^ 0) := ⟨_, rfl⟩
          rw [← hv]
          have hnext := HC.out.2
          rw [← hv] at hnext
          have HN := Lib.hid hnext
          clear hv hnext
          change wpList _ _ _ _ _ wr.drew
          have hc' : wr.drew.cell? ⟨w.heap.size + 2, q, none⟩ = some (.int .u8 y.toNat) := hcy
          have hf' : wr.drew.frozen? ⟨w.heap.size + 2, q, none⟩ = false := hf
          have HC' : RowKit.Hid (wr.drew.heap[w.heap.size]? = some (.cells (bv l).toArray 35 (0, 0)) ∧ wr.drew.heap[w.heap.size + 1]? = some (.cells (bv (zs 32)).toArray 35 (0, 0)) ∧
            wr.drew.heap[w.heap.size + 2]? = some (.cells (bv (nar l i)).toArray 35 (0, 0)) ∧ Below w.heap.size w wr.drew) := ⟨HC.out.1.1, HC.out.1.2.1, HC.out.1.2.2.1, HC.out.1.2.2.2.drew⟩
          clear hc hf HC hcy
          generalize wr.drew = w2 at *
          go_wp2_with fail
          go_roundw
          case rel =>
            have e1 := (heap_setCell_other w2 ⟨w.heap.size + 2, q, none⟩ w.heap.size (.int .u8 v.toNat) (by simp)).trans HC'.out.1
            have e2 := (heap_setCell_other w2 ⟨w.heap.size + 2, q, none⟩ (w.heap.size + 1) (.int .u8 v.toNat) (by simp)).trans HC'.out.2.1
            have e3 := heap_setCell_same w2 (w.heap.size + 2) q _ _ (.int .u8 v.toNat) HC'.out.2.2.1
            rw [rowB_set, HN.out] at e3
            have e4 := HC'.out.2.2.2.setCell (p := ⟨w.heap.size + 2, q, none⟩) (by simp) (.int .u8 v.toNat)
            exact ⟨i + 1, by omega, by go_num, And.intro e1 (And.intro e2 (And.intro e3 e4))⟩
          case measure => simp [intOf]; omega
      · go_wp2_with fail
        go_still_tail 15, (by kernel_rfl)
        rw [show (128 : Int) / 2 ^ min (IntKind.u64.wrap 1).toNat 8 = 64 from rfl, and_c1, i8_or]
        iterate 1
          obtain ⟨v, hv⟩ : ∃ v, v = y ||| x &&& UInt8.ofNat (128 / 2 ^ 1) := ⟨_, rfl⟩
          rw [← hv]
          have hnext := HC.out.2
          rw [← hv] at hnext
          have HN := Lib.hid hnext
          clear hv hnext
          change wpList _ _ _ _ _ wr.drew
          have hc' : wr.drew.cell? ⟨w.heap.size + 2, q, none⟩ = some (.int .u8 y.toNat) := hcy
          have hf' : wr.drew.frozen? ⟨w.heap.size + 2, q, none⟩ = false := hf
          have HC' : RowKit.Hid (wr.drew.heap[w.heap.size]? = some (.cells (bv l).toArray 35 (0, 0)) ∧ wr.drew.heap[w.heap.size + 1]? = some (.cells (bv (zs 32)).toArray 35 (0, 0)) ∧
            wr.drew.heap[w.heap.size + 2]? = some (.cells (bv (nar l i)).toArray 35 (0, 0)) ∧ Below w.heap.size w wr.drew) := ⟨HC.out.1.1, HC.out.1.2.1, HC.out.1.2.2.1, HC.out.1.2.2.2.drew⟩
          clear hc hf HC hcy
          generalize wr.drew = w2 at *
          go_wp2_with fail
          go_roundw
          case rel =>
            have e1 := (heap_setCell_other w2 ⟨w.heap.size + 2, q, none⟩ w.heap.size (.int .u8 v.toNat) (by simp)).trans HC'.out.1
            have e2 := (heap_setCell_other w2 ⟨w.heap.size + 2, q, none⟩ (w.heap.size + 1) (.int .u8 v.toNat) (by simp)).trans HC'.out.2.1
            have e3 := heap_setCell_same w2 (w.heap.size + 2) q _ _ (.int .u8 v.toNat) HC'.out.2.2.1
            rw [rowB_set, HN.out] at e3
            have e4 := HC'.out.2.2.2.setCell (p := ⟨w.heap.size + 2, q, none⟩) (by simp) (.int .u8 v.toNat)
            exact ⟨i + 1, by omega, by go_num, And.intro e1 (And.intro e2 (And.intro e3 e4))⟩
          case measure => simp [intOf]; omega
      · go_wp2_with fail
        go_still_tail 15, (by kernel_rfl)
        rw [show (128 : Int) / 2 ^ min (IntKind.u64.wrap 2).toNat 8 = 32 from rfl, and_c2, i8_or]
        iterate 1
          obtain ⟨v, hv⟩ : ∃ v, v = y ||| x &&& UInt8.ofNat (128 / 2 ^ 2) := ⟨_, rfl⟩
          rw [← hv]
          have hnext := HC.out.2
          rw [← hv] at hnext
          have HN := Lib.hid hnext
          clear hv hnext
          change wpList _ _ _ _ _ wr.drew
          have hc' : wr.drew.cell? ⟨w.heap.size + 2, q, none⟩ = some (.int .u8 y.toNat) := hcy
          have hf' : wr.drew.frozen? ⟨w.heap.size + 2, q, none⟩ = false := hf
          have HC' : RowKit.Hid (wr.drew.heap[w.heap.size]? = some (.cells (bv l).toArray 35 (0, 0)) ∧ wr.drew.heap[w.heap.size + 1]? = some (.cells (bv (zs 32)).toArray 35 (0, 0)) ∧
            wr.drew.heap[w.heap.size + 2]? = some (.cells (bv (nar l i)).toArray 35 (0, 0)) ∧ Below w.heap.size w wr.drew) := ⟨HC.out.1.1, HC.out.1.2.1, HC.out.1.2.2.1, HC.out.1.2.2.2.drew⟩
          clear hc hf HC hcy
          generalize wr.drew = w2 at *
          go_wp2_with fail
          go_roundw
          case rel =>
            have e1 := (heap_setCell_other w2 ⟨w.heap.size + 2, q, none⟩ w.heap.size (.int .u8 v.toNat) (by simp)).trans HC'.out.1
            have e2 := (heap_setCell_other w2 ⟨w.heap.size + 2, q, none⟩ (w.heap.size + 1) (.int .u8 v.toNat) (by simp)).trans HC'.out.2.1
            have e3 := heap_setCell_same w2 (w.heap.size + 2) q _ _ (.int .u8 v.toNat) HC'.out.2.2.1
            rw [rowB_set, HN.out] at e3
            have e4 := HC'.out.2.2.2.setCell (p := ⟨w.heap.size + 2, q, none⟩) (by simp) (.int .u8 v.toNat)
            exact ⟨i + 1, by omega, by go_num, And.intro e1 (And.intro e2 (And.intro e3 e4))⟩
          case measure => simp [intOf]; omega
      · go_wp2_with fail
        go_still_tail 15, (by kernel_rfl)
        rw [show (128 : Int) / 2 ^ min (IntKind.u64.wrap 3).toNat 8 = 16 from rfl, and_c3, i8_or]
        iterate 1
          obtain ⟨v, hv⟩ : ∃ v, v = y ||| x &&& UInt8.ofNat (128 / 2 ^ 3) := ⟨_, rfl⟩
          rw [← hv]
          have hnext := HC.out.2
          rw [← hv] at hnext
          have HN := Lib.hid hnext
          clear hv hnext
          change wpList _ _ _ _ _ wr.drew
          have hc' : wr.drew.cell? ⟨w.heap.size + 2, q, none⟩ = some (.int .u8 y.toNat) := hcy
          have hf' : wr.drew.frozen? ⟨w.heap.size + 2, q, none⟩ = false := hf
          have HC' : RowKit.Hid (wr.drew.heap[w.heap.size]? = some (.cells (bv l).toArray 35 (0, 0)) ∧ wr.drew.heap[w.heap.size + 1]? = some (.cells (bv (zs 32)).toArray 35 (0, 0)) ∧
            wr.drew.heap[w.heap.size + 2]? = some (.cells (bv (nar l i)).toArray 35 (0, 0)) ∧ Below w.heap.size w wr.drew) := ⟨HC.out.1.1, HC.out.1.2.1, HC.out.1.2.2.1, HC.out.1.2.2.2.drew⟩
          clear hc hf HC hcy
          generalize wr.drew = w2 at *
          go_wp2_with fail
          go_roundw
          case rel =>
            have e1 := (heap_setCell_other w2 ⟨w.heap.size + 2, q, none⟩ w.heap.size (.int .u8 v.toNat) (by simp)).trans HC'.out.1
            have e2 := (heap_setCell_other w2 ⟨w.heap.size + 2, q, none⟩ (w.heap.size + 1) (.int .u8 v.toNat) (by simp)).trans HC'.out.2.1
            have e3 := heap_setCell_same w2 (w.heap.size + 2) q _ _ (.int .u8 v.toNat) HC'.out.2.2.1
            rw [rowB_set, HN.out] at e3
            have e4 := HC'.out.2.2.2.setCell (p := ⟨w.heap.size + 2, q, none⟩) (by simp) (.int .u8 v.toNat)
            exact ⟨i + 1, by omega, by go_num, And.intro e1 (And.intro e2 (And.intro e3 e4))⟩
          case measure => simp [intOf]; omega
      · go_wp2_with fail
        go_still_tail 15, (by kernel_rfl)
        rw [show (128 : Int) / 2 ^ min (IntKind.u64.wrap 4).toNat 8 = 8 from rfl, and_c4, i8_or]
        iterate 1
          obtain ⟨v, hv⟩ : ∃ v, v = y ||| x &&& UInt8.ofNat (128 / 2 ^ 4) := ⟨_, rfl⟩
          rw [← hv]
          have hnext := HC.out.2
          rw [← hv] at hnext
          have HN := Lib.hid hnext
          clear hv hnext
          change wpList _ _ _ _ _ wr.drew
          have hc' : wr.drew.cell? ⟨w.heap.size + 2, q, none⟩ = some (.int .u8 y.toNat) := hcy
          have hf' : wr.drew.frozen? ⟨w.heap.size + 2, q, none⟩ = false := hf
          have HC' : RowKit.Hid (wr.drew.heap[w.heap.size]? = some (.cells (bv l).toArray 35 (0, 0)) ∧ wr.drew.heap[w.heap.size + 1]? = some (.cells (bv (zs 32)).toArray 35 (0, 0)) ∧
            wr.drew.heap[w.heap.size + 2]? = some (.cells (bv (nar l i)).toArray 35 (0, 0)) ∧ Below w.heap.size w wr.drew) := ⟨HC.out.1.1, HC.out.1.2.1, HC.out.1.2.2.1, HC.out.1.2.2.2.drew⟩
          clear hc hf HC hcy
          generalize wr.drew = w2 at *
          go_wp2_with fail
          go_roundw
          case rel =>
            have e1 := (heap_setCell_other w2 ⟨w.heap.size + 2, q, none⟩ w.heap.size (.int .u8 v.toNat) (by simp)).trans HC'.out.1
            have e2 := (heap_setCell_other w2 ⟨w.heap.size + 2, q, none⟩ (w.heap.size + 1) (.int .u8 v.toNat) (by simp)).trans HC'.out.2.1
            have e3 := heap_setCell_same w2 (w.heap.size + 2) q _ _ (.int .u8 v.toNat) HC'.out.2.2.1
            rw [rowB_set, HN.out] at e3
            have e4 := HC'.out.2.2.2.setCell (p := ⟨w.heap.size + 2, q, none⟩) (by simp) (.int .u8 v.toNat)
            exact ⟨i + 1, by omega, by go_num, And.intro e1 (And.intro e2 (And.intro e3 e4))⟩
          case measure => simp [intOf]; omega
      · go_wp2_with fail
        go_still_tail 15, (by kernel_rfl)
        rw [show (128 : Int) / 2 ^ min (IntKind.u64.wrap 5).toNat 8 = 4 from rfl, and_c5, i8_or]
        iterate 1
          obtain ⟨v, hv⟩ : ∃ v, v = y ||| x &&& UInt8.ofNat (128 / 2 ^ 5) := ⟨_, rfl⟩
          rw [← hv]
          have hnext := HC.out.2
          rw [← hv] at hnext
          have HN := Lib.hid hnext
          clear hv hnext
          change wpList _ _ _ _ _ wr.drew
          have hc' : wr.drew.cell? ⟨w.heap.size + 2, q, none⟩ = some (.int .u8 y.toNat) := hcy
          have hf' : wr.drew.frozen? ⟨w.heap.size + 2, q, none⟩ = false := hf
          have HC' : RowKit.Hid (wr.drew.heap[w.heap.size]? = some (.cells (bv l).toArray 35 (0, 0)) ∧ wr.drew.heap[w.heap.size + 1]? = some (.cells (bv (zs 32)).toArray 35 (0, 0)) ∧
            wr.drew.heap[w.heap.size + 2]? = some (.cells (bv (nar l i)).toArray 35 (0, 0)) ∧ Below w.heap.size w wr.drew) := ⟨HC.out.1.1, HC.out.1.2.1, HC.out.1.2.2.1, HC.out.1.2.2.2.drew⟩
          clear hc hf HC hcy
          generalize wr.drew = w2 at *
          go_wp2_with fail
          go_roundw
          case rel =>
            have e1 := (heap_setCell_other w2 ⟨w.heap.size + 2, q, none⟩ w.heap.size (.int .u8 v.toNat) (by simp)).trans HC'.out.1
            have e2 := (heap_setCell_other w2 ⟨w.heap.size + 2, q, none⟩ (w.heap.size + 1) (.int .u8 v.toNat) (by simp)).trans HC'.out.2.1
            have e3 := heap_setCell_same w2 (w.heap.size + 2) q _ _ (.int .u8 v.toNat) HC'.out.2.2.1
            rw [rowB_set, HN.out] at e3
            have e4 := HC'.out.2.2.2.setCell (p := ⟨w.heap.size + 2, q, none⟩) (by simp) (.int .u8 v.toNat)
            exact ⟨i + 1, by omega, by go_num, And.intro e1 (And.intro e2 (And.intro e3 e4))⟩
          case measure => simp [intOf]; omega
      · go_wp2_with fail
        go_still_tail 15, (by kernel_rfl)
        rw [show (128 : Int) / 2 ^ min (IntKind.u64.wrap 6).toNat 8 = 2 from rfl, and_c6, i8_or]
        iterate 1
          obtain ⟨v, hv⟩ : ∃ v, v = y ||| x &&& UInt8.ofNat (128 / 2 ^ 6) := ⟨_, rfl⟩
          rw [← hv]
          have hnext := HC.out.2
          rw [← hv] at hnext
          have HN := Lib.hid hnext
          clear hv hnext
          change wpList _ _ _ _ _ wr.drew
          have hc' : wr.drew.cell? ⟨w.heap.size + 2, q, none⟩ = some (.int .u8 y.toNat) := hcy
          have hf' : wr.drew.frozen? ⟨w.heap.size + 2, q, none⟩ = false := hf
          have HC' : RowKit.Hid (wr.drew.heap[w.heap.size]? = some (.cells (bv l).toArray 35 (0, 0)) ∧ wr.drew.heap[w.heap.size + 1]? = some (.cells (bv (zs 32)).toArray 35 (0, 0)) ∧
            wr.drew.heap[w.heap.size + 2]? = some (.cells (bv (nar l i)).toArray 35 (0, 0)) ∧ Below w.heap.size w wr.drew) := ⟨HC.out.1.1, HC.out.1.2.1, HC.out.1.2.2.1, HC.out.1.2.2.2.drew⟩
          clear hc hf HC hcy
          generalize wr.drew = w2 at *
          go_wp2_with fail
          go_roundw
          case rel =>
            have e1 := (heap_setCell_other w2 ⟨w.heap.size + 2, q, none⟩ w.heap.size (.int .u8 v.toNat) (by simp)).trans HC'.out.1
            have e2 := (heap_setCell_other w2 ⟨w.heap.size + 2, q, none⟩ (w.heap.size + 1) (.int .u8 v.toNat) (by simp)).trans HC'.out.2.1
            have e3 := heap_setCell_same w2 (w.heap.size + 2) q _ _ (.int .u8 v.toNat) HC'.out.2.2.1
            rw [rowB_set, HN.out] at e3
            have e4 := HC'.out.2.2.2.setCell (p := ⟨w.heap.size + 2, q, none⟩) (by simp) (.int .u8 v.toNat)
            exact ⟨i + 1, by omega, by go_num, And.intro e1 (And.intro e2 (And.intro e3 e4))⟩
          case measure => simp [intOf]; omega
      · go_wp2_with fail
        go_still_tail 15, (by kernel_rfl)
        rw [show (128 : Int) / 2 ^ min (IntKind.u64.wrap 7).toNat 8 = 1 from rfl, and_c7, i8_or]
        iterate 1
          obtain ⟨v, hv⟩ : ∃ v, v = y ||| x &&& UInt8.ofNat (128 / 2 ^ 7) := ⟨_, rfl⟩
          rw [← hv]
          have hnext := HC.out.2
          rw [← hv] at hnext
          have HN := Lib.hid hnext
          clear hv hnext
          change wpList _ _ _ _ _ wr.drew
          have hc' : wr.drew.cell? ⟨w.heap.size + 2, q, none⟩ = some (.int .u8 y.toNat) := hcy
          have hf' : wr.drew.frozen? ⟨w.heap.size + 2, q, none⟩ = false := hf
          have HC' : RowKit.Hid (wr.drew.heap[w.heap.size]? = some (.cells (bv l).toArray 35 (0, 0)) ∧ wr.drew.heap[w.heap.size + 1]? = some (.cells (bv (zs 32)).toArray 35 (0, 0)) ∧
            wr.drew.heap[w.heap.size + 2]? = some (.cells (bv (nar l i)).toArray 35 (0, 0)) ∧ Below w.heap.size w wr.drew) := ⟨HC.out.1.1, HC.out.1.2.1, HC.out.1.2.2.1, HC.out.1.2.2.2.drew⟩
          clear hc hf HC hcy
          generalize wr.drew = w2 at *
          go_wp2_with fail
          go_roundw
          case rel =>
            have e1 := (heap_setCell_other w2 ⟨w.heap.size + 2, q, none⟩ w.heap.size (.int .u8 v.toNat) (by simp)).trans HC'.out.1
            have e2 := (heap_setCell_other w2 ⟨w.heap.size + 2, q, none⟩ (w.heap.size + 1) (.int .u8 v.toNat) (by simp)).trans HC'.out.2.1
            have e3 := heap_setCell_same w2 (w.heap.size + 2) q _ _ (.int .u8 v.toNat) HC'.out.2.2.1
            rw [rowB_set, HN.out] at e3
            have e4 := HC'.out.2.2.2.setCell (p := ⟨w.heap.size + 2, q, none⟩) (by simp) (.int .u8 v.toNat)
            exact ⟨i + 1, by omega, by go_num, And.intro e1 (And.intro e2 (And.intro e3 e4))⟩
          case measure => simp [intOf]; omega
    · obtain rfl : i = k := by omega
      have hnl := nar_length l i
      obtain ⟨out, ho⟩ : ∃ out, out = nar l i := ⟨_, rfl⟩
      rw [← ho] at HI hnl
      have HO := Lib.hid ho
      clear ho hil
      by_cases h256 : i = 256
      · have hi256 : ¬ (i : Int) < 256 := by omega
        clear h256
        iterate 1
          go_wp2_with (first
            | (with_reducible show wpList _ _ _ (⟨some 31, _, _, _, _, _⟩ :: _) _ _; refine wpList_load_row rfl _ _ rfl (w.heap.size + 2) rfl _ _ (0, 0) _ HI.out.2.2.1 Tryd.underlying35 rfl (hInfo _ hnl) ?_)
            | (with_reducible show wpList _ _ _ (⟨none, Op.store _ _ _, _, _, _, _⟩ :: _) _ _; refine wpList_store_whole rfl _ _ _ rfl (w.heap.size + 1) _ rfl rfl _ _ HI.out.2.1 (hInfo' _ hnl) (by rw [bv_length, bv_length, hnl]; simp [zs]) (bv_one _) ?_; intro w9 HG9 hg9))
          refine bodyPost_ret (v := .agg (bv out).toArray) ?_ ?_ ?_
          · exact results_cell_row Tryd.results52 _ _ (w.heap.size + 1) 35 _ (0, 0) _ rfl HG9.out Tryd.underlying35 rfl (hInfo _ hnl)
          · rfl
          · exact ⟨by rw [HO.out], below_grow HI.out.2.2.2 hg9 (by omega) (Array.getElem?_eq_some_iff.1 HI.out.2.1).1⟩
      · have hi256 : (i : Int) < 256 := by have := HK.out; omega
        have hin : ¬ (i : Int) < n := by have := HK.out; omega
        clear h256
        iterate 1
          go_wp2_with (first
            | (with_reducible show wpList _ _ _ (⟨some 31, _, _, _, _, _⟩ :: _) _ _; refine wpList_load_row rfl _ _ rfl (w.heap.size + 2) rfl _ _ (0, 0) _ HI.out.2.2.1 Tryd.underlying35 rfl (hInfo _ hnl) ?_)
            | (with_reducible show wpList _ _ _ (⟨none, Op.store _ _ _, _, _, _, _⟩ :: _) _ _; refine wpList_store_whole rfl _ _ _ rfl (w.heap.size + 1) _ rfl rfl _ _ HI.out.2.1 (hInfo' _ hnl) (by rw [bv_length, bv_length, hnl]; simp [zs]) (bv_one _) ?_; intro w9 HG9 hg9))
          refine bodyPost_ret (v := .agg (bv out).toArray) ?_ ?_ ?_
          · exact results_cell_row Tryd.results52 _ _ (w.heap.size + 1) 35 _ (0, 0) _ rfl HG9.out Tryd.underlying35 rfl (hInfo _ hnl)
          · rfl
          · exact ⟨by rw [HO.out], below_grow HI.out.2.2.2 hg9 (by omega) (Array.getElem?_eq_some_iff.1 HI.out.2.1).1⟩
end Go.Proofs.YtfibhmgjkooemaaDoor
