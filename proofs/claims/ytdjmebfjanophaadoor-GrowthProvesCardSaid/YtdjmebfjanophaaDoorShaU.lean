/- The state of a hash: its sum. -/
import Derived.Test.YtdjmebfjanophaaDoorShaQ
import Derived.Test.YtdjmebfjanophaaDoorShaS
import Derived.LoopN
namespace Go.Proofs.YtdjmebfjanophaaDoor
open Go.RowKit Sha

/-- The world within a sum: the state's row, the answer's row. -/
structure SI (w wr : World) (s : W8) (y : List UInt8) (n : Nat) : Prop where
  len : y.length = 64
  row : wr.heap[w.heap.size]? = some (.cells (rowL s y n).toArray 67 (0, 0))
  res : wr.heap[w.heap.size + 1]? = some (.cells (bv (zs 32)).toArray 33 (0, 0))
  bl : Below w.heap.size w wr
theorem SI.setR {w wr : World} {s : W8} {y : List UInt8} {n : Nat} (h : SI w wr s y n) (j : Nat) (x : UInt8) (hj : j < 64) : SI w (wr.setCell ⟨w.heap.size, 8 + j, none⟩ (.int .u8 x.toNat)) s (y.set j x) n where
  len := by simp [h.len]
  row := by rw [heap_setCell_same _ _ _ _ _ _ h.row, rowL_setR _ _ _ _ _ (by rw [h.len]; exact hj)]
  res := (heap_setCell_other _ _ _ _ (by simp)).trans h.res
  bl := h.bl.setCell (p := ⟨_, _, none⟩) (Nat.le_refl _) _
theorem SI.byte {w wr : World} {s : W8} {y : List UInt8} {n : Nat} (h : SI w wr s y n) (j : Nat) (x : UInt8) (hx : y[j]? = some x) : wr.cell? ⟨w.heap.size, 8 + j, none⟩ = some (.int .u8 x.toNat) := by
  rw [cell_of_row _ _ _ _ _ _ h.row, List.getElem?_toArray, rowL_r _ _ _ _ _ hx]
theorem SI.n {w wr : World} {s : W8} {y : List UInt8} {n : Nat} (h : SI w wr s y n) : wr.cell? ⟨w.heap.size, 72, none⟩ = some (.int .u64 (n : Nat)) := by
  rw [cell_of_row _ _ _ _ _ _ h.row, List.getElem?_toArray, rowL_n _ _ _ h.len]
/-- A block is mixed in. -/
theorem SI.mix {w wr : World} {s : W8} {y : List UInt8} {n : Nat} (h : SI w wr s y n) (hG : Tabs w) :
    Calls Tryd.prog 73 #[.pointer (some ⟨w.heap.size, 0, none⟩), .slice (some ⟨w.heap.size, 8, none⟩) 64 64] wr fun e w' => e = .returned (.tuple #[]) ∧ RowKit.Hid (SI w w' (blk s y) y n) := by
  refine (mix_any w.heap.size w.heap.size 8 64 64 s y (bv y ++ [Value.int .u64 (n : Nat)]).toArray 67 wr h.len (Nat.le_refl _) (Nat.le_refl _) (by rw [← rowL_arr]; exact h.row) (fun j x hx => h.byte j x hx) (hG.keepB h.bl)).mono ?_
  rintro e w' ⟨rfl, hr, hg⟩
  rw [← rowL_arr] at hr
  exact ⟨rfl, show SI _ _ _ _ _ from ⟨h.len, hr, (hg.block _ (Array.getElem?_eq_some_iff.1 h.res).1 (by simp)).trans h.res, below_grow h.bl hg (Nat.le_refl _) (Array.getElem?_eq_some_iff.1 h.row).1⟩⟩
theorem u64_sh (n _k : Nat) (h : n * 8 < 18446744073709551616) : IntKind.u64.wrap ((n : Int) * 8) = ((n * 8 : Nat) : Int) := (IntWalk.u64_in _ (by omega)).trans (by omega)

set_option maxHeartbeats 4000000 in
set_option maxRecDepth 100000 in
theorem StSum_any (l : List UInt8) (w : World) (hl : l.length ≤ 1152921504606846976) (hG : Tabs w) :
    Calls Tryd.prog 58 #[.agg (stv l)] w fun e w' => e = .returned (.agg (bv (Sha.sum l)).toArray) ∧ Below w.heap.size w w' := by
  have hz := (zero_of_info info32).1
  have hz64 := (zero_of_info info64).1
  obtain ⟨p, hp⟩ : ∃ p, p = l.length % 64 := ⟨_, rfl⟩
  have hp64 : p < 64 := by omega
  have hpz1 : (p : Int) < 64 := by omega
  have hpz0 : (0 : Int) ≤ (p : Int) := by omega
  have hand : bits .and .u64 (l.length : Int) 63 = (p : Int) := by rw [u64_and63 _ (by omega), hp]
  have HP := Lib.hid hp
  clear hp
  have hA : stv l = (rowL (hs l (l.length / 64)) (tail64 l) l.length).toArray := rfl
  have hsz : (stv l).size = 73 := stL_length l
  have HO := Lib.hid (show Sha.sum l = outB (hs (pad l) ((pad l).length / 64)) from rfl)
  generalize Sha.sum l = out at *
  generalize stv l = A at *
  have HA := Lib.hid hA
  clear hA
  go_enter Tryd.func58, Tryd.ntmps58
  go_upto_region 1 with fail
  obtain ⟨w1, hw1⟩ : ∃ x : World, x = (w.alloc (.cells A 67)).alloc (.cells (bv (zs 32)).toArray 33) := ⟨_, rfl⟩
  rw [← hw1]
  have hI1 : SI w w1 (hs l (l.length / 64)) (tail64 l) l.length := by
    rw [hw1]
    refine ⟨tail64_length l, by rw [← HA.out, heap_alloc_old _ _ (by simp), heap_alloc_new], ?_, ((Below.refl _ _).alloc (Nat.le_refl _) _).alloc (by simp) _⟩
    have h := heap_alloc_new (w.alloc (.cells A 67)) (.cells (bv (zs 32)).toArray 33)
    simpa using h
  have hn1 := hI1.n
  have hf1 := frozen_of_row _ _ (8 + p) _ _ hI1.row
  have hc1 : w1.cell? ⟨w.heap.size, 8 + p, none⟩ = some (.int .u8 (0 : Nat)) := by
    exact hI1.byte p 0 (by rw [HP.out]; exact tail_at l)
  have H1 := Lib.hid hI1
  clear hI1 hw1
  go_upto_region 3 with fail
  obtain ⟨w2, hw2⟩ : ∃ x : World, x = w1.setCell ⟨w.heap.size, 8 + p, none⟩ (.int .u8 128) := ⟨_, rfl⟩
  rw [← hw2]
  have hI2 : SI w w2 (hs l (l.length / 64)) ((tail64 l).set p 128) l.length := by rw [hw2]; exact H1.out.setR p 128 hp64
  have H2 := Lib.hid hI2
  clear H1 hI2 hw2 hn1 hf1 hc1
  go_upto_if 15 with fail
  go_cut [3] (fun s3 wq => s3 = .int .i64 p ∧ ∃ s y, RowKit.Hid (SI w wq s y l.length ∧ blk s (y.take 56 ++ be 8 (l.length * 8)) = hs (pad l) ((pad l).length / 64)))
  case first =>
    by_cases h56 : p < 56
    · have hd : decide ((56 : Int) ≤ (p : Int)) = false := decide_eq_false (by omega)
      go_wp2_with fail
      go_meet
      exact ⟨rfl, _, _, show _ ∧ _ from ⟨H2.out, by have h := HP.out; rw [h]; exact pad_low l (by omega)⟩⟩
    · have hd : (56 : Int) ≤ (p : Int) := by omega
      have HL := Lib.hid (show 56 ≤ p by omega)
      clear h56
      go_wp2_with fail
      refine (H2.out.mix hG).mono ?_
      rintro e w3 ⟨rfl, H3⟩
      go_wp2_with (with_reducible show wpList _ _ _ (⟨none, Op.store _ _ _, _, _, _, _⟩ :: _) _ _; refine wpList_store_splice rfl _ _ _ rfl w.heap.size 8 (bv (zs 64)) rfl rfl _ _ H3.out.row (by kernel_rfl) (by rw [rowL_length _ _ _ H3.out.len]; simp [bv_length, zs]) (bv_one _) ?_; intro w5 HG5 hg5)
      go_meet
      have h := HG5.out
      rw [show (8 : Nat) = 8 + 0 from rfl, rowL_splice _ _ _ _ 0 (by rw [H3.out.len]; simp [zs]), splice_all _ _ (by rw [H3.out.len]; simp [zs])] at h
      refine ⟨rfl, _, zs 64, show _ ∧ _ from ⟨⟨by simp [zs], h, (hg5.block _ (Array.getElem?_eq_some_iff.1 H3.out.res).1 (by simp)).trans H3.out.res,
            below_grow H3.out.bl hg5 (Nat.le_refl _) (Array.getElem?_eq_some_iff.1 H3.out.row).1⟩, ?_⟩⟩
      have hp := HP.out
      rw [hp]
      exact pad_high l (by rw [← hp]; exact HL.out)
  case rest =>
    obtain ⟨rfl, s, y, HS⟩ := hcut
    have hn := HS.out.1.n
    obtain ⟨b56, hb56⟩ : ∃ x, x = UInt8.ofNat (l.length * 8 / 72057594037927936 % 256) := ⟨_, rfl⟩
    have v56 : ((l.length : Int) * 8 / 72057594037927936) = (b56.toNat : Int) := by rw [hb56, u8_int]; omega
    obtain ⟨b57, hb57⟩ : ∃ x, x = UInt8.ofNat (l.length * 8 / 281474976710656 % 256) := ⟨_, rfl⟩
    have v57 : ((l.length : Int) * 8 / 281474976710656 % 256) = (b57.toNat : Int) := by rw [hb57, u8_int]; omega
    obtain ⟨b58, hb58⟩ : ∃ x, x = UInt8.ofNat (l.length * 8 / 1099511627776 % 256) := ⟨_, rfl⟩
    have v58 : ((l.length : Int) * 8 / 1099511627776 % 256) = (b58.toNat : Int) := by rw [hb58, u8_int]; omega
    obtain ⟨b59, hb59⟩ : ∃ x, x = UInt8.ofNat (l.length * 8 / 4294967296 % 256) := ⟨_, rfl⟩
    have v59 : ((l.length : Int) * 8 / 4294967296 % 256) = (b59.toNat : Int) := by rw [hb59, u8_int]; omega
    obtain ⟨b60, hb60⟩ : ∃ x, x = UInt8.ofNat (l.length * 8 / 16777216 % 256) := ⟨_, rfl⟩
    have v60 : ((l.length : Int) * 8 / 16777216 % 256) = (b60.toNat : Int) := by rw [hb60, u8_int]; omega
    obtain ⟨b61, hb61⟩ : ∃ x, x = UInt8.ofNat (l.length * 8 / 65536 % 256) := ⟨_, rfl⟩
    have v61 : ((l.length : Int) * 8 / 65536 % 256) = (b61.toNat : Int) := by rw [hb61, u8_int]; omega
    obtain ⟨b62, hb62⟩ : ∃ x, x = UInt8.ofNat (l.length * 8 / 256 % 256) := ⟨_, rfl⟩
    have v62 : ((l.length : Int) * 8 / 256 % 256) = (b62.toNat : Int) := by rw [hb62, u8_int]; omega
    obtain ⟨b63, hb63⟩ : ∃ x, x = UInt8.ofNat (l.length * 8 % 256) := ⟨_, rfl⟩
    have v63 : ((l.length : Int) * 8 % 256) = (b63.toNat : Int) := by rw [hb63, u8_int]; omega
    have HB := Lib.hid (show be 8 (l.length * 8) = [b56, b57, b58, b59, b60, b61, b62, b63] by rw [be8, hb56, hb57, hb58, hb59, hb60, hb61, hb62, hb63])
    clear hb56 hb57 hb58 hb59 hb60 hb61 hb62 hb63
    have hw8 : IntKind.u64.wrap ((l.length : Int) * 8) = ((l.length * 8 : Nat) : Int) := u64_sh _ 3 (by omega)
    have hy := HS.out.1.len
    obtain ⟨y56, e56⟩ : ∃ x, y[56]? = some x := ⟨_, List.getElem?_eq_getElem (by omega)⟩
    obtain ⟨y57, e57⟩ : ∃ x, y[57]? = some x := ⟨_, List.getElem?_eq_getElem (by omega)⟩
    obtain ⟨y58, e58⟩ : ∃ x, y[58]? = some x := ⟨_, List.getElem?_eq_getElem (by omega)⟩
    obtain ⟨y59, e59⟩ : ∃ x, y[59]? = some x := ⟨_, List.getElem?_eq_getElem (by omega)⟩
    obtain ⟨y60, e60⟩ : ∃ x, y[60]? = some x := ⟨_, List.getElem?_eq_getElem (by omega)⟩
    obtain ⟨y61, e61⟩ : ∃ x, y[61]? = some x := ⟨_, List.getElem?_eq_getElem (by omega)⟩
    obtain ⟨y62, e62⟩ : ∃ x, y[62]? = some x := ⟨_, List.getElem?_eq_getElem (by omega)⟩
    obtain ⟨y63, e63⟩ : ∃ x, y[63]? = some x := ⟨_, List.getElem?_eq_getElem (by omega)⟩
    have c56 : wc.cell? ⟨w.heap.size, 64, none⟩ = _ := HS.out.1.byte _ _ e56
    have c57 : wc.cell? ⟨w.heap.size, 65, none⟩ = _ := HS.out.1.byte _ _ e57
    have c58 : wc.cell? ⟨w.heap.size, 66, none⟩ = _ := HS.out.1.byte _ _ e58
    have c59 : wc.cell? ⟨w.heap.size, 67, none⟩ = _ := HS.out.1.byte _ _ e59
    have c60 : wc.cell? ⟨w.heap.size, 68, none⟩ = _ := HS.out.1.byte _ _ e60
    have c61 : wc.cell? ⟨w.heap.size, 69, none⟩ = _ := HS.out.1.byte _ _ e61
    have c62 : wc.cell? ⟨w.heap.size, 70, none⟩ = _ := HS.out.1.byte _ _ e62
    have c63 : wc.cell? ⟨w.heap.size, 71, none⟩ = _ := HS.out.1.byte _ _ e63
    have f56 := frozen_of_row _ _ 64 _ _ HS.out.1.row
    have f57 := frozen_of_row _ _ 65 _ _ HS.out.1.row
    have f58 := frozen_of_row _ _ 66 _ _ HS.out.1.row
    have f59 := frozen_of_row _ _ 67 _ _ HS.out.1.row
    have f60 := frozen_of_row _ _ 68 _ _ HS.out.1.row
    have f61 := frozen_of_row _ _ 69 _ _ HS.out.1.row
    have f62 := frozen_of_row _ _ 70 _ _ HS.out.1.row
    have f63 := frozen_of_row _ _ 71 _ _ HS.out.1.row
    clear e56 e57 e58 e59 e60 e61 e62 e63 hy
    go_wp2_with fail
    refine wp_loop_rounds 9 ?_
    iterate 8 (rw [rounds_succ]; go_wp2_with fail)
    obtain ⟨w3, hw3⟩ : ∃ x : World, x = (((((((wc.setCell ⟨w.heap.size, 64, none⟩ (.int .u8 b56.toNat)).setCell ⟨w.heap.size, 65, none⟩ (.int .u8 b57.toNat)).setCell ⟨w.heap.size, 66, none⟩ (.int .u8 b58.toNat)).setCell ⟨w.heap.size, 67, none⟩ (.int .u8 b59.toNat)).setCell ⟨w.heap.size, 68, none⟩ (.int .u8 b60.toNat)).setCell ⟨w.heap.size, 69, none⟩ (.int .u8 b61.toNat)).setCell ⟨w.heap.size, 70, none⟩ (.int .u8 b62.toNat)).setCell ⟨w.heap.size, 71, none⟩ (.int .u8 b63.toNat) := ⟨_, rfl⟩
    rw [← hw3]
    have hI3 : SI w w3 s (y.take 56 ++ be 8 (l.length * 8)) l.length := by
      rw [HB.out, ← set8 y HS.out.1.len, hw3]
      exact (((((((HS.out.1.setR 56 b56 (by omega)).setR 57 b57 (by omega)).setR 58 b58 (by omega)).setR 59 b59 (by omega)).setR 60 b60 (by omega)).setR 61 b61 (by omega)).setR 62 b62 (by omega)).setR 63 b63 (by omega)
    have hmix := hI3.mix hG
    rw [HS.out.2] at hmix
    have HM := Lib.hid hmix
    clear hw3 hI3 hmix c56 c57 c58 c59 c60 c61 c62 c63 f56 f57 f58 f59 f60 f61 f62 f63 v56 v57 v58 v59 v60 v61 v62 v63 hn hw8 HS
    rw [rounds_succ]
    go_wp2_with fail
    refine HM.out.mono ?_
    rintro e w4 ⟨rfl, H4⟩
    clear HM
    have HO := HO.out
    generalize hs (pad l) ((pad l).length / 64) = z at *
    generalize y.take 56 ++ be 8 (l.length * 8) = y2 at *
    obtain ⟨X8, hX8⟩ : ∃ X, X = (ws (off8 z) 8).toList := ⟨_, rfl⟩
    have hrange : w4.rangeAt w.heap.size 0 X8 := fun j x hx => by
      rw [hX8] at hx
      have hj : j < 8 := by have := (List.getElem?_eq_some_iff.1 hx).1; simpa [ws_size] using this
      rw [cell_of_row _ _ _ _ _ _ H4.out.row, List.getElem?_toArray, Nat.zero_add, rowL_w _ _ _ _ hj]
      rw [Array.getElem?_toList, ws_get _ _ _ hj] at hx
      exact hx
    have hsz8 : (Tryd.prog.info? 64).map (·.size) = some X8.length := by rw [hX8]; kernel_rfl
    have hidx : ∀ i, i < 8 → X8.toArray[i]? = some (.int .u32 (off8 z i).toNat) := fun i hi => by rw [hX8]; exact ws_get _ _ _ hi
    have HXX := Lib.hid (And.intro hrange hsz8)
    clear hrange hsz8 hX8
    go_wp2_with (with_reducible show wpList _ _ _ (⟨some 41, _, _, _, _, _⟩ :: _) _ _; refine wpList_load_mid rfl _ _ rfl w.heap.size 0 rfl X8 _ HXX.out.1 Tryd.underlying64 rfl HXX.out.2 ?_)
    generalize X8.toArray = A8' at *
    go_loopw [42] (fun s42 wr => ∃ i : Nat, i ≤ 8 ∧ s42 = .int .i64 i ∧ wr.heap[w.heap.size + 1]? = some (.cells (bv (bs (fun j => if j < 4 * i then out.getD j 0 else 0) 32)).toArray 33 (0, 0)) ∧ Below w.heap.size w wr) (fun i _ => 8 - (intOf i).toNat)
    case atStart => exact ⟨0, by omega, rfl, H4.out.res, H4.out.bl⟩
    case round =>
      clear H4 HXX
      obtain ⟨i, hi, rfl, hr, hb⟩ := hrel
      by_cases hil : i < 8
      · have hiz : (i : Int) < 8 := by omega
        have hi0 : (0 : Int) ≤ (i : Int) := by omega
        have hAi := fun w' => run_index_w A8' i _ w' hil (hidx i hil)
        have hbg := (hG.keepB hb).begin i hil
        obtain ⟨x, hx⟩ : ∃ x, x = z.l.getD i 0 := ⟨_, rfl⟩
        have hsum : (((off8 z i).toNat : Int) + ((begin0.l.getD i 0).toNat : Int)) % 4294967296 = (x.toNat : Int) := by
          rw [i_add, hx, ← off_add z i hil, UInt32.add_comm]
        have hget := out_get z i hil
        rw [← HO, ← hx] at hget
        generalize (begin0.l.getD i 0) = bg at *
        generalize off8 z i = of at *
        unfold u at hbg
        obtain ⟨b0, hb0⟩ : ∃ b, b = out.getD (4 * i) 0 := ⟨_, rfl⟩
        obtain ⟨b1, hb1⟩ : ∃ b, b = out.getD (4 * i + 1) 0 := ⟨_, rfl⟩
        obtain ⟨b2, hb2⟩ : ∃ b, b = out.getD (4 * i + 2) 0 := ⟨_, rfl⟩
        obtain ⟨b3, hb3⟩ : ∃ b, b = out.getD (4 * i + 3) 0 := ⟨_, rfl⟩
        have v0 : (x.toNat : Int) / 16777216 = (b0.toNat : Int) := by rw [hb0, hget.1, u8_int]; have := x.toNat_lt; omega
        have v1 : (x.toNat : Int) / 65536 % 256 = (b1.toNat : Int) := by rw [hb1, hget.2.1, u8_int]; omega
        have v2 : (x.toNat : Int) / 256 % 256 = (b2.toNat : Int) := by rw [hb2, hget.2.2.1, u8_int]; omega
        have v3 : (x.toNat : Int) % 256 = (b3.toNat : Int) := by rw [hb3, hget.2.2.2, u8_int]
        have h4 : IntKind.i64.wrap (4 * (i : Int)) = 4 * (i : Int) := IntWalk.i64_in _ (by omega)
        have h41 : IntKind.i64.wrap (4 * (i : Int) + 1) = 4 * (i : Int) + 1 := IntWalk.i64_in _ (by omega)
        have h42 : IntKind.i64.wrap (4 * (i : Int) + 2) = 4 * (i : Int) + 2 := IntWalk.i64_in _ (by omega)
        have h43 : IntKind.i64.wrap (4 * (i : Int) + 3) = 4 * (i : Int) + 3 := IntWalk.i64_in _ (by omega)
        have l0 : (0 : Int) ≤ 4 * (i : Int) ∧ 4 * (i : Int) < 32 := by omega
        have l1 : (0 : Int) ≤ 4 * (i : Int) + 1 ∧ 4 * (i : Int) + 1 < 32 := by omega
        have l2 : (0 : Int) ≤ 4 * (i : Int) + 2 ∧ 4 * (i : Int) + 2 < 32 := by omega
        have l3 : (0 : Int) ≤ 4 * (i : Int) + 3 ∧ 4 * (i : Int) + 3 < 32 := by omega
        have t0 : (4 * (i : Int)).toNat = 4 * i := by omega
        have t1 : (4 * (i : Int) + 1).toNat = 4 * i + 1 := by omega
        have t2 : (4 * (i : Int) + 2).toNat = 4 * i + 2 := by omega
        have t3 : (4 * (i : Int) + 3).toNat = 4 * i + 3 := by omega
        have cell (j : Nat) (h1 : 4 * i ≤ j) (h2 : j < 32) : wr.cell? ⟨w.heap.size + 1, j, none⟩ = some (.int .u8 (0 : Nat)) := by
          rw [cell_of_row _ _ _ _ _ _ hr, List.getElem?_toArray]
          simp only [bv, List.getElem?_map, bs_get _ _ _ h2]
          rw [if_neg (by omega)]; rfl
        have c0 := cell (4 * i) (by omega) (by omega)
        have c1 := cell (4 * i + 1) (by omega) (by omega)
        have c2 := cell (4 * i + 2) (by omega) (by omega)
        have c3 := cell (4 * i + 3) (by omega) (by omega)
        have f0 := frozen_of_row _ _ (4 * i) _ _ hr
        have f1 := frozen_of_row _ _ (4 * i + 1) _ _ hr
        have f2 := frozen_of_row _ _ (4 * i + 2) _ _ hr
        have f3 := frozen_of_row _ _ (4 * i + 3) _ _ hr
        have HX := Lib.hid (And.intro hr (And.intro hb (And.intro hb0 (And.intro hb1 (And.intro hb2 hb3)))))
        clear cell hr hb hb0 hb1 hb2 hb3 hget hx
        go_wp2_with fail
        go_roundw
        case rel =>
          obtain ⟨hr, hb, hb0, hb1, hb2, hb3⟩ := HX.out
          have e (k : Nat) (hk : k < 4) : (bs (fun j => if j < 4 * i + k then out.getD j 0 else 0) 32).set (4 * i + k) (out.getD (4 * i + k) 0) = bs (fun j => if j < 4 * i + (k + 1) then out.getD j 0 else 0) 32 :=
            bs_set _ _ 32 _ _ (by simp) (fun j hj hne => by
              by_cases h1 : j < 4 * i + k
              · simp [h1, show j < 4 * i + (k + 1) by omega]
              · simp [h1, show ¬ j < 4 * i + (k + 1) by omega])
          have r1 := heap_setCell_same _ (w.heap.size + 1) (4 * i) _ _ (.int .u8 b0.toNat) hr
          have r2 := heap_setCell_same _ (w.heap.size + 1) (4 * i + 1) _ _ (.int .u8 b1.toNat) r1
          have r3 := heap_setCell_same _ (w.heap.size + 1) (4 * i + 2) _ _ (.int .u8 b2.toNat) r2
          have r4 := heap_setCell_same _ (w.heap.size + 1) (4 * i + 3) _ _ (.int .u8 b3.toNat) r3
          have e0 := e 0 (by omega)
          simp only [Nat.add_zero] at e0
          rw [rowB_set, rowB_set, rowB_set, rowB_set, hb0, hb1, hb2, hb3, e0, e 1 (by omega), e 2 (by omega), e 3 (by omega), show 4 * i + (3 + 1) = 4 * (i + 1) by omega, ← hb0, ← hb1, ← hb2, ← hb3] at r4
          exact ⟨i + 1, by omega, by go_num, r4, (((hb.setCell (p := ⟨_, _, none⟩) (by simp) _).setCell (p := ⟨_, _, none⟩) (by simp) _).setCell (p := ⟨_, _, none⟩) (by simp) _).setCell (p := ⟨_, _, none⟩) (by simp) _⟩
        case measure => simp [intOf]; omega
      · have hiz : ¬ (i : Int) < 8 := by omega
        obtain rfl : i = 8 := by omega
        have hol : out.length = 32 := by rw [HO]; exact outB_length z
        have hr' : wr.heap[w.heap.size + 1]? = some (.cells (bv out).toArray 33 (0, 0)) := by
          rw [hr]
          have e1 := bs_self out
          rw [hol] at e1
          rw [bs_congr _ (fun j => out.getD j 0) 32 (fun j hj => by rw [if_pos (by omega)]), e1]
        have HX := Lib.hid (And.intro hr' (And.intro hb hol))
        clear hr hr' hb hol
        go_wp2_with (first
          | (with_reducible show wpList _ _ _ (⟨some 78, _, _, _, _, _⟩ :: _) _ _; refine wpList_load_row rfl _ _ rfl (w.heap.size + 1) rfl _ _ (0, 0) _ HX.out.1 Tryd.underlying33 rfl (hInfo _ HX.out.2.2) ?_)
          | (with_reducible show wpList _ _ _ (⟨none, Op.store _ _ _, _, _, _, _⟩ :: _) _ _; refine wpList_store_splice rfl _ _ _ rfl (w.heap.size + 1) 0 _ rfl rfl _ _ HX.out.1 (hInfo' _ HX.out.2.2) (by omega) (bv_one _) ?_; intro w9 HG9 hg9))
        have hend : w9.heap[w.heap.size + 1]? = some (.cells (bv out).toArray 33 (0, 0)) := by have h := HG9.out; rw [splice_all _ _ rfl] at h; exact h
        refine bodyPost_ret (v := .agg (bv out).toArray) ?_ ?_ ?_
        · exact results_cell_row Tryd.results58 _ _ (w.heap.size + 1) 33 _ (0, 0) _ rfl hend Tryd.underlying33 rfl (hInfo _ HX.out.2.2)
        · rfl
        · exact ⟨by rw [HO], below_grow HX.out.2.1 hg9 (by omega) (Array.getElem?_eq_some_iff.1 HX.out.1).1⟩
end Go.Proofs.YtdjmebfjanophaaDoor
