/- A block is mixed into the state. -/
import Derived.Test.YtfibhmgjkooemaaDoorShaC
import Derived.Deep.DeepCutAuto
import Derived.Deep.CutBlock
namespace Go.Proofs.YtfibhmgjkooemaaDoor
open Go.RowKit Sha

set_option maxHeartbeats 4000000 in
set_option maxRecDepth 100000 in
theorem mix_any (g b off n c : Nat) (s : W8) (ys : List UInt8) (rest : Array Value) (T : TypeId) (w : World)
    (hy : ys.length = 64) (hn : 64 ≤ n) (hnc : n ≤ c)
    (hg : w.heap[g]? = some (.cells (ws (off8 s) 8 ++ rest) T (0, 0)))
    (hrd : ∀ j x, ys[j]? = some x → w.cell? ⟨b, off + j, none⟩ = some (.int .u8 (UInt8.toNat x)))
    (hG : Tabs w) :
    Calls Tryd.prog 78 #[.pointer (some ⟨g, 0, none⟩), .slice (some ⟨b, off, none⟩) n c] w fun e w' =>
      e = .returned (.tuple #[]) ∧ w'.heap[g]? = some (.cells (ws (off8 (blk s ys)) 8 ++ rest) T (0, 0)) ∧ w.grownBy w' (some g) := by
  have hgl : g < w.heap.size := (Array.getElem?_eq_some_iff.1 hg).1
  go_enter Tryd.func78, Tryd.ntmps78
  go_wp2_with fail
  go_loopw [22] (fun s22 wr => ∃ i : Nat, i ≤ 16 ∧ s22 = .int .i64 i ∧ wr.heap[w.heap.size]? = some (.cells (ws (fun j => if j < i then word ys j else 0) 16) 113 (0, 0)) ∧ Below w.heap.size w wr) (fun i _ => 16 - (intOf i).toNat)
  case atStart => exact ⟨0, by omega, rfl, by rw [heap_alloc_new]; congr 2, (Below.refl _ _).alloc (Nat.le_refl _) _⟩
  case round =>
    obtain ⟨i, hi, rfl, hwr, hbr⟩ := hrel
    by_cases hlt : i < 16
    · have hiz : (i : Int) < 16 := by omega
      have hi0 : (0 : Int) ≤ (i : Int) := by omega
      have h4 : IntKind.i64.wrap (4 * (i : Int)) = 4 * (i : Int) := IntWalk.i64_in _ (by omega)
      have h40 : (0 : Int) ≤ 4 * (i : Int) := by omega
      have h41 : 4 * (i : Int) ≤ (n : Int) := by omega
      obtain ⟨x0, hx0⟩ : ∃ x, ys[4 * i]? = some x := ⟨_, List.getElem?_eq_getElem (by omega)⟩
      obtain ⟨x1, hx1⟩ : ∃ x, ys[4 * i + 1]? = some x := ⟨_, List.getElem?_eq_getElem (by omega)⟩
      obtain ⟨x2, hx2⟩ : ∃ x, ys[4 * i + 2]? = some x := ⟨_, List.getElem?_eq_getElem (by omega)⟩
      obtain ⟨x3, hx3⟩ : ∃ x, ys[4 * i + 3]? = some x := ⟨_, List.getElem?_eq_getElem (by omega)⟩
      have hword : word ys i = UInt32.ofNat (x0.toNat * 16777216 + x1.toNat * 65536 + x2.toNat * 256 + x3.toNat) := by
        unfold word; simp only [List.getD_eq_getElem?_getD, hx0, hx1, hx2, hx3, Option.getD_some]
      have rd : ∀ j x, ys[j]? = some x → wr.cell? ⟨b, off + j, none⟩ = some (.int .u8 (UInt8.toNat x)) := fun j x h => by
        have h1 := hrd j x h
        rw [← h1]; exact hbr.cell (World.block_lt_of_cell? w _ h1)
      have c0 := rd _ _ hx0
      have c1 := rd _ _ hx1
      have c2 := rd _ _ hx2
      have c3 := rd _ _ hx3
      have hcell : wr.cell? ⟨w.heap.size, i, none⟩ = some (u 0) := by rw [cell_of_row _ _ _ _ _ _ hwr, ws_get _ _ _ hlt, if_neg (by omega)]
      have hfr := frozen_of_row _ _ i _ _ hwr
      have HW := Lib.hid hword
      clear hword hx0 hx1 hx2 hx3 rd
      go_wp2_with fail
      refine (word_any b (off + 4 * i) (n - 4 * i) (c - 4 * i) x0 x1 x2 x3 wr (by omega) c0 (by simpa [Nat.add_assoc] using c1) (by simpa [Nat.add_assoc] using c2) (by simpa [Nat.add_assoc] using c3)).mono ?_
      rintro e w2 ⟨rfl, m, rfl⟩
      rw [← HW.out]
      obtain ⟨w2, hw2⟩ : ∃ x : World, x = wr.drewN m := ⟨_, rfl⟩
      rw [← hw2]
      have hwr2 : w2.heap[w.heap.size]? = some (.cells (ws (fun j => if j < i then word ys j else 0) 16) 113 (0, 0)) := by rw [hw2]; exact hwr
      have hbr2 : Below w.heap.size w w2 := by rw [hw2]; exact hbr.trans ((below_drewN wr m).mono hbr.size)
      have hcell2 : w2.cell? ⟨w.heap.size, i, none⟩ = some (u 0) := by rw [hw2]; exact hcell
      have hfr2 : w2.frozen? ⟨w.heap.size, i, none⟩ = false := by rw [hw2]; exact hfr
      clear hcell hfr hwr hbr c0 c1 c2 c3 hrd hw2
      unfold u at hcell2 ⊢
      go_wp2_with fail
      go_roundw
      case rel =>
        refine ⟨i + 1, by omega, by go_num, ?_, hbr2.setCell (p := ⟨_, _, none⟩) (Nat.le_refl _) _⟩
        rw [heap_setCell_same _ _ _ _ _ _ hwr2]
        exact congrArg (fun x => some (Obj.cells x 113 (0, 0))) (ws_set (fun j => if j < i then word ys j else 0) (fun j => if j < i + 1 then word ys j else 0) 16 i (word ys i) (by simp) (fun j _ h => by
          by_cases h1 : j < i
          · simp [h1, show j < i + 1 by omega]
          · simp [h1, show ¬ j < i + 1 by omega]))
      case measure => simp [intOf]; omega
    · have hiz : ¬ (i : Int) < 16 := by omega
      obtain rfl : i = 16 := by omega
      obtain ⟨wa, hwa⟩ : ∃ x : World, x = wr := ⟨_, rfl⟩
      subst hwa
      have hrow : wa.heap[w.heap.size]? = some (.cells (ws (fun j => wt (words ys) (0 + (j + 1024 - 0) % 16)) 16) 113 (0, 0)) := by
        rw [hwr, ws_congr _ (fun j => wt (words ys) (0 + (j + 1024 - 0) % 16)) 16 (fun j hj => by
          rw [if_pos hj, Nat.zero_add, show (j + 1024 - 0) % 16 = j by omega, wt_low _ (words_length ys) _ hj, words_get _ _ hj])]
      clear hwr hrd
      have hGr := hG.keepB hbr
      have ho : ∀ j, j < 8 → wa.cell? ⟨g, j, none⟩ = some (u (off8 s j)) := fun j hj => by
        rw [cell_of_row _ g j _ T _ ((hbr.block g hgl).trans hg), Array.getElem?_append_left (by rw [ws_size]; exact hj), ws_get _ _ _ hj]
      have b0 := hGr.begin 0 (by omega)
      have b1 := hGr.begin 1 (by omega)
      have b2 := hGr.begin 2 (by omega)
      have b3 := hGr.begin 3 (by omega)
      have b4 := hGr.begin 4 (by omega)
      have b5 := hGr.begin 5 (by omega)
      have b6 := hGr.begin 6 (by omega)
      have b7 := hGr.begin 7 (by omega)
      have o0 := ho 0 (by omega)
      have o1 := ho 1 (by omega)
      have o2 := ho 2 (by omega)
      have o3 := ho 3 (by omega)
      have o4 := ho 4 (by omega)
      have o5 := ho 5 (by omega)
      have o6 := ho 6 (by omega)
      have o7 := ho 7 (by omega)
      unfold u at b0 b1 b2 b3 b4 b5 b6 b7 o0 o1 o2 o3 o4 o5 o6 o7
      clear ho
      have HI := Lib.hid hi
      clear hi
      go_wp2_with fail
      go_quiet (fail)
      go_wp2_with fail
      go_quiet (fail)
      go_wp2_with fail
      have hs0 : comp (words ys) s 0 = s := rfl
      go_loopw [6, 7, 8, 9, 10, 11, 12, 13, 97] (fun s6 s7 s8 s9 s10 s11 s12 s13 s97 wr => ∃ (t : Nat) (v : W8), t ≤ 64 ∧ v = comp (words ys) s t ∧ s97 = .int .i64 t ∧
          s6 = u v.a ∧ s7 = u v.b ∧ s8 = u v.c ∧ s9 = u v.d ∧ s10 = u v.e ∧ s11 = u v.f ∧ s12 = u v.g ∧ s13 = u v.h ∧
          wr.heap[w.heap.size]? = some (.cells (ws (fun j => wt (words ys) (t + (j + 1024 - t) % 16)) 16) 113 (0, 0)) ∧ Below w.heap.size w wr) (fun _ _ _ _ _ _ _ _ i _ => 64 - (intOf i).toNat)
      case atStart =>
        simp only [i_add]
        have e (j : Nat) (h : j < 8) := off_add s j h
        refine ⟨0, s, by omega, rfl, rfl, ?_, ?_, ?_, ?_, ?_, ?_, ?_, ?_, ?_, ?_⟩
        · exact congrArg u (e 0 (by omega))
        · exact congrArg u (e 1 (by omega))
        · exact congrArg u (e 2 (by omega))
        · exact congrArg u (e 3 (by omega))
        · exact congrArg u (e 4 (by omega))
        · exact congrArg u (e 5 (by omega))
        · exact congrArg u (e 6 (by omega))
        · exact congrArg u (e 7 (by omega))
        · exact hrow
        · rw [World.drewN_drewN]
          exact hbr.trans ((below_drewN wa _).mono hbr.size)
      case round =>
        clear b0 b1 b2 b3 b4 b5 b6 b7 o0 o1 o2 o3 o4 o5 o6 o7 hrow
        obtain ⟨t, v, ht, hv, rfl, rfl, rfl, rfl, rfl, rfl, rfl, rfl, rfl, hrow, hbq⟩ := hrel
        unfold u
        by_cases htl : t < 64
        · have htz : (t : Int) < 64 := by omega
          have ht0 : (0 : Int) ≤ (t : Int) := by omega
          have w1 : IntKind.i64.wrap ((t : Int) + 1) = (t : Int) + 1 := IntWalk.i64_in _ (by omega)
          have w9 : IntKind.i64.wrap ((t : Int) + 9) = (t : Int) + 9 := IntWalk.i64_in _ (by omega)
          have w14 : IntKind.i64.wrap ((t : Int) + 14) = (t : Int) + 14 := IntWalk.i64_in _ (by omega)
          obtain ⟨p, hp⟩ : ∃ p, p = t % 16 := ⟨_, rfl⟩
          obtain ⟨p1, hp1⟩ : ∃ p, p = (t + 1) % 16 := ⟨_, rfl⟩
          obtain ⟨p9, hp9⟩ : ∃ p, p = (t + 9) % 16 := ⟨_, rfl⟩
          obtain ⟨p14, hp14⟩ : ∃ p, p = (t + 14) % 16 := ⟨_, rfl⟩
          have a0 : bits .and .i64 (t : Int) 15 = (p : Int) := by rw [and15]; omega
          have a1 : bits .and .i64 ((t : Int) + 1) 15 = (p1 : Int) := by rw [and15]; omega
          have a9 : bits .and .i64 ((t : Int) + 9) 15 = (p9 : Int) := by rw [and15]; omega
          have a14 : bits .and .i64 ((t : Int) + 14) 15 = (p14 : Int) := by rw [and15]; omega
          have q0 : (0 : Int) ≤ (p : Int) ∧ (p : Int) < 16 := by omega
          have q1 : (0 : Int) ≤ (p1 : Int) ∧ (p1 : Int) < 16 := by omega
          have q9 : (0 : Int) ≤ (p9 : Int) ∧ (p9 : Int) < 16 := by omega
          have q14 : (0 : Int) ≤ (p14 : Int) ∧ (p14 : Int) < 16 := by omega
          have hc0 : wr.cell? ⟨w.heap.size, p, none⟩ = some (u (wt (words ys) t)) := by
            rw [cell_of_row _ _ _ _ _ _ hrow, ws_get _ _ _ (by omega), show t + (p + 1024 - t) % 16 = t by omega]
          have hc1 : wr.cell? ⟨w.heap.size, p1, none⟩ = some (u (wt (words ys) (t + 1))) := by
            rw [cell_of_row _ _ _ _ _ _ hrow, ws_get _ _ _ (by omega), show t + (p1 + 1024 - t) % 16 = t + 1 by omega]
          have hc9 : wr.cell? ⟨w.heap.size, p9, none⟩ = some (u (wt (words ys) (t + 9))) := by
            rw [cell_of_row _ _ _ _ _ _ hrow, ws_get _ _ _ (by omega), show t + (p9 + 1024 - t) % 16 = t + 9 by omega]
          have hc14 : wr.cell? ⟨w.heap.size, p14, none⟩ = some (u (wt (words ys) (t + 14))) := by
            rw [cell_of_row _ _ _ _ _ _ hrow, ws_get _ _ _ (by omega), show t + (p14 + 1024 - t) % 16 = t + 14 by omega]
          have hnx := wt_next (words ys) (words_length ys) t
          have hk := (hG.keepB hbq).round t htl
          have hfr := frozen_of_row _ _ p _ _ hrow
          unfold u at hc0 hc1 hc9 hc14 hk
          have HS := Lib.hid (show comp (words ys) s (t + 1) = rnd v (kk t) (wt (words ys) t) by rw [hv]; rfl)
          clear hv
          have HP := Lib.hid (And.intro hp hnx)
          clear hp hp1 hp9 hp14 hnx
          obtain ⟨k, hkk⟩ : ∃ k, k = kk t := ⟨_, rfl⟩
          obtain ⟨x, hx⟩ : ∃ x, x = wt (words ys) t := ⟨_, rfl⟩
          obtain ⟨y, hy1⟩ : ∃ x, x = wt (words ys) (t + 1) := ⟨_, rfl⟩
          obtain ⟨z, hz⟩ : ∃ x, x = wt (words ys) (t + 14) := ⟨_, rfl⟩
          obtain ⟨x9, hx9⟩ : ∃ x, x = wt (words ys) (t + 9) := ⟨_, rfl⟩
          rw [← hx] at hc0
          rw [← hy1] at hc1
          rw [← hz] at hc14
          rw [← hx9] at hc9
          rw [← hkk] at hk
          have HE := Lib.hid (And.intro hkk (And.intro hx (And.intro hy1 (And.intro hz hx9))))
          clear hkk hx hy1 hz hx9
          have HR := Lib.hid hrow
          clear hrow
          go_wp2_with fail
          go_quiet ((go_at_call 87; exact Calls.quiet_of_same (left_z _ _ _ (by decide))))
          go_wp2_with fail
          obtain ⟨n1, hn1⟩ : ∃ x, x = nq := ⟨_, rfl⟩
          subst hn1
          rw [one_eq]
          obtain ⟨one, hone⟩ : ∃ o, o = v.h + big1 v.e + ch v.e v.f v.g + k + x := ⟨_, rfl⟩
          rw [← hone]
          refine (left_z v.a (-2) _ (by decide)).mono ?_
          rintro e w' ⟨rfl, rfl⟩
          go_wp2_with fail
          refine (left_z v.a (-13) _ (by decide)).mono ?_
          rintro e w' ⟨rfl, rfl⟩
          go_wp2_with fail
          refine (left_z v.a (-22) _ (by decide)).mono ?_
          rintro e w' ⟨rfl, rfl⟩
          go_wp2_with fail
          go_quiet (fail)
          go_wp2_with fail
          rw [World.drewN_drewN]
          obtain ⟨w2, hw2⟩ : ∃ x : World, x = wr.drewN (n1 + nq) := ⟨_, rfl⟩
          rw [← hw2]
          have hr2 : w2.heap[w.heap.size]? = some (.cells (ws (fun j => wt (words ys) (t + (j + 1024 - t) % 16)) 16) 113 (0, 0)) := by rw [hw2]; exact HR.out
          have hb2 : Below w.heap.size w w2 := by rw [hw2]; exact hbq.trans ((below_drewN wr _).mono hbq.size)
          have hd9 : w2.cell? ⟨w.heap.size, p9, none⟩ = some (.int .u32 x9.toNat) := by rw [hw2]; exact hc9
          have hd0 : w2.cell? ⟨w.heap.size, p, none⟩ = some (.int .u32 x.toNat) := by rw [hw2]; exact hc0
          have hfr2 : w2.frozen? ⟨w.heap.size, p, none⟩ = false := by rw [hw2]; exact hfr
          clear hc0 hc1 hc9 hc14 hfr hk hw2
          go_still_tail 28, (by kernel_rfl)
          iterate 4 (still_call (left_z _ _ _ (by decide)); repeat still_step)
          refine wpStill_nil ?_
          change wpList _ _ _ _ _ w2.drew
          have hd0' : w2.drew.cell? ⟨w.heap.size, p, none⟩ = some (.int .u32 x.toNat) := hd0
          have hfr2' : w2.drew.frozen? ⟨w.heap.size, p, none⟩ = false := hfr2
          have hr2' : w2.drew.heap[w.heap.size]? = some (.cells (ws (fun j => wt (words ys) (t + (j + 1024 - t) % 16)) 16) 113 (0, 0)) := hr2
          have hb2' : Below w.heap.size w w2.drew := hb2.drew
          clear hd0 hd9 hfr2 hr2 hb2
          generalize w2.drew = w3 at *
          go_wp2_with fail
          go_roundw
          case rel =>
            rw [a_eq v.d, e_eq v.d _ _ _ _ _ _ v.a v.b v.c, x_eq]
            refine ⟨t + 1, rnd v k x, by omega, ?_, by go_num, rfl, rfl, rfl, rfl, rfl, rfl, rfl, rfl, ?_, hb2'.setCell (p := ⟨_, _, none⟩) (Nat.le_refl _) _⟩
            · rw [HS.out, HE.out.1, HE.out.2.1]
            · rw [heap_setCell_same _ _ _ _ _ _ hr2']
              refine congrArg (fun x => some (Obj.cells x 113 (0, 0))) (ws_set _ _ 16 p (x + sml0 y + x9 + sml1 z) ?_ ?_)
              · show wt (words ys) (t + 1 + (p + 1024 - (t + 1)) % 16) = _
                have hp := HP.out.1
                rw [show t + 1 + (p + 1024 - (t + 1)) % 16 = t + 16 by omega, HP.out.2, HE.out.2.1, HE.out.2.2.1, HE.out.2.2.2.1, HE.out.2.2.2.2]
              · intro j hj hjp
                show wt (words ys) (t + 1 + (j + 1024 - (t + 1)) % 16) = wt (words ys) (t + (j + 1024 - t) % 16)
                have hp := HP.out.1
                rw [show t + 1 + (j + 1024 - (t + 1)) % 16 = t + (j + 1024 - t) % 16 by omega]
          case measure => simp [intOf]; omega
        · have htz : ¬ (t : Int) < 64 := by omega
          obtain rfl : t = 64 := by omega
          have HV := Lib.hid hv
          clear hrow hv
          go_wp2_with fail
          have hv := HV.out
          obtain ⟨A, hA⟩ : ∃ A : Array Value, A = #[Value.int .u32 v.a.toNat, .int .u32 v.b.toNat, .int .u32 v.c.toNat, .int .u32 v.d.toNat, .int .u32 v.e.toNat, .int .u32 v.f.toNat, .int .u32 v.g.toNat, .int .u32 v.h.toNat] := ⟨_, rfl⟩
          rw [← hA]
          have hl := l_get v
          rw [← hA] at hl
          have hAs : A.size = 8 := by rw [hA]; rfl
          clear hA
          have hblk : blk s ys = s.add v := by rw [hv]; rfl
          have HB := Lib.hid hblk
          have hgr := (hbq.block g hgl).trans hg
          have hgb : w.grownBy wr (some g) := below_grown hbq _
          clear hbq hv hblk
          obtain ⟨wc, hwc⟩ : ∃ x : World, x = wr := ⟨_, rfl⟩
          subst hwc
          go_loopw [206] (fun s206 wr => ∃ i : Nat, i ≤ 8 ∧ s206 = .int .i64 i ∧
              wr.heap[g]? = some (.cells (ws (fun j => if j < i then off8 (s.add v) j else off8 s j) 8 ++ rest) T (0, 0)) ∧ w.grownBy wr (some g)) (fun i _ => 8 - (intOf i).toNat)
          case atStart => exact ⟨0, by omega, rfl, hgr, hgb⟩
          case round =>
            obtain ⟨i, hi, rfl, hgi, hbi⟩ := hrel
            clear hgr hgb
            by_cases hil : i < 8
            · have hiz : (i : Int) < 8 := by omega
              have hi0 : (0 : Int) ≤ (i : Int) := by omega
              have hAi := fun w' => run_index_w A i _ w' hil (hl i hil)
              have hci : wr.cell? ⟨g, i, none⟩ = some (.int .u32 (off8 s i).toNat) := by
                rw [cell_of_row _ _ _ _ _ _ hgi, ws_get_app _ _ _ _ hil, if_neg (by omega)]; rfl
              have hfi := frozen_of_row _ _ i _ _ hgi
              go_wp2_with fail
              go_still_tail 11, (by kernel_rfl)
              change wpList _ _ _ _ _ wr.drew
              have hgi' : wr.drew.heap[g]? = some (.cells (ws (fun j => if j < i then off8 (s.add v) j else off8 s j) 8 ++ rest) T (0, 0)) := hgi
              have hbi' : w.grownBy wr.drew (some g) := ⟨hbi.os, hbi.tape, hbi.output, hbi.size, hbi.block⟩
              have hci' : wr.drew.cell? ⟨g, i, none⟩ = some (.int .u32 (off8 s i).toNat) := hci
              have hfi' : wr.drew.frozen? ⟨g, i, none⟩ = false := hfi
              clear hci hfi hgi hbi hAi
              generalize wr.drew = w4 at *
              go_wp2_with fail
              go_roundw
              case rel =>
                rw [show (v.l[i]?.getD 0) = v.l.getD i 0 by simp, i_add, off_step _ _ _ hil]
                refine ⟨i + 1, by omega, by go_num, ?_, grown_set hbi' _ _⟩
                rw [heap_setCell_same _ _ _ _ _ _ hgi']
                refine congrArg (fun x => some (Obj.cells x T (0, 0))) (ws_set_app _ _ 8 i _ rest hil (by simp) (fun j hj hji => ?_))
                by_cases h1 : j < i
                · simp [h1, show j < i + 1 by omega]
                · simp [h1, show ¬ j < i + 1 by omega]
              case measure => simp [intOf]; omega
            · have hiz : ¬ (i : Int) < 8 := by omega
              obtain rfl : i = 8 := by omega
              go_wp2_with fail
              go_end0
              refine ⟨rfl, ?_, hbi⟩
              rw [HB.out, hgi, ws_congr _ (off8 (s.add v)) 8 (fun j hj => by rw [if_pos hj])]
end Go.Proofs.YtfibhmgjkooemaaDoor
