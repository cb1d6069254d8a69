/- The law FrameCuts: what is cut off anywhere has the whole records. -/
import Derived.Test.YtpdlocdlnoibbaaFrQ
import Derived.Deep.DeepCutAuto
import Derived.Deep.CutBlock
import Derived.Deep.LoopGhost
namespace Go.Proofs.Ytpdlocdlnoibbaa
open Go.ChangeShapes Go.WideShapes Go.ChangeAt Go.RowKit

theorem Txs.take {w : World} {a : Option Addr} {n c : Nat} {ls : List (List UInt8)} (h : Txs w (.slice a n c) ls) (hn : n = ls.length) (k : Nat) (hk : k ≤ n) : Txs w (.slice a k c) (ls.take k) := by
  obtain ⟨vs, h1, h2, h3⟩ := h
  have hl : (ls.take k).length = k := by rw [List.length_take]; omega
  refine ⟨vs.take k, by rw [hl, List.length_take]; omega, ?_, fun i l u hl hu => ?_⟩
  · rw [hl]
    rw [← hn] at h2
    exact h2.take' k hk
  · have hi : i < k := by have := (List.getElem?_eq_some_iff.1 hl).1; omega
    rw [List.getElem?_take_of_lt hi] at hl hu
    exact h3 i l u hl hu
/-- Some texts out of a list's middle. -/
theorem Txs.mid {w : World} {a : Option Addr} {n c : Nat} {ls : List (List UInt8)} (p N pe : Nat) (hpe : pe = p + N) (h : Txs w (.slice a n c) ls) (hn : n = ls.length) (hN : pe ≤ n) (hN0 : 0 < N) (hb : n ≤ 140737488355328) :
    ∃ a3 c3, (∀ wx : World, (Instr.slice 35 (.slice a n c) (some (.int .i64 p)) (some (.int .i64 pe)) none).run Try.prog wx = .ok (.slice a3 N c3) wx) ∧ Txs w (.slice a3 N c3) ((ls.drop p).take N) := by
  subst hpe
  obtain ⟨vs, h1, h2, h3⟩ := h
  rw [← hn] at h1 h2
  have hl : ((ls.drop p).take N).length = N := by rw [List.length_take, List.length_drop]; omega
  have h2l := h2.1
  have h2o := h2.2.1
  obtain ⟨b, off, c', hv, hc, hcell⟩ := h2.at (by omega)
  simp only [Value.slice.injEq] at hv
  obtain ⟨rfl, _, rfl⟩ := hv
  have hcN : ¬ c = p := by omega
  refine ⟨some ⟨b, off + p, none⟩, c - p, fun wx => ?_, (vs.drop p).take N, by rw [hl, List.length_take, List.length_drop]; omega, ?_, fun i l u hl' hu => ?_⟩
  · simp [go_sem, hcN]
    have e3 : ((p : Int) + (N : Int)).toNat = p + N := by omega
    rw [if_pos (by omega), if_pos (by omega), e3]
    simp
  · rw [hl]
    refine ⟨by rw [List.length_take, List.length_drop]; omega, fun u hu => h2o u (List.mem_of_mem_drop (List.mem_of_mem_take hu)), .inr ⟨_, _, rfl, by omega, fun j u hu => ?_⟩⟩
    have hj : j < N := by
      have := (List.getElem?_eq_some_iff.1 hu).1
      rw [List.length_take] at this; omega
    rw [List.getElem?_take_of_lt hj, List.getElem?_drop] at hu
    have := hcell (p + j) u hu
    rw [Addr.add_lit]
    rwa [show off + p + j = off + (p + j) by omega]
  · have hj : i < N := by have := (List.getElem?_eq_some_iff.1 hl').1; omega
    rw [List.getElem?_take_of_lt hj, List.getElem?_drop] at hl' hu
    exact h3 _ l u hl' hu
theorem layF_one (l : List UInt8) (h : l.length ≤ 32768) : layO [l] = frm l ∧ layE [l] = 0 := by
  have hok : okL [l] = true := (okL_iff _).2 (fun r hr => by simp at hr; subst hr; exact h)
  refine ⟨by rw [layO, if_pos hok, layF, layF, List.append_nil], by rw [layE, if_pos hok]⟩
theorem drop_one {α : Type} {l : List α} {i : Nat} {x : α} (h : l[i]? = some x) : (l.drop i).take 1 = [x] := by
  obtain ⟨hi, he⟩ := List.getElem?_eq_some_iff.1 h
  rw [List.drop_eq_getElem_cons hi, List.take_succ_cons, List.take_zero, he]
theorem layF_take_succ {ls : List (List UInt8)} {i : Nat} {l : List UInt8} (h : ls[i]? = some l) : layF (ls.take (i + 1)) = layF (ls.take i) ++ frm l := by
  rw [List.take_add_one, h, layF_append]
  simp [layF]
set_option maxHeartbeats 8000000 in
set_option maxRecDepth 100000 in
theorem frameCuts_walk (v0 v2 : Value) (ls : List (List UInt8)) (at_ : Int) (more : List UInt8) (w : World) (h : Txs w v0 ls) (hnl : ls.length ≤ 1048576) (hLB : (layF ls).length ≤ 100000000000000) (hm : Rd w 1 v2 more.length (bv more)) (hml : more.length ≤ 1048576) :
    Calls Try.prog 8 #[v0, .int .i64 at_, v2] w fun e w' => e = .returned (.bool true) ∧ Below w.heap.size w w' := by
  have haw := awake07_any w
  obtain ⟨a0, c0, rfl⟩ := h.form
  obtain ⟨am, cm, rfl⟩ := hm.form
  obtain ⟨n, hn⟩ : ∃ n, n = ls.length := ⟨_, rfl⟩
  obtain ⟨mm, hmm⟩ : ∃ mm, mm = more.length := ⟨_, rfl⟩
  have hnc : n ≤ c0 := by
    obtain ⟨vs, _, ⟨_, _, ⟨hv, _⟩ | ⟨_, _, hv, hc, _⟩⟩, _⟩ := h
    · simp only [Value.slice.injEq] at hv; omega
    · simp only [Value.slice.injEq] at hv; omega
  rw [← hn] at hnl h ⊢
  rw [← hmm] at hml hm ⊢
  have HX := Lib.hid (And.intro hn hmm)
  have HT := Lib.hid h
  have HM := Lib.hid hm
  clear h hm hn hmm
  go_enter Try.func8, Try.ntmps8
  go_wp2_with fail
  refine haw.mono ?_
  rintro e w1 ⟨rfl, hb1⟩
  have hlay := Lay_any _ ls w1 (HT.out.below hb1) (by have := HX.out.1; omega) hLB
  have hz1 := hb1.size
  clear haw
  go_wp2_with fail
  refine hlay.mono ?_
  rintro e w2 ⟨hb2, v7, rfl, ho7⟩
  have hb02 := hb1.trans (hb2.mono hz1)
  obtain ⟨ab, cb, rfl⟩ := own_formq ho7
  by_cases hok : okL ls = true
  · have hE : layE ls = 0 := by rw [layE, if_pos hok]
    have hO : layO ls = layF ls := by rw [layO, if_pos hok]
    rw [hE]
    rw [hO] at ho7 ⊢
    have hls := (okL_iff ls).1 hok
    have hL3 := layF_le 32768 (by omega) ls hls
    obtain ⟨L, hL⟩ : ∃ L, L = layF ls := ⟨_, rfl⟩
    have hsl := scan_lay ls [] hls
    rw [List.append_nil, scan_nil] at hsl
    simp only [List.append_nil, Nat.add_zero] at hsl
    rw [← hL] at ho7 hL3 hsl ⊢
    obtain ⟨M, hM⟩ : ∃ M, M = L.length := ⟨_, rfl⟩
    have hL4 : ls.length * (32768 + 13) ≤ 1048576 * (32768 + 13) := Nat.mul_le_mul_right _ (by have := HX.out.1; omega)
    have hMb : M ≤ 100000000000 := by omega
    have hscan := Scan_any (.slice ab L.length cb) L w2 (by omega) (own_rd ho7 (bv_one _))
    unfold ScanD at hscan
    rw [hsl, ← hM] at hscan
    rw [← hM] at ho7 ⊢
    have hMc : M ≤ cb := by
      obtain ⟨_, _, ⟨hv, _⟩ | ⟨_, _, hv, hc, _⟩⟩ := own_rd ho7 (bv_one _)
      · simp only [Value.slice.injEq] at hv; omega
      · simp only [Value.slice.injEq] at hv; omega
    have HL := Lib.hid (And.intro hL (And.intro hM hls))
    have H2 := Lib.hid (And.intro ho7 hb02)
    have hz02 := hb02.size
    clear hL hM hls ho7 hb02 hb2 hlay hE hO hok hL3 hsl hL4 hLB hb1
    go_wp2_with fail
    refine hscan.mono ?_
    rintro e w3 ⟨hb3, v9, rfl, ht9⟩
    have hsame := Same_any _ _ ls w3 ht9 (HT.out.below (H2.out.2.trans (hb3.mono hz02))) (by have := HX.out.1; omega)
    have hz3 := hb3.size
    have H3 := Lib.hid hb3
    obtain ⟨a9, c9, hv9⟩ := ht9.form
    rw [← HX.out.1] at hv9
    subst hv9
    clear hb3 ht9 hscan
    go_wp2_with fail
    refine hsame.mono ?_
    rintro e w4 ⟨rfl, hb4⟩
    have hb24 := H3.out.trans (hb4.mono hz3)
    have H4 := Lib.hid hb24
    have hz4 := hb24.size
    obtain ⟨u, hu⟩ : ∃ u : Nat, IntKind.u64.wrap at_ = u := ⟨(IntKind.u64.wrap at_).toNat, by rw [IntKind.wrap_u64]; omega⟩
    clear hb4 hb24 hsame
    go_upto_region 9 with fail
    go_cut [1] (fun s1 wq => (∃ A : Nat, A ≤ M ∧ s1 = .int .i64 A) ∧ wq = w4)
    case first =>
      have z1 : IntKind.i64.wrap ((M : Int) + 1) = (M : Int) + 1 := IntWalk.i64_in _ (by omega)
      have z2 : IntKind.u64.wrap ((M : Int) + 1) = (M : Int) + 1 := IntWalk.u64_in _ (by omega)
      have z3 : ¬ ((M : Int) + 1 = 0) := by omega
      go_wp2_with fail
      all_goals go_meet
      have hlt : u % (M + 1) < M + 1 := Nat.mod_lt _ (by omega)
      have hq : (u : Int) % ((M : Int) + 1) = ((u % (M + 1) : Nat) : Int) := by push_cast; rfl
      have hq2 : wrap64 (((u % (M + 1) : Nat) : Int)) = ((u % (M + 1) : Nat) : Int) := IntWalk.wrap64_in _ (by omega)
      exact ⟨⟨u % (M + 1), Nat.lt_succ_iff.1 hlt, by rw [hq, hq2]⟩, rfl⟩
    case rest =>
      obtain ⟨⟨A, hA, rfl⟩, rfl⟩ := hcut
      obtain ⟨wk, rfl⟩ : ∃ wk : World, wk = wc := ⟨_, rfl⟩
      clear hu
      go_upto_block 0 with fail
      go_cut [11, 12, 13, 14, 15] (fun s11 s12 s13 s14 s15 wz => ∃ i F : Nat, i ≤ n ∧ s11 = .int .i64 i ∧ s12 = .int .i64 F ∧ F = (layF (ls.take i)).length ∧ F ≤ A ∧ (∀ r, ls[i]? = some r → A < F + (frm r).length) ∧ Below wk.heap.size wk wz)
      case first =>
        go_wp2_with fail
        go_loopw [11, 12, 13, 14, 15] (fun s11 s12 s13 _ _ wr => ∃ i F : Nat, i ≤ n ∧ s11 = .int .i64 i ∧ s13 = .int .i64 i ∧ s12 = .int .i64 F ∧ F = (layF (ls.take i)).length ∧ F ≤ A ∧ Below wk.heap.size wk wr) (fun _ _ s13 _ _ _ => n - (intOf s13).toNat)
        case atStart => exact ⟨0, 0, Nat.zero_le _, rfl, rfl, rfl, by simp [layF], Nat.zero_le _, Below.refl _ _⟩
        case round =>
          obtain ⟨i, F, hi, rfl, rfl, rfl, hF, hFA, hbr⟩ := hrel
          have hzr := hbr.size
          by_cases hlt : i < n
          · obtain ⟨l, hl⟩ : ∃ l, ls[i]? = some l := ⟨ls[i]'(by have := HX.out.1; omega), List.getElem?_eq_getElem _⟩
            have hll := HL.out.2.2 l (List.mem_of_getElem? hl)
            obtain ⟨i1, hi1⟩ : ∃ i1, i1 = i + 1 := ⟨_, rfl⟩
            have htr := (HT.out.below (H2.out.2.trans (H4.out.mono hz02))).below hbr
            obtain ⟨a3, c3, hsl, ht3⟩ := htr.mid i 1 i1 hi1 HX.out.1 (by omega) (by omega) (by omega)
            rw [drop_one hl] at ht3
            obtain ⟨ho1, he1⟩ := layF_one l hll
            have hfl := frm_length l
            have hnb := numB_len l.length (by omega)
            have hlay1 := Lay_any _ [l] _ ht3 (by simp) (by simp [layF]; omega)
            have zi : (i : Int) < (n : Int) := by omega
            have zi1 : IntKind.i64.wrap ((i : Int) + 1) = (i1 : Int) := (IntWalk.i64_in _ (by omega)).trans (by omega)
            obtain ⟨G, hG⟩ : ∃ G, G = (frm l).length := ⟨_, rfl⟩
            have zG : IntKind.i64.wrap ((F : Int) + (G : Int)) = ((F + G : Nat) : Int) := (IntWalk.i64_in _ (by omega)).trans (by omega)
            have HS := Lib.hid (And.intro hl (And.intro hF (And.intro ho1 (And.intro he1 (And.intro hG (And.intro hbr hi1))))))
            clear hl hF ho1 he1 hbr htr ht3 hG hi1
            go_wp2_with fail
            refine hlay1.mono ?_
            rintro e wa ⟨hba, va, rfl, hoa⟩
            rw [HS.out.2.2.2.1]
            rw [HS.out.2.2.1, ← HS.out.2.2.2.2.1] at hoa
            obtain ⟨aa, ca, rfl⟩ := own_formq hoa
            have HB := Lib.hid (HS.out.2.2.2.2.2.1.trans (hba.mono hzr))
            clear hba hoa hlay1
            by_cases hbig : A < F + G
            · have zb : (A : Int) < (F : Int) + (G : Int) := by omega
              have zb2 : (A : Int) < ((F + G : Nat) : Int) := by omega
              go_wp2_with fail
              go_meet
              exact ⟨i, F, hi, rfl, rfl, HS.out.2.1, hFA, fun r hr => by rw [HS.out.1] at hr; obtain rfl := Option.some.inj hr; rw [← HS.out.2.2.2.2.1]; exact hbig, HB.out⟩
            · have zb : ¬ ((A : Int) < (F : Int) + (G : Int)) := by omega
              have zb2 : ¬ ((A : Int) < ((F + G : Nat) : Int)) := by omega
              go_wp2_with fail
              go_roundw
              case rel => exact ⟨i + 1, F + G, by omega, by first | rfl | (rw [← HS.out.2.2.2.2.2.2]) | go_num, by first | rfl | (rw [← HS.out.2.2.2.2.2.2]) | go_num, by first | rfl | (rw [zG]) | go_num, by rw [layF_take_succ HS.out.1, List.length_append, ← HS.out.2.1, ← HS.out.2.2.2.2.1], by omega, HB.out⟩
              case measure =>
                have := HS.out.2.2.2.2.2.2
                simp [intOf]
                omega
          · have zi : ¬ ((i : Int) < (n : Int)) := by omega
            have HS := Lib.hid (And.intro hF hbr)
            clear hF hbr
            go_wp2_with fail
            go_meet
            exact ⟨i, F, hi, rfl, rfl, HS.out.1, hFA, fun r hr => by have := (List.getElem?_eq_some_iff.1 hr).1; have := HX.out.1; omega, HS.out.2⟩
      case rest =>
        obtain ⟨i, F, hi, rfl, rfl, hF, hFA, hcutF, hbz⟩ := hcut
        have hbw : Below w.heap.size w wc := (H2.out.2.trans (H4.out.mono hz02)).trans (hbz.mono (by omega))
        have ho := own_keep H2.out.1 (H4.out.trans (hbz.mono hz4))
        have htk := (own_rd ho (bv_one _)).take' A hA
        have hbt : (bv L).take A = bv (L.take A) := by simp [bv, List.map_take]
        rw [hbt] at htk
        have hlA : (L.take A).length = A := by rw [List.length_take, ← HL.out.2.1]; omega
        have hsc := scan_cut ls HL.out.2.2 A i (by omega) (by rw [← HL.out.1, ← HL.out.2.1]; exact hA) (fun r hr => by rw [← hF]; exact hcutF r hr) (by have := HX.out.1; omega)
        rw [← HL.out.1, ← hF] at hsc
        have hscan := Scan_any (.slice ab A cb) (L.take A) wc (by omega) (by rw [hlA]; exact htk)
        unfold ScanD at hscan
        rw [hsc] at hscan
        have htl : (ls.take i).length = i := by rw [List.length_take]; have := HX.out.1; omega
        have HK := Lib.hid (And.intro ho (And.intro hbw htl))
        have hzw := hbw.size
        clear ho hbw htk hbt hlA hsc hF hcutF hbz htl
        go_wp2_with fail
        refine hscan.mono ?_
        rintro e w5 ⟨hb5, v5, rfl, ht5⟩
        have hb05 := HK.out.2.1.trans (hb5.mono hzw)
        have ht0 := (HT.out.below hb05).take HX.out.1 i hi
        have hsame := Same_any _ _ (ls.take i) w5 ht5 ht0 (by rw [HK.out.2.2]; omega)
        obtain ⟨a5, c5, hv5⟩ := ht5.form
        rw [HK.out.2.2] at hv5
        subst hv5
        have hz5 := hb5.size
        have ho5 := own_keep HK.out.1 hb5
        have hic : i ≤ c0 := by omega
        have H5 := Lib.hid (And.intro ho5 hb05)
        clear hb5 hb05 ht5 ht0 hscan ho5
        go_wp2_with fail
        refine hsame.mono ?_
        rintro e w6 ⟨rfl, hb6⟩
        have ho6 := own_keep H5.out.1 hb6
        have hb06 := H5.out.2.trans (hb6.mono (by omega))
        have hr6 := own_rd ho6 (bv_one _)
        have hz6 := hb6.size
        have H6 := Lib.hid (And.intro ho6 hb06)
        clear hsame hb6 ho6 hb06
        go_wp2_with (at_builtin; refine wpList_app Try.underlying22 info8 rfl (by decide) rfl _ _ rfl rfl rfl (own_new w6 5 1 0 w6.heap.size [] rfl (by omega) (Nat.le_refl _)) (hr6.alloc _) (by omega) (by omega) (by simp) ?_)
        intro v7 w7 hown7 hg7 _
        have hb7 := hg7.alloc.below (B := w6.heap.size) (Nat.le_refl _) (fun j hj => by simp [Value.ownBlock] at hj; omega)
        have hown7 : w7.ownsRow w6.heap.size 5 1 v7 M (bv L) := by simpa using hown7
        have hz7 := hb7.size
        have hm7 := (HM.out.keep H6.out.2).keep hb7
        obtain ⟨a7, c7, rfl⟩ := own_formq hown7
        clear hg7 hr6
        go_wp2_with (at_builtin; refine wpList_app Try.underlying22 info8 rfl (by decide) rfl _ _ rfl rfl rfl hown7 hm7 (by omega) (by omega) hz7 ?_)
        intro v8 w8 hown8 hg8 _
        have hb8 := hb7.trans (hg8.below hz7 (own_block hown7))
        have hz8 := Nat.le_trans hz7 hg8.grown.size
        rw [← bv_append] at hown8
        obtain ⟨T, hT⟩ : ∃ T, T = L ++ more := ⟨_, rfl⟩
        rw [← hT] at hown8
        have hTl : T.length = M + mm := by rw [hT, List.length_append, ← HL.out.2.1, ← HX.out.2]
        have hsc2 := scan_lay ls more HL.out.2.2
        rw [← HL.out.1, ← hT, ← HL.out.2.1] at hsc2
        have hscan2 := Scan_any v8 T w8 (by omega) (by rw [hTl]; exact own_rd hown8 (bv_one _))
        unfold ScanD at hscan2
        rw [hsc2] at hscan2
        have hcm := scan_le more
        have hcn := scan_count more
        obtain ⟨Q, hQ⟩ : ∃ Q, Q = scan more := ⟨_, rfl⟩
        rw [← hQ] at hscan2 hcm hcn
        have H8 := Lib.hid (And.intro (H6.out.2.trans (hb8.mono (by omega))) (And.intro hQ (HM.out.keep (H6.out.2.trans (hb8.mono (by omega))))))
        have hz68 := hb8.size
        obtain ⟨a8, c8, rfl⟩ := own_formq hown8
        clear hown7 hm7 hg8 hb7 hb8 hown8 hT hTl hsc2 hQ
        go_wp2_with fail
        refine hscan2.mono ?_
        rintro e w9 ⟨hb9, v9, rfl, ht9⟩
        have hz9 := hb9.size
        have hb09 := H8.out.1.trans (hb9.mono (by omega))
        have hmr := H8.out.2.2.keep hb9
        have hscan3 := Scan_any _ more w9 (by have := HX.out.2; omega) (by rw [← HX.out.2]; exact hmr)
        unfold ScanD at hscan3
        rw [← H8.out.2.1] at hscan3
        obtain ⟨q, hq⟩ : ∃ q, q = Q.1.length := ⟨_, rfl⟩
        have hkl : (ls ++ Q.1).length = n + q := by rw [List.length_append, ← HX.out.1, hq]
        obtain ⟨ak, ck, hvk⟩ := ht9.form
        rw [hkl] at hvk
        subst hvk
        have hkc : n ≤ ck := by
          obtain ⟨vs, _, ⟨_, _, ⟨hv, h0⟩ | ⟨_, _, hv, hc, _⟩⟩, _⟩ := ht9
          · simp only [Value.slice.injEq] at hv; omega
          · simp only [Value.slice.injEq] at hv; omega
        have H9 := Lib.hid (And.intro ht9 (And.intro hb09 (And.intro hq hkl)))
        clear hb9 ht9 hb09 hmr hscan2 hq hkl
        go_wp2_with fail
        refine hscan3.mono ?_
        rintro e wd ⟨hbd, vd, rfl, htd⟩
        obtain ⟨ad, cd, hvd⟩ := htd.form
        rw [← H9.out.2.2.1] at hvd
        subst hvd
        have hb0d := H9.out.2.1.trans (hbd.mono (by omega))
        have htk := (H9.out.1.below hbd).take H9.out.2.2.2.symm n (by omega)
        have hta : (ls ++ Q.1).take n = ls := by rw [HX.out.1, List.take_left]
        rw [hta] at htk
        have hsame := Same_any _ _ ls wd htk (HT.out.below hb0d) (by have := HX.out.1; omega)
        have hqb : q ≤ 1048576 := by have := H9.out.2.2.1; have := HX.out.2; omega
        have hQ2b : Q.2 ≤ 1048576 := by have := HX.out.2; omega
        obtain ⟨P, hP⟩ : ∃ P, P = Q.2 := ⟨_, rfl⟩
        rw [← hP] at hQ2b ⊢
        have zq : IntKind.i64.wrap ((n : Int) + (q : Int)) = ((n + q : Nat) : Int) := (IntWalk.i64_in _ (by omega)).trans (by omega)
        have zq2 : IntKind.i64.wrap ((n : Int) + (q : Int)) = (n : Int) + (q : Int) := IntWalk.i64_in _ (by omega)
        have zp2 : IntKind.i64.wrap ((M : Int) + (P : Int)) = (M : Int) + (P : Int) := IntWalk.i64_in _ (by omega)
        have hzd := hb0d.size
        have HD := Lib.hid hb0d
        clear hbd htd hb0d htk hta hscan3 hP zq
        go_wp2_with fail
        refine hsame.mono ?_
        rintro e wf ⟨rfl, hbf⟩
        have HF := Lib.hid (HD.out.trans (hbf.mono hzd))
        clear hbf hsame
        go_wp2_with fail
        go_ret
        exact ⟨rfl, HF.out⟩
  · have hE : layE ls = 4 := by rw [layE, if_neg hok]
    have HB := Lib.hid hb02
    rw [hE]
    clear hb02 hb2 hb1 ho7 hlay
    go_wp2_with fail
    go_ret
    exact ⟨rfl, HB.out⟩
theorem frameCuts.law (H : Type) (enc : TypeId × Value → H) (W : World) (base : Nat)
    (v0 : Value) (d0 : DataW H) (p0 : List MemPlace) (g0 : Value.okWide Try.prog W .any base 35 v0) (h0 : DataW.Trod enc Try.prog W 0 (fun _ => true) true 35 v0 d0 p0)
    (v1 : Value) (d1 : DataW H) (p1 : List MemPlace) (g1 : Value.okWide Try.prog W .any base 3 v1) (h1 : DataW.Trod enc Try.prog W 0 (fun _ => true) true 3 v1 d1 p1)
    (v2 : Value) (d2 : DataW H) (p2 : List MemPlace) (g2 : Value.okWide Try.prog W .any base 22 v2) (h2 : DataW.Trod enc Try.prog W 0 (fun _ => true) true 22 v2 d2 p2)
    (hsz : Rows.uptoSmall H [d0, d1, d2] = true) :
    Calls Try.prog 8 #[v0, v1, v2] W fun e W' => e = .returned (.bool true) ∧ Below W.heap.size W W' := by
  obtain ⟨a, n, c, rfl⟩ := okWide_slice Try.underlying35 g0
  obtain ⟨a', n', c', rfl⟩ := okWide_slice Try.underlying22 g2
  have t0 := TB.of (P := Try.prog) hsz h0 (by simp)
  have t2 := TB.of (P := Try.prog) hsz h2 (by simp)
  obtain ⟨ls, hr, hl, hm, hb⟩ := open_txs t0
  obtain ⟨z, rfl, _, _, _⟩ := open_int Try.underlying3 g1 h1
  obtain ⟨b, hrb, hlb⟩ := TB.bytes (P := Try.prog) Try.underlying22 Try.underlying5 (by kernel_rfl) t2
  exact frameCuts_walk _ _ ls z b W hr hl hb hrb hlb
end Go.Proofs.Ytpdlocdlnoibbaa
