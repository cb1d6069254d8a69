/- The law ShaPieces. (printed by gen/shapieces.py) -/
import Derived.Test.YtkcnakijfmemlaaDoorHashArg
namespace Go.Proofs.YtkcnakijfmemlaaDoor
open Go.ChangeShapes Go.WideShapes Go.ChangeAt Go.RowKit Sha

theorem wpStill_load_row {P : Program} {ops : Array Oper} {w : World} {Q : Act → Prop} {a : Act} {o : Oper} {rest : List Oper} (hgd : o.guard = none) (ty : TypeId) (x : Operand) (ho : o.op = .load ty x)
    (g : Nat) (hx : a.eval x = .pointer (some ⟨g, 0, none⟩)) (t : TypeId) (cs : Array Value) (fr : Nat × Nat) (d : TypeDesc) (hg : w.heap[g]? = some (.cells cs t fr))
    (hu : P.underlying ty = some d) (hd : (match d with | .struct _ | .array _ _ => true | _ => false) = true) (hi : (P.info? ty).map (·.size) = some cs.size)
    (h : wpStill P ops w Q rest (a.put o.dst (.agg cs))) : wpStill P ops w Q (o :: rest) a := by
  refine wpStill_step (fun K hK => ?_)
  rw [if_pos (by simp [Region.wanted, hgd])]
  unfold Oper.still execOp
  simp only [ho, hx, Instr.loadAt, Instr.sureAddr, Sem.run_bind, Sem.run_pure, Result.andThen_ok, run_loadVar_row w g t ty cs fr d hg hu hd hi, Oper.stillUpon]
  exact ⟨trivial, hK _ h⟩

/-- A slice cut out of the middle. -/
theorem Rd.mid {w : World} {a : Option Addr} {n c : Nat} {xs : List Value} (h : Rd w 1 (.slice a n c) n xs) (p k : Nat) (hk : p + k ≤ n) :
    Rd w 1 (.slice (if c = p then a else Option.map (fun x => x.add p) a) k (c - p)) k ((xs.drop p).take k) :=
  (h.cut p (by omega)).take' k (by omega)

theorem Rd.cap {w : World} {a : Option Addr} {m c n : Nat} {xs : List Value} (h : Rd w 1 (.slice a m c) n xs) : n ≤ c := by
  obtain ⟨_, _, h⟩ := h
  rcases h with ⟨e, rfl⟩ | ⟨ad, c', e, h, _⟩
  · cases e; exact Nat.zero_le _
  · cases e; exact h
structure PI (w wr : World) (g : Nat) (l : List UInt8) (p : Nat) : Prop where
  le : p ≤ l.length
  row : wr.heap[g]? = some (.cells (stv (l.take p)) 38 (0, 0))
  bl : Below w.heap.size w wr
  ge : w.heap.size ≤ g
theorem PI.lt {w wr : World} {g : Nat} {l : List UInt8} {p : Nat} (h : PI w wr g l p) : g < wr.heap.size := (Array.getElem?_eq_some_iff.1 h.row).1

/-- What each operation hands on. -/
def spF (a : Option Addr) (l : List UInt8) (c p' : Nat) (s o : Array Value) : Nat → Value → World → Prop
  | 0, v, _ => v = .agg s
  | 1, v, _ => v = .agg o
  | 2, v, _ => v = .slice a l.length c
  | 3, v, _ => v = .int .i64 (p' : Nat)
  | 4, v, _ => v = .slice a p' c
  | 5, v, _ => v = .agg o
  | 6, v, _ => v = .bool false
  | _, _, _ => True

set_option maxHeartbeats 4000000 in
set_option maxRecDepth 100000 in
theorem shaPieces_walk (l : List UInt8) (v v1 : Value) (ns : List Int) (w : World) (hl : l.length ≤ 140737488351232) (hm : ns.length ≤ 140737488351232) (hr : Rd w 1 v l.length (bv l)) (hr1 : Rd w 1 v1 ns.length (ns.map (Value.int .i64)))
    (hns : ∀ z ∈ ns, -9223372036854775808 ≤ z ∧ z ≤ 9223372036854775807) (hT : Tabs w) :
    Calls Tryd.prog 7 #[v, v1] w fun e w' => e = .returned (.bool true) ∧ Below w.heap.size w w' := by
  obtain ⟨a, c, rfl⟩ := hr.form
  obtain ⟨a1, c1, rfl⟩ := hr1.form
  have hzs := (zero_of_info infoSt).1
  rw [stv_nil] at hzs
  have HR := Lib.hid (And.intro hr hr1)
  have HNS := Lib.hid hns
  clear hr hr1 hns
  go_enter Tryd.func7, Tryd.ntmps7
  go_wp2_with fail
  refine (awake03_any w hT).mono ?_
  rintro e w1 ⟨rfl, hb1⟩
  generalize hsn : stv [] = s0 at *
  have HS0 := Lib.hid hsn
  clear hsn
  go_wp2_with fail
  obtain ⟨g, hg⟩ : ∃ g, g = w1.heap.size := ⟨_, rfl⟩
  have hP : PI w (w1.alloc (.cells s0 38)) w1.heap.size l 0 := ⟨by omega, by rw [List.take_zero, HS0.out]; exact heap_alloc_new _ _, hb1.alloc hb1.size _, hb1.size⟩
  rw [← hg] at hP ⊢
  generalize w1.alloc (.cells s0 38) = w2 at *
  clear hg hb1
  go_loopw [7, 6] (fun s7 s6 wr => ∃ i p : Nat, s7 = .int .i64 i ∧ s6 = .int .i64 p ∧ RowKit.Hid (PI w wr g l p)) (fun s7 _ _ => 100 - (intOf s7).toNat)
  case atStart => exact ⟨0, 0, rfl, rfl, hP⟩
  case round =>
    clear hP
    obtain ⟨i, p, rfl, rfl, HP⟩ := hrel
    by_cases hgo : i < ns.length ∧ i < 100
    · obtain ⟨hi1, hi2⟩ := hgo
      have hi3 : (i : Int) < (ns.length : Int) := by omega
      have hi4 : (i : Int) < 100 := by omega
      obtain ⟨bb, off, c', hv, hcp, hcell⟩ := (HR.out.2.keep HP.out.bl).at (by omega)
      simp only [Value.slice.injEq, true_and] at hv
      obtain ⟨rfl, rfl⟩ := hv
      obtain ⟨z, hz⟩ : ∃ z, ns[i]? = some z := ⟨_, List.getElem?_eq_getElem (by omega)⟩
      have hcz := hcell i (.int .i64 z) (by simp [hz])
      have hzb := HNS.out z (List.mem_of_getElem? hz)
      have hple := HP.out.le
      obtain ⟨d, hd⟩ : ∃ d, d = l.length - p := ⟨_, rfl⟩
      have hsub : (l.length : Int) - (p : Int) = (d : Int) := by omega
      obtain ⟨k, hk, hkd⟩ : ∃ k : Nat, (IntKind.u64.wrap z).tmod ((d : Int) + 1) = (k : Int) ∧ k ≤ d := by
        have h0 : 0 ≤ IntKind.u64.wrap z := by
          rw [show IntKind.u64.wrap z = z % 18446744073709551616 from rfl]; omega
        have h1 := Int.emod_lt_of_pos (IntKind.u64.wrap z) (show 0 < (d : Int) + 1 by omega)
        have h2 := Int.emod_nonneg (IntKind.u64.wrap z) (show (d : Int) + 1 ≠ 0 by omega)
        refine ⟨((IntKind.u64.wrap z).tmod ((d : Int) + 1)).toNat, ?_, ?_⟩
        · rw [Int.tmod_eq_emod_of_nonneg h0]; omega
        · rw [Int.tmod_eq_emod_of_nonneg h0]; omega
      have HKM := Lib.hid hk
      clear hk
      clear hcell hz
      have hcp2 : (p : Int) ≤ (c : Int) := by
        have := HR.out.1.cap; omega
      have hpk1 : (p : Int) + (k : Int) ≤ (c : Int) := by
        have := HR.out.1.cap; omega
      have hpk0 : (0 : Int) ≤ (p : Int) + (k : Int) := by omega
      have hpkp : (p : Int) ≤ (p : Int) + (k : Int) := by omega
      have hpkn : ((p : Int) + (k : Int)).toNat = p + k := by omega
      have hpks : p + k - p = k := by omega
      have bp : (-9223372036854775808 : Int) ≤ (p : Int) + (k : Int) ∧ (p : Int) + (k : Int) ≤ 9223372036854775807 := by omega
      have hd0 : ¬ (d : Int) + 1 = 0 := by omega
      have hsz := stInfo _ (stL_length (l.take p))
      have HD := Lib.hid hd
      clear hd
      have hk := HKM.out
      clear HKM
      go_upto_region 9 with fail
      have hpkw : IntKind.i64.wrap ((p : Int) + (k : Int)) = (p : Int) + (k : Int) := IntWalk.i64_in _ bp
      have HK0 := Lib.hid hkd
      clear bp hk hsub hkd hple
      refine wp_region_still_tail 7 (by kernel_rfl) (by kernel_rfl) ?_
      simp only [List.take_succ_cons, List.take_zero, List.drop_succ_cons, List.drop_zero]
      refine wpStill_load_row rfl _ _ rfl g rfl _ _ (0, 0) _ (show wr.drew.heap[g]? = _ from HP.out.row) Tryd.underlying38 rfl hsz ?_
      repeat still_step
      refine wpStill_nil ?_
      change wpList _ _ _ _ _ wr.drew
      have HPd := Lib.hid (show PI w wr.drew g l p from ⟨HP.out.le, HP.out.row, HP.out.bl.drew, HP.out.ge⟩)
      have hkl : p + k ≤ l.length := by have := HD.out; have := HK0.out; have := HP.out.le; omega
      have hlk : ((l.drop p).take k).length = k := by rw [List.length_take, List.length_drop]; omega
      have hrd : Rd wr.drew 1 (.slice (if c = p then a else Option.map (fun x => x.add p) a) k (c - p)) ((l.drop p).take k).length (bv ((l.drop p).take k)) := by
        rw [hlk]
        have h := (HR.out.1.keep HPd.out.bl).mid p k hkl
        simpa [bv, List.map_take, List.map_drop] using h
      generalize (if c = p then a else Option.map (fun x => x.add p) a) = a' at *
      have hW := Write_any (l.take p) ((l.drop p).take k) _ wr.drew (by rw [hlk, List.length_take]; omega) hrd (hT.keepB HPd.out.bl)
      rw [← List.take_add] at hW
      obtain ⟨p', hp'⟩ : ∃ p', p' = p + k := ⟨_, rfl⟩
      have hpk64 : wrap64 ((p : Int) + (k : Int)) = (p' : Int) := (IntWalk.wrap64_in _ (by omega)).trans (by omega)
      rw [← hp'] at hW hkl
      rw [show stv (l.take p') = (stL (l.take p')).toArray from rfl] at hW
      have HW := Lib.hid hW
      have HK := Lib.hid (And.intro hkl hsz)
      clear hrd hlk hkl hW hp' hpkp hpkn hpks hpk0 hpk1 hpkw hcp2 hsz HP HD HK0
      generalize wr.drew = w3 at *
      go_wp2_with fail
      refine HW.out.mono ?_
      rintro e w4 ⟨rfl, hb4⟩
      have hrow4 : w4.heap[g]? = some (.cells (stL (l.take p)).toArray 38 (0, 0)) := (hb4.block _ HPd.out.lt).trans HPd.out.row
      have hbw4 := HPd.out.bl.trans (hb4.mono HPd.out.bl.size)
      have H4 := Lib.hid (And.intro hrow4 hbw4)
      clear HW hrow4 hbw4 hb4
      go_upto_region 11 with (with_reducible show wpList _ _ _ (⟨none, Op.store _ _ _, _, _, _, _⟩ :: _) _ _; go_loud (refine wpList_store_whole rfl _ _ _ rfl g (stL (l.take p')) rfl rfl (stL (l.take p)) _ H4.out.1 (stInfo' _ (stL_length _)) (by rw [stL_length, stL_length]) (stL_one _) ?_; intro w5 HG5 hg5))
      rw [hpk64]
      clear hpk64
      have hlt4 := (Array.getElem?_eq_some_iff.1 H4.out.1).1
      have hbw5 : Below w.heap.size w w5 := below_grow H4.out.2 hg5 HPd.out.ge hlt4
      have hlt : g < w5.heap.size := Nat.lt_of_lt_of_le hlt4 hg5.size
      obtain ⟨s, hs⟩ : ∃ s, s = stv (l.take p') := ⟨_, rfl⟩
      have hrow : w5.heap[g]? = some (.cells s 38 (0, 0)) := by rw [hs]; exact HG5.out
      have hszs : (Tryd.prog.info? 38).map (·.size) = some s.size := by rw [hs]; exact stInfo _ (stL_length _)
      have hl2 : (l.take p').length = p' := by rw [List.length_take]; exact Nat.min_eq_left HK.out.1
      have hS1 := fun w' hG' => StSum_any (l.take p') w' (by have := HK.out.1; omega) hG'
      have hS2 := fun w' hrd hG' => shaSum_any (l.take p') (.slice a p' c) w' (by have := HK.out.1; omega) hrd hG'
      rw [← hs] at hS1
      have hee := fun w => eqIn_hash (Sha.sum (l.take p')) (Sha.sum (l.take p')) (sum_length _) (sum_length _) w
      simp only [BEq.rfl] at hee
      generalize (bv (Sha.sum (l.take p'))).toArray = o at *
      have hS1' : ∀ w', Below w5.heap.size w5 w' → _ := fun w' hb => hS1 w' (hT.keepB (hbw5.trans (hb.mono hbw5.size)))
      have hS2' : ∀ w', Below w5.heap.size w5 w' → _ := fun w' hb => hS2 w' (by
        have h := (HR.out.1.keep (hbw5.trans (hb.mono hbw5.size))).take' p' HK.out.1
        rw [hl2]
        simpa [bv, List.map_take] using h) (hT.keepB (hbw5.trans (hb.mono hbw5.size)))
      have HS1 := Lib.hid hS1'
      have HS2 := Lib.hid hS2'
      have HE := Lib.hid hee
      have HR5 := Lib.hid (And.intro hbw5 HPd.out.ge)
      have HSS := Lib.hid hs
      have hpc : (p' : Int) ≤ (c : Int) := by have := HK.out.1; have := HR.out.1.cap; omega
      have hpz : (0 : Int) ≤ (p' : Int) := by omega
      clear hS1 hS2 hS1' hS2' hee hs hbw5 hlt4 hl2 H4 HG5 hg5 HPd
      refine wp_region_steps [some 45, some 46, some 47, some 48, some 49, some 50, some 51] [] (spF a l c p' s o) (fun _ wx wy => Below wx.heap.size wx wy) (fun wx => Below w5.heap.size w5 wx) (by kernel_rfl) (by kernel_rfl) rfl (by kernel_rfl) (Below.refl _ _).drew (fun _ wx => Below.refl _ _) (fun _ wx wy h k => h.trans (k.mono h.size)) ?hF ?hstep ?hend
      case hF =>
        exact ⟨fun _ _ _ _ _ _ h => h, ⟨fun _ _ _ _ _ _ h => h, ⟨fun _ _ _ _ _ _ h => h, ⟨fun _ _ _ _ _ _ h => h, ⟨fun _ _ _ _ _ _ h => h, ⟨fun _ _ _ _ _ _ h => h, ⟨fun _ _ _ _ _ _ h => h, trivial⟩⟩⟩⟩⟩⟩⟩
      case hstep =>
        -- operation 0: Op.load 38 (tmp 5)
        refine ⟨fun r wx hG hs hq hf => ?_, ?_⟩
        · have e5 : r 5 = .pointer (some ⟨g, 0, none⟩) := hs 5 rfl
          refine (if_pos rfl).symm ▸ ?_
          clear hs hq hf
          unfold gives
          refine gives_load_row 38 _ rfl g e5 38 s (0, 0) _ ((hG.block _ hlt).trans hrow) Tryd.underlying38 rfl hszs ⟨Below.refl _ _, rfl⟩
        -- operation 1: Op.call ( callee := Callee.value (func 18), args := #[tmp 45], argTypes := #[38] )
        refine ⟨fun r wx hG hs hq hf => ?_, ?_⟩
        · have h0 : r 45 = .agg s := hf.1
          refine (if_pos rfl).symm ▸ ?_
          clear hs hq hf
          unfold gives
          go_simp
          refine (HS1.out wx hG).mono ?_
          rintro e wy ⟨rfl, hb1⟩
          exact ⟨_, rfl, hb1, rfl⟩
        -- operation 2: Op.move (tmp 0)
        refine ⟨fun r wx hG hs hq hf => ?_, ?_⟩
        · have e0 : r 0 = .slice a l.length c := hs 0 rfl
          refine (if_pos rfl).symm ▸ ?_
          clear hs hq hf
          unfold gives
          go_simp
          exact ⟨Below.refl _ _, rfl⟩
        -- operation 3: Op.move (tmp 6)
        refine ⟨fun r wx hG hs hq hf => ?_, ?_⟩
        · have e6 : r 6 = .int .i64 p' := hs 6 rfl
          refine (if_pos rfl).symm ▸ ?_
          clear hs hq hf
          unfold gives
          go_simp
          exact ⟨Below.refl _ _, rfl⟩
        -- operation 4: Op.slice 22 (tmp 47) none (some (tmp 48)) none
        refine ⟨fun r wx hG hs hq hf => ?_, ?_⟩
        · have h2 : r 47 = .slice a l.length c := hf.1
          have h3 : r 48 = .int .i64 (p' : Nat) := hf.2.1
          refine (if_pos rfl).symm ▸ ?_
          clear hs hq hf
          unfold gives
          go_simp
          exact ⟨Below.refl _ _, rfl⟩
        -- operation 5: Op.call ( callee := Callee.value (func 13), args := #[tmp 49], argTypes := #[22] )
        refine ⟨fun r wx hG hs hq hf => ?_, ?_⟩
        · have h4 : r 49 = .slice a p' c := hf.1
          refine (if_pos rfl).symm ▸ ?_
          clear hs hq hf
          unfold gives
          go_simp
          refine (HS2.out wx hG).mono ?_
          rintro e wy ⟨rfl, hb1⟩
          exact ⟨_, rfl, hb1, rfl⟩
        -- operation 6: Op.binOp BinOp.neq 25 (tmp 46) (tmp 50) 25
        refine ⟨fun r wx hG hs hq hf => ?_, ?_⟩
        · have h1 : r 46 = .agg o := hf.1
          have h5 : r 50 = .agg o := hf.2.1
          refine (if_pos rfl).symm ▸ ?_
          clear hs hq hf
          unfold gives
          have hgd := eq_guard
          have he := HE.out wx
          go_simp
          exact ⟨Below.refl _ _, rfl⟩
        exact trivial
      case hend =>
        intro u wz hG hfin
        have z6 : u 6 = .bool false := hfin 6 (by decide) (by kernel_rfl)
        clear hfin
        simp only [fill]
        go_simp
        go_wp2_with fail
        go_roundw
        case rel => exact ⟨i + 1, p', by go_num, rfl, show PI _ _ _ _ _ from ⟨HK.out.1, by rw [hG.block _ hlt, hrow, HSS.out], HR5.out.1.trans (hG.mono HR5.out.1.size), HR5.out.2⟩⟩
        case measure => simp [intOf]; omega
    · have hpcc : (p : Int) ≤ (c : Int) := by have := HP.out.le; have := HR.out.1.cap; omega
      have hlp : (p : Int) ≤ (l.length : Int) := by have := HP.out.le; omega
      have hlp2 : p ≤ l.length := HP.out.le
      by_cases hi1 : i < ns.length
      · have hi3 : (i : Int) < (ns.length : Int) := by omega
        have hi4 : ¬ (i : Int) < 100 := by omega
        clear hgo
        go_upto_region 13 with fail
        refine wp_region_still_tail 4 (by kernel_rfl) (by kernel_rfl) ?_
        simp only [List.take_succ_cons, List.take_zero, List.drop_succ_cons, List.drop_zero]
        refine wpStill_load_row rfl _ _ rfl g rfl _ _ (0, 0) _ (show wr.drew.heap[g]? = _ from HP.out.row) Tryd.underlying38 rfl (stInfo _ (stL_length (l.take p))) ?_
        repeat still_step
        refine wpStill_nil ?_
        change wpList _ _ _ _ _ wr.drew
        iterate 1
          have HPd := Lib.hid (show PI w wr.drew g l p from ⟨HP.out.le, HP.out.row, HP.out.bl.drew, HP.out.ge⟩)
          have hlk : (l.drop p).length = l.length - p := List.length_drop
          have hrd : Rd wr.drew 1 (.slice (if c = p then a else Option.map (fun x => x.add p) a) (l.length - p) (c - p)) (l.drop p).length (bv (l.drop p)) := by
            rw [hlk]
            have h := (HR.out.1.keep HPd.out.bl).cut p HPd.out.le
            simpa [bv, List.map_drop] using h
          generalize (if c = p then a else Option.map (fun x => x.add p) a) = a' at *
          have hW := Write_any (l.take p) (l.drop p) _ wr.drew (by rw [hlk, List.length_take]; omega) hrd (hT.keepB HPd.out.bl)
          rw [List.take_append_drop, show stv l = (stL l).toArray from rfl] at hW
          have HW := Lib.hid hW
          clear hrd hlk hW hpcc hlp HP
          generalize wr.drew = w3 at *
          go_wp2_with fail
          refine HW.out.mono ?_
          rintro e w4 ⟨rfl, hb4⟩
          have hrow4 : w4.heap[g]? = some (.cells (stL (l.take p)).toArray 38 (0, 0)) := (hb4.block _ HPd.out.lt).trans HPd.out.row
          have hbw4 := HPd.out.bl.trans (hb4.mono HPd.out.bl.size)
          have H4 := Lib.hid (And.intro hrow4 hbw4)
          clear HW hrow4 hbw4 hb4
          go_upto_region 14 with (with_reducible show wpList _ _ _ (⟨none, Op.store _ _ _, _, _, _, _⟩ :: _) _ _; go_loud (refine wpList_store_whole rfl _ _ _ rfl g (stL l) rfl rfl (stL (l.take p)) _ H4.out.1 (stInfo' _ (stL_length _)) (by rw [stL_length, stL_length]) (stL_one _) ?_; intro w5 HG5 hg5))
          have hlt4 := (Array.getElem?_eq_some_iff.1 H4.out.1).1
          have hbw5 : Below w.heap.size w w5 := below_grow H4.out.2 hg5 HPd.out.ge hlt4
          have hrow : w5.heap[g]? = some (.cells (stv l) 38 (0, 0)) := HG5.out
          have hszl : (Tryd.prog.info? 38).map (·.size) = some (stv l).size := stInfo _ (stL_length l)
          have H5 := Lib.hid (And.intro hrow hbw5)
          clear hrow hbw5 hlt4 HG5 hg5 H4 HPd
          go_wp2_with (with_reducible show wpList _ _ _ (⟨some 57, _, _, _, _, _⟩ :: _) _ _; refine wpList_load_row rfl _ _ rfl g rfl _ _ (0, 0) _ H5.out.1 Tryd.underlying38 rfl hszl ?_)
          refine (Len_any l w5 (by omega)).mono ?_
          rintro e w6 ⟨rfl, hb6⟩
          have hrow6 := (hb6.block _ (Array.getElem?_eq_some_iff.1 H5.out.1).1).trans H5.out.1
          have hbw6 := H5.out.2.trans (hb6.mono H5.out.2.size)
          have H6 := Lib.hid (And.intro hrow6 hbw6)
          clear hrow6 hbw6 hb6 H5
          go_wp2_with (with_reducible show wpList _ _ _ (⟨some 64, _, _, _, _, _⟩ :: _) _ _; refine wpList_guard rfl ?_; refine wpList_load_row rfl _ _ rfl g rfl _ _ (0, 0) _ H6.out.1 Tryd.underlying38 rfl hszl ?_)
          refine (StSum_any l w6 (by omega) (hT.keepB H6.out.2)).mono ?_
          rintro e w7 ⟨rfl, hb7⟩
          have hbw7 := H6.out.2.trans (hb7.mono H6.out.2.size)
          go_wp2_with fail
          refine (shaSum_any l _ w7 (by omega) (HR.out.1.keep hbw7) (hT.keepB hbw7)).mono ?_
          rintro e w8 ⟨rfl, hb8⟩
          have hbw8 := hbw7.trans (hb8.mono hbw7.size)
          have he := fun w => eqIn_hash (Sha.sum l) (Sha.sum l) (sum_length l) (sum_length l) w
          have hgd := eq_guard
          simp only [BEq.rfl] at he
          generalize (bv (Sha.sum l)).toArray = A at *
          go_wp2_with fail
          go_ret
          exact ⟨by simp, hbw8⟩
      · have hi3 : ¬ (i : Int) < (ns.length : Int) := by omega
        clear hgo
        go_upto_region 13 with fail
        refine wp_region_still_tail 4 (by kernel_rfl) (by kernel_rfl) ?_
        simp only [List.take_succ_cons, List.take_zero, List.drop_succ_cons, List.drop_zero]
        refine wpStill_load_row rfl _ _ rfl g rfl _ _ (0, 0) _ (show wr.drew.heap[g]? = _ from HP.out.row) Tryd.underlying38 rfl (stInfo _ (stL_length (l.take p))) ?_
        repeat still_step
        refine wpStill_nil ?_
        change wpList _ _ _ _ _ wr.drew
        iterate 1
          have HPd := Lib.hid (show PI w wr.drew g l p from ⟨HP.out.le, HP.out.row, HP.out.bl.drew, HP.out.ge⟩)
          have hlk : (l.drop p).length = l.length - p := List.length_drop
          have hrd : Rd wr.drew 1 (.slice (if c = p then a else Option.map (fun x => x.add p) a) (l.length - p) (c - p)) (l.drop p).length (bv (l.drop p)) := by
            rw [hlk]
            have h := (HR.out.1.keep HPd.out.bl).cut p HPd.out.le
            simpa [bv, List.map_drop] using h
          generalize (if c = p then a else Option.map (fun x => x.add p) a) = a' at *
          have hW := Write_any (l.take p) (l.drop p) _ wr.drew (by rw [hlk, List.length_take]; omega) hrd (hT.keepB HPd.out.bl)
          rw [List.take_append_drop, show stv l = (stL l).toArray from rfl] at hW
          have HW := Lib.hid hW
          clear hrd hlk hW hpcc hlp HP
          generalize wr.drew = w3 at *
          go_wp2_with fail
          refine HW.out.mono ?_
          rintro e w4 ⟨rfl, hb4⟩
          have hrow4 : w4.heap[g]? = some (.cells (stL (l.take p)).toArray 38 (0, 0)) := (hb4.block _ HPd.out.lt).trans HPd.out.row
          have hbw4 := HPd.out.bl.trans (hb4.mono HPd.out.bl.size)
          have H4 := Lib.hid (And.intro hrow4 hbw4)
          clear HW hrow4 hbw4 hb4
          go_upto_region 14 with (with_reducible show wpList _ _ _ (⟨none, Op.store _ _ _, _, _, _, _⟩ :: _) _ _; go_loud (refine wpList_store_whole rfl _ _ _ rfl g (stL l) rfl rfl (stL (l.take p)) _ H4.out.1 (stInfo' _ (stL_length _)) (by rw [stL_length, stL_length]) (stL_one _) ?_; intro w5 HG5 hg5))
          have hlt4 := (Array.getElem?_eq_some_iff.1 H4.out.1).1
          have hbw5 : Below w.heap.size w w5 := below_grow H4.out.2 hg5 HPd.out.ge hlt4
          have hrow : w5.heap[g]? = some (.cells (stv l) 38 (0, 0)) := HG5.out
          have hszl : (Tryd.prog.info? 38).map (·.size) = some (stv l).size := stInfo _ (stL_length l)
          have H5 := Lib.hid (And.intro hrow hbw5)
          clear hrow hbw5 hlt4 HG5 hg5 H4 HPd
          go_wp2_with (with_reducible show wpList _ _ _ (⟨some 57, _, _, _, _, _⟩ :: _) _ _; refine wpList_load_row rfl _ _ rfl g rfl _ _ (0, 0) _ H5.out.1 Tryd.underlying38 rfl hszl ?_)
          refine (Len_any l w5 (by omega)).mono ?_
          rintro e w6 ⟨rfl, hb6⟩
          have hrow6 := (hb6.block _ (Array.getElem?_eq_some_iff.1 H5.out.1).1).trans H5.out.1
          have hbw6 := H5.out.2.trans (hb6.mono H5.out.2.size)
          have H6 := Lib.hid (And.intro hrow6 hbw6)
          clear hrow6 hbw6 hb6 H5
          go_wp2_with (with_reducible show wpList _ _ _ (⟨some 64, _, _, _, _, _⟩ :: _) _ _; refine wpList_guard rfl ?_; refine wpList_load_row rfl _ _ rfl g rfl _ _ (0, 0) _ H6.out.1 Tryd.underlying38 rfl hszl ?_)
          refine (StSum_any l w6 (by omega) (hT.keepB H6.out.2)).mono ?_
          rintro e w7 ⟨rfl, hb7⟩
          have hbw7 := H6.out.2.trans (hb7.mono H6.out.2.size)
          go_wp2_with fail
          refine (shaSum_any l _ w7 (by omega) (HR.out.1.keep hbw7) (hT.keepB hbw7)).mono ?_
          rintro e w8 ⟨rfl, hb8⟩
          have hbw8 := hbw7.trans (hb8.mono hbw7.size)
          have he := fun w => eqIn_hash (Sha.sum l) (Sha.sum l) (sum_length l) (sum_length l) w
          have hgd := eq_guard
          simp only [BEq.rfl] at he
          generalize (bv (Sha.sum l)).toArray = A at *
          go_wp2_with fail
          go_ret
          exact ⟨by simp, hbw8⟩
end Go.Proofs.YtkcnakijfmemlaaDoor
