/- The law FrameLong: records at the limit (gen/frlong.py). -/
import Derived.Test.YtpdlocdlnoibbaaFrQ
namespace Go.Proofs.Ytpdlocdlnoibbaa
open Go.ChangeShapes Go.WideShapes Go.ChangeAt Go.RowKit

/-- What each operation hands on. -/
def longF (M cb bl ol cl n ca g : Nat) (ab pa : Option Addr) (rc : List UInt8) : Nat → Value → World → Prop
  | 0, v, _ => v = .int .i64 0
  | 1, v, _ => v = .bool true
  | 2, v, _ => v = .bool true
  | 3, v, _ => v = .int .i64 M
  | 4, v, _ => v = .slice ab M cb
  | 5, v, _ => v = .int .i64 M
  | 6, v, _ => v = .bool true
  | 7, v, _ => v = .bool true
  | 8, v, _ => v = .bool true
  | 9, v, _ => v = .slice (some ⟨bl, ol, none⟩) 2 cl
  | 10, v, _ => v = .int .i64 2
  | 11, v, _ => v = .bool true
  | 12, v, _ => v = .bool true
  | 13, v, _ => v = .bool true
  | 14, v, _ => v = .slice (some ⟨bl, ol, none⟩) 2 cl
  | 15, v, _ => v = .pointer (some ⟨bl, ol + 1, none⟩)
  | 16, v, _ => v = .slice pa n ca
  | 17, v, _ => v = .string ⟨rc.toArray⟩
  | 18, v, _ => v = .slice (some ⟨g, 0, none⟩) n n
  | 19, v, _ => v = .string ⟨rc.toArray⟩
  | 20, v, _ => v = .bool true
  | 21, v, _ => v = .bool true
  | 22, v, _ => v = .bool true
  | _, _, _ => True

theorem made_bytes (n : Nat) : (madeCells #[Value.int IntKind.u8 0] n).toList = bv (List.replicate n 0) := by
  apply List.ext_getElem
  · simp [madeCells, bv]
  · intro i h1 h2
    simp [madeCells, Nat.mod_one, bv, Value.cells]
set_option maxHeartbeats 8000000 in
set_option maxRecDepth 100000 in
theorem frameLong_walk (more : Int) (cc : UInt8) (w : World) :
    Calls Try.prog 10 #[.int .i64 more, .int .u8 cc.toNat] w fun e w' => e = .returned (.bool true) ∧ Below w.heap.size w w' := by
  have haw := awake07_any w
  obtain ⟨i, hi, hz0, hz1, hz2⟩ := info_parts info8
  obtain ⟨u, hu⟩ : ∃ u : Nat, IntKind.u64.wrap more = u := ⟨(IntKind.u64.wrap more).toNat, by rw [IntKind.wrap_u64]; omega⟩
  go_enter Try.func10, Try.ntmps10
  go_wp2_with fail
  refine haw.mono ?_
  rintro e w1 ⟨rfl, hb1⟩
  have hz01 := hb1.size
  clear haw
  go_upto_region 3 with fail
  go_cut [5] (fun s5 wq => (∃ n : Nat, 32766 ≤ n ∧ n ≤ 32770 ∧ s5 = .int .i64 n) ∧ wq = w1)
  case first =>
    go_wp2_with fail
    go_meet
    refine ⟨⟨32766 + u % 5, by omega, by omega, ?_⟩, rfl⟩
    congr 1
    all_goals (unfold wrap64; omega)
  case rest =>
    obtain ⟨⟨n, hn1, hn2, rfl⟩, rfl⟩ := hcut
    clear hu
    go_wp2_with (at_make; go_loud (refine wpList_make_full _ rfl _ _ 22 rfl wc.heap.size 5 i (.int .u8 0) 1 Try.underlying22 hi hz0 hz1 _ _ _ _ n rfl rfl rfl rfl (by rw [hz2]; omega) (by simp [maxLen]; omega) (Nat.le_refl _) ?_))
    intro w2 ho2 hg2
    rw [made_bytes] at ho2
    have hb2 : Below wc.heap.size wc w2 := ⟨hg2.os, hg2.tape, hg2.output, hg2.size, fun k hk => hg2.block k hk (by simp)⟩
    obtain ⟨g, hg⟩ : ∃ g, g = wc.heap.size := ⟨_, rfl⟩
    rw [← hg] at ho2 ⊢
    obtain ⟨k, hk⟩ : ∃ k, k = n / 2 := ⟨_, rfl⟩
    have hkn : k < n := by omega
    have e1 : (n : Int).tdiv 2 = (k : Int) := by rw [Int.tdiv_eq_ediv_of_nonneg (by omega)]; omega
    have e2 : (n : Int) / 2 = (k : Int) := by omega
    have e3 : wrap64 (k : Int) = (k : Int) := IntWalk.wrap64_in _ (by omega)
    have hcell : w2.cell? ⟨g, k, none⟩ = some (.int .u8 0) := by
      rw [ho2.cellAt k (by omega)]
      simp [bv, hkn]
    have hfz := ho2.frozenAt k
    obtain ⟨hst, hgs⟩ := ho2.stored k (.int .u8 cc.toNat)
    obtain ⟨rc, hrc⟩ : ∃ rc : List UInt8, rc = (List.replicate n 0).set k cc := ⟨_, rfl⟩
    have hrl : rc.length = n := by rw [hrc, List.length_set, List.length_replicate]
    have hbs : (bv (List.replicate n 0)).set k (.int .u8 cc.toNat) = bv rc := by rw [hrc]; simp [bv, List.map_set]
    rw [hbs] at hst
    obtain ⟨w3, hw3⟩ : ∃ x : World, x = w2.setCell ⟨g, k, none⟩ (.int .u8 cc.toNat) := ⟨_, rfl⟩
    rw [← hw3] at hst hgs
    have hb3 : Below w.heap.size w w3 := hb1.trans ((hb2.mono hz01).trans ⟨hgs.os, hgs.tape, hgs.output, hgs.size, fun q hq => hgs.block q (by have := hb2.size; omega) (fun e => by simp only [Option.some.injEq] at e; omega)⟩)
    obtain ⟨w4, hw4⟩ : ∃ x : World, x = (w3.alloc (Obj.cells #[Value.int .u8 1] 5)).alloc (Obj.cells #[Value.slice (some ⟨w3.heap.size, 0, none⟩) 1 1, .slice (some ⟨g, 0, none⟩) n n] 22) := ⟨_, rfl⟩
    have hb34 : Below w3.heap.size w3 w4 := by rw [hw4]; exact ((Below.refl _ _).alloc (Nat.le_refl _) _).alloc (by simp) _
    have hr4 := (own_rd hst (bv_one _)).keep hb34
    have ht4 : Txs w4 (.slice (some ⟨w3.heap.size + 1, 0, none⟩) 2 2) [[1], rc] := by
      refine ⟨[.slice (some ⟨w3.heap.size, 0, none⟩) 1 1, .slice (some ⟨g, 0, none⟩) n n], rfl, ?_, fun j l x hl hx => ?_⟩
      · have := own_rd (own_new (w3.alloc (Obj.cells #[Value.int .u8 1] 5)) 22 1 2 0 [.slice (some ⟨w3.heap.size, 0, none⟩) 1 1, .slice (some ⟨g, 0, none⟩) n n] rfl (by omega) (Nat.zero_le _)) (by intro x hx; simp at hx; rcases hx with rfl | rfl <;> rfl)
        rw [show (w3.alloc (Obj.cells #[Value.int .u8 1] 5)).heap.size = w3.heap.size + 1 by simp] at this
        rw [hw4]; exact this
      · rcases j with _ | _ | j
        · simp at hl hx
          subst hl; subst hx
          have h1 := Rd.one w3 (.int .u8 1) 5 rfl
          have hbx : Below (w3.alloc (Obj.cells #[Value.int .u8 1] 5)).heap.size (w3.alloc (Obj.cells #[Value.int .u8 1] 5)) w4 := by rw [hw4]; exact (Below.refl _ _).alloc (Nat.le_refl _) _
          exact h1.keep hbx
        · simp at hl hx
          subst hl; subst hx
          rw [hrl]; exact hr4
        · simp at hl
    have hf1 := frm_length [(1 : UInt8)]
    have hf2 := frm_length rc
    have hn2' := numB_len rc.length (by omega)
    have hn1' := numB_len [(1 : UInt8)].length (by simp)
    have hLL : (layF [[1], rc]).length = (frm [1]).length + (frm rc).length := by simp [layF]
    have hLB : (layF [[1], rc]).length ≤ 1000000000 := by rw [hLL]; simp only [List.length_singleton] at hf1 hn1'; omega
    have hlay := Lay_any _ _ w4 ht4 (by simp) (by omega)
    have H3 := Lib.hid (And.intro hb3 (And.intro hst (And.intro hrl (And.intro hb34 (And.intro hw3 hw4)))))
    have hz3 := hb3.size
    have hz34 := hb34.size
    clear hg hb3 hst hgs hbs hrc hb34 hr4 ht4 hf1 hf2 hn2' hn1' hLL hk ho2 hb2 hg2 hz0 hz1 hz2 hi hw4
    have hsz3 : w2.heap.size = w3.heap.size := by rw [hw3]; simp [World.setCell]
    have HSZ := Lib.hid hsz3
    clear hw3 hsz3
    go_wp2_with fail
    try simp only [HSZ.out]
    rw [← H3.out.2.2.2.2.1]
    rw [← H3.out.2.2.2.2.2]
    by_cases hbig : 32768 < n
    · have hok : okL [[1], rc] = false := okL_not (i := 1) (l := rc) rfl (by have := H3.out.2.2.1; omega)
      have hE : layE [[1], rc] = 4 := by rw [layE, if_neg (by simp [hok])]
      have hO : layO [[1], rc] = [] := by rw [layO, if_neg (by simp [hok])]
      rw [show LayD w4 = LayD w4 from rfl] at hlay
      refine hlay.mono ?_
      rintro e w5 ⟨hb5, v5, rfl, ho5⟩
      rw [hE]
      rw [hO] at ho5
      have hb35 := H3.out.2.2.2.1.trans (hb5.mono hz34)
      have hr5 := (own_rd H3.out.2.1 (bv_one _)).keep hb35
      have hfr := Frame_any _ rc w5 (by have := H3.out.2.2.1; omega) (by rw [H3.out.2.2.1]; exact hr5)
      have hol := oneF_long rc (by have := H3.out.2.2.1; omega) (by have := H3.out.2.2.1; omega)
      have hf2 := frm_length rc
      have hn2' := numB_len rc.length (by have := H3.out.2.2.1; omega)
      have hone := fun (w6 : World) (v6 : Value) (h6 : Rd w6 1 v6 (frm rc).length (bv (frm rc))) => One_any v6 (frm rc) w6 (by have := H3.out.2.2.1; omega) h6
      rw [hol] at hone
      have z7 : (32768 : Int) < (n : Int) := by omega
      obtain ⟨a5, c5, rfl⟩ := own_formq ho5
      have HB5 := Lib.hid (H3.out.1.trans (hb35.mono hz3))
      have hz5 := hb35.size
      clear hlay hb5 hb35 hr5 hE hO hok hf2 hn2' ho5 hol
      go_wp2_with fail
      refine hfr.mono ?_
      rintro e w6 ⟨v6, rfl, hr6, hb6⟩
      have h1 := hone w6 v6 hr6
      have hz6 := hb6.size
      have HB6 := Lib.hid (HB5.out.trans (hb6.mono (by omega)))
      clear hfr hb6 hone
      go_wp2_with fail
      refine h1.mono ?_
      rintro e w7 ⟨hb7, v7, rfl, hr7, -⟩
      obtain ⟨a7, c7, rfl⟩ := hr7.form
      have HB7 := Lib.hid (HB6.out.trans (hb7.mono (by omega)))
      clear hb7 hr7 h1 hr6
      go_wp2_with fail
      go_ret
      exact ⟨rfl, HB7.out⟩
    · have hok : okL [[1], rc] = true := (okL_iff _).2 (fun r hr => by
        simp at hr
        rcases hr with rfl | rfl
        · simp
        · have := H3.out.2.2.1; omega)
      have hE : layE [[1], rc] = 0 := by rw [layE, if_pos hok]
      have hO : layO [[1], rc] = layF [[1], rc] := by rw [layO, if_pos hok]
      refine hlay.mono ?_
      rintro e w5 ⟨hb5, v5, rfl, ho5⟩
      rw [hE]
      rw [hO] at ho5
      have hsc := scan_lay [[1], rc] [] ((okL_iff _).1 hok)
      rw [List.append_nil, scan_nil] at hsc
      simp only [List.append_nil, Nat.add_zero] at hsc
      obtain ⟨L, hL⟩ : ∃ L, L = layF [[1], rc] := ⟨_, rfl⟩
      rw [← hL] at ho5 hsc hLB
      have hscan := Scan_any v5 L w5 (by omega) (own_rd ho5 (bv_one _))
      unfold ScanD at hscan
      rw [hsc] at hscan
      obtain ⟨M, hM⟩ : ∃ M, M = L.length := ⟨_, rfl⟩
      rw [← hM] at hscan ho5
      have hb35 := H3.out.2.2.2.1.trans (hb5.mono hz34)
      have hr5 := (own_rd H3.out.2.1 (bv_one _)).keep hb35
      have z7 : ¬ ((32768 : Int) < (n : Int)) := by omega
      obtain ⟨ab, cb, rfl⟩ := own_formq ho5
      have HB5 := Lib.hid (H3.out.1.trans (hb35.mono hz3))
      have hz5 := hb35.size
      clear hlay hb5 hb35 hE hO hok ho5 hsc hL hM hLB
      go_wp2_with fail
      refine hscan.mono ?_
      rintro e w6 ⟨hb6, v6, rfl, ht6⟩
      obtain ⟨vs, hvl, hrv, hel⟩ := ht6
      obtain ⟨bl, ol, cl, hv6, _, cell6⟩ := hrv.at (by simp)
      subst hv6
      obtain ⟨y, hy⟩ : ∃ y, vs[1]? = some y := ⟨vs[1]'(by rw [hvl]; simp), List.getElem?_eq_getElem _⟩
      have hry := hel 1 rc y rfl hy
      obtain ⟨pa, ca, rfl⟩ := hry.form
      have hcy := cell6 1 _ hy
      rw [H3.out.2.2.1] at hcy
      have HC := Lib.hid (And.intro hcy (World.block_lt_of_cell? _ _ hcy))
      have HRL := Lib.hid H3.out.2.2.1
      have HRR : Hid (Rd w6 1 (.slice pa rc.length ca) rc.length (bv rc) ∧ Rd w6 1 (.slice (some ⟨g, 0, none⟩) rc.length rc.length) rc.length (bv rc)) := Lib.hid ⟨hry, by rw [H3.out.2.2.1]; exact hr5.keep hb6⟩
      have HB6 := Lib.hid (HB5.out.trans (hb6.mono (by omega)))
      clear hb6 hrv hel cell6 hy hry hcy hscan hr5 HB5
      rename Hid (Below w.heap.size w w6) => HB5
      obtain ⟨w5, rfl⟩ : ∃ w5 : World, w5 = w6 := ⟨_, rfl⟩
      go_wp2_with fail
      refine wp_region_steps [some 65, some 66, some 67, some 68, some 69, some 70, some 71, some 72, some 73, some 74, some 75, some 76, some 77, some 78, some 79, some 80, some 81, some 82, some 83, some 84, some 85, some 86, some 4] [] (longF M cb bl ol cl n ca g ab pa rc) (fun _ wx wy => Below wx.heap.size wx wy) (fun wx => Below w5.heap.size w5 wx) (by kernel_rfl) (by kernel_rfl) rfl (by kernel_rfl) (Below.refl _ _).drew (fun _ wx => Below.refl _ _) (fun _ wx wy h k => h.trans (k.mono h.size)) ?hF ?hstep ?hend
      case hF =>
        exact ⟨fun _ _ _ _ _ _ h => h, ⟨fun _ _ _ _ _ _ h => h, ⟨fun _ _ _ _ _ _ h => h, ⟨fun _ _ _ _ _ _ h => h, ⟨fun _ _ _ _ _ _ h => h, ⟨fun _ _ _ _ _ _ h => h, ⟨fun _ _ _ _ _ _ h => h, ⟨fun _ _ _ _ _ _ h => h, ⟨fun _ _ _ _ _ _ h => h, ⟨fun _ _ _ _ _ _ h => h, ⟨fun _ _ _ _ _ _ h => h, ⟨fun _ _ _ _ _ _ h => h, ⟨fun _ _ _ _ _ _ h => h, ⟨fun _ _ _ _ _ _ h => h, ⟨fun _ _ _ _ _ _ h => h, ⟨fun _ _ _ _ _ _ h => h, ⟨fun _ _ _ _ _ _ h => h, ⟨fun _ _ _ _ _ _ h => h, ⟨fun _ _ _ _ _ _ h => h, ⟨fun _ _ _ _ _ _ h => h, ⟨fun _ _ _ _ _ _ h => h, ⟨fun _ _ _ _ _ _ h => h, ⟨fun _ _ _ _ _ _ h => h, trivial⟩⟩⟩⟩⟩⟩⟩⟩⟩⟩⟩⟩⟩⟩⟩⟩⟩⟩⟩⟩⟩⟩⟩
      case hstep =>
        -- operation 0: Op.move (tmp 8)
        refine ⟨fun r wx hG hs hq hf => ?_, ?_⟩
        · have e8 : r 8 = .int .i64 0 := hs 8 rfl
          refine (if_pos rfl).symm ▸ ?_
          clear hs hq hf
          unfold gives
          go_simp
          exact ⟨Below.refl _ _, rfl⟩
        -- operation 1: Op.binOp BinOp.eql 27 (tmp 65) (const (Value.int IntKind.i64 0)) 27
        refine ⟨fun r wx hG hs hq hf => ?_, ?_⟩
        · have h0 : r 65 = .int .i64 0 := hf.1
          refine (if_pos rfl).symm ▸ ?_
          clear hs hq hf
          unfold gives
          go_simp
          exact ⟨Below.refl _ _, rfl⟩
        -- operation 2: Op.move (tmp 66)
        refine ⟨fun r wx hG hs hq hf => ?_, ?_⟩
        · have h1 : r 66 = .bool true := hf.1
          refine (if_pos rfl).symm ▸ ?_
          clear hs hq hf
          unfold gives
          go_simp
          exact ⟨Below.refl _ _, rfl⟩
        -- operation 3: Op.move (tmp 13)
        refine ⟨fun r wx hG hs hq hf => ?_, ?_⟩
        · have e13 : r 13 = .int .i64 M := hs 13 rfl
          have h2 : r 67 = .bool true := hf.1
          have hy : ydD [some 65, some 66, some 67, some 68, some 69, some 70, some 71, some 72, some 73, some 74, some 75, some 76, some 77, some 78, some 79, some 80, some 81, some 82, some 83, some 84, some 85, some 86, some 4] r 2 = some true := by show (match r 67 with | .bool b => some b | _ => none) = some true; rw [h2]
          simp only [Region.wanted, hy, beq_self_eq_true, if_true]
          clear hs hq hf hy
          unfold gives
          go_simp
          exact ⟨Below.refl _ _, rfl⟩
        -- operation 4: Op.move (tmp 7)
        refine ⟨fun r wx hG hs hq hf => ?_, ?_⟩
        · have e7 : r 7 = .slice ab M cb := hs 7 rfl
          have h2 : r 67 = .bool true := hf.1
          have hy : ydD [some 65, some 66, some 67, some 68, some 69, some 70, some 71, some 72, some 73, some 74, some 75, some 76, some 77, some 78, some 79, some 80, some 81, some 82, some 83, some 84, some 85, some 86, some 4] r 2 = some true := by show (match r 67 with | .bool b => some b | _ => none) = some true; rw [h2]
          simp only [Region.wanted, hy, beq_self_eq_true, if_true]
          clear hs hq hf hy
          unfold gives
          go_simp
          exact ⟨Below.refl _ _, rfl⟩
        -- operation 5: Op.call ( callee := Callee.builtin Builtin.len, args := #[tmp 69], argTypes := #[22] )
        refine ⟨fun r wx hG hs hq hf => ?_, ?_⟩
        · have h4 : r 69 = .slice ab M cb := hf.1
          have h2 : r 67 = .bool true := hf.2.1
          have hy : ydD [some 65, some 66, some 67, some 68, some 69, some 70, some 71, some 72, some 73, some 74, some 75, some 76, some 77, some 78, some 79, some 80, some 81, some 82, some 83, some 84, some 85, some 86, some 4] r 2 = some true := by show (match r 67 with | .bool b => some b | _ => none) = some true; rw [h2]
          simp only [Region.wanted, hy, beq_self_eq_true, if_true]
          clear hs hq hf hy
          unfold gives
          go_simp
          exact ⟨Below.refl _ _, rfl⟩
        -- operation 6: Op.binOp BinOp.eql 3 (tmp 68) (tmp 70) 3
        refine ⟨fun r wx hG hs hq hf => ?_, ?_⟩
        · have h3 : r 68 = .int .i64 M := hf.1
          have h5 : r 70 = .int .i64 M := hf.2.1
          have h2 : r 67 = .bool true := hf.2.2.1
          have hy : ydD [some 65, some 66, some 67, some 68, some 69, some 70, some 71, some 72, some 73, some 74, some 75, some 76, some 77, some 78, some 79, some 80, some 81, some 82, some 83, some 84, some 85, some 86, some 4] r 2 = some true := by show (match r 67 with | .bool b => some b | _ => none) = some true; rw [h2]
          simp only [Region.wanted, hy, beq_self_eq_true, if_true]
          clear hs hq hf hy
          unfold gives
          go_simp
          exact ⟨Below.refl _ _, rfl⟩
        -- operation 7: Op.pick (tmp 67) (tmp 71) (const (Value.bool false))
        refine ⟨fun r wx hG hs hq hf => ?_, ?_⟩
        · have h2 : r 67 = .bool true := hf.1
          have h6 : r 71 = .bool true := hf.2.1
          refine (if_pos rfl).symm ▸ ?_
          clear hs hq hf
          unfold gives
          go_simp
          exact ⟨Below.refl _ _, rfl⟩
        -- operation 8: Op.move (tmp 72)
        refine ⟨fun r wx hG hs hq hf => ?_, ?_⟩
        · have h7 : r 72 = .bool true := hf.1
          refine (if_pos rfl).symm ▸ ?_
          clear hs hq hf
          unfold gives
          go_simp
          exact ⟨Below.refl _ _, rfl⟩
        -- operation 9: Op.move (tmp 12)
        refine ⟨fun r wx hG hs hq hf => ?_, ?_⟩
        · have e12 : r 12 = .slice (some ⟨bl, ol, none⟩) 2 cl := hs 12 rfl
          have h8 : r 73 = .bool true := hf.1
          have hy : ydD [some 65, some 66, some 67, some 68, some 69, some 70, some 71, some 72, some 73, some 74, some 75, some 76, some 77, some 78, some 79, some 80, some 81, some 82, some 83, some 84, some 85, some 86, some 4] r 8 = some true := by show (match r 73 with | .bool b => some b | _ => none) = some true; rw [h8]
          simp only [Region.wanted, hy, beq_self_eq_true, if_true]
          clear hs hq hf hy
          unfold gives
          go_simp
          exact ⟨Below.refl _ _, rfl⟩
        -- operation 10: Op.call ( callee := Callee.builtin Builtin.len, args := #[tmp 74], argTypes := #[35] )
        refine ⟨fun r wx hG hs hq hf => ?_, ?_⟩
        · have h9 : r 74 = .slice (some ⟨bl, ol, none⟩) 2 cl := hf.1
          have h8 : r 73 = .bool true := hf.2.1
          have hy : ydD [some 65, some 66, some 67, some 68, some 69, some 70, some 71, some 72, some 73, some 74, some 75, some 76, some 77, some 78, some 79, some 80, some 81, some 82, some 83, some 84, some 85, some 86, some 4] r 8 = some true := by show (match r 73 with | .bool b => some b | _ => none) = some true; rw [h8]
          simp only [Region.wanted, hy, beq_self_eq_true, if_true]
          clear hs hq hf hy
          unfold gives
          go_simp
          exact ⟨Below.refl _ _, rfl⟩
        -- operation 11: Op.binOp BinOp.eql 3 (tmp 75) (const (Value.int IntKind.i64 2)) 3
        refine ⟨fun r wx hG hs hq hf => ?_, ?_⟩
        · have h10 : r 75 = .int .i64 2 := hf.1
          have h8 : r 73 = .bool true := hf.2.1
          have hy : ydD [some 65, some 66, some 67, some 68, some 69, some 70, some 71, some 72, some 73, some 74, some 75, some 76, some 77, some 78, some 79, some 80, some 81, some 82, some 83, some 84, some 85, some 86, some 4] r 8 = some true := by show (match r 73 with | .bool b => some b | _ => none) = some true; rw [h8]
          simp only [Region.wanted, hy, beq_self_eq_true, if_true]
          clear hs hq hf hy
          unfold gives
          go_simp
          exact ⟨Below.refl _ _, rfl⟩
        -- operation 12: Op.pick (tmp 73) (tmp 76) (const (Value.bool false))
        refine ⟨fun r wx hG hs hq hf => ?_, ?_⟩
        · have h8 : r 73 = .bool true := hf.1
          have h11 : r 76 = .bool true := hf.2.1
          refine (if_pos rfl).symm ▸ ?_
          clear hs hq hf
          unfold gives
          go_simp
          exact ⟨Below.refl _ _, rfl⟩
        -- operation 13: Op.move (tmp 77)
        refine ⟨fun r wx hG hs hq hf => ?_, ?_⟩
        · have h12 : r 77 = .bool true := hf.1
          refine (if_pos rfl).symm ▸ ?_
          clear hs hq hf
          unfold gives
          go_simp
          exact ⟨Below.refl _ _, rfl⟩
        -- operation 14: Op.move (tmp 12)
        refine ⟨fun r wx hG hs hq hf => ?_, ?_⟩
        · have e12 : r 12 = .slice (some ⟨bl, ol, none⟩) 2 cl := hs 12 rfl
          have h13 : r 78 = .bool true := hf.1
          have hy : ydD [some 65, some 66, some 67, some 68, some 69, some 70, some 71, some 72, some 73, some 74, some 75, some 76, some 77, some 78, some 79, some 80, some 81, some 82, some 83, some 84, some 85, some 86, some 4] r 13 = some true := by show (match r 78 with | .bool b => some b | _ => none) = some true; rw [h13]
          simp only [Region.wanted, hy, beq_self_eq_true, if_true]
          clear hs hq hf hy
          unfold gives
          go_simp
          exact ⟨Below.refl _ _, rfl⟩
        -- operation 15: Op.indexAddr 35 (tmp 79) (const (Value.int IntKind.i64 1))
        refine ⟨fun r wx hG hs hq hf => ?_, ?_⟩
        · have h14 : r 79 = .slice (some ⟨bl, ol, none⟩) 2 cl := hf.1
          have h13 : r 78 = .bool true := hf.2.1
          have hy : ydD [some 65, some 66, some 67, some 68, some 69, some 70, some 71, some 72, some 73, some 74, some 75, some 76, some 77, some 78, some 79, some 80, some 81, some 82, some 83, some 84, some 85, some 86, some 4] r 13 = some true := by show (match r 78 with | .bool b => some b | _ => none) = some true; rw [h13]
          simp only [Region.wanted, hy, beq_self_eq_true, if_true]
          clear hs hq hf hy
          unfold gives
          go_simp
          exact ⟨Below.refl _ _, rfl⟩
        -- operation 16: Op.load 22 (tmp 80)
        refine ⟨fun r wx hG hs hq hf => ?_, ?_⟩
        · have h15 : r 80 = .pointer (some ⟨bl, ol + 1, none⟩) := hf.1
          have h13 : r 78 = .bool true := hf.2.1
          have hy : ydD [some 65, some 66, some 67, some 68, some 69, some 70, some 71, some 72, some 73, some 74, some 75, some 76, some 77, some 78, some 79, some 80, some 81, some 82, some 83, some 84, some 85, some 86, some 4] r 13 = some true := by show (match r 78 with | .bool b => some b | _ => none) = some true; rw [h13]
          simp only [Region.wanted, hy, beq_self_eq_true, if_true]
          clear hs hq hf hy
          unfold gives
          have hc := (hG.cell (p := ⟨bl, ol + 1, none⟩) HC.out.2).trans HC.out.1
          go_simp
          exact ⟨Below.refl _ _, rfl⟩
        -- operation 17: Op.convert 22 9 (tmp 81)
        refine ⟨fun r wx hG hs hq hf => ?_, ?_⟩
        · have h16 : r 81 = .slice pa n ca := hf.1
          have h13 : r 78 = .bool true := hf.2.1
          have hy : ydD [some 65, some 66, some 67, some 68, some 69, some 70, some 71, some 72, some 73, some 74, some 75, some 76, some 77, some 78, some 79, some 80, some 81, some 82, some 83, some 84, some 85, some 86, some 4] r 13 = some true := by show (match r 78 with | .bool b => some b | _ => none) = some true; rw [h13]
          simp only [Region.wanted, hy, beq_self_eq_true, if_true]
          clear hs hq hf hy
          unfold gives
          have hcv := string_of_bytes (P := Try.prog) Try.underlying22 Try.underlying5 Try.underlying9 (l := rc) (HRR.out.1.keep hG)
          rw [HRL.out] at hcv
          go_simp
          exact ⟨Below.refl _ _, rfl⟩
        -- operation 18: Op.move (tmp 6)
        refine ⟨fun r wx hG hs hq hf => ?_, ?_⟩
        · have e6 : r 6 = .slice (some ⟨g, 0, none⟩) n n := hs 6 rfl
          have h13 : r 78 = .bool true := hf.1
          have hy : ydD [some 65, some 66, some 67, some 68, some 69, some 70, some 71, some 72, some 73, some 74, some 75, some 76, some 77, some 78, some 79, some 80, some 81, some 82, some 83, some 84, some 85, some 86, some 4] r 13 = some true := by show (match r 78 with | .bool b => some b | _ => none) = some true; rw [h13]
          simp only [Region.wanted, hy, beq_self_eq_true, if_true]
          clear hs hq hf hy
          unfold gives
          go_simp
          exact ⟨Below.refl _ _, rfl⟩
        -- operation 19: Op.convert 22 9 (tmp 83)
        refine ⟨fun r wx hG hs hq hf => ?_, ?_⟩
        · have h18 : r 83 = .slice (some ⟨g, 0, none⟩) n n := hf.1
          have h13 : r 78 = .bool true := hf.2.1
          have hy : ydD [some 65, some 66, some 67, some 68, some 69, some 70, some 71, some 72, some 73, some 74, some 75, some 76, some 77, some 78, some 79, some 80, some 81, some 82, some 83, some 84, some 85, some 86, some 4] r 13 = some true := by show (match r 78 with | .bool b => some b | _ => none) = some true; rw [h13]
          simp only [Region.wanted, hy, beq_self_eq_true, if_true]
          clear hs hq hf hy
          unfold gives
          have hcv := string_of_bytes (P := Try.prog) Try.underlying22 Try.underlying5 Try.underlying9 (l := rc) (HRR.out.2.keep hG)
          rw [HRL.out] at hcv
          go_simp
          exact ⟨Below.refl _ _, rfl⟩
        -- operation 20: Op.binOp BinOp.eql 9 (tmp 82) (tmp 84) 9
        refine ⟨fun r wx hG hs hq hf => ?_, ?_⟩
        · have h17 : r 82 = .string ⟨rc.toArray⟩ := hf.1
          have h19 : r 84 = .string ⟨rc.toArray⟩ := hf.2.1
          have h13 : r 78 = .bool true := hf.2.2.1
          have hy : ydD [some 65, some 66, some 67, some 68, some 69, some 70, some 71, some 72, some 73, some 74, some 75, some 76, some 77, some 78, some 79, some 80, some 81, some 82, some 83, some 84, some 85, some 86, some 4] r 13 = some true := by show (match r 78 with | .bool b => some b | _ => none) = some true; rw [h13]
          simp only [Region.wanted, hy, beq_self_eq_true, if_true]
          clear hs hq hf hy
          unfold gives
          go_simp
          exact ⟨Below.refl _ _, rfl⟩
        -- operation 21: Op.pick (tmp 78) (tmp 85) (const (Value.bool false))
        refine ⟨fun r wx hG hs hq hf => ?_, ?_⟩
        · have h13 : r 78 = .bool true := hf.1
          have h20 : r 85 = .bool true := hf.2.1
          refine (if_pos rfl).symm ▸ ?_
          clear hs hq hf
          unfold gives
          go_simp
          exact ⟨Below.refl _ _, rfl⟩
        -- operation 22: Op.assign (tmp 86)
        refine ⟨fun r wx hG hs hq hf => ?_, ?_⟩
        · have h21 : r 86 = .bool true := hf.1
          refine (if_pos rfl).symm ▸ ?_
          clear hs hq hf
          unfold gives
          go_simp
          exact ⟨Below.refl _ _, rfl⟩
        exact trivial
      case hend =>
        intro u wz hG hfin
        have z22 : u 22 = .bool true := hfin 22 (by decide) (by kernel_rfl)
        clear hfin
        simp only [fill]
        go_simp
        go_wp2_with fail
        go_ret
        exact ⟨rfl, HB5.out.trans (hG.mono HB5.out.size)⟩
theorem frameLong.law (H : Type) (enc : TypeId × Value → H) (W : World) (base : Nat)
    (v0 : Value) (d0 : DataW H) (p0 : List MemPlace) (g0 : Value.okWide Try.prog W .any base 3 v0) (h0 : DataW.Trod enc Try.prog W 0 (fun _ => true) true 3 v0 d0 p0)
    (v1 : Value) (d1 : DataW H) (p1 : List MemPlace) (g1 : Value.okWide Try.prog W .any base 5 v1) (h1 : DataW.Trod enc Try.prog W 0 (fun _ => true) true 5 v1 d1 p1)
    {ts : List TypeId} {es : List (DataW H)} (hsz : (DataW.weightsEach Try.prog ([3, 5] ++ ts) ([d0, d1] ++ es)).all (· ≤ reachBytes) = true) :
    Calls Try.prog 10 #[v0, v1] W fun e W' => e = .returned (.bool true) ∧ Below W.heap.size W W' := by
  obtain ⟨a, rfl, _, _, _⟩ := open_int Try.underlying3 g0 h0
  obtain ⟨b, rfl, _, _, wb⟩ := open_int Try.underlying5 g1 h1
  have := u8_of_wf wb
  rw [← this]
  exact frameLong_walk a _ W
end Go.Proofs.Ytpdlocdlnoibbaa
