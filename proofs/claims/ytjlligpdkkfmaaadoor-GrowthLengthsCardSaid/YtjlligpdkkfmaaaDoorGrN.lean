/- The law GrowthLengths: the walk. (printed by gen/grn.py) -/
import Derived.Test.YtjlligpdkkfmaaaDoorGrM
import Derived.Test.YtjlligpdkkfmaaaDoorRegO
namespace Go.Proofs.YtjlligpdkkfmaaaDoor
open Go.RowKit Sha Root Path Growth

theorem szG_zero (m n : Nat) (h1 : 1 ≤ m) (h2 : m ≤ n) : szG m n true = 0 ↔ m = n := by
  by_cases he : m = n
  · subst he
    rw [szG_same]; simp
  · rcases Nat.lt_or_ge (top n) m with h | h
    · rw [szG_right m n true (by omega) h]; simp [he]
    · rw [szG_left m n true h1 (by omega) h]; simp [he]
/-- What each operation hands on. -/
def gln11P (W : Int) (n m L vc _g7 _g10 _B : Nat) (va : Option Addr) (rm more : List UInt8) (_P : List (List UInt8)) : Nat → Value → Prop
  | 0, v => v = .int .i64 W
  | 1, v => v = .int .i64 (m : Nat)
  | 2, v => v = .int .u64 (m : Nat)
  | 3, v => v = .int .u64 (n : Nat)
  | 4, v => v = .agg (bv rm).toArray
  | 6, v => v = .slice va L vc
  | 8, v => v = .agg (bv more).toArray
  | 11, v => v = .tuple #[.agg (bv (zs 32)).toArray, .agg (bv (zs 32)).toArray, .int .i64 4]
  | 12, v => v = .tuple #[.agg (bv (zs 32)).toArray, .agg (bv (zs 32)).toArray, .int .i64 4]
  | 13, v => v = .agg (bv (zs 32)).toArray
  | 14, v => v = .agg (bv (zs 32)).toArray
  | 15, v => v = .int .i64 4
  | 20, v => v = .int .i64 4
  | _, _ => True
def gln11O (_W : Int) (_n _m _L _vc _g7 _g10 _B : Nat) (_va : Option Addr) (_rm _more : List UInt8) (_P : List (List UInt8)) : Nat → Obj
  | 16 => .cells (bv (zs 32)).toArray 35 (0, 0)
  | 17 => .cells (bv (zs 32)).toArray 35 (0, 0)
  | 18 => .cells (bv ((zs 32))).toArray 35 (0, 0)
  | 19 => .cells (bv ((zs 32))).toArray 35 (0, 0)
  | _ => default
def gln11W (_W : Int) (_n _m L _vc _g7 _g10 B : Nat) (_va : Option Addr) (_rm more : List UInt8) (P : List (List UInt8)) : Nat → Value → World → Prop
  | 5, v, w => ∃ a c, v = .slice a 0 c ∧ w.ownsRow B 35 32 (.slice a 0 c) 0 ([])
  | 7, v, w => ∃ a c, v = .slice a L c ∧ w.ownsRow B 35 32 (.slice a L c) L (P.flatMap bv)
  | 9, v, w => ∃ a c, v = .slice a 1 c ∧ w.ownsRow B 35 32 (.slice a 1 c) 1 (bv more)
  | 10, v, w => ∃ a c, v = .slice a (L + 1) c ∧ w.ownsRow B 35 32 (.slice a (L + 1) c) (L + 1) (P.flatMap bv ++ bv more)
  | _, _, _ => True

/-- What each operation hands on. -/
def gln16P (W : Int) (n m L vc gp o2 _g10 : Nat) (rm : List UInt8) : Nat → Value → Prop
  | 0, v => v = .int .i64 W
  | 1, v => v = .int .i64 (m : Nat)
  | 2, v => v = .int .u64 (m : Nat)
  | 3, v => v = .int .u64 (n : Nat)
  | 4, v => v = .agg (bv rm).toArray
  | 5, v => v = .slice (some ⟨gp, 0, none⟩) L vc
  | 6, v => v = .slice (some ⟨gp, o2, none⟩) ((L - 1)) ((vc - 1))
  | 7, v => v = .tuple #[.agg (bv (zs 32)).toArray, .agg (bv (zs 32)).toArray, .int .i64 2]
  | 8, v => v = .tuple #[.agg (bv (zs 32)).toArray, .agg (bv (zs 32)).toArray, .int .i64 2]
  | 9, v => v = .agg (bv (zs 32)).toArray
  | 10, v => v = .agg (bv (zs 32)).toArray
  | 11, v => v = .int .i64 2
  | 16, v => v = .int .i64 2
  | _, _ => True
def gln16O (_W : Int) (_n _m _L _vc _gp _o2 _g10 : Nat) (_rm : List UInt8) : Nat → Obj
  | 12 => .cells (bv (zs 32)).toArray 35 (0, 0)
  | 13 => .cells (bv (zs 32)).toArray 35 (0, 0)
  | 14 => .cells (bv ((zs 32))).toArray 35 (0, 0)
  | 15 => .cells (bv ((zs 32))).toArray 35 (0, 0)
  | _ => default

set_option maxHeartbeats 16000000 in
set_option maxRecDepth 100000 in
theorem growthLengths_walk (W iv : Int) (more : List UInt8) (a : Option Addr) (c : Nat) (ls0 : List (List UInt8)) (w : World) (hW : -9223372036854775808 ≤ W ∧ W ≤ 9223372036854775807) (ho : more.length = 32) (h32a : ∀ p ∈ ls0, p.length = 32) (hl : ls0.length * 32 ≤ 140737488351232) (hr : Rd w 32 (.slice a ls0.length c) ls0.length (ls0.flatMap bv)) (hT : Tabs w) (hD : TabD w) :
    Calls Tryd.prog 6 #[.int .i64 W, .slice a ls0.length c, .int .i64 iv, .agg (bv more).toArray] w fun e w' => e = .returned (.bool true) ∧ Below w.heap.size w w' := by
  have hz := (zero_of_info info32).1
  have HZ32 := Lib.hid (show (zs 32).length = 32 by simp [zs])
  have hcap : ls0.length ≤ c := by
    obtain ⟨_, _, ⟨hv, h0⟩ | ⟨ad, c', hv, hc, _⟩⟩ := hr
    · simp at hv; omega
    · simp at hv; omega
  obtain ⟨w0, hw0⟩ : ∃ x : World, x = w.alloc (.cells (bv more).toArray 35) := ⟨_, rfl⟩
  have hbox : w0.heap[w.heap.size]? = some (.cells (bv more).toArray 35 (0, 0)) := by rw [hw0]; exact heap_alloc_new _ _
  have hbw0 : Below w.heap.size w w0 := by rw [hw0]; exact (Below.refl _ _).alloc (Nat.le_refl _) _
  have haw := awake16_any w0 (hT.keepB hbw0) (hD.keepB hbw0)
  obtain ⟨u, hu, hub⟩ : ∃ u : Nat, IntKind.u64.wrap iv = (u : Int) ∧ u < 18446744073709551616 := by
    rw [IntKind.wrap_u64]
    exact ⟨(iv % 18446744073709551616).toNat, by omega, by omega⟩
  have HW0 := Lib.hid hw0
  have H0 := Lib.hid (And.intro hbox hbw0)
  have HR := Lib.hid hr
  have HT := Lib.hid (And.intro hT (And.intro hD h32a))
  have HN := Lib.hid (And.intro hW ho)
  have HU := Lib.hid hu
  clear hw0 hbox hbw0 hr hT hD h32a hW ho hu
  go_enter Tryd.func6, Tryd.ntmps6
  go_upto_region 1 with fail
  rw [show w.alloc (.cells (bv more).toArray 35) = w0 from HW0.out.symm]
  go_wp2_with fail
  refine haw.mono ?_
  rintro e w1 ⟨rfl, hb1⟩
  have H1 := Lib.hid (And.intro ((hb1.block _ (Array.getElem?_eq_some_iff.1 H0.out.1).1).trans H0.out.1) (H0.out.2.trans (hb1.mono H0.out.2.size)))
  clear hb1 haw
  go_upto_if 23 with fail
  go_cut [1] (fun s1 wz => s1 = .slice a (min ls0.length 60) c ∧ wz = w1)
  case first =>
    by_cases hgt : 60 < ls0.length
    · have z2 : (60 : Int) < (ls0.length : Int) := by omega
      have z4 : (60 : Int) ≤ (c : Int) := by omega
      go_wp2_with fail
      go_meet
      exact ⟨by rw [show min ls0.length 60 = 60 by omega], rfl⟩
    · have z2 : ¬ (60 : Int) < (ls0.length : Int) := by omega
      go_wp2_with fail
      go_meet
      exact ⟨by rw [show min ls0.length 60 = ls0.length by omega], rfl⟩
  case rest =>
    obtain ⟨rfl, rfl⟩ := hcut
    obtain ⟨n, hn⟩ : ∃ m, m = min ls0.length 60 := ⟨_, rfl⟩
    rw [← hn]
    have hm3 : n ≤ ls0.length := by omega
    have hm4 : n ≤ 60 := by omega
    have h32 : ∀ q ∈ ls0.take n, q.length = 32 := fun q hq => HT.out.2.2 q (List.mem_of_mem_take hq)
    have hR : Rd w 32 (.slice a n c) n ((ls0.take n).flatMap bv) := by
      rw [flat_take32 _ _ HT.out.2.2]; exact rd_take HR.out n hm3
    have hlm : (ls0.take n).length = n := by rw [List.length_take]; omega
    have hmc : n ≤ c := by omega
    obtain ⟨ls, hls⟩ : ∃ l, l = ls0.take n := ⟨_, rfl⟩
    rw [← hls] at hR h32 hlm
    have z3 : IntKind.u64.wrap (n : Int) = (n : Int) := IntWalk.u64_in _ (by omega)
    by_cases hn0 : n = 0
    · have z1 : ((n : Int) == 0) = true := by simp; omega
      have hs0 := fun wx => gSize_any 0 0 wx (by omega) (by omega)
      have HS0 := Lib.hid hs0
      clear hR h32 hls hn hm3 hlm hcap hs0
      go_wp2_with fail
      refine (HS0.out _).mono ?_
      rintro e w2 ⟨rfl, hb2⟩
      have H2 := Lib.hid (H1.out.2.trans (hb2.mono H1.out.2.size))
      clear hb2
      go_wp2_with fail
      go_ret
      exact ⟨by simp, H2.out⟩
    · have z1 : ((n : Int) == 0) = false := by simp; omega
      have z2 : ¬ (n : Int) = 0 := by omega
      have hmp : u % n < n := Nat.mod_lt _ (by omega)
      obtain ⟨i, hie⟩ : ∃ i, i = u % n := ⟨_, rfl⟩
      rw [← hie] at hmp
      have z4 : (u : Int) % (n : Int) = (i : Int) := by rw [hie]; simp
      have z4b : Int.tmod (u : Int) (n : Int) = (i : Int) := by rw [hie]; rfl
      have z5 : IntKind.i64.wrap (i : Int) = (i : Int) := IntWalk.i64_in _ (by omega)
      have z6 : IntKind.i64.wrap (n : Int) = (n : Int) := IntWalk.i64_in _ (by omega)
      obtain ⟨m, hm⟩ : ∃ m, m = 1 + i := ⟨_, rfl⟩
      have z8 : IntKind.i64.wrap (1 + (i : Int)) = (m : Int) := (IntWalk.i64_in _ (by omega)).trans (by omega)
      have hm1 : 1 ≤ m := by omega
      have hmn : m ≤ n := by omega
      have z7 := HU.out
      have z9 : (0 : Int) ≤ (m : Int) := by omega
      have z10 : (m : Int) ≤ (c : Int) := by omega
      have z11 : IntKind.u64.wrap (m : Int) = (m : Int) := IntWalk.u64_in _ (by omega)
      have hpv := fun wx (hb : Below w.heap.size w wx) => gProve_any W ls m n a c wx HN.out.1 h32 (by omega) hmn (by omega) (by rw [hlm]; exact hR.keep hb) (HT.out.1.keepB hb) (HT.out.2.1.keepB hb)
      have hpl := gp_len W ls m n (by omega) hmn
      rw [if_neg (by omega)] at hpl
      have hp32 := gP_32 W ls m n (by omega) hmn h32
      have hszb := szG_le m n true hm1 hmn (by omega)
      have hsz0 := szG_zero m n hm1 hmn
      rw [hlm] at hpv
      have hr1 := fun wx (hb : Below w.heap.size w wx) => Root_any W (ls.take m) (.slice a m c) wx HN.out.1 (fun p hp => h32 p (List.mem_of_mem_take hp)) (by rw [List.length_take]; omega) (by
        rw [List.length_take, hlm, Nat.min_eq_left hmn, flat_take32 _ _ h32]; exact (rd_take hR m hmn).keep hb) (HT.out.1.keepB hb) (HT.out.2.1.keepB hb)
      have h1 := rootH_32 W (ls.take m) (fun p hp => h32 p (List.mem_of_mem_take hp))
      obtain ⟨rm, hrm⟩ : ∃ r, r = rootH W (ls.take m) := ⟨_, rfl⟩
      rw [← hrm] at hr1 h1
      obtain ⟨P, hP⟩ : ∃ p, p = gP W ls m n := ⟨_, rfl⟩
      rw [← hP] at hpl hpv hp32
      have hE4 : gE m n (P.length + 1) = 4 := by rw [gE, if_neg (by omega), if_neg (by omega), if_pos (by omega)]
      have hE2 : 0 < P.length → gE m n (P.length - 1) = 2 := fun h => by rw [gE, if_neg (by omega), if_pos (by omega)]
      have hcl : ∀ (Q : List (List UInt8)) (wx : World) (a' : Option Addr) (c' : Nat), (∀ p ∈ Q, p.length = 32) → Q.length ≤ 100 → Below w.heap.size w wx → Rd wx 32 (.slice a' Q.length c') Q.length (Q.flatMap bv) → ∀ E : Int, E ≠ 0 → gE m n Q.length = E →
          Calls Tryd.prog 34 #[.int .i64 W, .int .u64 m, .int .u64 n, .agg (bv rm).toArray, .slice a' Q.length c'] wx fun e w' => e = .returned (.tuple #[.agg (bv (zs 32)).toArray, .agg (bv (zs 32)).toArray, .int .i64 E]) ∧ Below wx.heap.size wx w' := fun Q wx a' c' h1' h2 h3 h4 E hE h5 => by
        have := gClimb_any W m n rm Q a' c' wx HN.out.1 h1 (by omega) (by omega) h1' (by omega) h4 (HT.out.1.keepB h3)
        rw [gS, h5, if_neg hE] at this
        exact this
      rw [← hpl] at hszb hsz0
      have HPV := Lib.hid hpv
      have HPF := Lib.hid hp32
      have HLN := Lib.hid (And.intro h1 HN.out.2)
      have HROOT := Lib.hid hr1
      have HCLM := Lib.hid (And.intro hcl (And.intro hE4 hE2))
      clear hR h32 hls hn hm3 hlm hcap hpv hpl hp32 hr1 h1 hrm hP hm hie hmp hcl hE4 hE2
      go_wp2_with fail
      refine (HROOT.out _ H1.out.2).mono ?_
      rintro e w3 ⟨rfl, hb3⟩
      have H3 := Lib.hid (And.intro ((hb3.block _ (Array.getElem?_eq_some_iff.1 H1.out.1).1).trans H1.out.1) (H1.out.2.trans (hb3.mono H1.out.2.size)))
      clear hb3
      go_upto_region 10 with (with_reducible show wpList _ _ _ (⟨none, Op.store _ _ _, _, _, _, _⟩ :: _) _ _; refine wpList_store_whole rfl _ _ _ rfl w3.heap.size (bv rm) rfl rfl (bv (zs 32)) _ (heap_alloc_new w3 (.cells (bv (zs 32)).toArray 35)) (hInfo' _ HLN.out.1) (by rw [bv_length, bv_length, HLN.out.1]; simp [zs]) (bv_one _) ?_; intro w4 HGv hgv)
      have k4 : Below w3.heap.size w3 w4 := below_grow ((Below.refl _ _).alloc (Nat.le_refl _) _) hgv (Nat.le_refl _) (by simp)
      obtain ⟨g10, hg10⟩ : ∃ g, g = w3.heap.size := ⟨_, rfl⟩
      have H4 := Lib.hid (show w4.heap[g10]? = some (.cells (bv rm).toArray 35 (0, 0)) ∧ w4.heap[w.heap.size]? = some (.cells (bv more).toArray 35 (0, 0)) ∧ Below w.heap.size w w4 from ⟨by rw [hg10]; exact HGv.out, (k4.block _ (Array.getElem?_eq_some_iff.1 H3.out.1).1).trans H3.out.1, H3.out.2.trans (k4.mono H3.out.2.size)⟩)
      rw [← hg10]
      clear k4 HGv hgv hg10
      go_wp2_with fail
      refine (HPV.out _ H4.out.2.2).mono ?_
      rintro e w5 ⟨va, vc, rfl, ho5, hb5⟩
      have H5 := Lib.hid (And.intro ((hb5.block _ (Array.getElem?_eq_some_iff.1 H4.out.1).1).trans H4.out.1) (And.intro ((hb5.block _ (Array.getElem?_eq_some_iff.1 H4.out.2.1).1).trans H4.out.2.1) (H4.out.2.2.trans (hb5.mono H4.out.2.2.size))))
      obtain ⟨L, hL⟩ : ∃ l, l = P.length := ⟨_, rfl⟩
      rw [← hL] at ho5 hszb hsz0 ⊢
      have HRP := Lib.hid (own_rd ho5 (flat_one32 _))
      have HOP := Lib.hid ho5
      have HL := Lib.hid hL
      have HCL := Lib.hid (fun wx (a' : Option Addr) (c' : Nat) (h : KeptT [] w5 wx) (hr : Rd wx 32 (.slice a' (L + 1) c') (L + 1) (P.flatMap bv ++ bv more)) => by
        have hql : (P ++ [more]).length = L + 1 := by rw [List.length_append, HL.out]; rfl
        have := HCLM.out.1 (P ++ [more]) wx a' c' (fun p hp => (List.mem_append.1 hp).elim (fun h => HPF.out p h) (fun h => by rw [List.mem_singleton.1 h]; exact HN.out.2)) (by omega) (H5.out.2.2.trans (h.below H5.out.2.2.size (by simp))) (by rw [hql, List.flatMap_append, List.flatMap_cons, List.flatMap_nil, List.append_nil]; exact hr) 4 (by decide) (by rw [hql, HL.out]; exact HCLM.out.2.1)
        rw [hql] at this
        exact this)
      clear ho5 hb5 hL z1 z2 z4 z4b z7
      go_upto_region 11 with fail
      refine wp_region_own [some 54, some 55, some 56, some 57, some 58, some 59, some 60, some 61, some 62, some 63, some 64, some 65, some 53, some 66, some 67, some 68, some 13, some 14, none, none, some 15] [] [] [(0, 0), (0, 0), (0, 0), (0, 0), (0, 0), (4, 0), (0, 0), (5, 5), (0, 0), (4, 0), (5, 7), (0, 0), (0, 0), (0, 0), (0, 0), (0, 0), (1, 0), (1, 0), (3, 16), (3, 17), (0, 0)] [5, 7, 9, 10, 16, 17] [0, 1, 2, 3, 4, 5, 6, 5, 8, 9, 5, 11, 12, 13, 14, 15, 16, 17, 18, 19, 20] [] [] [] (gln11P W n m L vc w.heap.size g10 w5.heap.size va rm more P) (gln11W W n m L vc w.heap.size g10 w5.heap.size va rm more P) (gln11O W n m L vc w.heap.size g10 w5.heap.size va rm more P) (by kernel_rfl) (by kernel_rfl) rfl (by kernel_rfl) (by kernel_rfl) (by kernel_rfl) rfl trivial (by simp; try omega) (by kernel_rfl) ?hloc ?hstep ?hend
      case hloc =>
        intro i v w1 w2 h _ hb
        unfold gln11W at h ⊢
        split at h <;> first | exact own_loc h hb | exact own_locT h hb | trivial
      case hstep =>
        -- operation 0: Op.move (tmp 0)
        refine ⟨fun r wx hG hs hq hf => ?_, ?_⟩
        · have e0 : r 0 = .int .i64 W := hs 0 rfl
          clear hs hq hf
          refine wanted_pos rfl ?_
          unfold gives
          go_simp
          exact obO_q (Below.refl _ _) rfl
        -- operation 1: Op.move (tmp 2)
        refine ⟨fun r wx hG hs hq hf => ?_, ?_⟩
        · have e2 : r 2 = .int .i64 (m : Nat) := hs 2 rfl
          clear hs hq hf
          refine wanted_pos rfl ?_
          unfold gives
          go_simp
          exact obO_q (Below.refl _ _) rfl
        -- operation 2: Op.convert 3 33 (tmp 55)
        refine ⟨fun r wx hG hs hq hf => ?_, ?_⟩
        · have h1 : r 55 = .int .i64 (m : Nat) := hf.1
          clear hs hq hf
          refine wanted_pos rfl ?_
          unfold gives
          have zw : IntKind.u64.wrap (m : Int) = (m : Int) := IntWalk.u64_in _ (by omega)
          go_simp
          exact obO_q (Below.refl _ _) rfl
        -- operation 3: Op.move (tmp 9)
        refine ⟨fun r wx hG hs hq hf => ?_, ?_⟩
        · have e9 : r 9 = .int .u64 (n : Nat) := hs 9 rfl
          clear hs hq hf
          refine wanted_pos rfl ?_
          unfold gives
          go_simp
          exact obO_q (Below.refl _ _) rfl
        -- operation 4: Op.load 35 (tmp 10)
        refine ⟨fun r wx hG hs hq hf => ?_, ?_⟩
        · have e10 : r 10 = .pointer (some ⟨g10, 0, none⟩) := hs 10 rfl
          clear hs hq hf
          refine wanted_pos rfl ?_
          unfold gives
          refine gives_load_row 35 _ rfl g10 e10 35 _ (0, 0) _ (hG.row (by simp; try omega) H5.out.1) Tryd.underlying35 rfl (hInfo _ HLN.out.1) ?_
          exact obO_q (Below.refl _ _) rfl
        -- operation 5: Op.buildSlice 44 0 #[]
        refine ⟨fun r wx hG hs hq hf => ?_, ?_⟩
        · clear hs hq hf
          refine wanted_pos rfl ?_
          unfold gives
          go_simp
          exact obO_mk ((Below.refl _ _).alloc (Nat.le_refl _) _) (fun g hg => by have e : g = wx.heap.size := by simpa [blks, blk1, blk0] using hg
                                                                                  subst e; simp) ⟨_, _, rfl, ⟨by simp, .inr ⟨_, 0, #[], rfl, hG.size, heap_alloc_new _ _, Nat.le_refl _, by decide, by simp, by simp⟩⟩⟩
        -- operation 6: Op.move (tmp 11)
        refine ⟨fun r wx hG hs hq hf => ?_, ?_⟩
        · have e11 : r 11 = .slice va L vc := hs 11 rfl
          clear hs hq hf
          refine wanted_pos rfl ?_
          unfold gives
          go_simp
          exact obO_q (Below.refl _ _) rfl
        -- operation 7: Op.call ( callee := Callee.builtin Builtin.append, args := #[tmp 59, tmp 60], argTypes := #[44, 44] 
        refine ⟨fun r wx hG hs hq hf => ?_, ?_⟩
        · have h5 : ∃ a c, r 59 = .slice a 0 c ∧ wx.ownsRow w5.heap.size 35 32 (.slice a 0 c) 0 ([]) := hf.1
          have h6 : r 60 = .slice va L vc := hf.2.1
          clear hs hq hf
          refine wanted_pos rfl ?_
          unfold gives
          obtain ⟨a1, c1, hv1, ho1⟩ := h5
          have hv2 := h6
          have hrd := HRP.out.keep hG.bel
          refine gives_app Tryd.underlying44 infoHb rfl (by decide) _ _ rfl hv1 hv2 ho1 hrd (by omega) (by omega) hG.size ?_
          intro v6 wy ho hgr _
          rw [Nat.zero_add, List.nil_append] at ho
          obtain ⟨a3, c3, hv3⟩ := own_form ho
          refine obO_ap hgr.grown (fun g e => by show g ∈ blks (r 59); rw [hv1]; exact blks_own e) (fun g e => ?_) ⟨a3, c3, hv3, by rw [← hv3]; exact ho⟩
          have e2 : v6.ownBlock = some g := by rw [hv3] at e ⊢; exact own_of_blks e
          rcases hgr.blk g e2 with h | h
          · left; show g ∈ blks (r 59); rw [hv1]; exact blks_own h
          · exact .inr ⟨h, (ho.lt g e2).2⟩
        -- operation 8: Op.load 35 (tmp 7)
        refine ⟨fun r wx hG hs hq hf => ?_, ?_⟩
        · have e7 : r 7 = .pointer (some ⟨w.heap.size, 0, none⟩) := hs 7 rfl
          clear hs hq hf
          refine wanted_pos rfl ?_
          unfold gives
          refine gives_load_row 35 _ rfl w.heap.size e7 35 _ (0, 0) _ (hG.row (by simp; try omega) H5.out.2.1) Tryd.underlying35 rfl (hInfo _ HLN.out.2) ?_
          exact obO_q (Below.refl _ _) rfl
        -- operation 9: Op.buildSlice 44 1 #[(0, tmp 62)]
        refine ⟨fun r wx hG hs hq hf => ?_, ?_⟩
        · have h8 : r 62 = .agg (bv more).toArray := hf.1
          clear hs hq hf
          refine wanted_pos rfl ?_
          unfold gives
          refine gives_build1p 44 35 _ rfl (bv more) h8 Tryd.underlying44 infoHb (by rw [bv_length]; exact HLN.out.2) (by decide) (by decide) ?_
          exact obO_mk ((Below.refl _ _).alloc (Nat.le_refl _) _) (fun g hg => by have e : g = wx.heap.size := by simpa [blks, blk1, blk0] using hg
                                                                                  subst e; simp) ⟨_, _, rfl, own_new wx 35 32 1 w5.heap.size (bv more) (by rw [bv_length, HLN.out.2]) (by omega) hG.size⟩
        -- operation 10: Op.call ( callee := Callee.builtin Builtin.append, args := #[tmp 61, tmp 63], argTypes := #[44, 44] 
        refine ⟨fun r wx hG hs hq hf => ?_, ?_⟩
        · have h7 : ∃ a c, r 61 = .slice a L c ∧ wx.ownsRow w5.heap.size 35 32 (.slice a L c) L (P.flatMap bv) := hf.1
          have h9 : ∃ a c, r 63 = .slice a 1 c ∧ wx.ownsRow w5.heap.size 35 32 (.slice a 1 c) 1 (bv more) := hf.2.1
          clear hs hq hf
          refine wanted_pos rfl ?_
          unfold gives
          obtain ⟨a1, c1, hv1, ho1⟩ := h7
          obtain ⟨a2, c2, hv2, ho2⟩ := h9
          have hrd := own_rd ho2 (bv_one _)
          refine gives_app Tryd.underlying44 infoHb rfl (by decide) _ _ rfl hv1 hv2 ho1 hrd (by omega) (by omega) hG.size ?_
          intro v6 wy ho hgr _
          obtain ⟨a3, c3, hv3⟩ := own_form ho
          refine obO_ap hgr.grown (fun g e => by show g ∈ blks (r 61); rw [hv1]; exact blks_own e) (fun g e => ?_) ⟨a3, c3, hv3, by rw [← hv3]; exact ho⟩
          have e2 : v6.ownBlock = some g := by rw [hv3] at e ⊢; exact own_of_blks e
          rcases hgr.blk g e2 with h | h
          · left; show g ∈ blks (r 61); rw [hv1]; exact blks_own h
          · exact .inr ⟨h, (ho.lt g e2).2⟩
        -- operation 11: Op.call ( callee := Callee.value (func 34), args := #[tmp 54, tmp 56, tmp 57, tmp 58, tmp 64], argTy
        refine ⟨fun r wx hG hs hq hf => ?_, ?_⟩
        · have h0 : r 54 = .int .i64 W := hf.1
          have h2 : r 56 = .int .u64 (m : Nat) := hf.2.1
          have h3 : r 57 = .int .u64 (n : Nat) := hf.2.2.1
          have h4 : r 58 = .agg (bv rm).toArray := hf.2.2.2.1
          have h10 : ∃ a c, r 64 = .slice a (L + 1) c ∧ wx.ownsRow w5.heap.size 35 32 (.slice a (L + 1) c) (L + 1) (P.flatMap bv ++ bv more) := hf.2.2.2.2.1
          clear hs hq hf
          refine wanted_pos rfl ?_
          unfold gives
          obtain ⟨a, c', hv, ho⟩ := h10
          have hrd := own_rd ho (own_one (flat_one32 _) (bv_one _))
          go_simp
          refine (HCL.out wx a c' hG hrd).mono ?_
          rintro e wy ⟨rfl, hb1⟩
          exact ⟨_, rfl, obO_q hb1 rfl⟩
        -- operation 12: Op.move (tmp 65)
        refine ⟨fun r wx hG hs hq hf => ?_, ?_⟩
        · have h11 : r 65 = .tuple #[.agg (bv (zs 32)).toArray, .agg (bv (zs 32)).toArray, .int .i64 4] := hf.1
          clear hs hq hf
          refine wanted_pos rfl ?_
          unfold gives
          go_simp
          exact obO_q (Below.refl _ _) rfl
        -- operation 13: Op.extract (tmp 53) 0
        refine ⟨fun r wx hG hs hq hf => ?_, ?_⟩
        · have h12 : r 53 = .tuple #[.agg (bv (zs 32)).toArray, .agg (bv (zs 32)).toArray, .int .i64 4] := hf.1
          clear hs hq hf
          refine wanted_pos rfl ?_
          unfold gives
          go_simp
          exact obO_q (Below.refl _ _) rfl
        -- operation 14: Op.extract (tmp 53) 1
        refine ⟨fun r wx hG hs hq hf => ?_, ?_⟩
        · have h12 : r 53 = .tuple #[.agg (bv (zs 32)).toArray, .agg (bv (zs 32)).toArray, .int .i64 4] := hf.1
          clear hs hq hf
          refine wanted_pos rfl ?_
          unfold gives
          go_simp
          exact obO_q (Below.refl _ _) rfl
        -- operation 15: Op.extract (tmp 53) 2
        refine ⟨fun r wx hG hs hq hf => ?_, ?_⟩
        · have h12 : r 53 = .tuple #[.agg (bv (zs 32)).toArray, .agg (bv (zs 32)).toArray, .int .i64 4] := hf.1
          clear hs hq hf
          refine wanted_pos rfl ?_
          unfold gives
          go_simp
          exact obO_q (Below.refl _ _) rfl
        -- operation 16: Op.alloc 35
        refine ⟨fun r wx hG hs hq hf => ?_, ?_⟩
        · clear hs hq hf
          refine wanted_pos rfl ?_
          unfold gives
          go_simp
          exact obO_al rfl (Nat.le_refl _) (heap_alloc_new _ _) ((Below.refl _ _).alloc (Nat.le_refl _) _)
        -- operation 17: Op.alloc 35
        refine ⟨fun r wx hG hs hq hf => ?_, ?_⟩
        · clear hs hq hf
          refine wanted_pos rfl ?_
          unfold gives
          go_simp
          exact obO_al rfl (Nat.le_refl _) (heap_alloc_new _ _) ((Below.refl _ _).alloc (Nat.le_refl _) _)
        -- operation 18: Op.store 35 (tmp 13) (tmp 66)
        refine ⟨fun r wx hG hs hq hf => ?_, ?_⟩
        · have h16 : ∃ g, r 13 = .pointer (some ⟨g, 0, none⟩) ∧ w5.heap.size ≤ g ∧ wx.heap[g]? = some (.cells (bv (zs 32)).toArray 35 (0, 0)) := hf.1
          have h13 : r 66 = .agg (bv (zs 32)).toArray := hf.2.1
          clear hs hq hf
          refine wanted_pos rfl ?_
          unfold gives
          obtain ⟨g, hg1, hg2, hg3⟩ := h16
          refine gives_store_row 35 _ _ rfl g (bv ((zs 32))) hg1 h13 (bv (zs 32)) 35 hg3 (hInfo' _ HZ32.out) (by first | rfl | (rw [bv_length, bv_length, HZ32.out]; simp [zs])) (bv_one _) ?_
          intro wy h1 h2
          exact obO_sa hg1 hg2 h2 h1
        -- operation 19: Op.store 35 (tmp 14) (tmp 67)
        refine ⟨fun r wx hG hs hq hf => ?_, ?_⟩
        · have h17 : ∃ g, r 14 = .pointer (some ⟨g, 0, none⟩) ∧ w5.heap.size ≤ g ∧ wx.heap[g]? = some (.cells (bv (zs 32)).toArray 35 (0, 0)) := hf.1
          have h14 : r 67 = .agg (bv (zs 32)).toArray := hf.2.1
          have h18 : ∃ g, r 13 = .pointer (some ⟨g, 0, none⟩) ∧ w5.heap.size ≤ g ∧ wx.heap[g]? = some (.cells (bv ((zs 32))).toArray 35 (0, 0)) := hf.2.2.1
          clear hs hq hf
          refine wanted_pos rfl ?_
          unfold gives
          obtain ⟨g, hg1, hg2, hg3⟩ := h17
          refine gives_store_row 35 _ _ rfl g (bv ((zs 32))) hg1 h14 (bv (zs 32)) 35 hg3 (hInfo' _ HZ32.out) (by first | rfl | (rw [bv_length, bv_length, HZ32.out]; simp [zs])) (bv_one _) ?_
          intro wy h1 h2
          exact obO_sa hg1 hg2 h2 h1
        -- operation 20: Op.assign (tmp 68)
        refine ⟨fun r wx hG hs hq hf => ?_, ?_⟩
        · have h15 : r 68 = .int .i64 4 := hf.1
          have h19 : ∃ g, r 14 = .pointer (some ⟨g, 0, none⟩) ∧ w5.heap.size ≤ g ∧ wx.heap[g]? = some (.cells (bv ((zs 32))).toArray 35 (0, 0)) := hf.2.1
          clear hs hq hf
          refine wanted_pos rfl ?_
          unfold gives
          go_simp
          exact obO_q (Below.refl _ _) rfl
        exact trivial
      case hend =>
        intro u wz hG hfin
        have z18 : ∃ g, u 16 = .pointer (some ⟨g, 0, none⟩) ∧ w5.heap.size ≤ g ∧ wz.heap[g]? = some (.cells (bv ((zs 32))).toArray 35 (0, 0)) := hfin 18 (by decide) (by kernel_rfl)
        have z19 : ∃ g, u 17 = .pointer (some ⟨g, 0, none⟩) ∧ w5.heap.size ≤ g ∧ wz.heap[g]? = some (.cells (bv ((zs 32))).toArray 35 (0, 0)) := hfin 19 (by decide) (by kernel_rfl)
        have z20 : u 20 = .int .i64 4 := hfin 20 (by decide) (by kernel_rfl)
        clear hfin
        obtain ⟨ga16, hga16, hgb16, hgr16⟩ := z18
        obtain ⟨ga17, hga17, hgb17, hgr17⟩ := z19
        simp only [fill]
        have H6 := Lib.hid (And.intro (hG.row (by simp) H5.out.1) (And.intro (hG.row (by simp) H5.out.2.1) (H5.out.2.2.trans (hG.below H5.out.2.2.size (by simp)))))
        have HG6 := Lib.hid hG
        clear hG
        go_simp
        clear hgr16 hgr17 hgb16 hgb17
        have e_ok : True := trivial
        by_cases hL0 : L = 0
        · have y1 : ((L : Int) == 0) = true := by simp; omega
          have y2 : m = n := hsz0.1 hL0
          have y3 : ((m : Int) == (n : Int)) = true := by simp; omega
          go_wp2_with fail
          go_ret
          exact ⟨rfl, H6.out.2.2⟩
        · have y1 : ((L : Int) == 0) = false := by simp; omega
          have y2 : ¬ m = n := fun h => hL0 (hsz0.2 h)
          have y3 : (m : Int) < (n : Int) := by omega
          obtain ⟨gp, cap, hvp, _, hcp, _, hgp⟩ := own_at HOP.out (by omega)
          simp only [Value.slice.injEq, true_and] at hvp
          obtain ⟨rfl, rfl⟩ := hvp
          obtain ⟨w6, hw6⟩ : ∃ x, x = wz := ⟨_, rfl⟩
          rw [← hw6] at H6 HG6 ⊢
          obtain ⟨o2, ho2⟩ : ∃ o, o = if vc = 1 then 0 else 32 := ⟨_, rfl⟩
          have HO2 := Lib.hid ho2
          have hLv : L ≤ vc := hcp
          have HCL2 := Lib.hid (fun wx (h : KeptT [] w6 wx) => by
            have hrp : Rd wx 32 (.slice (some ⟨gp, 0, none⟩) L vc) L (P.flatMap bv) := (HRP.out.keep HG6.out.bel).keep h.bel
            have hql : (P.drop 1).length = L - 1 := by rw [List.length_drop, HL.out]
            have hrq : Rd wx 32 (.slice (some ⟨gp, o2, none⟩) (L - 1) (vc - 1)) (L - 1) ((P.drop 1).flatMap bv) := by
              by_cases z3 : vc = 1
              · have hL1 : L = 1 := by omega
                have : P.drop 1 = [] := List.drop_of_length_le (by rw [← HL.out]; omega)
                rw [this, hL1]
                exact ⟨rfl, by simp, .inr ⟨_, _, rfl, by omega, fun j u hu => by simp at hu⟩⟩
              · have := rd_drop hrp 1 (by omega)
                rw [← flat_drop32 _ _ HPF.out] at this
                rw [show o2 = 0 + 1 * 32 by rw [HO2.out, if_neg z3]]
                exact this
            have := HCLM.out.1 (P.drop 1) wx (some ⟨gp, o2, none⟩) (vc - 1) (fun p hp => HPF.out p (List.mem_of_mem_drop hp)) (by omega) (H6.out.2.2.trans (h.below H6.out.2.2.size (by simp))) (by rw [hql]; exact hrq) 2 (by decide) (by rw [hql, HL.out]; exact HCLM.out.2.2 (by rw [← HL.out]; omega))
            rw [hql] at this
            exact this)
          clear hw6 HCL ho2 HOP
          go_upto_region 16 with fail
          refine wp_region_desc [some 83, some 84, some 85, some 86, some 87, some 88, some 89, some 90, some 82, some 91, some 92, some 93, some 16, some 17, none, none, some 18] [] [] [(0, 0), (0, 0), (0, 0), (0, 0), (0, 0), (0, 0), (0, 0), (0, 0), (0, 0), (0, 0), (0, 0), (0, 0), (1, 0), (1, 0), (3, 12), (3, 13), (0, 0)] [12, 13] [] [] [] (gln16P W n m L vc gp o2 g10 rm) (fun _ _ _ => True) (gln16O W n m L vc gp o2 g10 rm) (by kernel_rfl) (by kernel_rfl) rfl (by kernel_rfl) (by kernel_rfl) (by kernel_rfl) rfl trivial (by simp; try omega) rfl (fun i hi => (no4 (by kernel_rfl) i hi).elim) ?hstep ?hend
          case hstep =>
            -- operation 0: Op.move (tmp 0)
            refine ⟨fun r wx hG hs hq hf => ?_, ?_⟩
            · have e0 : r 0 = .int .i64 W := hs 0 rfl
              clear hs hq hf
              refine wanted_pos rfl ?_
              unfold gives
              go_simp
              exact obC_q (Below.refl _ _) rfl
            -- operation 1: Op.move (tmp 2)
            refine ⟨fun r wx hG hs hq hf => ?_, ?_⟩
            · have e2 : r 2 = .int .i64 (m : Nat) := hs 2 rfl
              clear hs hq hf
              refine wanted_pos rfl ?_
              unfold gives
              go_simp
              exact obC_q (Below.refl _ _) rfl
            -- operation 2: Op.convert 3 33 (tmp 84)
            refine ⟨fun r wx hG hs hq hf => ?_, ?_⟩
            · have h1 : r 84 = .int .i64 (m : Nat) := hf.1
              clear hs hq hf
              refine wanted_pos rfl ?_
              unfold gives
              have zw : IntKind.u64.wrap (m : Int) = (m : Int) := IntWalk.u64_in _ (by omega)
              go_simp
              exact obC_q (Below.refl _ _) rfl
            -- operation 3: Op.move (tmp 9)
            refine ⟨fun r wx hG hs hq hf => ?_, ?_⟩
            · have e9 : r 9 = .int .u64 (n : Nat) := hs 9 rfl
              clear hs hq hf
              refine wanted_pos rfl ?_
              unfold gives
              go_simp
              exact obC_q (Below.refl _ _) rfl
            -- operation 4: Op.load 35 (tmp 10)
            refine ⟨fun r wx hG hs hq hf => ?_, ?_⟩
            · have e10 : r 10 = .pointer (some ⟨g10, 0, none⟩) := hs 10 rfl
              clear hs hq hf
              refine wanted_pos rfl ?_
              unfold gives
              refine gives_load_row 35 _ rfl g10 e10 35 _ (0, 0) _ (hG.row (by simp; try omega) H6.out.1) Tryd.underlying35 rfl (hInfo _ HLN.out.1) ?_
              exact obC_q (Below.refl _ _) rfl
            -- operation 5: Op.move (tmp 11)
            refine ⟨fun r wx hG hs hq hf => ?_, ?_⟩
            · have e11 : r 11 = .slice (some ⟨gp, 0, none⟩) L vc := hs 11 rfl
              clear hs hq hf
              refine wanted_pos rfl ?_
              unfold gives
              go_simp
              exact obC_q (Below.refl _ _) rfl
            -- operation 6: Op.slice 44 (tmp 88) (some (const (Value.int IntKind.i64 1))) none none
            refine ⟨fun r wx hG hs hq hf => ?_, ?_⟩
            · have h5 : r 88 = .slice (some ⟨gp, 0, none⟩) L vc := hf.1
              clear hs hq hf
              refine wanted_pos rfl ?_
              unfold gives
              have z0 : (1 : Int) ≤ (L : Int) := by omega
              have z1 : (L : Int) ≤ (vc : Int) := by omega
              have z4 : ((L : Int) - 1).toNat = L - 1 := by omega
              have z5 : ((vc : Int) - 1).toNat = vc - 1 := by omega
              by_cases z3 : vc = 1
              · have ho2 : o2 = 0 := by rw [HO2.out, if_pos z3]
                have hL1 : L - 1 = 0 := by omega
                go_simp
                exact obC_q (Below.refl _ _) (by first | rfl | (unfold gln16P; simp; omega))
              · have ho2 : o2 = 32 := by rw [HO2.out, if_neg z3]
                go_simp
                exact obC_q (Below.refl _ _) (by first | rfl | (unfold gln16P; simp; omega))
            -- operation 7: Op.call ( callee := Callee.value (func 34), args := #[tmp 83, tmp 85, tmp 86, tmp 87, tmp 89], argTy
            refine ⟨fun r wx hG hs hq hf => ?_, ?_⟩
            · have h0 : r 83 = .int .i64 W := hf.1
              have h2 : r 85 = .int .u64 (m : Nat) := hf.2.1
              have h3 : r 86 = .int .u64 (n : Nat) := hf.2.2.1
              have h4 : r 87 = .agg (bv rm).toArray := hf.2.2.2.1
              have h6 : r 89 = .slice (some ⟨gp, o2, none⟩) ((L - 1)) ((vc - 1)) := hf.2.2.2.2.1
              clear hs hq hf
              refine wanted_pos rfl ?_
              unfold gives
              go_simp
              refine (HCL2.out wx hG).mono ?_
              rintro e wy ⟨rfl, hb1⟩
              exact ⟨_, rfl, obC_q hb1 rfl⟩
            -- operation 8: Op.move (tmp 90)
            refine ⟨fun r wx hG hs hq hf => ?_, ?_⟩
            · have h7 : r 90 = .tuple #[.agg (bv (zs 32)).toArray, .agg (bv (zs 32)).toArray, .int .i64 2] := hf.1
              clear hs hq hf
              refine wanted_pos rfl ?_
              unfold gives
              go_simp
              exact obC_q (Below.refl _ _) rfl
            -- operation 9: Op.extract (tmp 82) 0
            refine ⟨fun r wx hG hs hq hf => ?_, ?_⟩
            · have h8 : r 82 = .tuple #[.agg (bv (zs 32)).toArray, .agg (bv (zs 32)).toArray, .int .i64 2] := hf.1
              clear hs hq hf
              refine wanted_pos rfl ?_
              unfold gives
              go_simp
              exact obC_q (Below.refl _ _) rfl
            -- operation 10: Op.extract (tmp 82) 1
            refine ⟨fun r wx hG hs hq hf => ?_, ?_⟩
            · have h8 : r 82 = .tuple #[.agg (bv (zs 32)).toArray, .agg (bv (zs 32)).toArray, .int .i64 2] := hf.1
              clear hs hq hf
              refine wanted_pos rfl ?_
              unfold gives
              go_simp
              exact obC_q (Below.refl _ _) rfl
            -- operation 11: Op.extract (tmp 82) 2
            refine ⟨fun r wx hG hs hq hf => ?_, ?_⟩
            · have h8 : r 82 = .tuple #[.agg (bv (zs 32)).toArray, .agg (bv (zs 32)).toArray, .int .i64 2] := hf.1
              clear hs hq hf
              refine wanted_pos rfl ?_
              unfold gives
              go_simp
              exact obC_q (Below.refl _ _) rfl
            -- operation 12: Op.alloc 35
            refine ⟨fun r wx hG hs hq hf => ?_, ?_⟩
            · clear hs hq hf
              refine wanted_pos rfl ?_
              unfold gives
              go_simp
              exact obC_al rfl (Nat.le_refl _) (heap_alloc_new _ _) ((Below.refl _ _).alloc (Nat.le_refl _) _)
            -- operation 13: Op.alloc 35
            refine ⟨fun r wx hG hs hq hf => ?_, ?_⟩
            · clear hs hq hf
              refine wanted_pos rfl ?_
              unfold gives
              go_simp
              exact obC_al rfl (Nat.le_refl _) (heap_alloc_new _ _) ((Below.refl _ _).alloc (Nat.le_refl _) _)
            -- operation 14: Op.store 35 (tmp 16) (tmp 91)
            refine ⟨fun r wx hG hs hq hf => ?_, ?_⟩
            · have h12 : ∃ g, r 16 = .pointer (some ⟨g, 0, none⟩) ∧ w6.heap.size ≤ g ∧ wx.heap[g]? = some (.cells (bv (zs 32)).toArray 35 (0, 0)) := hf.1
              have h9 : r 91 = .agg (bv (zs 32)).toArray := hf.2.1
              clear hs hq hf
              refine wanted_pos rfl ?_
              unfold gives
              obtain ⟨g, hg1, hg2, hg3⟩ := h12
              refine gives_store_row 35 _ _ rfl g (bv ((zs 32))) hg1 h9 (bv (zs 32)) 35 hg3 (hInfo' _ HZ32.out) (by first | rfl | (rw [bv_length, bv_length, HZ32.out]; simp [zs])) (bv_one _) ?_
              intro wy h1 h2
              exact obC_sa hg1 hg2 h2 h1
            -- operation 15: Op.store 35 (tmp 17) (tmp 92)
            refine ⟨fun r wx hG hs hq hf => ?_, ?_⟩
            · have h13 : ∃ g, r 17 = .pointer (some ⟨g, 0, none⟩) ∧ w6.heap.size ≤ g ∧ wx.heap[g]? = some (.cells (bv (zs 32)).toArray 35 (0, 0)) := hf.1
              have h10 : r 92 = .agg (bv (zs 32)).toArray := hf.2.1
              have h14 : ∃ g, r 16 = .pointer (some ⟨g, 0, none⟩) ∧ w6.heap.size ≤ g ∧ wx.heap[g]? = some (.cells (bv ((zs 32))).toArray 35 (0, 0)) := hf.2.2.1
              clear hs hq hf
              refine wanted_pos rfl ?_
              unfold gives
              obtain ⟨g, hg1, hg2, hg3⟩ := h13
              refine gives_store_row 35 _ _ rfl g (bv ((zs 32))) hg1 h10 (bv (zs 32)) 35 hg3 (hInfo' _ HZ32.out) (by first | rfl | (rw [bv_length, bv_length, HZ32.out]; simp [zs])) (bv_one _) ?_
              intro wy h1 h2
              exact obC_sa hg1 hg2 h2 h1
            -- operation 16: Op.assign (tmp 93)
            refine ⟨fun r wx hG hs hq hf => ?_, ?_⟩
            · have h11 : r 93 = .int .i64 2 := hf.1
              have h15 : ∃ g, r 17 = .pointer (some ⟨g, 0, none⟩) ∧ w6.heap.size ≤ g ∧ wx.heap[g]? = some (.cells (bv ((zs 32))).toArray 35 (0, 0)) := hf.2.1
              clear hs hq hf
              refine wanted_pos rfl ?_
              unfold gives
              go_simp
              exact obC_q (Below.refl _ _) rfl
            exact trivial
          case hend =>
            intro u wz hG hfin
            have z14 : ∃ g, u 12 = .pointer (some ⟨g, 0, none⟩) ∧ w6.heap.size ≤ g ∧ wz.heap[g]? = some (.cells (bv ((zs 32))).toArray 35 (0, 0)) := hfin 14 (by decide) (by kernel_rfl)
            have z15 : ∃ g, u 13 = .pointer (some ⟨g, 0, none⟩) ∧ w6.heap.size ≤ g ∧ wz.heap[g]? = some (.cells (bv ((zs 32))).toArray 35 (0, 0)) := hfin 15 (by decide) (by kernel_rfl)
            have z16 : u 16 = .int .i64 2 := hfin 16 (by decide) (by kernel_rfl)
            clear hfin
            obtain ⟨ga12, hga12, hgb12, hgr12⟩ := z14
            obtain ⟨ga13, hga13, hgb13, hgr13⟩ := z15
            simp only [fill]
            have H8 := Lib.hid (H6.out.2.2.trans (hG.below H6.out.2.2.size (by simp)))
            clear hG
            go_simp
            go_wp2_with fail
            go_ret
            exact ⟨by simp, H8.out⟩
end Go.Proofs.YtjlligpdkkfmaaaDoor
