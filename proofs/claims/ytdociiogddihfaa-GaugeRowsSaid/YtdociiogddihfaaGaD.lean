/- The reference's Add (law06). -/
import Derived.Test.YtdociiogddihfaaGaC
namespace Go.Proofs.Ytdociiogddihfaa
open Go.RowKit

set_option maxHeartbeats 4000000 in
set_option maxRecDepth 100000 in
theorem RGAdd_any (N m s lo hi x : Nat) (w : World) (hx : x < 18446744073709551616) (hlo : lo < 18446744073709551616) (hhi : hi < 18446744073709551616) (hN : N ≤ 1000000) (hxn : fnan x = false) :
    Calls Try.prog 12 #[Gv N m s lo hi, .float .f64 x] w fun e w' => ∃ m' s', e = .returned (Gv (N + 1) m' s' (if ordQ x lo < 0 then x else lo) (if ordQ x hi > 0 then x else hi)) ∧ AddM N m s x m' s' ∧ m' < 18446744073709551616 ∧ s' < 18446744073709551616 ∧ Below w.heap.size w w' := by
  have hne : (FloatKind.f64.format.order x x != some .eq) = false := by rw [ne_order x hx, hxn]
  have hol := fun w => ROrder_any x lo w hx hlo
  have hoh := fun w => ROrder_any x hi w hx hhi
  have hd1 : decide ((9007199254740992 : Int) ≤ (N : Int)) = false := decide_eq_false (by omega)
  have z2 : IntKind.u64.wrap ((N : Int) + 1) = ((N + 1 : Nat) : Int) := (IntWalk.u64_in _ (by omega)).trans (by omega)
  by_cases hN0 : N = 0
  · have z3 : ((N : Int) + 1 == 1) = true := by simp; omega
    have HAM : Hid (AddM N m s x x 0) := Lib.hid (by rw [AddM, if_pos hN0]; exact ⟨rfl, rfl⟩)
    clear hN0
    go_enter Try.func12, Try.ntmps12
    go_wp2_with fail
    refine (hol _).mono ?_
    rintro e w5 ⟨rfl, rfl⟩
    by_cases g1 : ordQ x lo < 0
    · by_cases g2 : ordQ x hi > 0
      · have g2' : 0 < ordQ x hi := g2
        go_wp2_with fail
        refine (hoh _).mono ?_
        rintro e w6 ⟨rfl, rfl⟩
        go_wp2_with fail
        exact bodyPost_ret (v := .agg #[.int .u64 ((N : Int) + 1), .float .f64 x, .float .f64 0, .float .f64 x, .float .f64 x]) (by simp [results, Try.results12, go_sem]) rfl ⟨x, 0, by first | rfl | (rw [if_pos g1, if_pos g2]; rfl), HAM.out, hx, (by omega), by (repeat (first | with_reducible refine Below.alloc ?_ (by simp) _ | with_reducible refine Below.setCell ?_ (by simp) _ | with_reducible refine below_drewN ?_ _ | with_reducible exact Below.refl _ _))⟩
      · have g2' : ¬ 0 < ordQ x hi := g2
        go_wp2_with fail
        refine (hoh _).mono ?_
        rintro e w6 ⟨rfl, rfl⟩
        go_wp2_with fail
        exact bodyPost_ret (v := .agg #[.int .u64 ((N : Int) + 1), .float .f64 x, .float .f64 0, .float .f64 x, .float .f64 hi]) (by simp [results, Try.results12, go_sem]) rfl ⟨x, 0, by first | rfl | (rw [if_pos g1, if_pos g2]; rfl), HAM.out, hx, (by omega), by (repeat (first | with_reducible refine Below.alloc ?_ (by simp) _ | with_reducible refine Below.setCell ?_ (by simp) _ | with_reducible refine below_drewN ?_ _ | with_reducible exact Below.refl _ _))⟩
    · by_cases g2 : ordQ x hi > 0
      · have g2' : 0 < ordQ x hi := g2
        go_wp2_with fail
        refine (hoh _).mono ?_
        rintro e w6 ⟨rfl, rfl⟩
        go_wp2_with fail
        exact bodyPost_ret (v := .agg #[.int .u64 ((N : Int) + 1), .float .f64 x, .float .f64 0, .float .f64 lo, .float .f64 x]) (by simp [results, Try.results12, go_sem]) rfl ⟨x, 0, by first | rfl | (rw [if_pos g1, if_pos g2]; rfl), HAM.out, hx, (by omega), by (repeat (first | with_reducible refine Below.alloc ?_ (by simp) _ | with_reducible refine Below.setCell ?_ (by simp) _ | with_reducible refine below_drewN ?_ _ | with_reducible exact Below.refl _ _))⟩
      · have g2' : ¬ 0 < ordQ x hi := g2
        go_wp2_with fail
        refine (hoh _).mono ?_
        rintro e w6 ⟨rfl, rfl⟩
        go_wp2_with fail
        exact bodyPost_ret (v := .agg #[.int .u64 ((N : Int) + 1), .float .f64 x, .float .f64 0, .float .f64 lo, .float .f64 hi]) (by simp [results, Try.results12, go_sem]) rfl ⟨x, 0, by first | rfl | (rw [if_pos g1, if_pos g2]; rfl), HAM.out, hx, (by omega), by (repeat (first | with_reducible refine Below.alloc ?_ (by simp) _ | with_reducible refine Below.setCell ?_ (by simp) _ | with_reducible refine below_drewN ?_ _ | with_reducible exact Below.refl _ _))⟩
  · have z3 : ((N : Int) + 1 == 1) = false := by simp; omega
    go_enter Try.func12, Try.ntmps12
    go_wp2_with fail
    refine andThen_fop (C := fun z => Oper.upon _ _ _ _ _ z) .sub (by simp) _ _ _ _ ?_
    intro d n1 hd hd2
    go_wp2_with fail
    refine andThen_fop (C := fun z => Oper.upon _ _ _ _ _ z) .quo (by simp) _ _ _ _ ?_
    intro q n2 hq hq2
    go_wp2_with fail
    refine andThen_fop (C := fun z => Oper.upon _ _ _ _ _ z) .add (by simp) _ _ _ _ ?_
    intro mm n3 hmm hmm2
    go_wp2_with fail
    refine andThen_fop (C := fun z => Oper.upon _ _ _ _ _ z) .sub (by simp) _ _ _ _ ?_
    intro f n4 hf hf2
    go_wp2_with fail
    refine andThen_fop (C := fun z => Oper.upon _ _ _ _ _ z) .mul (by simp) _ _ _ _ ?_
    intro p n5 hp hp2
    go_wp2_with fail
    refine andThen_fop (C := fun z => Oper.upon _ _ _ _ _ z) .add (by simp) _ _ _ _ ?_
    intro ss n6 hss hss2
    go_wp2_with fail
    have HAM : Hid (AddM N m s x mm ss) := Lib.hid (by rw [AddM, if_neg hN0]; exact ⟨d, q, f, p, hd, hq, hmm, hf, hp, hss⟩)
    refine (hol _).mono ?_
    rintro e w5 ⟨rfl, rfl⟩
    by_cases g1 : ordQ x lo < 0
    · by_cases g2 : ordQ x hi > 0
      · have g2' : 0 < ordQ x hi := g2
        go_wp2_with fail
        refine (hoh _).mono ?_
        rintro e w6 ⟨rfl, rfl⟩
        go_wp2_with fail
        exact bodyPost_ret (v := .agg #[.int .u64 ((N : Int) + 1), .float .f64 mm, .float .f64 ss, .float .f64 x, .float .f64 x]) (by simp [results, Try.results12, go_sem]) rfl ⟨mm, ss, by first | rfl | (rw [if_pos g1, if_pos g2]; rfl), HAM.out, hmm2, hss2, by (repeat (first | with_reducible refine Below.alloc ?_ (by simp) _ | with_reducible refine Below.setCell ?_ (by simp) _ | with_reducible refine below_drewN ?_ _ | with_reducible exact Below.refl _ _))⟩
      · have g2' : ¬ 0 < ordQ x hi := g2
        go_wp2_with fail
        refine (hoh _).mono ?_
        rintro e w6 ⟨rfl, rfl⟩
        go_wp2_with fail
        exact bodyPost_ret (v := .agg #[.int .u64 ((N : Int) + 1), .float .f64 mm, .float .f64 ss, .float .f64 x, .float .f64 hi]) (by simp [results, Try.results12, go_sem]) rfl ⟨mm, ss, by first | rfl | (rw [if_pos g1, if_pos g2]; rfl), HAM.out, hmm2, hss2, by (repeat (first | with_reducible refine Below.alloc ?_ (by simp) _ | with_reducible refine Below.setCell ?_ (by simp) _ | with_reducible refine below_drewN ?_ _ | with_reducible exact Below.refl _ _))⟩
    · by_cases g2 : ordQ x hi > 0
      · have g2' : 0 < ordQ x hi := g2
        go_wp2_with fail
        refine (hoh _).mono ?_
        rintro e w6 ⟨rfl, rfl⟩
        go_wp2_with fail
        exact bodyPost_ret (v := .agg #[.int .u64 ((N : Int) + 1), .float .f64 mm, .float .f64 ss, .float .f64 lo, .float .f64 x]) (by simp [results, Try.results12, go_sem]) rfl ⟨mm, ss, by first | rfl | (rw [if_pos g1, if_pos g2]; rfl), HAM.out, hmm2, hss2, by (repeat (first | with_reducible refine Below.alloc ?_ (by simp) _ | with_reducible refine Below.setCell ?_ (by simp) _ | with_reducible refine below_drewN ?_ _ | with_reducible exact Below.refl _ _))⟩
      · have g2' : ¬ 0 < ordQ x hi := g2
        go_wp2_with fail
        refine (hoh _).mono ?_
        rintro e w6 ⟨rfl, rfl⟩
        go_wp2_with fail
        exact bodyPost_ret (v := .agg #[.int .u64 ((N : Int) + 1), .float .f64 mm, .float .f64 ss, .float .f64 lo, .float .f64 hi]) (by simp [results, Try.results12, go_sem]) rfl ⟨mm, ss, by first | rfl | (rw [if_pos g1, if_pos g2]; rfl), HAM.out, hmm2, hss2, by (repeat (first | with_reducible refine Below.alloc ?_ (by simp) _ | with_reducible refine Below.setCell ?_ (by simp) _ | with_reducible refine below_drewN ?_ _ | with_reducible exact Below.refl _ _))⟩
end Go.Proofs.Ytdociiogddihfaa
