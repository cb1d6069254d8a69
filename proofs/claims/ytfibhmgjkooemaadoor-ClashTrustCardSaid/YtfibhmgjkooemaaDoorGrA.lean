/- growth.turns, growth.Size. -/
import Derived.Test.YtfibhmgjkooemaaDoorRev
import Derived.Test.YtfibhmgjkooemaaDoorGrowthP
import Derived.Test.YtfibhmgjkooemaaDoorShelf
import Derived.Lib.ItoaNum
namespace Go.Proofs.YtfibhmgjkooemaaDoor
open Go.RowKit Sha Root Path Growth

theorem infoBool : (Tryd.prog.info? 4).map (fun i => (i.zero, i.size, i.bytes)) = some (some (.bool false), 1, 1) := by kernel_rfl
theorem top_len (n : Nat) (h2 : 2 ≤ n) (hn : n < 18446744073709551616) : 1 ≤ Lib.bitLen (n - 1) ∧ Lib.bitLen (n - 1) ≤ 64 ∧ top n = 2 ^ (Lib.bitLen (n - 1) - 1) := by
  obtain ⟨a, b, c⟩ := Lib.bitLenAux_bounds 64 (n - 1) (by omega) (by omega)
  refine ⟨a, Lib.bitLen_le (n - 1) 64 (by omega) (by omega), ?_⟩
  exact hi_unique (n - 1) _ b (by rw [Nat.sub_add_cancel (show 1 ≤ Lib.bitLen (n - 1) from a)]; exact c)
set_option maxHeartbeats 8000000 in
theorem turns_any (m n : Nat) (w : World) (hm : 1 ≤ m) (hmn : m ≤ n) (hn : n < 18446744073709551616) :
    Calls Tryd.prog 63 #[.int .u64 m, .int .u64 n] w fun e w' => ∃ va vc, e = .returned (.tuple #[.slice va (way m n).length vc, .bool (whole m n)]) ∧
      w'.ownsRow w.heap.size 4 1 (.slice va (way m n).length vc) (way m n).length (bw (way m n)) ∧ Below w.heap.size w w' := by
  have hwl := way_length n m n 64 (Nat.le_refl _) hm hmn (by omega)
  obtain ⟨WY, hWY⟩ : ∃ x, x = way m n := ⟨_, rfl⟩
  obtain ⟨OL, hOL⟩ : ∃ x, x = whole m n := ⟨_, rfl⟩
  rw [← hWY] at hwl
  rw [← hWY, ← hOL]
  have H0 := Lib.hid (And.intro hWY hOL)
  clear hWY hOL
  go_enter Tryd.func63, Tryd.ntmps63
  go_wp2_with fail
  go_loopw [0, 1, 4, 5] (fun s0 s1 s4 s5 wr => ∃ (m' n' : Nat) (acc : List Bool) (o : Bool) (pa : Option Addr) (pc : Nat), s0 = .int .u64 m' ∧ s1 = .int .u64 n' ∧ s4 = .slice pa acc.length pc ∧ s5 = .bool o ∧ 1 ≤ m' ∧ m' ≤ n' ∧ n' < 18446744073709551616 ∧
    wr.ownsRow w.heap.size 4 1 (.slice pa acc.length pc) acc.length (bw acc) ∧ Below w.heap.size w wr ∧ WY = way m' n' ++ acc.reverse ∧ OL = (o && whole m' n')) (fun _ s1 _ _ _ => (intOf s1).toNat)
  case atStart => exact ⟨m, n, [], true, none, 0, rfl, rfl, rfl, rfl, hm, hmn, hn, World.ownsRow_nil _ _ _ _, Below.refl _ _, by rw [H0.out.1]; simp, by rw [H0.out.2]; simp⟩
  case round =>
    obtain ⟨m', n', acc, o, pa, pc, rfl, rfl, rfl, rfl, hm1, hmn1, hn1, hown, hbw, hwy, hol⟩ := hrel
    have hal : acc.length ≤ 64 := by
      have := congrArg List.length hwy
      rw [List.length_append, List.length_reverse] at this
      omega
    have hB := hbw.size
    by_cases heq : m' = n'
    · have z1 : ((m' : Int) != (n' : Int)) = false := by simp; omega
      rw [heq, way_same, List.nil_append] at hwy
      rw [heq, whole_same, Bool.and_true] at hol
      subst hol
      have HW := Lib.hid hwy
      have HO := Lib.hid (And.intro hown hbw)
      obtain ⟨la, hla⟩ : ∃ l, l = acc.length := ⟨_, rfl⟩
      have hrev := RevBool_any acc (.slice pa acc.length pc) wr w.heap.size (by omega) hown
      rw [← hla] at hrev ⊢
      have HR := Lib.hid hrev
      have HLA := Lib.hid hla
      clear hwy hown hrev hla
      go_wp2_with fail
      refine HR.out.mono ?_
      rintro e w2 ⟨rfl, ho2, hg2⟩
      have hlw : WY.length = la := by rw [HW.out, List.length_reverse, HLA.out]
      have hb2 : Below w.heap.size w w2 := hbw.trans ⟨hg2.os, hg2.tape, hg2.output, hg2.size, fun q hq => hg2.block q (by omega) (fun e => by have h1 := own_block HO.out.1 q; rw [← HLA.out] at h1; have := h1 e.symm; omega)⟩
      rw [← HW.out] at ho2
      have H2 := Lib.hid (And.intro ho2 hb2)
      clear ho2 hg2 hb2
      go_wp2_with fail
      go_ret2
      rw [hlw]
      exact ⟨_, _, rfl, H2.out.1, H2.out.2⟩
    · have z1 : ((m' : Int) != (n' : Int)) = true := by simp; omega
      have z2 : IntKind.u64.wrap ((n' : Int) - 1) = ((n' - 1 : Nat) : Int) := (IntWalk.u64_in _ (by omega)).trans (by omega)
      obtain ⟨hb1, hb64, htop⟩ := top_len n' (by omega) hn1
      have hlen := fun wx => Tryd.bits_Len64 ((n' - 1 : Nat) : Int) wx (by omega) (by omega)
      rw [Int.toNat_natCast] at hlen
      have htl := top_lt n' (by omega)
      have htp := top_pos n'
      obtain ⟨K, hK⟩ : ∃ k, k = top n' := ⟨_, rfl⟩
      rw [← hK] at htop htl htp
      obtain ⟨d, hd⟩ : ∃ d, Lib.bitLen (n' - 1) = d + 1 := ⟨Lib.bitLen (n' - 1) - 1, by omega⟩
      rw [hd] at hlen hb64
      rw [hd, Nat.add_sub_cancel] at htop
      have z3 : (1 : Int) * 2 ^ d = (K : Int) := by rw [htop]; simp
      have z3b : (2 : Int) ^ d = (K : Int) := by rw [htop]; simp
      have z4 : IntKind.u64.wrap (K : Int) = (K : Int) := IntWalk.u64_in _ (by omega)
      have z5 : IntKind.i64.wrap (((d + 1 : Nat) : Int) - 1) = (d : Int) := (IntWalk.i64_in _ (by omega)).trans (by omega)
      have z5b : IntKind.i64.wrap ((d : Int) + 1 - 1) = (d : Int) := (IntWalk.i64_in _ (by omega)).trans (by omega)
      have z6 : (d : Int) ≤ 64 := by omega
      have HL := Lib.hid hlen
      have hwl' := fun (h : m' ≤ K) => way_left m' n' hm1 (by omega) (by rw [← hK]; exact h)
      have hwr' := fun (h : K < m') => way_right m' n' (by omega) (by rw [← hK]; exact h)
      have hol' := fun (h : m' ≤ K) => whole_left m' n' hm1 (by omega) (by rw [← hK]; exact h)
      have hor' := fun (h : K < m') => whole_right m' n' (by omega) (by rw [← hK]; exact h)
      rw [← hK] at hwl' hwr' hol'
      have HWY := Lib.hid (And.intro hwl' (And.intro hwr' (And.intro hol' (And.intro hor' (And.intro hwy hol)))))
      have HO := Lib.hid (And.intro hown hbw)
      clear hlen hwl' hwr' hol' hor' hwy hol hown hbw hK htop hd
      go_wp2_with fail
      refine (HL.out _).mono ?_
      rintro e w1 ⟨rfl, rfl⟩
      by_cases hmk : m' ≤ K
      · have z7 : (m' : Int) ≤ (K : Int) := by omega
        go_wp2_with (at_builtin; refine wpList_app (o := ⟨some 20, _, _, _, _, _⟩) Tryd.underlying73 infoBool rfl (by decide) rfl _ _ rfl rfl rfl (own_keep HO.out.1 ((Below.refl _ _).alloc (Nat.le_refl _) _)) (Rd.one _ (.bool false) _ rfl) (by omega) (by omega) (by simp; omega) ?_; intro v5 w5 how5 hg5 _)
        replace hg5 := hg5.alloc
        change Grew w1 w5 (.slice pa acc.length pc) v5 at hg5
        have hb5 := HO.out.2.trans (hg5.below hB (own_block HO.out.1))
        obtain ⟨pa5, pc5, rfl⟩ := own_form how5
        have H5 := Lib.hid (And.intro how5 hb5)
        clear how5 hg5 hb5
        go_wp2_with fail
        go_roundw
        case rel =>
          obtain ⟨h1, _, h3, _, h5, h6⟩ := HWY.out
          refine ⟨m', K, acc ++ [false], o, pa5, pc5, rfl, rfl, by rw [List.length_append]; rfl, rfl, hm1, hmk, by omega, ?_, H5.out.2, by rw [h5, h1 hmk]; simp, by rw [h6, h3 hmk]⟩
          rw [List.length_append, bw, List.map_append]; exact H5.out.1
        case measure => simp [intOf]; omega
      · have z7 : ¬ (m' : Int) ≤ (K : Int) := by omega
        have z8 : IntKind.u64.wrap ((m' : Int) - (K : Int)) = ((m' - K : Nat) : Int) := (IntWalk.u64_in _ (by omega)).trans (by omega)
        have z9 : IntKind.u64.wrap ((n' : Int) - (K : Int)) = ((n' - K : Nat) : Int) := (IntWalk.u64_in _ (by omega)).trans (by omega)
        go_wp2_with (at_builtin; refine wpList_app (o := ⟨some 24, _, _, _, _, _⟩) Tryd.underlying73 infoBool rfl (by decide) rfl _ _ rfl rfl rfl (own_keep HO.out.1 ((Below.refl _ _).alloc (Nat.le_refl _) _)) (Rd.one _ (.bool true) _ rfl) (by omega) (by omega) (by simp; omega) ?_; intro v5 w5 how5 hg5 _)
        replace hg5 := hg5.alloc
        change Grew w1 w5 (.slice pa acc.length pc) v5 at hg5
        have hb5 := HO.out.2.trans (hg5.below hB (own_block HO.out.1))
        obtain ⟨pa5, pc5, rfl⟩ := own_form how5
        have H5 := Lib.hid (And.intro how5 hb5)
        clear how5 hg5 hb5
        go_wp2_with fail
        go_roundw
        case rel =>
          obtain ⟨_, h2, _, h4, h5, h6⟩ := HWY.out
          refine ⟨m' - K, n' - K, acc ++ [true], false, pa5, pc5, rfl, rfl, by rw [List.length_append]; rfl, rfl, by omega, by omega, by omega, ?_, H5.out.2, by rw [h5, h2 (by omega)]; simp, by rw [h6, h4 (by omega)]; simp⟩
          rw [List.length_append, bw, List.map_append]; exact H5.out.1
        case measure => simp [intOf]; omega
end Go.Proofs.YtfibhmgjkooemaaDoor
