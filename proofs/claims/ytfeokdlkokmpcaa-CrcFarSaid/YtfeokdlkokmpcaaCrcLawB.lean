/- The law CrcFar: sums of texts, however long, join in any grouping; and each of both counts by itself. -/
import Derived.Test.YtfeokdlkokmpcaaCrcLaw
namespace Go.Proofs.Ytfeokdlkokmpcaa
open Go.ChangeShapes Go.WideShapes Go.ChangeAt Go.RowKit

theorem far_a (a b n : Nat) : Crc.join a b n = Crc.join a 0 n ^^^ b := by unfold Crc.join; rw [Nat.xor_zero]
theorem far_b (a c n : Nat) : Crc.join (a ^^^ c) 0 n = Crc.join a 0 n ^^^ Crc.join c 0 n := by unfold Crc.join; simp [Crc.sn_xor]

set_option maxHeartbeats 1000000 in
theorem crcFar_walk (a b c n m : Nat) (w : World) (ha : a < 4294967296) (hb : b < 4294967296) (hc : c < 4294967296) (hn : n < 18446744073709551616) (hm : m < 18446744073709551616) :
    Calls Try.prog 6 #[.int .u32 a, .int .u32 b, .int .u32 c, .int .u64 n, .int .u64 m] w fun e w' => e = .returned (.bool true) ∧ Below w.heap.size w w' := by
  by_cases h : n + m < 18446744073709551616
  · go_enter Try.func6, Try.ntmps6
    go_wp2_with fail
    refine (awake02_any _).mono ?_
    rintro e w1 ⟨rfl, hb1⟩
    have hs1 := hb1.size
    go_wp2_with fail
    have hb1' := hb1
    have j1 := Crc.join_lt n ha hb
    have j2 := Crc.join_lt m hb hc
    have j0 : a ^^^ c < 4294967296 := Nat.xor_lt_two_pow (n := 32) ha hc
    have hx1 := u32_xor_nat a c ha hc
    have jj := Crc.join_join a b c n m
    have fa := far_a a b n
    have fb := far_b a c n
    have ja := Crc.join_lt n ha (show 0 < 2 ^ 32 by decide)
    have jc := Crc.join_lt n hc (show 0 < 2 ^ 32 by decide)
    have hx2 := u32_xor_nat (Crc.join a 0 n) b ja hb
    have hx3 := u32_xor_nat (Crc.join a 0 n) (Crc.join c 0 n) ja jc
    rw [← fa] at hx2
    rw [← fb] at hx3
    have JJ := Lib.hid jj
    clear jj fa fb
    refine (Join_any a b n _ ha hb hn).mono ?_
    rintro e w2 ⟨rfl, hb2⟩
    have hb2' := hb1'.trans (hb2.mono (by omega))
    have hs2 := hb2.size
    go_wp2_with fail
    refine (Join_any (Crc.join a b n) c m _ j1 hc hm).mono ?_
    rintro e w3 ⟨rfl, hb3⟩
    have hb3' := hb2'.trans (hb3.mono (by omega))
    have hs3 := hb3.size
    go_wp2_with fail
    refine (Join_any b c m _ hb hc hm).mono ?_
    rintro e w4 ⟨rfl, hb4⟩
    have hb4' := hb3'.trans (hb4.mono (by omega))
    have hs4 := hb4.size
    go_wp2_with fail
    rw [show ((n : Int) + (m : Int)) = ((n + m : Nat) : Int) from by omega]
    refine (Join_any a (Crc.join b c m) (n + m) _ ha j2 h).mono ?_
    rintro e w5 ⟨rfl, hb5⟩
    have hb5' := hb4'.trans (hb5.mono (by omega))
    have hs5 := hb5.size
    rw [JJ.out]
    go_wp2_with fail
    refine (Join_any a b n _ ha hb hn).mono ?_
    rintro e w6 ⟨rfl, hb6⟩
    have hb6' := hb5'.trans (hb6.mono (by omega))
    have hs6 := hb6.size
    go_wp2_with fail
    refine (Join_any a 0 n _ ha (by omega) hn).mono ?_
    rintro e w7 ⟨rfl, hb7⟩
    have hb7' := hb6'.trans (hb7.mono (by omega))
    have hs7 := hb7.size
    go_wp2_with fail
    refine (Join_any (a ^^^ c) 0 n _ j0 (by omega) hn).mono ?_
    rintro e w8 ⟨rfl, hb8⟩
    have hb8' := hb7'.trans (hb8.mono (by omega))
    have hs8 := hb8.size
    go_wp2_with fail
    refine (Join_any a 0 n _ ha (by omega) hn).mono ?_
    rintro e w9 ⟨rfl, hb9⟩
    have hb9' := hb8'.trans (hb9.mono (by omega))
    have hs9 := hb9.size
    go_wp2_with fail
    refine (Join_any c 0 n _ hc (by omega) hn).mono ?_
    rintro e w10 ⟨rfl, hb10⟩
    have hb10' := hb9'.trans (hb10.mono (by omega))
    have hs10 := hb10.size
    go_wp2_with fail
    go_ret
    exact ⟨by simp, hb10'⟩
  · obtain ⟨q, hq⟩ : ∃ q, q + 18446744073709551616 = n + m := ⟨n + m - 18446744073709551616, by omega⟩
    have hw : IntKind.u64.wrap ((n : Int) + (m : Int)) = (q : Int) := by rw [IntKind.wrap_u64]; omega
    have hqn : (q : Int) < (n : Int) := by omega
    clear hq h
    go_enter Try.func6, Try.ntmps6
    go_wp2_with fail
    refine (awake02_any _).mono ?_
    rintro e w1 ⟨rfl, hb1⟩
    go_wp2_with fail
    go_ret
    exact ⟨rfl, hb1⟩

theorem crcFar.law (H : Type) (enc : TypeId × Value → H) (W : World) (base : Nat)
    (v0 : Value) (d0 : DataW H) (p0 : List MemPlace) (g0 : Value.okWide Try.prog W .any base 23 v0) (h0 : DataW.Trod enc Try.prog W 0 (fun _ => true) true 23 v0 d0 p0)
    (v1 : Value) (d1 : DataW H) (p1 : List MemPlace) (g1 : Value.okWide Try.prog W .any base 23 v1) (h1 : DataW.Trod enc Try.prog W 0 (fun _ => true) true 23 v1 d1 p1)
    (v2 : Value) (d2 : DataW H) (p2 : List MemPlace) (g2 : Value.okWide Try.prog W .any base 23 v2) (h2 : DataW.Trod enc Try.prog W 0 (fun _ => true) true 23 v2 d2 p2)
    (v3 : Value) (d3 : DataW H) (p3 : List MemPlace) (g3 : Value.okWide Try.prog W .any base 28 v3) (h3 : DataW.Trod enc Try.prog W 0 (fun _ => true) true 28 v3 d3 p3)
    (v4 : Value) (d4 : DataW H) (p4 : List MemPlace) (g4 : Value.okWide Try.prog W .any base 28 v4) (h4 : DataW.Trod enc Try.prog W 0 (fun _ => true) true 28 v4 d4 p4)
    {ts : List TypeId} {es : List (DataW H)} (_hsz : (DataW.weightsEach Try.prog ([23, 23, 23, 28, 28] ++ ts) ([d0, d1, d2, d3, d4] ++ es)).all (· ≤ reachBytes) = true) :
    Calls Try.prog 6 #[v0, v1, v2, v3, v4] W fun e W' => e = .returned (.bool true) ∧ Below W.heap.size W W' := by
  obtain ⟨a, rfl, _, _, wa⟩ := open_int Try.underlying23 g0 h0
  obtain ⟨a, rfl, ha⟩ := u32_nat wa
  obtain ⟨b, rfl, _, _, wb⟩ := open_int Try.underlying23 g1 h1
  obtain ⟨b, rfl, hb⟩ := u32_nat wb
  obtain ⟨c, rfl, _, _, wc⟩ := open_int Try.underlying23 g2 h2
  obtain ⟨c, rfl, hc⟩ := u32_nat wc
  obtain ⟨n, rfl, _, _, wn⟩ := open_int Try.underlying28 g3 h3
  obtain ⟨n, rfl, hn⟩ := u64_nat wn
  obtain ⟨m, rfl, _, _, wm⟩ := open_int Try.underlying28 g4 h4
  obtain ⟨m, rfl, hm⟩ := u64_nat wm
  exact crcFar_walk a b c n m W ha hb hc hn hm
end Go.Proofs.Ytfeokdlkokmpcaa
