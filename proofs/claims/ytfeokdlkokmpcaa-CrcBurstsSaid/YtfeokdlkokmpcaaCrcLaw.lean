/- The laws of crc: their fixed answer. -/
import Derived.Test.YtfeokdlkokmpcaaCrc4
import Derived.Test.YtfeokdlkokmpcaaReg
import Derived.Test.YtfeokdlkokmpcaaOpen
import Derived.Lib.SlBytesConst
namespace Go.Proofs.Ytfeokdlkokmpcaa
open Go.RowKit

theorem sum_123 : Crc.sum [49, 50, 51, 52, 53, 54, 55, 56, 57] = 3808858755 := by decide +kernel
theorem join_530 : Crc.join 5 3 0 = 6 := by decide +kernel

theorem Rd.marked (w : World) (e : TypeId) (l : List UInt8) (fr : Nat × Nat) : Rd (w.alloc (.cells (bv l).toArray e fr)) 1 (.slice (some ⟨w.heap.size, 0, none⟩) l.length l.length) l.length (bv l) := by
  refine ⟨by simp [bv_length], bv_one _, .inr ⟨_, _, rfl, Nat.le_refl _, fun j u hu => ?_⟩⟩
  rw [Addr.add_lit, Nat.zero_add, cell_of_row _ w.heap.size j (bv l).toArray e fr (heap_alloc_new _ _)]
  simpa using hu

set_option maxHeartbeats 400000 in
theorem awake02_any (w : World) : Calls Try.prog 9 #[] w fun e w' => e = .returned (.bool true) ∧ Below w.heap.size w w' := by
  have kc := fun (w : World) (C : Array Value) (n c : Nat) => Lib.run_convert_bytes_const (P := Try.prog) w 22 5 C n c Try.underlying22 Try.underlying5
  go_enter Try.func9, Try.ntmps9
  go_wp2_with fail
  clear kc
  have hr := Rd.marked w 5 [49, 50, 51, 52, 53, 54, 55, 56, 57] (9, 10)
  refine (Sum_any _ [49, 50, 51, 52, 53, 54, 55, 56, 57] _ (by simp) hr).mono ?_
  rintro e w1 ⟨rfl, hb1⟩
  rw [sum_123]
  go_wp2_with fail
  refine (Join_any 5 3 0 _ (by omega) (by omega) (by omega)).mono ?_
  rintro e w2 ⟨rfl, hb2⟩
  rw [join_530]
  go_wp2_with fail
  go_ret
  exact ⟨rfl, (((Below.refl _ _).alloc (Nat.le_refl _) _).trans (hb1.mono (by simp))).trans (hb2.mono (by have := hb1.size; simp at this; omega))⟩

set_option maxHeartbeats 400000 in
theorem crcSums_walk (v : Value) (l : List UInt8) (s : Nat) (w : World) (hs : s < 4294967296) (hl : l.length ≤ 140737488355328) (hr : Rd w 1 v l.length (bv l)) :
    Calls Try.prog 3 #[v, .int .u32 s] w fun e w' => e = .returned (.bool true) ∧ Below w.heap.size w w' := by
  go_enter Try.func3, Try.ntmps3
  go_wp2_with fail
  refine (awake02_any _).mono ?_
  rintro e w1 ⟨rfl, hb1⟩
  have hs1 := hb1.size
  go_wp2_with fail
  refine (Sum_any v l _ hl (hr.keep hb1)).mono ?_
  rintro e w2 ⟨rfl, hb2⟩
  have hs2 := hb2.size
  have hb2' := hb1.trans (hb2.mono hs1)
  go_wp2_with fail
  refine (refSum_any v l _ hl (hr.keep hb2')).mono ?_
  rintro e w3 ⟨rfl, rfl⟩
  go_wp2_with fail
  refine (More_any s v l _ hs hl (hr.keep hb2')).mono ?_
  rintro e w3 ⟨rfl, hb3⟩
  have hb3' := hb2'.trans (hb3.mono (by omega))
  go_wp2_with fail
  refine (refMore_any s v l _ hs hl (hr.keep hb3')).mono ?_
  rintro e w4 ⟨rfl, rfl⟩
  go_wp2_with fail
  go_ret
  exact ⟨rfl, hb3'⟩

set_option maxHeartbeats 400000 in
theorem crcJoins_walk (a b n : Nat) (w : World) (ha : a < 4294967296) (hb : b < 4294967296) (hn : n < 18446744073709551616) :
    Calls Try.prog 4 #[.int .u32 a, .int .u32 b, .int .u64 n] w fun e w' => e = .returned (.bool true) ∧ Below w.heap.size w w' := by
  by_cases h : 65536 < n
  · have hz : (65536 : Int) < (n : Int) := by omega
    go_enter Try.func4, Try.ntmps4
    go_wp2_with fail
    refine (awake02_any _).mono ?_
    rintro e w1 ⟨rfl, hb1⟩
    go_wp2_with fail
    go_ret
    exact ⟨rfl, hb1⟩
  · have hz : ¬ (65536 : Int) < (n : Int) := by omega
    go_enter Try.func4, Try.ntmps4
    go_wp2_with fail
    refine (awake02_any _).mono ?_
    rintro e w1 ⟨rfl, hb1⟩
    go_wp2_with fail
    refine (Join_any a b n _ ha hb hn).mono ?_
    rintro e w2 ⟨rfl, hb2⟩
    go_wp2_with fail
    refine (refJoin_any a b n _ ha hb (by omega)).mono ?_
    rintro e w3 ⟨rfl, rfl⟩
    go_wp2_with fail
    go_ret
    exact ⟨rfl, hb1.trans (hb2.mono hb1.size)⟩
end Go.Proofs.Ytfeokdlkokmpcaa
