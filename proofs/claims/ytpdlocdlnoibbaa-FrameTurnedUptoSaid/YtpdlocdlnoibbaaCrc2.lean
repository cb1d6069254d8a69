/- Contracts of crc.More and crc.Sum. -/
import Derived.Test.YtpdlocdlnoibbaaCrc
namespace Go.Proofs.Ytpdlocdlnoibbaa
open Go.RowKit

theorem and15 (d : Nat) (hd : d < 4294967296) : bits .and .u32 (d : Int) 15 = ((d % 16 : Nat) : Int) := by
  have := u32_and_nat d 15 hd (by omega)
  rw [show (15 : Nat) = 2 ^ 4 - 1 from rfl, Nat.and_two_pow_sub_one_eq_mod] at this
  exact this
/-- Four steps by the table. -/
theorem nib4 (d : Nat) (hd : d < 4294967296) : bits .xor .u32 ((d : Int) / 16) ((Crc.sn 4 (d % 16) : Nat) : Int) = ((Crc.sn 4 d : Nat) : Int) := by
  have h := Crc.sn_low 4 d
  rw [h]
  have h2 : Crc.sn 4 (d % 16) < 4294967296 := Crc.sn_lt 4 (by omega)
  exact u32_xor_nat (d / 16) (Crc.sn 4 (d % 16)) (by omega) h2
theorem lit_get (i : Nat) (h : i < 16) : (#[.int .u32 0, .int .u32 274646895, .int .u32 549293790, .int .u32 820201905, .int .u32 1098587580, .int .u32 1361435347, .int .u32 1640403810, .int .u32 1905808397, .int .u32 2197175160, .int .u32 2460548119, .int .u32 2722870694, .int .u32 2987750089, .int .u32 3280807620, .int .u32 3553878443, .int .u32 3811616794, .int .u32 4084100981] : Array Value)[i]? = some (.int .u32 ((Crc.sn 4 i : Nat) : Int)) := by
  rw [← nibAt_all, nibAt_get 16 i h, if_pos h]

set_option maxHeartbeats 800000 in
theorem More_any (s : Nat) (v : Value) (l : List UInt8) (w : World) (hs : s < 4294967296) (hl : l.length ≤ 140737488355328) (hr : Rd w 1 v l.length (bv l)) :
    Calls Try.prog 51 #[.int .u32 s, v] w fun e w' => e = .returned (.int .u32 (Crc.more s l)) ∧ Below w.heap.size w w' := by
  obtain ⟨a, cp, rfl⟩ := hr.form
  have hnot := notU32 s hs
  have hc0 : s ^^^ Crc.full < 4294967296 := Nat.xor_lt_two_pow (n := 32) hs Crc.full_lt
  have HM := Lib.hid (show Crc.more s l = Crc.st (s ^^^ Crc.full) l ^^^ Crc.full from rfl)
  go_enter Try.func51, Try.ntmps51
  go_wp2_with fail
  refine (nibbles_any w).mono ?_
  rintro e w1 ⟨rfl, hb1⟩
  go_wp2_with fail
  generalize s ^^^ Crc.full = c0 at *
  obtain ⟨wt, hwt⟩ : ∃ wt : World, wt = w1.alloc (.cells #[.int .u32 0, .int .u32 274646895, .int .u32 549293790, .int .u32 820201905, .int .u32 1098587580, .int .u32 1361435347, .int .u32 1640403810, .int .u32 1905808397, .int .u32 2197175160, .int .u32 2460548119, .int .u32 2722870694, .int .u32 2987750089, .int .u32 3280807620, .int .u32 3553878443, .int .u32 3811616794, .int .u32 4084100981] 73) := ⟨_, rfl⟩
  rw [← hwt]
  have hcellT : ∀ i, i < 16 → wt.cell? ⟨w1.heap.size, i, none⟩ = some (.int .u32 ((Crc.sn 4 i : Nat) : Int)) := fun i hi => by
    rw [hwt, World.cell?_alloc_at _ _ _ _ rfl]; exact lit_get i hi
  have hbt : Below w.heap.size w wt := by rw [hwt]; exact hb1.alloc hb1.size _
  clear hwt
  have hrt := hr.keep hbt
  go_loop [6, 14] (fun s6 s14 => ∃ k : Nat, k ≤ l.length ∧ s14 = .int .i64 k ∧ s6 = .int .u32 (Crc.st c0 (l.take k))) (fun _ i => l.length - (intOf i).toNat)
  case atStart => exact ⟨0, Nat.zero_le _, rfl, rfl⟩
  case round =>
    obtain ⟨k, hk, rfl, rfl⟩ := hrel
    have hst := Crc.st_lt (l.take k) (c := c0) hc0
    by_cases hlt : k < l.length
    · have hkz : (k : Int) < (l.length : Int) := by omega
      have hk0 : (0 : Int) ≤ (k : Int) := by omega
      have hsn := st_snoc c0 l k hlt
      obtain ⟨b, off, c, hv, hcp, hcell⟩ := hrt.at (by omega)
      simp only [Value.slice.injEq, true_and] at hv
      obtain ⟨rfl, rfl⟩ := hv
      have hld := hcell k (.int .u8 l[k].toNat) (by simp [bv, List.getElem?_eq_getElem hlt])
      have hx8 : l[k].toNat < 256 := l[k].toNat_lt
      clear hcell hr hrt
      generalize l[k] = x at *
      generalize hS : Crc.st c0 (l.take k) = S at *
      have hx := u32_xor_nat S x.toNat hst (by omega)
      have hD : S ^^^ x.toNat < 4294967296 := Nat.xor_lt_two_pow (n := 32) hst (by omega)
      generalize S ^^^ x.toNat = D at *
      have hE : Crc.sn 4 D < 4294967296 := Crc.sn_lt 4 hD
      have hsn2 : Crc.st c0 (l.take (k + 1)) = Crc.sn 4 (Crc.sn 4 D) := by rw [hsn, ← Crc.sn_add]
      have ha1 := and15 D hD
      have hx1 := nib4 D hD
      have ht1 := hcellT (D % 16) (by omega)
      have hq1 : D % 16 < 16 := by omega
      generalize Crc.sn 4 D = E at *
      have ha2 := and15 E hE
      have hx2 := nib4 E hE
      have ht2 := hcellT (E % 16) (by omega)
      have hq2 : E % 16 < 16 := by omega
      have HSN := Lib.hid hsn2
      clear hsn hsn2 hS hcellT
      generalize Crc.sn 4 E = F at *
      generalize hT1 : Crc.sn 4 (D % 16) = T1 at *
      generalize hT2 : Crc.sn 4 (E % 16) = T2 at *
      clear hT1 hT2
      generalize D % 16 = d1 at *
      generalize E % 16 = d2 at *
      go_wp2_with fail
      go_round
      case rel => exact ⟨k + 1, by omega, by go_num, by rw [HSN.out]⟩
      case measure => simp [intOf]; omega
    · have hkz : ¬ (k : Int) < (l.length : Int) := by omega
      have hS : Crc.st c0 (l.take k) = Crc.st c0 l := by rw [List.take_of_length_le (by omega)]
      have hnot2 := notU32 (Crc.st c0 (l.take k)) hst
      have HS := Lib.hid hS
      clear hS hcellT
      go_wp2_with fail
      go_ret
      exact ⟨ret_int (by rw [HM.out, ← HS.out]), hbt⟩

theorem Sum_any (v : Value) (l : List UInt8) (w : World) (hl : l.length ≤ 140737488355328) (hr : Rd w 1 v l.length (bv l)) :
    Calls Try.prog 45 #[v] w fun e w' => e = .returned (.int .u32 (Crc.sum l)) ∧ Below w.heap.size w w' := by
  go_enter Try.func45, Try.ntmps45
  go_wp2_with fail
  refine (More_any 0 v l w (by omega) hl hr).mono ?_
  rintro e w' ⟨rfl, hb⟩
  go_wp2_with fail
  go_ret
  exact ⟨rfl, hb⟩
end Go.Proofs.Ytpdlocdlnoibbaa
