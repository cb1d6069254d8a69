/- The laws of mac: what is awake. -/
import Derived.Test.YtkcnakijfmemlaaDoorMac4
namespace Go.Proofs.YtkcnakijfmemlaaDoor
open Go.ChangeShapes Go.WideShapes Go.ChangeAt Go.RowKit Sha

theorem Rd.marked (w : World) (e : TypeId) (l : List UInt8) (fr : Nat × Nat) : Rd (w.alloc (.cells (bv l).toArray e fr)) 1 (.slice (some ⟨w.heap.size, 0, none⟩) l.length l.length) l.length (bv l) := by
  refine ⟨by simp [bv_length], bv_one _, .inr ⟨_, _, rfl, Nat.le_refl _, fun j u hu => ?_⟩⟩
  rw [Addr.add_lit, Nat.zero_add, cell_of_row _ w.heap.size j (bv l).toArray e fr (heap_alloc_new _ _)]
  simpa using hu

set_option maxHeartbeats 4000000 in
set_option maxRecDepth 100000 in
theorem awake04_any (w : World) (hG : Tabs w) : Calls Tryd.prog 20 #[] w fun e w' => e = .returned (.bool true) ∧ Below w.heap.size w w' := by
  have hz := (zero_of_info info32).1
  have kc := Lib.run_convert_bytes_const (P := Tryd.prog) w 22 5 #[Value.int .u8 107, Value.int .u8 101, Value.int .u8 121] 3 3 Tryd.underlying22 Tryd.underlying5
  have kc2 := Lib.run_convert_bytes_const (P := Tryd.prog) (w.alloc (.cells #[Value.int .u8 107, Value.int .u8 101, Value.int .u8 121] 5 (3, 4))) 22 5 #[Value.int .u8 84, Value.int .u8 104, Value.int .u8 101, Value.int .u8 32, Value.int .u8 113, Value.int .u8 117, Value.int .u8 105, Value.int .u8 99, Value.int .u8 107, Value.int .u8 32, Value.int .u8 98, Value.int .u8 114, Value.int .u8 111, Value.int .u8 119, Value.int .u8 110, Value.int .u8 32, Value.int .u8 102, Value.int .u8 111, Value.int .u8 120, Value.int .u8 32, Value.int .u8 106, Value.int .u8 117, Value.int .u8 109, Value.int .u8 112, Value.int .u8 115, Value.int .u8 32, Value.int .u8 111, Value.int .u8 118, Value.int .u8 101, Value.int .u8 114, Value.int .u8 32, Value.int .u8 116, Value.int .u8 104, Value.int .u8 101, Value.int .u8 32, Value.int .u8 108, Value.int .u8 97, Value.int .u8 122, Value.int .u8 121, Value.int .u8 32, Value.int .u8 100, Value.int .u8 111, Value.int .u8 103] 43 43 Tryd.underlying22 Tryd.underlying5
  have hsz1 : (w.alloc (.cells #[Value.int .u8 107, Value.int .u8 101, Value.int .u8 121] 5 (3, 4))).heap.size = w.heap.size + 1 := by simp
  rw [hsz1] at kc2
  go_enter Tryd.func20, Tryd.ntmps20
  go_wp2_with fail
  clear kc kc2
  have hb0 : Below w.heap.size w (w.alloc (.cells #[Value.int .u8 107, Value.int .u8 101, Value.int .u8 121] 5 (3, 4))) := (Below.refl _ _).alloc (Nat.le_refl _) _
  have hr0 := (Rd.marked w 5 [107, 101, 121] (3, 4)).alloc (.cells (bv [84, 104, 101, 32, 113, 117, 105, 99, 107, 32, 98, 114, 111, 119, 110, 32, 102, 111, 120, 32, 106, 117, 109, 112, 115, 32, 111, 118, 101, 114, 32, 116, 104, 101, 32, 108, 97, 122, 121, 32, 100, 111, 103]).toArray 5 (43, 44))
  have hr1 := Rd.marked (w.alloc (.cells #[Value.int .u8 107, Value.int .u8 101, Value.int .u8 121] 5 (3, 4))) 5 [84, 104, 101, 32, 113, 117, 105, 99, 107, 32, 98, 114, 111, 119, 110, 32, 102, 111, 120, 32, 106, 117, 109, 112, 115, 32, 111, 118, 101, 114, 32, 116, 104, 101, 32, 108, 97, 122, 121, 32, 100, 111, 103] (43, 44)
  rw [hsz1] at hr1
  have hb1 := hb0.alloc (by simp) (.cells #[Value.int .u8 84, Value.int .u8 104, Value.int .u8 101, Value.int .u8 32, Value.int .u8 113, Value.int .u8 117, Value.int .u8 105, Value.int .u8 99, Value.int .u8 107, Value.int .u8 32, Value.int .u8 98, Value.int .u8 114, Value.int .u8 111, Value.int .u8 119, Value.int .u8 110, Value.int .u8 32, Value.int .u8 102, Value.int .u8 111, Value.int .u8 120, Value.int .u8 32, Value.int .u8 106, Value.int .u8 117, Value.int .u8 109, Value.int .u8 112, Value.int .u8 115, Value.int .u8 32, Value.int .u8 111, Value.int .u8 118, Value.int .u8 101, Value.int .u8 114, Value.int .u8 32, Value.int .u8 116, Value.int .u8 104, Value.int .u8 101, Value.int .u8 32, Value.int .u8 108, Value.int .u8 97, Value.int .u8 122, Value.int .u8 121, Value.int .u8 32, Value.int .u8 100, Value.int .u8 111, Value.int .u8 103] 5 (43, 44))
  refine (macMark_any [107, 101, 121] [84, 104, 101, 32, 113, 117, 105, 99, 107, 32, 98, 114, 111, 119, 110, 32, 102, 111, 120, 32, 106, 117, 109, 112, 115, 32, 111, 118, 101, 114, 32, 116, 104, 101, 32, 108, 97, 122, 121, 32, 100, 111, 103] _ _ _ (by simp) (by simp) hr0 hr1 (hG.keepB hb1)).mono ?_
  rintro e w1 ⟨rfl, hb⟩
  have hbw1 := hb1.trans (hb.mono hb1.size)
  rw [mac_quick]
  clear hb0 hb1 hb hr0 hr1 hsz1
  have hol : ([247, 188, 131, 244, 48, 83, 132, 36, 177, 50, 152, 230, 170, 111, 177, 67, 239, 77, 89, 161, 73, 70, 23, 89, 151, 71, 157, 188, 45, 26, 60, 216] : List UInt8).length = 32 := rfl
  have h0 : ([247, 188, 131, 244, 48, 83, 132, 36, 177, 50, 152, 230, 170, 111, 177, 67, 239, 77, 89, 161, 73, 70, 23, 89, 151, 71, 157, 188, 45, 26, 60, 216] : List UInt8)[0]? = some 247 := rfl
  have h31 : ([247, 188, 131, 244, 48, 83, 132, 36, 177, 50, 152, 230, 170, 111, 177, 67, 239, 77, 89, 161, 73, 70, 23, 89, 151, 71, 157, 188, 45, 26, 60, 216] : List UInt8)[31]? = some 216 := rfl
  generalize ([247, 188, 131, 244, 48, 83, 132, 36, 177, 50, 152, 230, 170, 111, 177, 67, 239, 77, 89, 161, 73, 70, 23, 89, 151, 71, 157, 188, 45, 26, 60, 216] : List UInt8) = out at *
  have HA := Lib.hid (And.intro hbw1 (And.intro h0 (And.intro h31 hol)))
  clear hbw1 h0 h31 hol
  go_upto_region 2 with (with_reducible show wpList _ _ _ (⟨none, Op.store _ _ _, _, _, _, _⟩ :: _) _ _; go_loud (refine wpList_store_whole rfl _ _ _ rfl w1.heap.size (bv out) rfl rfl (bv (zs 32)) _ (heap_alloc_new _ _) (hInfo' _ HA.out.2.2.2) (by rw [bv_length, bv_length, HA.out.2.2.2]; simp [zs]) (bv_one _) ?_); intro w3 HG3 hg3)
  have hb3 : Below w.heap.size w w3 := below_grow (HA.out.1.alloc HA.out.1.size _) hg3 HA.out.1.size (by simp)
  have hrow := HG3.out
  have hc (j : Nat) (x : UInt8) (hx : out[j]? = some x) : w3.cell? ⟨w1.heap.size, j, none⟩ = some (.int .u8 x.toNat) := by
    rw [cell_of_row _ _ _ _ _ _ hrow, List.getElem?_toArray]; simp [bv, hx]
  have hc0 : w3.cell? ⟨w1.heap.size, 0, none⟩ = some (.int .u8 247) := hc 0 _ HA.out.2.1
  have hc31 : w3.cell? ⟨w1.heap.size, 31, none⟩ = some (.int .u8 216) := hc 31 _ HA.out.2.2.1
  clear hc hrow HG3 hg3
  go_wp2_with fail
  go_ret
  exact ⟨rfl, hb3⟩
end Go.Proofs.YtkcnakijfmemlaaDoor
