/- The law BinLays: numbers and texts have the bytes that the document says. -/
import Derived.Test.YtfofpmjojpjkmaaBinRaw
import Derived.Test.YtfofpmjojpjkmaaNum
import Derived.Test.YtfofpmjojpjkmaaOpen
import Derived.Test.YtfofpmjojpjkmaaReg
namespace Go.Proofs.Ytfofpmjojpjkmaa
open Go.ChangeShapes Go.WideShapes Go.ChangeAt Go.RowKit

/-- What each operation leaves alone. -/
def laysK (B : Nat) : Nat → World → World → Prop
  | 25, w, w' => Below B w w' ∧ ∀ p u, w.cell? p = some u → w'.cell? p = some u
  | 27, w, w' => Below B w w'
  | _, w, w' => Below w.heap.size w w'
theorem laysK_refl (B j : Nat) (w : World) : laysK B j w w := by
  unfold laysK; split
  · exact ⟨Below.refl _ _, fun _ _ h => h⟩
  · exact Below.refl _ _
  · exact Below.refl _ _
theorem laysK_base {B j : Nat} {w w' : World} (hB : B ≤ w.heap.size) (h : laysK B j w w') : Below B w w' := by
  unfold laysK at h; split at h
  · exact h.1
  · exact h
  · exact h.mono hB
theorem laysK_below {B j : Nat} {w w' : World} (h1 : j ≠ 25) (h2 : j ≠ 27) (h : laysK B j w w') : Below w.heap.size w w' := by
  unfold laysK at h; split at h
  · exact absurd rfl h1
  · exact absurd rfl h2
  · exact h
theorem laysK_rd {B j : Nat} {w w' : World} {v : Value} {n : Nat} {xs : List Value} (h2 : j ≠ 27) (h : laysK B j w w') (hr : Rd w 1 v n xs) : Rd w' 1 v n xs := by
  unfold laysK at h; split at h
  · obtain ⟨hl, h1, h3 | ⟨ad, c, hv, hc, hcell⟩⟩ := hr
    · exact ⟨hl, h1, .inl h3⟩
    · exact ⟨hl, h1, .inr ⟨ad, c, hv, hc, fun j u hu => h.2 _ _ (hcell j u hu)⟩⟩
  · exact absurd rfl h2
  · exact hr.keep h
theorem own_empty {w : World} {B k : Nat} {e : TypeId} (h : w.heap[k]? = some (.cells #[] e (0, 0))) (hB : B ≤ k) : w.ownsRow B e 1 (.slice (some ⟨k, 0, none⟩) 0 0) 0 [] :=
  ⟨rfl, .inr ⟨k, 0, #[], rfl, hB, h, Nat.le_refl _, by unfold maxLen; omega, rfl, rfl⟩⟩

/-- What each operation hands on. -/
def laysF (n : Nat) (l : List UInt8) (vb : Value) (g cap B : Nat) : Nat → Value → World → Prop
  | 0, v, _ => v = .int .u64 n
  | 1, v, w => Rd w 1 v (numB n).length (bv (numB n))
  | 2, v, _ => v = .string ⟨(numB n).toArray⟩
  | 3, v, _ => v = .int .u64 n
  | 4, v, w => Rd w 1 v (numB n).length (bv (numB n))
  | 5, v, _ => v = .string ⟨(numB n).toArray⟩
  | 6, v, _ => v = .bool true
  | 7, v, _ => v = .bool true
  | 8, v, _ => v = .slice (some ⟨g, 0, none⟩) l.length cap
  | 9, v, w => Rd w 1 v (numB l.length ++ l).length (bv (numB l.length ++ l))
  | 10, v, _ => v = .string ⟨(numB l.length ++ l).toArray⟩
  | 11, v, _ => v = vb
  | 12, v, w => Rd w 1 v (numB l.length ++ l).length (bv (numB l.length ++ l))
  | 13, v, _ => v = .string ⟨(numB l.length ++ l).toArray⟩
  | 14, v, _ => v = .bool true
  | 15, v, _ => v = .bool true
  | 16, v, _ => v = .bool true
  | 17, v, _ => v = .slice (some ⟨g, 0, none⟩) l.length cap
  | 18, v, _ => v = vb
  | 19, v, _ => v = .int .i64 l.length
  | 20, v, _ => v = .int .i64 (l.length + 1)
  | 21, v, _ => v = .slice (some ⟨g, 0, none⟩) (l.length + 1) cap
  | 22, v, _ => v = .string ⟨(l ++ [7]).toArray⟩
  | 23, v, w => ∃ k, v = .slice (some ⟨k, 0, none⟩) 0 0 ∧ B ≤ k ∧ w.heap[k]? = some (.cells #[] 5 (0, 0))
  | 24, v, _ => v = vb
  | 25, v, w => w.ownsRow B 5 1 v l.length (bv l)
  | 26, v, w => Rd w 1 v 1 (bv [7])
  | 27, v, w => Rd w 1 v (l ++ [7]).length (bv (l ++ [7]))
  | 28, v, _ => v = .string ⟨(l ++ [7]).toArray⟩
  | 29, v, _ => v = .bool true
  | 30, v, _ => v = .bool true
  | 31, v, _ => v = .bool true
  | _, _, _ => True

set_option maxHeartbeats 4000000 in
theorem binLays_walk (n : Nat) (vb : Value) (l : List UInt8) (w : World) (hn : n < 18446744073709551616) (hl : l.length ≤ 140737488351232) (hr : Rd w 1 vb l.length (bv l)) :
    Calls Try.prog 4 #[.int .u64 n, vb] w fun e w' => e = .returned (.bool true) ∧ Below w.heap.size w w' := by
  obtain ⟨ab, cb, rfl⟩ := hr.form
  go_enter Try.func4, Try.ntmps4
  go_wp2_with fail
  refine (lays_any w).mono ?_
  rintro e w1 ⟨rfl, hb1⟩
  have hs1 := hb1.size
  go_wp2_with (at_builtin; refine wpList_app Try.underlying24 info8 rfl (by decide) rfl _ _ rfl rfl rfl (own_new w1 5 1 0 w1.heap.size [] rfl (by omega) (Nat.le_refl _)) ((hr.keep hb1).alloc _) (by omega) (by omega) (by simp) ?_)
  intro v2 w2 hown2 hg2 _
  have hb2 := hg2.alloc.below (B := w1.heap.size) (Nat.le_refl _) (fun j hj => by simp [Value.ownBlock] at hj; omega)
  have hs2 := hb2.size
  go_wp2_with (at_builtin; refine wpList_app Try.underlying24 info8 rfl (by decide) rfl _ _ rfl rfl rfl (hown2.alloc _) (Rd.one _ _ _ rfl) (by omega) (by omega) (by simp; omega) ?_)
  intro v3 w3 hown3 hg3 _
  have hb3 := hg3.alloc.below hs2 (own_block hown2)
  have hs3 := hb3.size
  have hbb := (hb1.trans (hb2.mono hs1)).trans (hb3.mono hs1)
  obtain ⟨g, cap, rfl, hgB, hgc, hgm, hgs⟩ := own_at hown3 (by omega)
  have hrm := own_rd hown3 (by rw [show bv l ++ [Value.int IntKind.u8 7] = bv (l ++ [7]) by rw [bv_append]; rfl]; exact bv_one _)
  have hrb := hr.keep hbb
  have hrm2 : Rd w3 1 (.slice (some ⟨g, 0, none⟩) l.length cap) l.length (bv l) := by
    have := hrm.take l.length (by omega)
    rwa [List.take_append_of_le_length (by simp [bv]), List.take_of_length_le (by simp [bv])] at this
  unfold maxLen at hgm
  clear hown2 hown3 hg2 hg3 hb1 hb2 hb3
  go_wp2_with fail
  refine wp_region_steps [some 16, some 17, some 18, some 19, some 20, some 21, some 22, some 23, some 24, some 25, some 26, some 27, some 28, some 29, some 30, some 31, some 32, some 33, some 34, some 35, some 36, some 37, some 38, some 39, some 40, some 41, some 42, some 43, some 44, some 45, some 46, some 4] (laysF n l (.slice ab l.length cb) g cap w3.heap.size) (laysK w3.heap.size) (fun wx => Below w3.heap.size w3 wx) (by kernel_rfl) (by kernel_rfl) rfl (Below.refl _ _).drew (laysK_refl _) (fun j _ _ h k => h.trans (laysK_base h.size k)) ?hF ?hstep ?hend
  case hF =>
    exact ⟨fun _ _ _ _ _ _ h => h, ⟨fun j hg _ _ _ k h => laysK_rd (fun e => by subst e; exact absurd hg (by rw [show goneB _ 1 27 = true by kernel_rfl]; simp)) k h, ⟨fun _ _ _ _ _ _ h => h, ⟨fun _ _ _ _ _ _ h => h, ⟨fun j hg _ _ _ k h => laysK_rd (fun e => by subst e; exact absurd hg (by rw [show goneB _ 4 27 = true by kernel_rfl]; simp)) k h, ⟨fun _ _ _ _ _ _ h => h, ⟨fun _ _ _ _ _ _ h => h, ⟨fun _ _ _ _ _ _ h => h, ⟨fun _ _ _ _ _ _ h => h, ⟨fun j hg _ _ _ k h => laysK_rd (fun e => by subst e; exact absurd hg (by rw [show goneB _ 9 27 = true by kernel_rfl]; simp)) k h, ⟨fun _ _ _ _ _ _ h => h, ⟨fun _ _ _ _ _ _ h => h, ⟨fun j hg _ _ _ k h => laysK_rd (fun e => by subst e; exact absurd hg (by rw [show goneB _ 12 27 = true by kernel_rfl]; simp)) k h, ⟨fun _ _ _ _ _ _ h => h, ⟨fun _ _ _ _ _ _ h => h, ⟨fun _ _ _ _ _ _ h => h, ⟨fun _ _ _ _ _ _ h => h, ⟨fun _ _ _ _ _ _ h => h, ⟨fun _ _ _ _ _ _ h => h, ⟨fun _ _ _ _ _ _ h => h, ⟨fun _ _ _ _ _ _ h => h, ⟨fun _ _ _ _ _ _ h => h, ⟨fun _ _ _ _ _ _ h => h, ⟨fun j hg _ _ _ k h => by
      have n1 : j ≠ 25 := fun e => by subst e; exact absurd hg (by rw [show goneB _ 23 25 = true by kernel_rfl]; simp)
      have n2 : j ≠ 27 := fun e => by subst e; exact absurd hg (by rw [show goneB _ 23 27 = true by kernel_rfl]; simp)
      have kb := laysK_below n1 n2 k
      obtain ⟨q, h1, h2, h3⟩ := h
      exact ⟨q, h1, h2, (kb.block q (Array.getElem?_eq_some_iff.1 h3).1).trans h3⟩, ⟨fun _ _ _ _ _ _ h => h, ⟨fun j hg _ _ _ k h => by
      have n1 : j ≠ 25 := fun e => by subst e; exact absurd hg (by rw [show goneB _ 25 25 = true by kernel_rfl]; simp)
      have n2 : j ≠ 27 := fun e => by subst e; exact absurd hg (by rw [show goneB _ 25 27 = true by kernel_rfl]; simp)
      exact own_keep h (laysK_below n1 n2 k), ⟨fun j hg _ _ _ k h => laysK_rd (fun e => by subst e; exact absurd hg (by rw [show goneB _ 26 27 = true by kernel_rfl]; simp)) k h, ⟨fun j hg _ _ _ k h => laysK_rd (fun e => by subst e; exact absurd hg (by rw [show goneB _ 27 27 = true by kernel_rfl]; simp)) k h, ⟨fun _ _ _ _ _ _ h => h, ⟨fun _ _ _ _ _ _ h => h, ⟨fun _ _ _ _ _ _ h => h, ⟨fun _ _ _ _ _ _ h => h, trivial⟩⟩⟩⟩⟩⟩⟩⟩⟩⟩⟩⟩⟩⟩⟩⟩⟩⟩⟩⟩⟩⟩⟩⟩⟩⟩⟩⟩⟩⟩⟩⟩
  case hstep =>
    -- operation 0: Op.move (tmp 0)
    refine ⟨fun r wx hG hs hf => ?_, ?_⟩
    · have e0 : r 0 = .int .u64 n := hs 0 rfl
      refine (if_pos rfl).symm ▸ ?_
      clear hs hf
      unfold gives
      go_simp
      exact ⟨Below.refl _ _, rfl⟩
    -- operation 1: Op.call ( callee := Callee.value (func 9), args := #[tmp 16], argTypes := #[22] )
    refine ⟨fun r wx hG hs hf => ?_, ?_⟩
    · have h0 : r 16 = .int .u64 n := hf.1
      refine (if_pos rfl).symm ▸ ?_
      clear hs hf
      unfold gives
      go_simp
      refine (Num_any n wx hn).mono ?_
      rintro e wy ⟨v, rfl, hr1, hb1⟩
      exact ⟨v, rfl, hb1, hr1⟩
    -- operation 2: Op.convert 24 9 (tmp 17)
    refine ⟨fun r wx hG hs hf => ?_, ?_⟩
    · have h1 : Rd wx 1 (r 17) (numB n).length (bv (numB n)) := hf.1
      refine (if_pos rfl).symm ▸ ?_
      clear hs hf
      unfold gives
      have hcv := string_of_bytes (P := Try.prog) Try.underlying24 Try.underlying5 Try.underlying9 h1
      clear h1
      go_simp
      exact ⟨Below.refl _ _, rfl⟩
    -- operation 3: Op.move (tmp 0)
    refine ⟨fun r wx hG hs hf => ?_, ?_⟩
    · have e0 : r 0 = .int .u64 n := hs 0 rfl
      refine (if_pos rfl).symm ▸ ?_
      clear hs hf
      unfold gives
      go_simp
      exact ⟨Below.refl _ _, rfl⟩
    -- operation 4: Op.call ( callee := Callee.value (func 10), args := #[tmp 19], argTypes := #[22] )
    refine ⟨fun r wx hG hs hf => ?_, ?_⟩
    · have h3 : r 19 = .int .u64 n := hf.1
      have h1 : Rd wx 1 (r 17) (numB n).length (bv (numB n)) := hf.2.1
      refine (if_pos rfl).symm ▸ ?_
      clear hs hf
      unfold gives
      go_simp
      refine (refNum_any n wx hn).mono ?_
      rintro e wy ⟨v, rfl, ho1, hb1⟩
      exact ⟨v, rfl, hb1, own_rd ho1 (bv_one _)⟩
    -- operation 5: Op.convert 24 9 (tmp 20)
    refine ⟨fun r wx hG hs hf => ?_, ?_⟩
    · have h4 : Rd wx 1 (r 20) (numB n).length (bv (numB n)) := hf.1
      refine (if_pos rfl).symm ▸ ?_
      clear hs hf
      unfold gives
      have hcv := string_of_bytes (P := Try.prog) Try.underlying24 Try.underlying5 Try.underlying9 h4
      clear h4
      go_simp
      exact ⟨Below.refl _ _, rfl⟩
    -- operation 6: Op.binOp BinOp.eql 9 (tmp 18) (tmp 21) 9
    refine ⟨fun r wx hG hs hf => ?_, ?_⟩
    · have h2 : r 18 = .string ⟨(numB n).toArray⟩ := hf.1
      have h5 : r 21 = .string ⟨(numB n).toArray⟩ := hf.2.1
      refine (if_pos rfl).symm ▸ ?_
      clear hs hf
      unfold gives
      go_simp
      exact ⟨Below.refl _ _, rfl⟩
    -- operation 7: Op.move (tmp 22)
    refine ⟨fun r wx hG hs hf => ?_, ?_⟩
    · have h6 : r 22 = .bool true := hf.1
      have h4 : Rd wx 1 (r 20) (numB n).length (bv (numB n)) := hf.2.1
      refine (if_pos rfl).symm ▸ ?_
      clear hs hf
      unfold gives
      go_simp
      exact ⟨Below.refl _ _, rfl⟩
    -- operation 8: Op.move (tmp 5)
    refine ⟨fun r wx hG hs hf => ?_, ?_⟩
    · have e5 : r 5 = .slice (some ⟨g, 0, none⟩) l.length cap := hs 5 rfl
      have h7 : r 23 = .bool true := hf.1
      have hy : ydD [some 16, some 17, some 18, some 19, some 20, some 21, some 22, some 23, some 24, some 25, some 26, some 27, some 28, some 29, some 30, some 31, some 32, some 33, some 34, some 35, some 36, some 37, some 38, some 39, some 40, some 41, some 42, some 43, some 44, some 45, some 46, some 4] r 7 = some true := by show (match r 23 with | .bool b => some b | _ => none) = some true; rw [h7]
      simp only [Region.wanted, hy, beq_self_eq_true, if_true]
      clear hs hf hy
      unfold gives
      go_simp
      exact ⟨Below.refl _ _, rfl⟩
    -- operation 9: Op.call ( callee := Callee.value (func 11), args := #[tmp 24], argTypes := #[24] )
    refine ⟨fun r wx hG hs hf => ?_, ?_⟩
    · have h8 : r 24 = .slice (some ⟨g, 0, none⟩) l.length cap := hf.1
      have h7 : r 23 = .bool true := hf.2.1
      have hy : ydD [some 16, some 17, some 18, some 19, some 20, some 21, some 22, some 23, some 24, some 25, some 26, some 27, some 28, some 29, some 30, some 31, some 32, some 33, some 34, some 35, some 36, some 37, some 38, some 39, some 40, some 41, some 42, some 43, some 44, some 45, some 46, some 4] r 7 = some true := by show (match r 23 with | .bool b => some b | _ => none) = some true; rw [h7]
      simp only [Region.wanted, hy, beq_self_eq_true, if_true]
      clear hs hf hy
      unfold gives
      go_simp
      refine (Raw_any _ l wx (by omega) (hrm2.keep hG)).mono ?_
      rintro e wy ⟨v, rfl, hr1, hb1⟩
      exact ⟨v, rfl, hb1, hr1⟩
    -- operation 10: Op.convert 24 9 (tmp 25)
    refine ⟨fun r wx hG hs hf => ?_, ?_⟩
    · have h9 : Rd wx 1 (r 25) (numB l.length ++ l).length (bv (numB l.length ++ l)) := hf.1
      have h7 : r 23 = .bool true := hf.2.1
      have hy : ydD [some 16, some 17, some 18, some 19, some 20, some 21, some 22, some 23, some 24, some 25, some 26, some 27, some 28, some 29, some 30, some 31, some 32, some 33, some 34, some 35, some 36, some 37, some 38, some 39, some 40, some 41, some 42, some 43, some 44, some 45, some 46, some 4] r 7 = some true := by show (match r 23 with | .bool b => some b | _ => none) = some true; rw [h7]
      simp only [Region.wanted, hy, beq_self_eq_true, if_true]
      clear hs hf hy
      unfold gives
      have hcv := string_of_bytes (P := Try.prog) Try.underlying24 Try.underlying5 Try.underlying9 h9
      clear h9
      go_simp
      exact ⟨Below.refl _ _, rfl⟩
    -- operation 11: Op.move (tmp 1)
    refine ⟨fun r wx hG hs hf => ?_, ?_⟩
    · have e1 : r 1 = .slice ab l.length cb := hs 1 rfl
      have h7 : r 23 = .bool true := hf.1
      have hy : ydD [some 16, some 17, some 18, some 19, some 20, some 21, some 22, some 23, some 24, some 25, some 26, some 27, some 28, some 29, some 30, some 31, some 32, some 33, some 34, some 35, some 36, some 37, some 38, some 39, some 40, some 41, some 42, some 43, some 44, some 45, some 46, some 4] r 7 = some true := by show (match r 23 with | .bool b => some b | _ => none) = some true; rw [h7]
      simp only [Region.wanted, hy, beq_self_eq_true, if_true]
      clear hs hf hy
      unfold gives
      go_simp
      exact ⟨Below.refl _ _, rfl⟩
    -- operation 12: Op.call ( callee := Callee.value (func 12), args := #[tmp 27], argTypes := #[24] )
    refine ⟨fun r wx hG hs hf => ?_, ?_⟩
    · have h11 : r 27 = .slice ab l.length cb := hf.1
      have h9 : Rd wx 1 (r 25) (numB l.length ++ l).length (bv (numB l.length ++ l)) := hf.2.1
      have h7 : r 23 = .bool true := hf.2.2.1
      have hy : ydD [some 16, some 17, some 18, some 19, some 20, some 21, some 22, some 23, some 24, some 25, some 26, some 27, some 28, some 29, some 30, some 31, some 32, some 33, some 34, some 35, some 36, some 37, some 38, some 39, some 40, some 41, some 42, some 43, some 44, some 45, some 46, some 4] r 7 = some true := by show (match r 23 with | .bool b => some b | _ => none) = some true; rw [h7]
      simp only [Region.wanted, hy, beq_self_eq_true, if_true]
      clear hs hf hy
      unfold gives
      go_simp
      refine (refRaw_any _ l wx (by omega) (hrb.keep hG)).mono ?_
      rintro e wy ⟨v, rfl, hr1, hb1⟩
      exact ⟨v, rfl, hb1, hr1⟩
    -- operation 13: Op.convert 24 9 (tmp 28)
    refine ⟨fun r wx hG hs hf => ?_, ?_⟩
    · have h12 : Rd wx 1 (r 28) (numB l.length ++ l).length (bv (numB l.length ++ l)) := hf.1
      have h7 : r 23 = .bool true := hf.2.1
      have hy : ydD [some 16, some 17, some 18, some 19, some 20, some 21, some 22, some 23, some 24, some 25, some 26, some 27, some 28, some 29, some 30, some 31, some 32, some 33, some 34, some 35, some 36, some 37, some 38, some 39, some 40, some 41, some 42, some 43, some 44, some 45, some 46, some 4] r 7 = some true := by show (match r 23 with | .bool b => some b | _ => none) = some true; rw [h7]
      simp only [Region.wanted, hy, beq_self_eq_true, if_true]
      clear hs hf hy
      unfold gives
      have hcv := string_of_bytes (P := Try.prog) Try.underlying24 Try.underlying5 Try.underlying9 h12
      clear h12
      go_simp
      exact ⟨Below.refl _ _, rfl⟩
    -- operation 14: Op.binOp BinOp.eql 9 (tmp 26) (tmp 29) 9
    refine ⟨fun r wx hG hs hf => ?_, ?_⟩
    · have h10 : r 26 = .string ⟨(numB l.length ++ l).toArray⟩ := hf.1
      have h13 : r 29 = .string ⟨(numB l.length ++ l).toArray⟩ := hf.2.1
      have h7 : r 23 = .bool true := hf.2.2.1
      have hy : ydD [some 16, some 17, some 18, some 19, some 20, some 21, some 22, some 23, some 24, some 25, some 26, some 27, some 28, some 29, some 30, some 31, some 32, some 33, some 34, some 35, some 36, some 37, some 38, some 39, some 40, some 41, some 42, some 43, some 44, some 45, some 46, some 4] r 7 = some true := by show (match r 23 with | .bool b => some b | _ => none) = some true; rw [h7]
      simp only [Region.wanted, hy, beq_self_eq_true, if_true]
      clear hs hf hy
      unfold gives
      go_simp
      exact ⟨Below.refl _ _, rfl⟩
    -- operation 15: Op.pick (tmp 23) (tmp 30) (const (Value.bool false))
    refine ⟨fun r wx hG hs hf => ?_, ?_⟩
    · have h7 : r 23 = .bool true := hf.1
      have h14 : r 30 = .bool true := hf.2.1
      refine (if_pos rfl).symm ▸ ?_
      clear hs hf
      unfold gives
      go_simp
      exact ⟨Below.refl _ _, rfl⟩
    -- operation 16: Op.move (tmp 31)
    refine ⟨fun r wx hG hs hf => ?_, ?_⟩
    · have h15 : r 31 = .bool true := hf.1
      have h12 : Rd wx 1 (r 28) (numB l.length ++ l).length (bv (numB l.length ++ l)) := hf.2.1
      refine (if_pos rfl).symm ▸ ?_
      clear hs hf
      unfold gives
      go_simp
      exact ⟨Below.refl _ _, rfl⟩
    -- operation 17: Op.move (tmp 5)
    refine ⟨fun r wx hG hs hf => ?_, ?_⟩
    · have e5 : r 5 = .slice (some ⟨g, 0, none⟩) l.length cap := hs 5 rfl
      have h16 : r 32 = .bool true := hf.1
      have hy : ydD [some 16, some 17, some 18, some 19, some 20, some 21, some 22, some 23, some 24, some 25, some 26, some 27, some 28, some 29, some 30, some 31, some 32, some 33, some 34, some 35, some 36, some 37, some 38, some 39, some 40, some 41, some 42, some 43, some 44, some 45, some 46, some 4] r 16 = some true := by show (match r 32 with | .bool b => some b | _ => none) = some true; rw [h16]
      simp only [Region.wanted, hy, beq_self_eq_true, if_true]
      clear hs hf hy
      unfold gives
      go_simp
      exact ⟨Below.refl _ _, rfl⟩
    -- operation 18: Op.move (tmp 1)
    refine ⟨fun r wx hG hs hf => ?_, ?_⟩
    · have e1 : r 1 = .slice ab l.length cb := hs 1 rfl
      have h16 : r 32 = .bool true := hf.1
      have hy : ydD [some 16, some 17, some 18, some 19, some 20, some 21, some 22, some 23, some 24, some 25, some 26, some 27, some 28, some 29, some 30, some 31, some 32, some 33, some 34, some 35, some 36, some 37, some 38, some 39, some 40, some 41, some 42, some 43, some 44, some 45, some 46, some 4] r 16 = some true := by show (match r 32 with | .bool b => some b | _ => none) = some true; rw [h16]
      simp only [Region.wanted, hy, beq_self_eq_true, if_true]
      clear hs hf hy
      unfold gives
      go_simp
      exact ⟨Below.refl _ _, rfl⟩
    -- operation 19: Op.call ( callee := Callee.builtin Builtin.len, args := #[tmp 34], argTypes := #[24] )
    refine ⟨fun r wx hG hs hf => ?_, ?_⟩
    · have h18 : r 34 = .slice ab l.length cb := hf.1
      have h16 : r 32 = .bool true := hf.2.1
      have hy : ydD [some 16, some 17, some 18, some 19, some 20, some 21, some 22, some 23, some 24, some 25, some 26, some 27, some 28, some 29, some 30, some 31, some 32, some 33, some 34, some 35, some 36, some 37, some 38, some 39, some 40, some 41, some 42, some 43, some 44, some 45, some 46, some 4] r 16 = some true := by show (match r 32 with | .bool b => some b | _ => none) = some true; rw [h16]
      simp only [Region.wanted, hy, beq_self_eq_true, if_true]
      clear hs hf hy
      unfold gives
      go_simp
      exact ⟨Below.refl _ _, rfl⟩
    -- operation 20: Op.binOp BinOp.add 3 (tmp 35) (const (Value.int IntKind.i64 1)) 3
    refine ⟨fun r wx hG hs hf => ?_, ?_⟩
    · have h19 : r 35 = .int .i64 l.length := hf.1
      have h16 : r 32 = .bool true := hf.2.1
      have hy : ydD [some 16, some 17, some 18, some 19, some 20, some 21, some 22, some 23, some 24, some 25, some 26, some 27, some 28, some 29, some 30, some 31, some 32, some 33, some 34, some 35, some 36, some 37, some 38, some 39, some 40, some 41, some 42, some 43, some 44, some 45, some 46, some 4] r 16 = some true := by show (match r 32 with | .bool b => some b | _ => none) = some true; rw [h16]
      simp only [Region.wanted, hy, beq_self_eq_true, if_true]
      clear hs hf hy
      unfold gives
      have hw1 : IntKind.i64.wrap ((l.length : Int) + 1) = (l.length : Int) + 1 := IntWalk.i64_in _ (by omega)
      go_simp
      exact ⟨Below.refl _ _, rfl⟩
    -- operation 21: Op.slice 24 (tmp 33) none (some (tmp 36)) none
    refine ⟨fun r wx hG hs hf => ?_, ?_⟩
    · have h17 : r 33 = .slice (some ⟨g, 0, none⟩) l.length cap := hf.1
      have h20 : r 36 = .int .i64 (l.length + 1) := hf.2.1
      have h16 : r 32 = .bool true := hf.2.2.1
      have hy : ydD [some 16, some 17, some 18, some 19, some 20, some 21, some 22, some 23, some 24, some 25, some 26, some 27, some 28, some 29, some 30, some 31, some 32, some 33, some 34, some 35, some 36, some 37, some 38, some 39, some 40, some 41, some 42, some 43, some 44, some 45, some 46, some 4] r 16 = some true := by show (match r 32 with | .bool b => some b | _ => none) = some true; rw [h16]
      simp only [Region.wanted, hy, beq_self_eq_true, if_true]
      clear hs hf hy
      unfold gives
      have hw1 : (0 : Int) ≤ (l.length : Int) + 1 := by omega
      have hw2 : ((l.length : Int) + 1).toNat = l.length + 1 := by omega
      go_simp
      rw [if_pos (by omega)]
      go_simp
      exact ⟨Below.refl _ _, rfl⟩
    -- operation 22: Op.convert 24 9 (tmp 37)
    refine ⟨fun r wx hG hs hf => ?_, ?_⟩
    · have h21 : r 37 = .slice (some ⟨g, 0, none⟩) (l.length + 1) cap := hf.1
      have h16 : r 32 = .bool true := hf.2.1
      have hy : ydD [some 16, some 17, some 18, some 19, some 20, some 21, some 22, some 23, some 24, some 25, some 26, some 27, some 28, some 29, some 30, some 31, some 32, some 33, some 34, some 35, some 36, some 37, some 38, some 39, some 40, some 41, some 42, some 43, some 44, some 45, some 46, some 4] r 16 = some true := by show (match r 32 with | .bool b => some b | _ => none) = some true; rw [h16]
      simp only [Region.wanted, hy, beq_self_eq_true, if_true]
      clear hs hf hy
      unfold gives
      have hcv := string_of_bytes (P := Try.prog) Try.underlying24 Try.underlying5 Try.underlying9 (l := l ++ [7]) (by rw [bv_append, List.length_append]; exact hrm.keep hG)
      go_simp
      exact ⟨Below.refl _ _, rfl⟩
    -- operation 23: Op.buildSlice 24 0 #[]
    refine ⟨fun r wx hG hs hf => ?_, ?_⟩
    · have h16 : r 32 = .bool true := hf.1
      have hy : ydD [some 16, some 17, some 18, some 19, some 20, some 21, some 22, some 23, some 24, some 25, some 26, some 27, some 28, some 29, some 30, some 31, some 32, some 33, some 34, some 35, some 36, some 37, some 38, some 39, some 40, some 41, some 42, some 43, some 44, some 45, some 46, some 4] r 16 = some true := by show (match r 32 with | .bool b => some b | _ => none) = some true; rw [h16]
      simp only [Region.wanted, hy, beq_self_eq_true, if_true]
      clear hs hf hy
      unfold gives
      go_simp
      exact ⟨(Below.refl _ _).alloc (Nat.le_refl _) _, _, rfl, hG.size, heap_alloc_new _ _⟩
    -- operation 24: Op.move (tmp 1)
    refine ⟨fun r wx hG hs hf => ?_, ?_⟩
    · have e1 : r 1 = .slice ab l.length cb := hs 1 rfl
      have h16 : r 32 = .bool true := hf.1
      have hy : ydD [some 16, some 17, some 18, some 19, some 20, some 21, some 22, some 23, some 24, some 25, some 26, some 27, some 28, some 29, some 30, some 31, some 32, some 33, some 34, some 35, some 36, some 37, some 38, some 39, some 40, some 41, some 42, some 43, some 44, some 45, some 46, some 4] r 16 = some true := by show (match r 32 with | .bool b => some b | _ => none) = some true; rw [h16]
      simp only [Region.wanted, hy, beq_self_eq_true, if_true]
      clear hs hf hy
      unfold gives
      go_simp
      exact ⟨Below.refl _ _, rfl⟩
    -- operation 25: Op.call ( callee := Callee.builtin Builtin.append, args := #[tmp 39, tmp 40], argTypes := #[24, 24] )
    refine ⟨fun r wx hG hs hf => ?_, ?_⟩
    · have h23 : ∃ k, (r 39) = .slice (some ⟨k, 0, none⟩) 0 0 ∧ w3.heap.size ≤ k ∧ wx.heap[k]? = some (.cells #[] 5 (0, 0)) := hf.1
      have h24 : r 40 = .slice ab l.length cb := hf.2.1
      have h16 : r 32 = .bool true := hf.2.2.1
      have hy : ydD [some 16, some 17, some 18, some 19, some 20, some 21, some 22, some 23, some 24, some 25, some 26, some 27, some 28, some 29, some 30, some 31, some 32, some 33, some 34, some 35, some 36, some 37, some 38, some 39, some 40, some 41, some 42, some 43, some 44, some 45, some 46, some 4] r 16 = some true := by show (match r 32 with | .bool b => some b | _ => none) = some true; rw [h16]
      simp only [Region.wanted, hy, beq_self_eq_true, if_true]
      clear hs hf hy
      unfold gives
      obtain ⟨k, hk, hkB, hkc⟩ := h23
      refine gives_app Try.underlying24 info8 rfl (by decide) _ _ rfl hk h24 (own_empty hkc hkB) (hrb.keep hG) (by omega) (by omega) hG.size ?_
      intro v' wy ho hg _
      rw [Nat.zero_add, List.nil_append] at ho
      refine ⟨⟨hg.below hG.size (fun j hj => by simp [Value.ownBlock] at hj; omega), fun p u hp => ?_⟩, ho⟩
      by_cases hpk : p.block = k
      · simp [World.cell?, hpk, hkc] at hp
      · rw [World.cell?_of_block (hg.grown.block p.block (World.block_lt_of_cell? _ _ hp) (by simpa [Value.ownBlock] using hpk))]; exact hp
    -- operation 26: Op.buildSlice 24 1 #[(0, const (Value.int IntKind.u8 7))]
    refine ⟨fun r wx hG hs hf => ?_, ?_⟩
    · have h16 : r 32 = .bool true := hf.1
      have hy : ydD [some 16, some 17, some 18, some 19, some 20, some 21, some 22, some 23, some 24, some 25, some 26, some 27, some 28, some 29, some 30, some 31, some 32, some 33, some 34, some 35, some 36, some 37, some 38, some 39, some 40, some 41, some 42, some 43, some 44, some 45, some 46, some 4] r 16 = some true := by show (match r 32 with | .bool b => some b | _ => none) = some true; rw [h16]
      simp only [Region.wanted, hy, beq_self_eq_true, if_true]
      clear hs hf hy
      unfold gives
      go_simp
      exact ⟨(Below.refl _ _).alloc (Nat.le_refl _) _, Rd.one _ _ _ rfl⟩
    -- operation 27: Op.call ( callee := Callee.builtin Builtin.append, args := #[tmp 41, tmp 42], argTypes := #[24, 24] )
    refine ⟨fun r wx hG hs hf => ?_, ?_⟩
    · have h25 : wx.ownsRow w3.heap.size 5 1 (r 41) l.length (bv l) := hf.1
      have h26 : Rd wx 1 (r 42) 1 (bv [7]) := hf.2.1
      have h16 : r 32 = .bool true := hf.2.2.2.1
      have hy : ydD [some 16, some 17, some 18, some 19, some 20, some 21, some 22, some 23, some 24, some 25, some 26, some 27, some 28, some 29, some 30, some 31, some 32, some 33, some 34, some 35, some 36, some 37, some 38, some 39, some 40, some 41, some 42, some 43, some 44, some 45, some 46, some 4] r 16 = some true := by show (match r 32 with | .bool b => some b | _ => none) = some true; rw [h16]
      simp only [Region.wanted, hy, beq_self_eq_true, if_true]
      clear hs hf hy
      unfold gives
      refine gives_app Try.underlying24 info8 rfl (by decide) _ _ rfl rfl rfl h25 h26 (by omega) (by omega) hG.size ?_
      intro v' wy ho hg _
      refine ⟨hg.below hG.size (own_block h25), ?_⟩
      have := own_rd ho (by rw [← bv_append]; exact bv_one _)
      show Rd wy 1 v' (l ++ [7]).length (bv (l ++ [7]))
      rw [bv_append, List.length_append]; exact this
    -- operation 28: Op.convert 24 9 (tmp 43)
    refine ⟨fun r wx hG hs hf => ?_, ?_⟩
    · have h27 : Rd wx 1 (r 43) (l ++ [7]).length (bv (l ++ [7])) := hf.1
      have h16 : r 32 = .bool true := hf.2.1
      have hy : ydD [some 16, some 17, some 18, some 19, some 20, some 21, some 22, some 23, some 24, some 25, some 26, some 27, some 28, some 29, some 30, some 31, some 32, some 33, some 34, some 35, some 36, some 37, some 38, some 39, some 40, some 41, some 42, some 43, some 44, some 45, some 46, some 4] r 16 = some true := by show (match r 32 with | .bool b => some b | _ => none) = some true; rw [h16]
      simp only [Region.wanted, hy, beq_self_eq_true, if_true]
      clear hs hf hy
      unfold gives
      have hcv := string_of_bytes (P := Try.prog) Try.underlying24 Try.underlying5 Try.underlying9 h27
      clear h27
      go_simp
      exact ⟨Below.refl _ _, rfl⟩
    -- operation 29: Op.binOp BinOp.eql 9 (tmp 38) (tmp 44) 9
    refine ⟨fun r wx hG hs hf => ?_, ?_⟩
    · have h22 : r 38 = .string ⟨(l ++ [7]).toArray⟩ := hf.1
      have h28 : r 44 = .string ⟨(l ++ [7]).toArray⟩ := hf.2.1
      have h16 : r 32 = .bool true := hf.2.2.1
      have hy : ydD [some 16, some 17, some 18, some 19, some 20, some 21, some 22, some 23, some 24, some 25, some 26, some 27, some 28, some 29, some 30, some 31, some 32, some 33, some 34, some 35, some 36, some 37, some 38, some 39, some 40, some 41, some 42, some 43, some 44, some 45, some 46, some 4] r 16 = some true := by show (match r 32 with | .bool b => some b | _ => none) = some true; rw [h16]
      simp only [Region.wanted, hy, beq_self_eq_true, if_true]
      clear hs hf hy
      unfold gives
      go_simp
      exact ⟨Below.refl _ _, rfl⟩
    -- operation 30: Op.pick (tmp 32) (tmp 45) (const (Value.bool false))
    refine ⟨fun r wx hG hs hf => ?_, ?_⟩
    · have h16 : r 32 = .bool true := hf.1
      have h29 : r 45 = .bool true := hf.2.1
      refine (if_pos rfl).symm ▸ ?_
      clear hs hf
      unfold gives
      go_simp
      exact ⟨Below.refl _ _, rfl⟩
    -- operation 31: Op.assign (tmp 46)
    refine ⟨fun r wx hG hs hf => ?_, ?_⟩
    · have h30 : r 46 = .bool true := hf.1
      have h27 : Rd wx 1 (r 43) (l ++ [7]).length (bv (l ++ [7])) := hf.2.1
      refine (if_pos rfl).symm ▸ ?_
      clear hs hf
      unfold gives
      go_simp
      exact ⟨Below.refl _ _, rfl⟩
    exact trivial
  case hend =>
    intro u wz hG hfin
    have z31 : u 31 = .bool true := hfin 31 (by decide) (by kernel_rfl)
    clear hfin
    simp only [fill]
    go_simp
    go_wp2
    go_ret
    exact ⟨rfl, hbb.trans (hG.mono (by omega))⟩

theorem binLays.law (H : Type) (enc : TypeId × Value → H) (W : World) (base : Nat)
    (v0 : Value) (d0 : DataW H) (p0 : List MemPlace) (g0 : Value.okWide Try.prog W .any base 22 v0) (h0 : DataW.Trod enc Try.prog W 0 (fun _ => true) true 22 v0 d0 p0)
    (v1 : Value) (d1 : DataW H) (p1 : List MemPlace) (g1 : Value.okWide Try.prog W .any base 24 v1) (h1 : DataW.Trod enc Try.prog W 0 (fun _ => true) true 24 v1 d1 p1)
    {ts : List TypeId} {es : List (DataW H)} (hsz : (DataW.weightsEach Try.prog ([22, 24] ++ ts) ([d0, d1] ++ es)).all (· ≤ reachBytes) = true) :
    Calls Try.prog 4 #[v0, v1] W fun e W' => e = .returned (.bool true) ∧ Below W.heap.size W W' := by
  obtain ⟨n, rfl, _, _, wn⟩ := open_int Try.underlying22 g0 h0
  obtain ⟨n, rfl, hn⟩ := u64_nat wn
  obtain ⟨l, hr, hd⟩ := open_bytes Try.underlying24 Try.underlying5 (by kernel_rfl) (okWide_slice Try.underlying24 g1) h1
  have hl := bytes_reach hsz (j := 1) (t := 24) rfl Try.underlying24 (by kernel_rfl) (l := l) (hd.imp (fun h => ⟨congrArg some h.1, h.2⟩) (fun ⟨s, h⟩ => ⟨s, congrArg some h⟩))
  exact binLays_walk n v1 l W hn hl hr
end Go.Proofs.Ytfofpmjojpjkmaa
