/- The reference's root, hashed and down. (printed by gen/cle.py) · The reference's Lists and Clash; the law's same, few and awake. (printed by gen/clf.py) -/
import Derived.Test.YtfibhmgjkooemaaDoorClD
import Derived.Test.YtfibhmgjkooemaaDoorLeafLs
namespace Go.Proofs.YtfibhmgjkooemaaDoor
open Go.RowKit Sha Root Path Clash

/-- Two cells of a pair are set. -/
theorem s2_facts {w : World} {p : Nat} {o1 o2 a b : Value} {T : TypeId} (hp : w.heap[p]? = some (.cells #[o1, o2] T (0, 0))) :
    ((w.setCell ⟨p, 0, none⟩ a).setCell ⟨p, 1, none⟩ b).heap[p]? = some (.cells #[a, b] T (0, 0)) ∧ w.grownBy ((w.setCell ⟨p, 0, none⟩ a).setCell ⟨p, 1, none⟩ b) (some p) := by
  have h1 := heap_setCell_same w p 0 _ _ a hp
  have h2 := heap_setCell_same _ p 1 _ _ b h1
  refine ⟨by rw [h2]; rfl, ⟨rfl, rfl, rfl, by simp [World.setCell], fun k _ hk => ?_⟩⟩
  have hkp : k ≠ p := fun e => hk (by rw [e])
  rw [heap_setCell_other _ _ _ _ hkp, heap_setCell_other _ _ _ _ hkp]
/-- Bytes are no part of a pair. -/
theorem Rd.pairB {w w' : World} {p : Nat} {a1 a2 : Option Addr} {n1 n2 c1 c2 : Nat} {T : TypeId} {v : Value} {n : Nat} {l : List UInt8} (h : Rd w 1 v n (bv l)) (hp : w.heap[p]? = some (.cells #[.slice a1 n1 c1, .slice a2 n2 c2] T (0, 0))) (hg : w.grownBy w' (some p)) : Rd w' 1 v n (bv l) := by
  by_cases h0 : n = 0
  · obtain ⟨hl, h1, h2 | ⟨ad, c, hv, hc, hcell⟩⟩ := h
    · exact ⟨hl, h1, .inl h2⟩
    · refine ⟨hl, h1, .inr ⟨ad, c, hv, hc, fun j u hu => ?_⟩⟩
      have hj := (List.getElem?_eq_some_iff.1 hu).1
      rw [hl, h0] at hj
      omega
  · obtain ⟨blk, off, c, hv, hc, hcell⟩ := h.at (by omega)
    refine ⟨h.1, h.2.1, .inr ⟨⟨blk, off, none⟩, c, hv, hc, fun j u hu => ?_⟩⟩
    have h3 := hcell j u hu
    rw [Addr.add_lit]
    obtain ⟨x, rfl⟩ : ∃ x : UInt8, u = .int .u8 x.toNat := by
      unfold bv at hu
      rw [List.getElem?_map] at hu
      obtain ⟨x, _, rfl⟩ := Option.map_eq_some_iff.1 hu
      exact ⟨x, rfl⟩
    rw [← h3]
    refine World.cell?_of_block (hg.block _ (World.block_lt_of_cell? w _ h3) (fun e1 => ?_))
    have e1 : blk = p := by simpa using e1
    subst e1
    simp only [World.cell?, hp] at h3
    match hj : off + j with
    | 0 => rw [hj] at h3; simp at h3
    | 1 => rw [hj] at h3; simp at h3
    | k + 2 => rw [hj] at h3; simp at h3
theorem Rd.s2 {w : World} {p : Nat} {a1 a2 : Option Addr} {n1 n2 c1 c2 : Nat} {T : TypeId} {v a b : Value} {n : Nat} {l : List UInt8} (h : Rd w 1 v n (bv l)) (hp : w.heap[p]? = some (.cells #[.slice a1 n1 c1, .slice a2 n2 c2] T (0, 0))) : Rd ((w.setCell ⟨p, 0, none⟩ a).setCell ⟨p, 1, none⟩ b) 1 v n (bv l) := h.pairB hp (s2_facts hp).2

theorem below_ofp {w w1 w2 : World} {p : Nat} (hb : Below w.heap.size w w1) (hp : w.heap.size ≤ p) (hg : w1.grownBy w2 (some p)) : Below w.heap.size w w2 :=
  ⟨hg.os.trans hb.os, hg.tape.trans hb.tape, hg.output.trans hb.output, Nat.le_trans hb.size hg.size, fun k hk => (hg.block k (Nat.lt_of_lt_of_le hk hb.size) (fun e => by simp only [Option.some.injEq] at e; omega)).trans (hb.block k hk)⟩

end Go.Proofs.YtfibhmgjkooemaaDoor
namespace Go.Proofs.YtfibhmgjkooemaaDoor
open Go.RowKit Sha Root Path Clash

/-- What each operation hands on. -/
def clYF (W : Int) (g nx ny c1 c2 : Nat) (a1 a2 : Option Addr) (X Y : List UInt8) (sx sy hx hy : List UInt8) : Nat → Value → World → Prop
  | 0, v, _ => v = .pointer (some ⟨g, 0, none⟩)
  | 1, v, _ => v = .slice a1 nx c1
  | 2, v, _ => v = .string ⟨X.toArray⟩
  | 3, v, _ => v = .pointer (some ⟨g, 1, none⟩)
  | 4, v, _ => v = .slice a2 ny c2
  | 5, v, _ => v = .string ⟨Y.toArray⟩
  | 6, v, _ => v = .bool true
  | 7, v, _ => v = .bool true
  | 8, v, _ => v = .pointer (some ⟨g, 0, none⟩)
  | 9, v, _ => v = .slice a1 nx c1
  | 10, v, _ => v = .agg (bv sx).toArray
  | 11, v, _ => v = .int .i64 W
  | 12, v, _ => v = .agg (bv hx).toArray
  | 13, v, _ => v = .pointer (some ⟨g, 1, none⟩)
  | 14, v, _ => v = .slice a2 ny c2
  | 15, v, _ => v = .agg (bv sy).toArray
  | 16, v, _ => v = .int .i64 W
  | 17, v, _ => v = .agg (bv hy).toArray
  | 18, v, _ => v = .bool (hx == hy)
  | 19, v, _ => v = .bool (hx == hy)
  | 20, v, _ => v = .bool (hx == hy)
  | _, _, _ => True
/-- What each operation hands on. -/
def clNF (W : Int) (g nx ny c1 c2 : Nat) (a1 a2 : Option Addr) (X Y : List UInt8) : Nat → Value → World → Prop
  | 0, v, _ => v = .pointer (some ⟨g, 0, none⟩)
  | 1, v, _ => v = .slice a1 nx c1
  | 2, v, _ => v = .string ⟨X.toArray⟩
  | 3, v, _ => v = .pointer (some ⟨g, 1, none⟩)
  | 4, v, _ => v = .slice a2 ny c2
  | 5, v, _ => v = .string ⟨Y.toArray⟩
  | 6, v, _ => v = .bool false
  | 7, v, _ => v = .bool false
  | 8, v, _ => v = undef
  | 9, v, _ => v = undef
  | 10, v, _ => v = undef
  | 11, v, _ => v = undef
  | 12, v, _ => v = undef
  | 13, v, _ => v = undef
  | 14, v, _ => v = undef
  | 15, v, _ => v = undef
  | 16, v, _ => v = undef
  | 17, v, _ => v = undef
  | 18, v, _ => v = undef
  | 19, v, _ => v = .bool false
  | 20, v, _ => v = .bool false
  | _, _, _ => True

def clB (W : Int) (X Y : List UInt8) : Bool := !(X == Y) && (hw W X == hw W Y)
set_option maxHeartbeats 4000000 in
set_option maxRecDepth 100000 in
theorem clash_any (W : Int) (X Y : List UInt8) (a1 a2 : Option Addr) (c1 c2 : Nat) (w : World) (hW : -9223372036854775808 ≤ W ∧ W ≤ 9223372036854775807) (hx : X.length ≤ 140737488355000) (hy : Y.length ≤ 140737488355000) (h1 : Rd w 1 (.slice a1 X.length c1) X.length (bv X)) (h2 : Rd w 1 (.slice a2 Y.length c2) Y.length (bv Y)) (hT : TabsR w) :
    Calls Tryd.prog 18 #[.int .i64 W, .agg #[.slice a1 X.length c1, .slice a2 Y.length c2]] w fun e w' => e = .returned (.bool (clB W X Y)) ∧ Below w.heap.size w w' := by
  obtain ⟨w0, hw0⟩ : ∃ x : World, x = w.alloc (.cells #[.slice a1 X.length c1, .slice a2 Y.length c2] 27) := ⟨_, rfl⟩
  have hB0 : Below w.heap.size w w0 := by rw [hw0]; exact (Below.refl _ _).alloc (Nat.le_refl _) _
  have hrow : w0.heap[w.heap.size]? = some (.cells #[.slice a1 X.length c1, .slice a2 Y.length c2] 27 (0, 0)) := by rw [hw0]; exact heap_alloc_new _ _
  have HSX := Lib.hid (fun wx (hb : Below w0.heap.size w0 wx) => refSumSha_any X (.slice a1 X.length c1) wx hx (h1.keep (hB0.trans (hb.mono hB0.size))) (hT.keepB (hB0.trans (hb.mono hB0.size))))
  have HSY := Lib.hid (fun wx (hb : Below w0.heap.size w0 wx) => refSumSha_any Y (.slice a2 Y.length c2) wx hy (h2.keep (hB0.trans (hb.mono hB0.size))) (hT.keepB (hB0.trans (hb.mono hB0.size))))
  have HNX := Lib.hid (fun wx (_ : Below w0.heap.size w0 wx) => refNarrow_any (Sha.sum X) W wx (sum_length X) hW)
  have HNY := Lib.hid (fun wx (_ : Below w0.heap.size w0 wx) => refNarrow_any (Sha.sum Y) W wx (sum_length Y) hW)
  rw [show nar (Sha.sum X) (clip W) = hw W X from rfl] at HNX
  rw [show nar (Sha.sum Y) (clip W) = hw W Y from rfl] at HNY
  have HL2 := Lib.hid (And.intro (hw32 W X) (hw32 W Y))
  have HR := Lib.hid (And.intro (h1.keep hB0) (h2.keep hB0))
  obtain ⟨nx, hnx⟩ : ∃ n, n = X.length := ⟨_, rfl⟩
  obtain ⟨ny, hny⟩ : ∃ n, n = Y.length := ⟨_, rfl⟩
  rw [← hnx] at HSX hrow hw0 ⊢
  rw [← hny] at HSY hrow hw0 ⊢
  have HR' : Rd w0 1 (.slice a1 nx c1) X.length (bv X) ∧ Rd w0 1 (.slice a2 ny c2) Y.length (bv Y) := by rw [hnx, hny]; exact HR.out
  have HR := Lib.hid HR'
  have HC := Lib.hid (fun wx (hb : Below w0.heap.size w0 wx) => (show wx.cell? ⟨w.heap.size, 0, none⟩ = some (.slice a1 nx c1) ∧ wx.cell? ⟨w.heap.size, 1, none⟩ = some (.slice a2 ny c2) from by
    have h := (hb.block _ (Array.getElem?_eq_some_iff.1 hrow).1).trans hrow
    exact ⟨cell_of_rowp h rfl, cell_of_rowp h rfl⟩))
  have H0 := Lib.hid hB0
  have HW0 := Lib.hid hw0
  unfold clB
  clear HR' h1 h2 hT hB0 hrow hw0 hx hy hnx hny
  generalize hw W X = hx at *
  generalize hw W Y = hy at *
  generalize Sha.sum X = sx at *
  generalize Sha.sum Y = sy at *
  by_cases hq : X = Y
  · have HQ := Lib.hid (show (X == Y) = true from beq_iff_eq.2 hq)
    rw [HQ.out, Bool.not_true, Bool.false_and]
    clear hq HSX HSY HNX HNY HL2
    go_enter Tryd.func18, Tryd.ntmps18
    go_upto_region 1 with fail
    rw [show w.alloc (.cells #[.slice a1 nx c1, .slice a2 ny c2] 27) = w0 from HW0.out.symm]
    refine wp_region_steps [some 5, some 6, some 7, some 8, some 9, some 10, some 11, some 12, some 13, some 14, some 15, some 16, some 17, some 18, some 19, some 20, some 21, some 22, some 23, some 24, some 4] [] (clNF W w.heap.size nx ny c1 c2 a1 a2 X Y) (fun _ wx wy => Below wx.heap.size wx wy) (fun wx => Below w0.heap.size w0 wx) (by kernel_rfl) (by kernel_rfl) rfl (by kernel_rfl) (Below.refl _ _).drew (fun _ wx => Below.refl _ _) (fun _ wx wy h k => h.trans (k.mono h.size)) ?hF ?hstep ?hend
    case hF =>
      exact ⟨fun _ _ _ _ _ _ h => h, ⟨fun _ _ _ _ _ _ h => h, ⟨fun _ _ _ _ _ _ h => h, ⟨fun _ _ _ _ _ _ h => h, ⟨fun _ _ _ _ _ _ h => h, ⟨fun _ _ _ _ _ _ h => h, ⟨fun _ _ _ _ _ _ h => h, ⟨fun _ _ _ _ _ _ h => h, ⟨fun _ _ _ _ _ _ h => h, ⟨fun _ _ _ _ _ _ h => h, ⟨fun _ _ _ _ _ _ h => h, ⟨fun _ _ _ _ _ _ h => h, ⟨fun _ _ _ _ _ _ h => h, ⟨fun _ _ _ _ _ _ h => h, ⟨fun _ _ _ _ _ _ h => h, ⟨fun _ _ _ _ _ _ h => h, ⟨fun _ _ _ _ _ _ h => h, ⟨fun _ _ _ _ _ _ h => h, ⟨fun _ _ _ _ _ _ h => h, ⟨fun _ _ _ _ _ _ h => h, ⟨fun _ _ _ _ _ _ h => h, trivial⟩⟩⟩⟩⟩⟩⟩⟩⟩⟩⟩⟩⟩⟩⟩⟩⟩⟩⟩⟩⟩
    case hstep =>
      refine ⟨fun r wx hG hs hq hf => ?_, ?_⟩
      · have e3 : r 3 = .pointer (some ⟨w.heap.size, 0, none⟩) := hs 3 rfl
        refine (if_pos rfl).symm ▸ ?_
        clear hs hq hf
        unfold gives
        go_simp
        exact ⟨Below.refl _ _, rfl⟩
      refine ⟨fun r wx hG hs hq hf => ?_, ?_⟩
      · have h0 : r 5 = .pointer (some ⟨w.heap.size, 0, none⟩) := hf.1
        refine (if_pos rfl).symm ▸ ?_
        clear hs hq hf
        unfold gives
        have hcl := (HC.out wx hG).1
        go_simp
        exact ⟨Below.refl _ _, rfl⟩
      refine ⟨fun r wx hG hs hq hf => ?_, ?_⟩
      · have h1 : r 6 = .slice a1 nx c1 := hf.1
        refine (if_pos rfl).symm ▸ ?_
        clear hs hq hf
        unfold gives
        have hs := string_of_bytes (P := Tryd.prog) (w := wx) Tryd.underlying25 Tryd.underlying5 Tryd.underlying9 (HR.out.1.keep hG)
        go_simp
        exact ⟨Below.refl _ _, rfl⟩
      refine ⟨fun r wx hG hs hq hf => ?_, ?_⟩
      · have e3 : r 3 = .pointer (some ⟨w.heap.size, 0, none⟩) := hs 3 rfl
        refine (if_pos rfl).symm ▸ ?_
        clear hs hq hf
        unfold gives
        go_simp
        exact ⟨Below.refl _ _, rfl⟩
      refine ⟨fun r wx hG hs hq hf => ?_, ?_⟩
      · have h3 : r 8 = .pointer (some ⟨w.heap.size, 1, none⟩) := hf.1
        refine (if_pos rfl).symm ▸ ?_
        clear hs hq hf
        unfold gives
        have hcl := (HC.out wx hG).2
        go_simp
        exact ⟨Below.refl _ _, rfl⟩
      refine ⟨fun r wx hG hs hq hf => ?_, ?_⟩
      · have h4 : r 9 = .slice a2 ny c2 := hf.1
        refine (if_pos rfl).symm ▸ ?_
        clear hs hq hf
        unfold gives
        have hs := string_of_bytes (P := Tryd.prog) (w := wx) Tryd.underlying25 Tryd.underlying5 Tryd.underlying9 (HR.out.2.keep hG)
        go_simp
        exact ⟨Below.refl _ _, rfl⟩
      refine ⟨fun r wx hG hs hq hf => ?_, ?_⟩
      · have h2 : r 7 = .string ⟨X.toArray⟩ := hf.1
        have h5 : r 10 = .string ⟨Y.toArray⟩ := hf.2.1
        refine (if_pos rfl).symm ▸ ?_
        clear hs hq hf
        unfold gives
        have hqb := HQ.out
        go_simp
        exact ⟨Below.refl _ _, by simp [clNF]⟩
      refine ⟨fun r wx hG hs hq hf => ?_, ?_⟩
      · have h6 : r 11 = .bool false := hf.1
        refine (if_pos rfl).symm ▸ ?_
        clear hs hq hf
        unfold gives
        go_simp
        exact ⟨Below.refl _ _, rfl⟩
      refine ⟨fun r wx hG hs hq hf => ?_, ?_⟩
      · have e3 : r 3 = .pointer (some ⟨w.heap.size, 0, none⟩) := hs 3 rfl
        have h7 : r 12 = .bool false := hf.1
        have hy : ydD [some 5, some 6, some 7, some 8, some 9, some 10, some 11, some 12, some 13, some 14, some 15, some 16, some 17, some 18, some 19, some 20, some 21, some 22, some 23, some 24, some 4] r 7 = some false := by show (match r 12 with | .bool b => some b | _ => none) = some false; rw [h7]
        simp only [Region.wanted, hy]
        rw [if_neg (show ¬ (some false == some true) = true by decide)]
        clear hs hq hf hy
        rfl
      refine ⟨fun r wx hG hs hq hf => ?_, ?_⟩
      · have h8 : r 13 = undef := hf.1
        have h7 : r 12 = .bool false := hf.2.1
        have hy : ydD [some 5, some 6, some 7, some 8, some 9, some 10, some 11, some 12, some 13, some 14, some 15, some 16, some 17, some 18, some 19, some 20, some 21, some 22, some 23, some 24, some 4] r 7 = some false := by show (match r 12 with | .bool b => some b | _ => none) = some false; rw [h7]
        simp only [Region.wanted, hy]
        rw [if_neg (show ¬ (some false == some true) = true by decide)]
        clear hs hq hf hy
        rfl
      refine ⟨fun r wx hG hs hq hf => ?_, ?_⟩
      · have h9 : r 14 = undef := hf.1
        have h7 : r 12 = .bool false := hf.2.1
        have hy : ydD [some 5, some 6, some 7, some 8, some 9, some 10, some 11, some 12, some 13, some 14, some 15, some 16, some 17, some 18, some 19, some 20, some 21, some 22, some 23, some 24, some 4] r 7 = some false := by show (match r 12 with | .bool b => some b | _ => none) = some false; rw [h7]
        simp only [Region.wanted, hy]
        rw [if_neg (show ¬ (some false == some true) = true by decide)]
        clear hs hq hf hy
        rfl
      refine ⟨fun r wx hG hs hq hf => ?_, ?_⟩
      · have e0 : r 0 = .int .i64 W := hs 0 rfl
        have h7 : r 12 = .bool false := hf.1
        have hy : ydD [some 5, some 6, some 7, some 8, some 9, some 10, some 11, some 12, some 13, some 14, some 15, some 16, some 17, some 18, some 19, some 20, some 21, some 22, some 23, some 24, some 4] r 7 = some false := by show (match r 12 with | .bool b => some b | _ => none) = some false; rw [h7]
        simp only [Region.wanted, hy]
        rw [if_neg (show ¬ (some false == some true) = true by decide)]
        clear hs hq hf hy
        rfl
      refine ⟨fun r wx hG hs hq hf => ?_, ?_⟩
      · have h10 : r 15 = undef := hf.1
        have h11 : r 16 = undef := hf.2.1
        have h7 : r 12 = .bool false := hf.2.2.2.1
        have hy : ydD [some 5, some 6, some 7, some 8, some 9, some 10, some 11, some 12, some 13, some 14, some 15, some 16, some 17, some 18, some 19, some 20, some 21, some 22, some 23, some 24, some 4] r 7 = some false := by show (match r 12 with | .bool b => some b | _ => none) = some false; rw [h7]
        simp only [Region.wanted, hy]
        rw [if_neg (show ¬ (some false == some true) = true by decide)]
        clear hs hq hf hy
        rfl
      refine ⟨fun r wx hG hs hq hf => ?_, ?_⟩
      · have e3 : r 3 = .pointer (some ⟨w.heap.size, 0, none⟩) := hs 3 rfl
        have h7 : r 12 = .bool false := hf.1
        have hy : ydD [some 5, some 6, some 7, some 8, some 9, some 10, some 11, some 12, some 13, some 14, some 15, some 16, some 17, some 18, some 19, some 20, some 21, some 22, some 23, some 24, some 4] r 7 = some false := by show (match r 12 with | .bool b => some b | _ => none) = some false; rw [h7]
        simp only [Region.wanted, hy]
        rw [if_neg (show ¬ (some false == some true) = true by decide)]
        clear hs hq hf hy
        rfl
      refine ⟨fun r wx hG hs hq hf => ?_, ?_⟩
      · have h13 : r 18 = undef := hf.1
        have h7 : r 12 = .bool false := hf.2.1
        have hy : ydD [some 5, some 6, some 7, some 8, some 9, some 10, some 11, some 12, some 13, some 14, some 15, some 16, some 17, some 18, some 19, some 20, some 21, some 22, some 23, some 24, some 4] r 7 = some false := by show (match r 12 with | .bool b => some b | _ => none) = some false; rw [h7]
        simp only [Region.wanted, hy]
        rw [if_neg (show ¬ (some false == some true) = true by decide)]
        clear hs hq hf hy
        rfl
      refine ⟨fun r wx hG hs hq hf => ?_, ?_⟩
      · have h14 : r 19 = undef := hf.1
        have h7 : r 12 = .bool false := hf.2.2.1
        have hy : ydD [some 5, some 6, some 7, some 8, some 9, some 10, some 11, some 12, some 13, some 14, some 15, some 16, some 17, some 18, some 19, some 20, some 21, some 22, some 23, some 24, some 4] r 7 = some false := by show (match r 12 with | .bool b => some b | _ => none) = some false; rw [h7]
        simp only [Region.wanted, hy]
        rw [if_neg (show ¬ (some false == some true) = true by decide)]
        clear hs hq hf hy
        rfl
      refine ⟨fun r wx hG hs hq hf => ?_, ?_⟩
      · have e0 : r 0 = .int .i64 W := hs 0 rfl
        have h7 : r 12 = .bool false := hf.1
        have hy : ydD [some 5, some 6, some 7, some 8, some 9, some 10, some 11, some 12, some 13, some 14, some 15, some 16, some 17, some 18, some 19, some 20, some 21, some 22, some 23, some 24, some 4] r 7 = some false := by show (match r 12 with | .bool b => some b | _ => none) = some false; rw [h7]
        simp only [Region.wanted, hy]
        rw [if_neg (show ¬ (some false == some true) = true by decide)]
        clear hs hq hf hy
        rfl
      refine ⟨fun r wx hG hs hq hf => ?_, ?_⟩
      · have h15 : r 20 = undef := hf.1
        have h16 : r 21 = undef := hf.2.1
        have h7 : r 12 = .bool false := hf.2.2.2.1
        have hy : ydD [some 5, some 6, some 7, some 8, some 9, some 10, some 11, some 12, some 13, some 14, some 15, some 16, some 17, some 18, some 19, some 20, some 21, some 22, some 23, some 24, some 4] r 7 = some false := by show (match r 12 with | .bool b => some b | _ => none) = some false; rw [h7]
        simp only [Region.wanted, hy]
        rw [if_neg (show ¬ (some false == some true) = true by decide)]
        clear hs hq hf hy
        rfl
      refine ⟨fun r wx hG hs hq hf => ?_, ?_⟩
      · have h12 : r 17 = undef := hf.1
        have h17 : r 22 = undef := hf.2.1
        have h7 : r 12 = .bool false := hf.2.2.1
        have hy : ydD [some 5, some 6, some 7, some 8, some 9, some 10, some 11, some 12, some 13, some 14, some 15, some 16, some 17, some 18, some 19, some 20, some 21, some 22, some 23, some 24, some 4] r 7 = some false := by show (match r 12 with | .bool b => some b | _ => none) = some false; rw [h7]
        simp only [Region.wanted, hy]
        rw [if_neg (show ¬ (some false == some true) = true by decide)]
        clear hs hq hf hy
        rfl
      refine ⟨fun r wx hG hs hq hf => ?_, ?_⟩
      · have h7 : r 12 = .bool false := hf.1
        have h18 : r 23 = undef := hf.2.1
        refine (if_pos rfl).symm ▸ ?_
        clear hs hq hf
        unfold gives
        go_simp
        exact ⟨Below.refl _ _, rfl⟩
      refine ⟨fun r wx hG hs hq hf => ?_, ?_⟩
      · have h19 : r 24 = .bool false := hf.1
        refine (if_pos rfl).symm ▸ ?_
        clear hs hq hf
        unfold gives
        go_simp
        exact ⟨Below.refl _ _, rfl⟩
      exact trivial
    case hend =>
      intro u wz hG hfin
      have z20 : u 20 = .bool false := hfin 20 (by decide) (by kernel_rfl)
      clear hfin
      simp only [fill]
      have HZ := Lib.hid (H0.out.trans (hG.mono H0.out.size))
      have hz := z20
      clear z20 hG
      go_simp
      go_wp2_with fail
      go_ret
      exact ⟨rfl, HZ.out⟩

  · have HQ := Lib.hid (show (X == Y) = false from beq_eq_false_iff_ne.2 hq)
    rw [HQ.out, Bool.not_false, Bool.true_and]
    clear hq
    go_enter Tryd.func18, Tryd.ntmps18
    go_upto_region 1 with fail
    rw [show w.alloc (.cells #[.slice a1 nx c1, .slice a2 ny c2] 27) = w0 from HW0.out.symm]
    refine wp_region_steps [some 5, some 6, some 7, some 8, some 9, some 10, some 11, some 12, some 13, some 14, some 15, some 16, some 17, some 18, some 19, some 20, some 21, some 22, some 23, some 24, some 4] [] (clYF W w.heap.size nx ny c1 c2 a1 a2 X Y sx sy hx hy) (fun _ wx wy => Below wx.heap.size wx wy) (fun wx => Below w0.heap.size w0 wx) (by kernel_rfl) (by kernel_rfl) rfl (by kernel_rfl) (Below.refl _ _).drew (fun _ wx => Below.refl _ _) (fun _ wx wy h k => h.trans (k.mono h.size)) ?hF ?hstep ?hend
    case hF =>
      exact ⟨fun _ _ _ _ _ _ h => h, ⟨fun _ _ _ _ _ _ h => h, ⟨fun _ _ _ _ _ _ h => h, ⟨fun _ _ _ _ _ _ h => h, ⟨fun _ _ _ _ _ _ h => h, ⟨fun _ _ _ _ _ _ h => h, ⟨fun _ _ _ _ _ _ h => h, ⟨fun _ _ _ _ _ _ h => h, ⟨fun _ _ _ _ _ _ h => h, ⟨fun _ _ _ _ _ _ h => h, ⟨fun _ _ _ _ _ _ h => h, ⟨fun _ _ _ _ _ _ h => h, ⟨fun _ _ _ _ _ _ h => h, ⟨fun _ _ _ _ _ _ h => h, ⟨fun _ _ _ _ _ _ h => h, ⟨fun _ _ _ _ _ _ h => h, ⟨fun _ _ _ _ _ _ h => h, ⟨fun _ _ _ _ _ _ h => h, ⟨fun _ _ _ _ _ _ h => h, ⟨fun _ _ _ _ _ _ h => h, ⟨fun _ _ _ _ _ _ h => h, trivial⟩⟩⟩⟩⟩⟩⟩⟩⟩⟩⟩⟩⟩⟩⟩⟩⟩⟩⟩⟩⟩
    case hstep =>
      refine ⟨fun r wx hG hs hq hf => ?_, ?_⟩
      · have e3 : r 3 = .pointer (some ⟨w.heap.size, 0, none⟩) := hs 3 rfl
        refine (if_pos rfl).symm ▸ ?_
        clear hs hq hf
        unfold gives
        go_simp
        exact ⟨Below.refl _ _, rfl⟩
      refine ⟨fun r wx hG hs hq hf => ?_, ?_⟩
      · have h0 : r 5 = .pointer (some ⟨w.heap.size, 0, none⟩) := hf.1
        refine (if_pos rfl).symm ▸ ?_
        clear hs hq hf
        unfold gives
        have hcl := (HC.out wx hG).1
        go_simp
        exact ⟨Below.refl _ _, rfl⟩
      refine ⟨fun r wx hG hs hq hf => ?_, ?_⟩
      · have h1 : r 6 = .slice a1 nx c1 := hf.1
        refine (if_pos rfl).symm ▸ ?_
        clear hs hq hf
        unfold gives
        have hs := string_of_bytes (P := Tryd.prog) (w := wx) Tryd.underlying25 Tryd.underlying5 Tryd.underlying9 (HR.out.1.keep hG)
        go_simp
        exact ⟨Below.refl _ _, rfl⟩
      refine ⟨fun r wx hG hs hq hf => ?_, ?_⟩
      · have e3 : r 3 = .pointer (some ⟨w.heap.size, 0, none⟩) := hs 3 rfl
        refine (if_pos rfl).symm ▸ ?_
        clear hs hq hf
        unfold gives
        go_simp
        exact ⟨Below.refl _ _, rfl⟩
      refine ⟨fun r wx hG hs hq hf => ?_, ?_⟩
      · have h3 : r 8 = .pointer (some ⟨w.heap.size, 1, none⟩) := hf.1
        refine (if_pos rfl).symm ▸ ?_
        clear hs hq hf
        unfold gives
        have hcl := (HC.out wx hG).2
        go_simp
        exact ⟨Below.refl _ _, rfl⟩
      refine ⟨fun r wx hG hs hq hf => ?_, ?_⟩
      · have h4 : r 9 = .slice a2 ny c2 := hf.1
        refine (if_pos rfl).symm ▸ ?_
        clear hs hq hf
        unfold gives
        have hs := string_of_bytes (P := Tryd.prog) (w := wx) Tryd.underlying25 Tryd.underlying5 Tryd.underlying9 (HR.out.2.keep hG)
        go_simp
        exact ⟨Below.refl _ _, rfl⟩
      refine ⟨fun r wx hG hs hq hf => ?_, ?_⟩
      · have h2 : r 7 = .string ⟨X.toArray⟩ := hf.1
        have h5 : r 10 = .string ⟨Y.toArray⟩ := hf.2.1
        refine (if_pos rfl).symm ▸ ?_
        clear hs hq hf
        unfold gives
        have hqb := HQ.out
        go_simp
        exact ⟨Below.refl _ _, by simp [clYF]⟩
      refine ⟨fun r wx hG hs hq hf => ?_, ?_⟩
      · have h6 : r 11 = .bool true := hf.1
        refine (if_pos rfl).symm ▸ ?_
        clear hs hq hf
        unfold gives
        go_simp
        exact ⟨Below.refl _ _, rfl⟩
      refine ⟨fun r wx hG hs hq hf => ?_, ?_⟩
      · have e3 : r 3 = .pointer (some ⟨w.heap.size, 0, none⟩) := hs 3 rfl
        have h7 : r 12 = .bool true := hf.1
        have hy : ydD [some 5, some 6, some 7, some 8, some 9, some 10, some 11, some 12, some 13, some 14, some 15, some 16, some 17, some 18, some 19, some 20, some 21, some 22, some 23, some 24, some 4] r 7 = some true := by show (match r 12 with | .bool b => some b | _ => none) = some true; rw [h7]
        simp only [Region.wanted, hy, beq_self_eq_true, if_true]
        clear hs hq hf hy
        unfold gives
        go_simp
        exact ⟨Below.refl _ _, rfl⟩
      refine ⟨fun r wx hG hs hq hf => ?_, ?_⟩
      · have h8 : r 13 = .pointer (some ⟨w.heap.size, 0, none⟩) := hf.1
        have h7 : r 12 = .bool true := hf.2.1
        have hy : ydD [some 5, some 6, some 7, some 8, some 9, some 10, some 11, some 12, some 13, some 14, some 15, some 16, some 17, some 18, some 19, some 20, some 21, some 22, some 23, some 24, some 4] r 7 = some true := by show (match r 12 with | .bool b => some b | _ => none) = some true; rw [h7]
        simp only [Region.wanted, hy, beq_self_eq_true, if_true]
        clear hs hq hf hy
        unfold gives
        have hcl := (HC.out wx hG).1
        go_simp
        exact ⟨Below.refl _ _, rfl⟩
      refine ⟨fun r wx hG hs hq hf => ?_, ?_⟩
      · have h9 : r 14 = .slice a1 nx c1 := hf.1
        have h7 : r 12 = .bool true := hf.2.1
        have hy : ydD [some 5, some 6, some 7, some 8, some 9, some 10, some 11, some 12, some 13, some 14, some 15, some 16, some 17, some 18, some 19, some 20, some 21, some 22, some 23, some 24, some 4] r 7 = some true := by show (match r 12 with | .bool b => some b | _ => none) = some true; rw [h7]
        simp only [Region.wanted, hy, beq_self_eq_true, if_true]
        clear hs hq hf hy
        unfold gives
        go_simp
        refine (HSX.out wx hG).mono ?_
        rintro e wy ⟨rfl, hb1⟩
        exact ⟨_, rfl, hb1, rfl⟩
      refine ⟨fun r wx hG hs hq hf => ?_, ?_⟩
      · have e0 : r 0 = .int .i64 W := hs 0 rfl
        have h7 : r 12 = .bool true := hf.1
        have hy : ydD [some 5, some 6, some 7, some 8, some 9, some 10, some 11, some 12, some 13, some 14, some 15, some 16, some 17, some 18, some 19, some 20, some 21, some 22, some 23, some 24, some 4] r 7 = some true := by show (match r 12 with | .bool b => some b | _ => none) = some true; rw [h7]
        simp only [Region.wanted, hy, beq_self_eq_true, if_true]
        clear hs hq hf hy
        unfold gives
        go_simp
        exact ⟨Below.refl _ _, rfl⟩
      refine ⟨fun r wx hG hs hq hf => ?_, ?_⟩
      · have h10 : r 15 = .agg (bv sx).toArray := hf.1
        have h11 : r 16 = .int .i64 W := hf.2.1
        have h7 : r 12 = .bool true := hf.2.2.2.1
        have hy : ydD [some 5, some 6, some 7, some 8, some 9, some 10, some 11, some 12, some 13, some 14, some 15, some 16, some 17, some 18, some 19, some 20, some 21, some 22, some 23, some 24, some 4] r 7 = some true := by show (match r 12 with | .bool b => some b | _ => none) = some true; rw [h7]
        simp only [Region.wanted, hy, beq_self_eq_true, if_true]
        clear hs hq hf hy
        unfold gives
        go_simp
        refine (HNX.out wx hG).mono ?_
        rintro e wy ⟨rfl, hb1⟩
        exact ⟨_, rfl, hb1, rfl⟩
      refine ⟨fun r wx hG hs hq hf => ?_, ?_⟩
      · have e3 : r 3 = .pointer (some ⟨w.heap.size, 0, none⟩) := hs 3 rfl
        have h7 : r 12 = .bool true := hf.1
        have hy : ydD [some 5, some 6, some 7, some 8, some 9, some 10, some 11, some 12, some 13, some 14, some 15, some 16, some 17, some 18, some 19, some 20, some 21, some 22, some 23, some 24, some 4] r 7 = some true := by show (match r 12 with | .bool b => some b | _ => none) = some true; rw [h7]
        simp only [Region.wanted, hy, beq_self_eq_true, if_true]
        clear hs hq hf hy
        unfold gives
        go_simp
        exact ⟨Below.refl _ _, rfl⟩
      refine ⟨fun r wx hG hs hq hf => ?_, ?_⟩
      · have h13 : r 18 = .pointer (some ⟨w.heap.size, 1, none⟩) := hf.1
        have h7 : r 12 = .bool true := hf.2.1
        have hy : ydD [some 5, some 6, some 7, some 8, some 9, some 10, some 11, some 12, some 13, some 14, some 15, some 16, some 17, some 18, some 19, some 20, some 21, some 22, some 23, some 24, some 4] r 7 = some true := by show (match r 12 with | .bool b => some b | _ => none) = some true; rw [h7]
        simp only [Region.wanted, hy, beq_self_eq_true, if_true]
        clear hs hq hf hy
        unfold gives
        have hcl := (HC.out wx hG).2
        go_simp
        exact ⟨Below.refl _ _, rfl⟩
      refine ⟨fun r wx hG hs hq hf => ?_, ?_⟩
      · have h14 : r 19 = .slice a2 ny c2 := hf.1
        have h7 : r 12 = .bool true := hf.2.2.1
        have hy : ydD [some 5, some 6, some 7, some 8, some 9, some 10, some 11, some 12, some 13, some 14, some 15, some 16, some 17, some 18, some 19, some 20, some 21, some 22, some 23, some 24, some 4] r 7 = some true := by show (match r 12 with | .bool b => some b | _ => none) = some true; rw [h7]
        simp only [Region.wanted, hy, beq_self_eq_true, if_true]
        clear hs hq hf hy
        unfold gives
        go_simp
        refine (HSY.out wx hG).mono ?_
        rintro e wy ⟨rfl, hb1⟩
        exact ⟨_, rfl, hb1, rfl⟩
      refine ⟨fun r wx hG hs hq hf => ?_, ?_⟩
      · have e0 : r 0 = .int .i64 W := hs 0 rfl
        have h7 : r 12 = .bool true := hf.1
        have hy : ydD [some 5, some 6, some 7, some 8, some 9, some 10, some 11, some 12, some 13, some 14, some 15, some 16, some 17, some 18, some 19, some 20, some 21, some 22, some 23, some 24, some 4] r 7 = some true := by show (match r 12 with | .bool b => some b | _ => none) = some true; rw [h7]
        simp only [Region.wanted, hy, beq_self_eq_true, if_true]
        clear hs hq hf hy
        unfold gives
        go_simp
        exact ⟨Below.refl _ _, rfl⟩
      refine ⟨fun r wx hG hs hq hf => ?_, ?_⟩
      · have h15 : r 20 = .agg (bv sy).toArray := hf.1
        have h16 : r 21 = .int .i64 W := hf.2.1
        have h7 : r 12 = .bool true := hf.2.2.2.1
        have hy : ydD [some 5, some 6, some 7, some 8, some 9, some 10, some 11, some 12, some 13, some 14, some 15, some 16, some 17, some 18, some 19, some 20, some 21, some 22, some 23, some 24, some 4] r 7 = some true := by show (match r 12 with | .bool b => some b | _ => none) = some true; rw [h7]
        simp only [Region.wanted, hy, beq_self_eq_true, if_true]
        clear hs hq hf hy
        unfold gives
        go_simp
        refine (HNY.out wx hG).mono ?_
        rintro e wy ⟨rfl, hb1⟩
        exact ⟨_, rfl, hb1, rfl⟩
      refine ⟨fun r wx hG hs hq hf => ?_, ?_⟩
      · have h12 : r 17 = .agg (bv hx).toArray := hf.1
        have h17 : r 22 = .agg (bv hy).toArray := hf.2.1
        have h7 : r 12 = .bool true := hf.2.2.1
        have hy : ydD [some 5, some 6, some 7, some 8, some 9, some 10, some 11, some 12, some 13, some 14, some 15, some 16, some 17, some 18, some 19, some 20, some 21, some 22, some 23, some 24, some 4] r 7 = some true := by show (match r 12 with | .bool b => some b | _ => none) = some true; rw [h7]
        simp only [Region.wanted, hy, beq_self_eq_true, if_true]
        clear hs hq hf hy
        unfold gives
        have hqe := eqIn_hash hx hy HL2.out.1 HL2.out.2 wx
        have hgd := eq_guard
        go_simp
        exact ⟨Below.refl _ _, rfl⟩
      refine ⟨fun r wx hG hs hq hf => ?_, ?_⟩
      · have h7 : r 12 = .bool true := hf.1
        have h18 : r 23 = .bool (hx == hy) := hf.2.1
        refine (if_pos rfl).symm ▸ ?_
        clear hs hq hf
        unfold gives
        go_simp
        exact ⟨Below.refl _ _, rfl⟩
      refine ⟨fun r wx hG hs hq hf => ?_, ?_⟩
      · have h19 : r 24 = .bool (hx == hy) := hf.1
        refine (if_pos rfl).symm ▸ ?_
        clear hs hq hf
        unfold gives
        go_simp
        exact ⟨Below.refl _ _, rfl⟩
      exact trivial
    case hend =>
      intro u wz hG hfin
      have z20 : u 20 = .bool (hx == hy) := hfin 20 (by decide) (by kernel_rfl)
      clear hfin
      simp only [fill]
      have HZ := Lib.hid (H0.out.trans (hG.mono H0.out.size))
      have hz := z20
      clear z20 hG
      go_simp
      go_wp2_with fail
      go_ret
      exact ⟨rfl, HZ.out⟩

end Go.Proofs.YtfibhmgjkooemaaDoor
