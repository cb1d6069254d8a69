/- Cut out of XRfA. -/
import Derived.Test.YtdociiogddihfaaRdA0
import Derived.Test.YtdociiogddihfaaReg
namespace Go.Proofs.Ytdociiogddihfaa
open Go.RowKit

/-- The document's reader at block q: the bytes B, read up to pos, its error no. -/
structure Rfr (w : World) (q : Nat) (a : Option Addr) (c : Nat) (B : List UInt8) (pos : Nat) (no : Int) : Prop where
  row : w.heap[q]? = some (.cells #[.slice a B.length c, .int .i64 pos, .int .i64 no] 77 (0, 0))
  rd : Rd w 1 (.slice a B.length c) B.length (bv B)
  off : B ≠ [] → ∀ x, a = some x → x.block ≠ q
  le : pos ≤ B.length
theorem Rfr.cells {w : World} {q : Nat} {a : Option Addr} {c : Nat} {B : List UInt8} {pos : Nat} {no : Int} (h : Rfr w q a c B pos no) :
    q < w.heap.size ∧ w.cell? ⟨q, 0, none⟩ = some (.slice a B.length c) ∧ w.cell? ⟨q, 1, none⟩ = some (.int .i64 pos) ∧ w.cell? ⟨q, 2, none⟩ = some (.int .i64 no) :=
  ⟨(Array.getElem?_eq_some_iff.1 h.row).1, cell_of_row h.row rfl, cell_of_row h.row rfl, cell_of_row h.row rfl⟩
theorem Rfr.of {w w' : World} {q : Nat} {a : Option Addr} {c : Nat} {B : List UInt8} {pos pos' : Nat} {no no' : Int} (h : Rfr w q a c B pos no) (hg : w.grownBy w' (some q))
    (hr : w'.heap[q]? = some (.cells #[.slice a B.length c, .int .i64 pos', .int .i64 no'] 77 (0, 0))) (hp : pos' ≤ B.length) : Rfr w' q a c B pos' no' := by
  refine ⟨hr, ?_, h.off, hp⟩
  rcases Nat.eq_zero_or_pos B.length with h0 | h0
  · have : B = [] := List.eq_nil_of_length_eq_zero h0
    subst this
    obtain ⟨h1, h2, h3 | ⟨ad, cc, hv, hc, _⟩⟩ := h.rd
    · exact ⟨h1, h2, .inl h3⟩
    · exact ⟨h1, h2, .inr ⟨ad, cc, hv, hc, fun j u hu => by simp [bv] at hu⟩⟩
  · obtain ⟨b, o, k, hv, _, cell⟩ := h.rd.at h0
    simp only [Value.slice.injEq] at hv
    have hbq := h.off (fun e => by rw [e] at h0; simp at h0) _ hv.1
    refine h.rd.keepP (fun y hy => ?_)
    rw [hv.1] at hy
    obtain rfl := Option.some.inj hy
    obtain ⟨u, hu⟩ : ∃ u, (bv B)[0]? = some u := ⟨(bv B)[0]'(by rw [bv_length]; exact h0), List.getElem?_eq_getElem _⟩
    have hlt := World.block_lt_of_cell? _ _ (cell 0 u hu)
    exact hg.block b hlt (fun e => hbq (by simp only [Option.some.injEq] at e; exact e))
theorem Rfr.below {w w' : World} {q : Nat} {a : Option Addr} {c : Nat} {B : List UInt8} {pos : Nat} {no : Int} (h : Rfr w q a c B pos no) (hb : Below w.heap.size w w') : Rfr w' q a c B pos no :=
  h.of (below_grownR hb) ((hb.block q (Array.getElem?_eq_some_iff.1 h.row).1).trans h.row) h.le
theorem Rfr.keep {w w' : World} {q : Nat} {a : Option Addr} {c : Nat} {B : List UInt8} {pos : Nat} {no : Int} (h : Rfr w q a c B pos no) {r : Option Nat} (hg : w.grownBy w' r) (hq : r ≠ some q) (ha : B ≠ [] → ∀ x, a = some x → r ≠ some x.block) : Rfr w' q a c B pos no := by
  refine ⟨(hg.block q (Array.getElem?_eq_some_iff.1 h.row).1 (fun e => hq e.symm)).trans h.row, ?_, h.off, h.le⟩
  rcases Nat.eq_zero_or_pos B.length with h0 | h0
  · have : B = [] := List.eq_nil_of_length_eq_zero h0
    subst this
    obtain ⟨h1, h2, h3 | ⟨ad, cc, hv, hc, _⟩⟩ := h.rd
    · exact ⟨h1, h2, .inl h3⟩
    · exact ⟨h1, h2, .inr ⟨ad, cc, hv, hc, fun j u hu => by simp [bv] at hu⟩⟩
  · obtain ⟨b, o, k, hv, _, cell⟩ := h.rd.at h0
    simp only [Value.slice.injEq] at hv
    refine h.rd.keepP (fun y hy => ?_)
    have hne := ha (fun e => by rw [e] at h0; simp at h0) y hy
    rw [hv.1] at hy
    obtain rfl := Option.some.inj hy
    obtain ⟨u, hu⟩ : ∃ u, (bv B)[0]? = some u := ⟨(bv B)[0]'(by rw [bv_length]; exact h0), List.getElem?_eq_getElem _⟩
    exact hg.block b (World.block_lt_of_cell? _ _ (cell 0 u hu)) (fun e => hne e.symm)
theorem rfail_any (w : World) (q : Nat) (a : Option Addr) (c : Nat) (B : List UInt8) (pos : Nat) (no : Int) (h : Rfr w q a c B pos no) (no' : Int) (pos' : Nat) (hp : pos' ≤ B.length) :
    Calls Try.prog 62 #[.pointer (some ⟨q, 0, none⟩), .int .i64 no', .int .i64 pos'] w fun e w' => e = .returned (.int .i64 no') ∧ Rfr w' q a c B pos' no' ∧ w.grownBy w' (some q) := by
  have hc1 := h.cells.2.2.1
  have hc2 := h.cells.2.2.2
  have hz2 : w.frozen? ⟨q, 2, none⟩ = false := by simp [World.frozen?, h.row]
  have hz1 : (w.setCell ⟨q, 2, none⟩ (.int .i64 no')).frozen? ⟨q, 1, none⟩ = false := by simp [World.frozen?, heap_setCell_same w q 2 _ _ (.int .i64 no') h.row]
  have FIN : Hid (Rfr ((w.setCell ⟨q, 2, none⟩ (.int .i64 no')).setCell ⟨q, 1, none⟩ (.int .i64 pos')) q a c B pos' no' ∧ w.grownBy ((w.setCell ⟨q, 2, none⟩ (.int .i64 no')).setCell ⟨q, 1, none⟩ (.int .i64 pos')) (some q)) := Lib.hid (by
    have hg := grown_set1 (grown_set1 (World.grownBy.refl w (some q)) 2 (.int .i64 no')) 1 (.int .i64 pos')
    refine ⟨h.of hg ?_ hp, hg⟩
    have h1 := heap_setCell_same w q 2 _ _ (.int .i64 no') h.row
    rw [heap_setCell_same _ q 1 _ _ (.int .i64 pos') h1]; rfl)
  clear h
  go_enter Try.func62, Try.ntmps62
  go_wp2_with fail
  go_ret
  exact ⟨rfl, FIN.out⟩

/-- What each operation hands on. -/
def rfLeftF (q n c pos : Nat) (_no : Int) (a : Option Addr) : Nat → Value → World → Prop
  | 0, v, _ => v = .pointer (some ⟨q, 0, none⟩)
  | 1, v, _ => v = .pointer (some ⟨q, 0, none⟩)
  | 2, v, _ => v = .pointer (some ⟨q, 0, none⟩)
  | 3, v, _ => v = .slice a n c
  | 4, v, _ => v = .int .i64 n
  | 5, v, _ => v = .pointer (some ⟨q, 0, none⟩)
  | 6, v, _ => v = .pointer (some ⟨q, 0, none⟩)
  | 7, v, _ => v = .pointer (some ⟨q, 1, none⟩)
  | 8, v, _ => v = .int .i64 pos
  | 9, v, _ => v = .int .i64 (n - pos : Nat)
  | 10, v, _ => v = .int .i64 (n - pos : Nat)
  | _, _, _ => True

/-- What each operation hands on. -/
def rfByte2F (q _n _c _pos : Nat) (no : Int) (_a : Option Addr) : Nat → Value → World → Prop
  | 0, v, _ => v = .pointer (some ⟨q, 0, none⟩)
  | 1, v, _ => v = .pointer (some ⟨q, 0, none⟩)
  | 2, v, _ => v = .pointer (some ⟨q, 2, none⟩)
  | 3, v, _ => v = .int .i64 no
  | 4, v, _ => v = .int .u8 0
  | 5, v, _ => v = .int .i64 no
  | _, _, _ => True

/-- What each operation hands on. -/
def rfByte3F (q n c pos : Nat) (_no : Int) (a : Option Addr) : Nat → Value → World → Prop
  | 0, v, _ => v = .pointer (some ⟨q, 0, none⟩)
  | 1, v, _ => v = .pointer (some ⟨q, 0, none⟩)
  | 2, v, _ => v = .pointer (some ⟨q, 1, none⟩)
  | 3, v, _ => v = .int .i64 pos
  | 4, v, _ => v = .pointer (some ⟨q, 0, none⟩)
  | 5, v, _ => v = .pointer (some ⟨q, 0, none⟩)
  | 6, v, _ => v = .pointer (some ⟨q, 0, none⟩)
  | 7, v, _ => v = .slice a n c
  | 8, v, _ => v = .int .i64 n
  | 9, v, _ => v = .bool true
  | _, _, _ => True

/-- What each operation hands on. -/
def rfByte6F (q n c pos k b o x : Nat) (_no : Int) : Nat → Value → World → Prop
  | 0, v, _ => v = .pointer (some ⟨q, 0, none⟩)
  | 1, v, _ => v = .pointer (some ⟨q, 0, none⟩)
  | 2, v, _ => v = .pointer (some ⟨q, 0, none⟩)
  | 3, v, _ => v = .slice (some ⟨b, o, none⟩) n c
  | 4, v, _ => v = .pointer (some ⟨q, 0, none⟩)
  | 5, v, _ => v = .pointer (some ⟨q, 0, none⟩)
  | 6, v, _ => v = .pointer (some ⟨q, 1, none⟩)
  | 7, v, _ => v = .int .i64 pos
  | 8, v, _ => v = .int .i64 k
  | 9, v, _ => v = .pointer (some ⟨b, o + k, none⟩)
  | 10, v, _ => v = .int .u8 x
  | 11, v, _ => v = .int .u8 x
  | 12, v, _ => v = .int .i64 0
  | _, _, _ => True

/-- What each operation hands on. -/
def rfByte3G (q n c pos : Nat) (_no : Int) (a : Option Addr) : Nat → Value → World → Prop
  | 0, v, _ => v = .pointer (some ⟨q, 0, none⟩)
  | 1, v, _ => v = .pointer (some ⟨q, 0, none⟩)
  | 2, v, _ => v = .pointer (some ⟨q, 1, none⟩)
  | 3, v, _ => v = .int .i64 pos
  | 4, v, _ => v = .pointer (some ⟨q, 0, none⟩)
  | 5, v, _ => v = .pointer (some ⟨q, 0, none⟩)
  | 6, v, _ => v = .pointer (some ⟨q, 0, none⟩)
  | 7, v, _ => v = .slice a n c
  | 8, v, _ => v = .int .i64 n
  | 9, v, _ => v = .bool false
  | _, _, _ => True

set_option maxHeartbeats 1000000 in
theorem rLeft_any (w : World) (q : Nat) (a : Option Addr) (c : Nat) (B : List UInt8) (pos : Nat) (no : Int) (h : Rfr w q a c B pos no) (hl : B.length ≤ 140737488355328) :
    Calls Try.prog 42 #[.pointer (some ⟨q, 0, none⟩)] w fun e w' => e = .returned (.int .i64 (B.length - pos : Nat)) ∧ Below w.heap.size w w' := by
  have hle := h.le
  have HC := Lib.hid (h.cells)
  have HH := Lib.hid h
  obtain ⟨n, hn⟩ : ∃ n, n = B.length := ⟨_, rfl⟩
  rw [← hn] at HC
  rw [← hn] at hl hle ⊢
  clear h hn
  go_enter Try.func42, Try.ntmps42
  go_wp2_with fail
  refine wp_region_steps [some 3, some 4, some 5, some 6, some 7, some 8, some 9, some 10, some 11, some 12, some 2] [] (rfLeftF q n c pos no a) (fun _ wx wy => Below wx.heap.size wx wy) (fun wx => Below w.heap.size w wx) (by kernel_rfl) (by kernel_rfl) rfl (by kernel_rfl) (Below.refl _ _).drew (fun _ wx => Below.refl _ _) (fun _ wx wy h k => h.trans (k.mono h.size)) ?hF ?hstep ?hend
  case hF =>
    exact ⟨fun _ _ _ _ _ _ h => h, ⟨fun _ _ _ _ _ _ h => h, ⟨fun _ _ _ _ _ _ h => h, ⟨fun _ _ _ _ _ _ h => h, ⟨fun _ _ _ _ _ _ h => h, ⟨fun _ _ _ _ _ _ h => h, ⟨fun _ _ _ _ _ _ h => h, ⟨fun _ _ _ _ _ _ h => h, ⟨fun _ _ _ _ _ _ h => h, ⟨fun _ _ _ _ _ _ h => h, ⟨fun _ _ _ _ _ _ h => h, trivial⟩⟩⟩⟩⟩⟩⟩⟩⟩⟩⟩
  case hstep =>
    refine ⟨fun r wx hG hs hq hf => ?_, ?_⟩
    · have e0 : r 0 = .pointer (some ⟨q, 0, none⟩) := hs 0 rfl
      refine (if_pos rfl).symm ▸ ?_
      clear hs hq hf
      unfold gives
      go_simp
      exact ⟨Below.refl _ _, rfl⟩
    refine ⟨fun r wx hG hs hq hf => ?_, ?_⟩
    · have h0 : r 3 = .pointer (some ⟨q, 0, none⟩) := hf.1
      refine (if_pos rfl).symm ▸ ?_
      clear hs hq hf
      unfold gives
      go_simp
      exact ⟨Below.refl _ _, rfl⟩
    refine ⟨fun r wx hG hs hq hf => ?_, ?_⟩
    · have h1 : r 4 = .pointer (some ⟨q, 0, none⟩) := hf.1
      refine (if_pos rfl).symm ▸ ?_
      clear hs hq hf
      unfold gives
      go_simp
      exact ⟨Below.refl _ _, rfl⟩
    refine ⟨fun r wx hG hs hq hf => ?_, ?_⟩
    · have h2 : r 5 = .pointer (some ⟨q, 0, none⟩) := hf.1
      refine (if_pos rfl).symm ▸ ?_
      clear hs hq hf
      unfold gives
      have hc := (hG.cell (p := ⟨q, 0, none⟩) HC.out.1).trans HC.out.2.1
      go_simp
      exact ⟨Below.refl _ _, rfl⟩
    refine ⟨fun r wx hG hs hq hf => ?_, ?_⟩
    · have h3 : r 6 = .slice a n c := hf.1
      refine (if_pos rfl).symm ▸ ?_
      clear hs hq hf
      unfold gives
      go_simp
      exact ⟨Below.refl _ _, rfl⟩
    refine ⟨fun r wx hG hs hq hf => ?_, ?_⟩
    · have e0 : r 0 = .pointer (some ⟨q, 0, none⟩) := hs 0 rfl
      refine (if_pos rfl).symm ▸ ?_
      clear hs hq hf
      unfold gives
      go_simp
      exact ⟨Below.refl _ _, rfl⟩
    refine ⟨fun r wx hG hs hq hf => ?_, ?_⟩
    · have h5 : r 8 = .pointer (some ⟨q, 0, none⟩) := hf.1
      refine (if_pos rfl).symm ▸ ?_
      clear hs hq hf
      unfold gives
      go_simp
      exact ⟨Below.refl _ _, rfl⟩
    refine ⟨fun r wx hG hs hq hf => ?_, ?_⟩
    · have h6 : r 9 = .pointer (some ⟨q, 0, none⟩) := hf.1
      refine (if_pos rfl).symm ▸ ?_
      clear hs hq hf
      unfold gives
      go_simp
      exact ⟨Below.refl _ _, rfl⟩
    refine ⟨fun r wx hG hs hq hf => ?_, ?_⟩
    · have h7 : r 10 = .pointer (some ⟨q, 1, none⟩) := hf.1
      refine (if_pos rfl).symm ▸ ?_
      clear hs hq hf
      unfold gives
      have hc := (hG.cell (p := ⟨q, 1, none⟩) HC.out.1).trans HC.out.2.2.1
      go_simp
      exact ⟨Below.refl _ _, rfl⟩
    refine ⟨fun r wx hG hs hq hf => ?_, ?_⟩
    · have h4 : r 7 = .int .i64 n := hf.1
      have h8 : r 11 = .int .i64 pos := hf.2.1
      refine (if_pos rfl).symm ▸ ?_
      clear hs hq hf
      unfold gives
      have z7 : IntKind.i64.wrap ((n : Int) - (pos : Int)) = ((n - pos : Nat) : Int) := by rw [IntWalk.i64_in _ (by omega)]; omega
      go_simp
      exact ⟨Below.refl _ _, rfl⟩
    refine ⟨fun r wx hG hs hq hf => ?_, ?_⟩
    · have h9 : r 12 = .int .i64 (n - pos : Nat) := hf.1
      refine (if_pos rfl).symm ▸ ?_
      clear hs hq hf
      unfold gives
      go_simp
      exact ⟨Below.refl _ _, rfl⟩
    exact trivial
  case hend =>
    intro u wz hG hfin
    have z10 : u 10 = .int .i64 (n - pos : Nat) := hfin 10 (by decide) (by kernel_rfl)
    clear hfin
    simp only [fill]
    go_simp
    go_wp2_with fail
    go_ret
    exact ⟨rfl, hG⟩
set_option maxHeartbeats 2000000 in
theorem rByte_bad (w : World) (q : Nat) (a : Option Addr) (c : Nat) (B : List UInt8) (pos : Nat) (no : Int) (h : Rfr w q a c B pos no) (hno : no ≠ 0) :
    Calls Try.prog 61 #[.pointer (some ⟨q, 0, none⟩)] w fun e w' => e = .returned (.tuple #[.int .u8 0, .int .i64 no]) ∧ Rfr w' q a c B pos no ∧ w.grownBy w' (some q) := by
  have HC := Lib.hid (h.cells)
  have HH := Lib.hid h
  obtain ⟨n, hn⟩ : ∃ n, n = B.length := ⟨_, rfl⟩
  rw [← hn] at HC
  have hc2 := HC.out.2.2.2
  have z1 : (no == 0) = false := by simp [hno]
  clear h hn
  go_enter Try.func61, Try.ntmps61
  go_wp2_with fail
  refine wp_region_steps [some 9, some 10, some 11, some 12, some 2, some 3] [] (rfByte2F q n c pos no a) (fun _ wx wy => Below wx.heap.size wx wy) (fun wx => Below w.heap.size w wx) (by kernel_rfl) (by kernel_rfl) rfl (by kernel_rfl) (Below.refl _ _).drew (fun _ wx => Below.refl _ _) (fun _ wx wy h k => h.trans (k.mono h.size)) ?hF ?hstep ?hend
  case hF =>
    exact ⟨fun _ _ _ _ _ _ h => h, ⟨fun _ _ _ _ _ _ h => h, ⟨fun _ _ _ _ _ _ h => h, ⟨fun _ _ _ _ _ _ h => h, ⟨fun _ _ _ _ _ _ h => h, ⟨fun _ _ _ _ _ _ h => h, trivial⟩⟩⟩⟩⟩⟩
  case hstep =>
    refine ⟨fun r wx hG hs hq hf => ?_, ?_⟩
    · have e0 : r 0 = .pointer (some ⟨q, 0, none⟩) := hs 0 rfl
      refine (if_pos rfl).symm ▸ ?_
      clear hs hq hf
      unfold gives
      go_simp
      exact ⟨Below.refl _ _, rfl⟩
    refine ⟨fun r wx hG hs hq hf => ?_, ?_⟩
    · have h0 : r 9 = .pointer (some ⟨q, 0, none⟩) := hf.1
      refine (if_pos rfl).symm ▸ ?_
      clear hs hq hf
      unfold gives
      go_simp
      exact ⟨Below.refl _ _, rfl⟩
    refine ⟨fun r wx hG hs hq hf => ?_, ?_⟩
    · have h1 : r 10 = .pointer (some ⟨q, 0, none⟩) := hf.1
      refine (if_pos rfl).symm ▸ ?_
      clear hs hq hf
      unfold gives
      go_simp
      exact ⟨Below.refl _ _, rfl⟩
    refine ⟨fun r wx hG hs hq hf => ?_, ?_⟩
    · have h2 : r 11 = .pointer (some ⟨q, 2, none⟩) := hf.1
      refine (if_pos rfl).symm ▸ ?_
      clear hs hq hf
      unfold gives
      have hc := (hG.cell (p := ⟨q, 2, none⟩) HC.out.1).trans HC.out.2.2.2
      go_simp
      exact ⟨Below.refl _ _, rfl⟩
    refine ⟨fun r wx hG hs hq hf => ?_, ?_⟩
    · refine (if_pos rfl).symm ▸ ?_
      clear hs hq hf
      unfold gives
      go_simp
      exact ⟨Below.refl _ _, rfl⟩
    refine ⟨fun r wx hG hs hq hf => ?_, ?_⟩
    · have h3 : r 12 = .int .i64 no := hf.1
      refine (if_pos rfl).symm ▸ ?_
      clear hs hq hf
      unfold gives
      go_simp
      exact ⟨Below.refl _ _, rfl⟩
    exact trivial
  case hend =>
    intro u wz hG hfin
    have z4 : u 4 = .int .u8 0 := hfin 4 (by decide) (by kernel_rfl)
    have z5 : u 5 = .int .i64 no := hfin 5 (by decide) (by kernel_rfl)
    clear hfin
    simp only [fill]
    go_simp
    go_wp2_with fail
    go_ret2
    exact ⟨rfl, HH.out.below hG, below_grownR hG⟩
set_option maxHeartbeats 2000000 in
theorem rByte_end (w : World) (q : Nat) (a : Option Addr) (c : Nat) (B : List UInt8) (pos : Nat) (h : Rfr w q a c B pos 0) (hp : pos = B.length) :
    Calls Try.prog 61 #[.pointer (some ⟨q, 0, none⟩)] w fun e w' => e = .returned (.tuple #[.int .u8 0, .int .i64 2]) ∧ Rfr w' q a c B pos 2 ∧ w.grownBy w' (some q) := by
  have HC := Lib.hid (h.cells)
  have HH := Lib.hid h
  obtain ⟨n, hn⟩ : ∃ n, n = B.length := ⟨_, rfl⟩
  rw [← hn] at HC
  have HN := Lib.hid hn
  have hc2 := HC.out.2.2.2
  have zge : n ≤ pos := by omega
  have HGE := Lib.hid hp
  clear h hn hp
  go_enter Try.func61, Try.ntmps61
  go_wp2_with fail
  refine wp_region_steps [some 13, some 14, some 15, some 16, some 17, some 18, some 19, some 20, some 21, some 22] [] (rfByte3F q n c pos 0 a) (fun _ wx wy => Below wx.heap.size wx wy) (fun wx => Below w.heap.size w wx) (by kernel_rfl) (by kernel_rfl) rfl (by kernel_rfl) (Below.refl _ _).drew (fun _ wx => Below.refl _ _) (fun _ wx wy h k => h.trans (k.mono h.size)) ?hF ?hstep ?hend
  case hF =>
    exact ⟨fun _ _ _ _ _ _ h => h, ⟨fun _ _ _ _ _ _ h => h, ⟨fun _ _ _ _ _ _ h => h, ⟨fun _ _ _ _ _ _ h => h, ⟨fun _ _ _ _ _ _ h => h, ⟨fun _ _ _ _ _ _ h => h, ⟨fun _ _ _ _ _ _ h => h, ⟨fun _ _ _ _ _ _ h => h, ⟨fun _ _ _ _ _ _ h => h, ⟨fun _ _ _ _ _ _ h => h, trivial⟩⟩⟩⟩⟩⟩⟩⟩⟩⟩
  case hstep =>
    refine ⟨fun r wx hG hs hq hf => ?_, ?_⟩
    · have e0 : r 0 = .pointer (some ⟨q, 0, none⟩) := hs 0 rfl
      refine (if_pos rfl).symm ▸ ?_
      clear hs hq hf
      unfold gives
      go_simp
      exact ⟨Below.refl _ _, rfl⟩
    refine ⟨fun r wx hG hs hq hf => ?_, ?_⟩
    · have h0 : r 13 = .pointer (some ⟨q, 0, none⟩) := hf.1
      refine (if_pos rfl).symm ▸ ?_
      clear hs hq hf
      unfold gives
      go_simp
      exact ⟨Below.refl _ _, rfl⟩
    refine ⟨fun r wx hG hs hq hf => ?_, ?_⟩
    · have h1 : r 14 = .pointer (some ⟨q, 0, none⟩) := hf.1
      refine (if_pos rfl).symm ▸ ?_
      clear hs hq hf
      unfold gives
      go_simp
      exact ⟨Below.refl _ _, rfl⟩
    refine ⟨fun r wx hG hs hq hf => ?_, ?_⟩
    · have h2 : r 15 = .pointer (some ⟨q, 1, none⟩) := hf.1
      refine (if_pos rfl).symm ▸ ?_
      clear hs hq hf
      unfold gives
      have hc := (hG.cell (p := ⟨q, 1, none⟩) HC.out.1).trans HC.out.2.2.1
      go_simp
      exact ⟨Below.refl _ _, rfl⟩
    refine ⟨fun r wx hG hs hq hf => ?_, ?_⟩
    · have e0 : r 0 = .pointer (some ⟨q, 0, none⟩) := hs 0 rfl
      refine (if_pos rfl).symm ▸ ?_
      clear hs hq hf
      unfold gives
      go_simp
      exact ⟨Below.refl _ _, rfl⟩
    refine ⟨fun r wx hG hs hq hf => ?_, ?_⟩
    · have h4 : r 17 = .pointer (some ⟨q, 0, none⟩) := hf.1
      refine (if_pos rfl).symm ▸ ?_
      clear hs hq hf
      unfold gives
      go_simp
      exact ⟨Below.refl _ _, rfl⟩
    refine ⟨fun r wx hG hs hq hf => ?_, ?_⟩
    · have h5 : r 18 = .pointer (some ⟨q, 0, none⟩) := hf.1
      refine (if_pos rfl).symm ▸ ?_
      clear hs hq hf
      unfold gives
      go_simp
      exact ⟨Below.refl _ _, rfl⟩
    refine ⟨fun r wx hG hs hq hf => ?_, ?_⟩
    · have h6 : r 19 = .pointer (some ⟨q, 0, none⟩) := hf.1
      refine (if_pos rfl).symm ▸ ?_
      clear hs hq hf
      unfold gives
      have hc := (hG.cell (p := ⟨q, 0, none⟩) HC.out.1).trans HC.out.2.1
      go_simp
      exact ⟨Below.refl _ _, rfl⟩
    refine ⟨fun r wx hG hs hq hf => ?_, ?_⟩
    · have h7 : r 20 = .slice a n c := hf.1
      refine (if_pos rfl).symm ▸ ?_
      clear hs hq hf
      unfold gives
      go_simp
      exact ⟨Below.refl _ _, rfl⟩
    refine ⟨fun r wx hG hs hq hf => ?_, ?_⟩
    · have h3 : r 16 = .int .i64 pos := hf.1
      have h8 : r 21 = .int .i64 n := hf.2.1
      refine (if_pos rfl).symm ▸ ?_
      clear hs hq hf
      unfold gives
      go_simp
      exact ⟨Below.refl _ _, rfl⟩
    exact trivial
  case hend =>
    intro u wz hG hfin
    have z9 : u 9 = .bool true := hfin 9 (by decide) (by kernel_rfl)
    clear hfin
    simp only [fill]
    go_simp
    have hf := rfail_any wz q a c B pos 0 (HH.out.below hG) 2 pos (by have := HGE.out; omega)
    have hcz := (hG.cell (p := ⟨q, 1, none⟩) HC.out.1).trans HC.out.2.2.1
    go_wp2_with fail
    refine hf.mono ?_
    rintro e w5 ⟨rfl, hr5, hg5⟩
    go_wp2_with fail
    go_ret2
    exact ⟨rfl, hr5, grown_trans (below_grownR hG) hg5 (fun j hj => .inl hj)⟩
set_option maxHeartbeats 4000000 in
theorem rByte_good (w : World) (q : Nat) (a : Option Addr) (c : Nat) (B : List UInt8) (pos : Nat) (x : UInt8) (h : Rfr w q a c B pos 0) (hx : B[pos]? = some x) (hl : B.length ≤ 140737488355328) :
    Calls Try.prog 61 #[.pointer (some ⟨q, 0, none⟩)] w fun e w' => e = .returned (.tuple #[.int .u8 x.toNat, .int .i64 0]) ∧ Rfr w' q a c B (pos + 1) 0 ∧ w.grownBy w' (some q) := by
  have hlt := (List.getElem?_eq_some_iff.1 hx).1
  obtain ⟨b, o, k0, hv, hcap, cell⟩ := h.rd.at (by omega)
  simp only [Value.slice.injEq, true_and] at hv
  obtain ⟨rfl, rfl⟩ := hv
  have hc := cell pos (.int .u8 x.toNat) (by simp [bv, hx])
  have HX0 := Lib.hid (And.intro hc (World.block_lt_of_cell? _ _ hc))
  have HC := Lib.hid (h.cells)
  have HH := Lib.hid h
  obtain ⟨n, hn⟩ : ∃ n, n = B.length := ⟨_, rfl⟩
  rw [← hn] at HC
  have HN := Lib.hid hn
  rw [← hn] at hl hlt hcap
  have hc2 := HC.out.2.2.2
  have zge : ¬ (n ≤ pos) := by omega
  clear h hn hc cell hx
  go_enter Try.func61, Try.ntmps61
  go_wp2_with fail
  refine wp_region_steps [some 13, some 14, some 15, some 16, some 17, some 18, some 19, some 20, some 21, some 22] [] (rfByte3G q n c pos 0 (some ⟨b, o, none⟩)) (fun _ wx wy => Below wx.heap.size wx wy) (fun wx => Below w.heap.size w wx) (by kernel_rfl) (by kernel_rfl) rfl (by kernel_rfl) (Below.refl _ _).drew (fun _ wx => Below.refl _ _) (fun _ wx wy h k => h.trans (k.mono h.size)) ?hF ?hstep ?hend
  case hF =>
    exact ⟨fun _ _ _ _ _ _ h => h, ⟨fun _ _ _ _ _ _ h => h, ⟨fun _ _ _ _ _ _ h => h, ⟨fun _ _ _ _ _ _ h => h, ⟨fun _ _ _ _ _ _ h => h, ⟨fun _ _ _ _ _ _ h => h, ⟨fun _ _ _ _ _ _ h => h, ⟨fun _ _ _ _ _ _ h => h, ⟨fun _ _ _ _ _ _ h => h, ⟨fun _ _ _ _ _ _ h => h, trivial⟩⟩⟩⟩⟩⟩⟩⟩⟩⟩
  case hstep =>
    refine ⟨fun r wx hG hs hq hf => ?_, ?_⟩
    · have e0 : r 0 = .pointer (some ⟨q, 0, none⟩) := hs 0 rfl
      refine (if_pos rfl).symm ▸ ?_
      clear hs hq hf
      unfold gives
      go_simp
      exact ⟨Below.refl _ _, rfl⟩
    refine ⟨fun r wx hG hs hq hf => ?_, ?_⟩
    · have h0 : r 13 = .pointer (some ⟨q, 0, none⟩) := hf.1
      refine (if_pos rfl).symm ▸ ?_
      clear hs hq hf
      unfold gives
      go_simp
      exact ⟨Below.refl _ _, rfl⟩
    refine ⟨fun r wx hG hs hq hf => ?_, ?_⟩
    · have h1 : r 14 = .pointer (some ⟨q, 0, none⟩) := hf.1
      refine (if_pos rfl).symm ▸ ?_
      clear hs hq hf
      unfold gives
      go_simp
      exact ⟨Below.refl _ _, rfl⟩
    refine ⟨fun r wx hG hs hq hf => ?_, ?_⟩
    · have h2 : r 15 = .pointer (some ⟨q, 1, none⟩) := hf.1
      refine (if_pos rfl).symm ▸ ?_
      clear hs hq hf
      unfold gives
      have hc := (hG.cell (p := ⟨q, 1, none⟩) HC.out.1).trans HC.out.2.2.1
      go_simp
      exact ⟨Below.refl _ _, rfl⟩
    refine ⟨fun r wx hG hs hq hf => ?_, ?_⟩
    · have e0 : r 0 = .pointer (some ⟨q, 0, none⟩) := hs 0 rfl
      refine (if_pos rfl).symm ▸ ?_
      clear hs hq hf
      unfold gives
      go_simp
      exact ⟨Below.refl _ _, rfl⟩
    refine ⟨fun r wx hG hs hq hf => ?_, ?_⟩
    · have h4 : r 17 = .pointer (some ⟨q, 0, none⟩) := hf.1
      refine (if_pos rfl).symm ▸ ?_
      clear hs hq hf
      unfold gives
      go_simp
      exact ⟨Below.refl _ _, rfl⟩
    refine ⟨fun r wx hG hs hq hf => ?_, ?_⟩
    · have h5 : r 18 = .pointer (some ⟨q, 0, none⟩) := hf.1
      refine (if_pos rfl).symm ▸ ?_
      clear hs hq hf
      unfold gives
      go_simp
      exact ⟨Below.refl _ _, rfl⟩
    refine ⟨fun r wx hG hs hq hf => ?_, ?_⟩
    · have h6 : r 19 = .pointer (some ⟨q, 0, none⟩) := hf.1
      refine (if_pos rfl).symm ▸ ?_
      clear hs hq hf
      unfold gives
      have hc := (hG.cell (p := ⟨q, 0, none⟩) HC.out.1).trans HC.out.2.1
      go_simp
      exact ⟨Below.refl _ _, rfl⟩
    refine ⟨fun r wx hG hs hq hf => ?_, ?_⟩
    · have h7 : r 20 = .slice (some ⟨b, o, none⟩) n c := hf.1
      refine (if_pos rfl).symm ▸ ?_
      clear hs hq hf
      unfold gives
      go_simp
      exact ⟨Below.refl _ _, rfl⟩
    refine ⟨fun r wx hG hs hq hf => ?_, ?_⟩
    · have h3 : r 16 = .int .i64 pos := hf.1
      have h8 : r 21 = .int .i64 n := hf.2.1
      refine (if_pos rfl).symm ▸ ?_
      clear hs hq hf
      unfold gives
      go_simp
      exact ⟨Below.refl _ _, rfl⟩
    exact trivial
  case hend =>
    intro u wz hG hfin
    have z9 : u 9 = .bool false := hfin 9 (by decide) (by kernel_rfl)
    clear hfin
    simp only [fill]
    go_simp
    have hcz := (hG.cell (p := ⟨q, 1, none⟩) HC.out.1).trans HC.out.2.2.1
    have hzz : wz.frozen? ⟨q, 1, none⟩ = false := by simp [World.frozen?, (HH.out.below hG).row]
    have z9 : IntKind.i64.wrap ((pos : Int) + 1) = ((pos + 1 : Nat) : Int) := (IntWalk.i64_in _ (by omega)).trans (by omega)
    have hrz : Rfr (wz.setCell ⟨q, 1, none⟩ (.int .i64 ((pos + 1 : Nat) : Int))) q (some ⟨b, o, none⟩) c B (pos + 1) 0 := by
      refine (HH.out.below hG).of (grown_set1 (World.grownBy.refl _ _) 1 _) ?_ (by have := HN.out; omega)
      rw [heap_setCell_same wz q 1 _ _ _ (HH.out.below hG).row]; rfl
    have hgz : w.grownBy (wz.setCell ⟨q, 1, none⟩ (.int .i64 ((pos + 1 : Nat) : Int))) (some q) := grown_set1 (below_grownR hG) 1 _
    go_wp2_with fail
    obtain ⟨w2, hw2⟩ : ∃ w2 : World, w2 = wz.setCell ⟨q, 1, none⟩ (.int .i64 ((pos + 1 : Nat) : Int)) := ⟨_, rfl⟩
    have hcn : ((pos + 1 : Nat) : Int) = (pos : Int) + 1 := by omega
    rw [← hw2] at hrz hgz
    try rw [hcn] at hw2
    rw [← hw2]
    have HH2 := Lib.hid (And.intro hrz hgz)
    have HC0 := HC
    have HC := Lib.hid hrz.cells
    rw [← HN.out] at HC
    have hx2 := (hgz.block b HX0.out.2 (fun e => HH.out.off (fun e => by have := HN.out; rw [e] at this; simp at this; omega) _ rfl (by simp only [Option.some.injEq] at e; exact e)))
    have hx3 : w2.cell? ⟨b, o + pos, none⟩ = some (.int .u8 x.toNat) := (World.cell?_of_block (a := ⟨b, o + pos, none⟩) hx2).trans HX0.out.1
    have HX := Lib.hid (And.intro (World.block_lt_of_cell? _ _ hx3) hx3)
    clear hcz hzz hrz hgz hw2 hx2 hx3 hG HC0
    refine wp_region_steps [some 36, some 37, some 38, some 39, some 40, some 41, some 42, some 43, some 44, some 45, some 46, some 2, some 3] [] (rfByte6F q n c (pos + 1) pos b o x.toNat 0) (fun _ wx wy => Below wx.heap.size wx wy) (fun wx => Below w2.heap.size w2 wx) (by kernel_rfl) (by kernel_rfl) rfl (by kernel_rfl) (Below.refl _ _).drew (fun _ wx => Below.refl _ _) (fun _ wx wy h k => h.trans (k.mono h.size)) ?hF ?hstep ?hend
    case hF =>
      exact ⟨fun _ _ _ _ _ _ h => h, ⟨fun _ _ _ _ _ _ h => h, ⟨fun _ _ _ _ _ _ h => h, ⟨fun _ _ _ _ _ _ h => h, ⟨fun _ _ _ _ _ _ h => h, ⟨fun _ _ _ _ _ _ h => h, ⟨fun _ _ _ _ _ _ h => h, ⟨fun _ _ _ _ _ _ h => h, ⟨fun _ _ _ _ _ _ h => h, ⟨fun _ _ _ _ _ _ h => h, ⟨fun _ _ _ _ _ _ h => h, ⟨fun _ _ _ _ _ _ h => h, ⟨fun _ _ _ _ _ _ h => h, trivial⟩⟩⟩⟩⟩⟩⟩⟩⟩⟩⟩⟩⟩
    case hstep =>
      refine ⟨fun r wx hG hs hq hf => ?_, ?_⟩
      · have e0 : r 0 = .pointer (some ⟨q, 0, none⟩) := hs 0 rfl
        refine (if_pos rfl).symm ▸ ?_
        clear hs hq hf
        unfold gives
        go_simp
        exact ⟨Below.refl _ _, rfl⟩
      refine ⟨fun r wx hG hs hq hf => ?_, ?_⟩
      · have h0 : r 36 = .pointer (some ⟨q, 0, none⟩) := hf.1
        refine (if_pos rfl).symm ▸ ?_
        clear hs hq hf
        unfold gives
        go_simp
        exact ⟨Below.refl _ _, rfl⟩
      refine ⟨fun r wx hG hs hq hf => ?_, ?_⟩
      · have h1 : r 37 = .pointer (some ⟨q, 0, none⟩) := hf.1
        refine (if_pos rfl).symm ▸ ?_
        clear hs hq hf
        unfold gives
        go_simp
        exact ⟨Below.refl _ _, rfl⟩
      refine ⟨fun r wx hG hs hq hf => ?_, ?_⟩
      · have h2 : r 38 = .pointer (some ⟨q, 0, none⟩) := hf.1
        refine (if_pos rfl).symm ▸ ?_
        clear hs hq hf
        unfold gives
        have hc := (hG.cell (p := ⟨q, 0, none⟩) HC.out.1).trans HC.out.2.1
        go_simp
        exact ⟨Below.refl _ _, rfl⟩
      refine ⟨fun r wx hG hs hq hf => ?_, ?_⟩
      · have e0 : r 0 = .pointer (some ⟨q, 0, none⟩) := hs 0 rfl
        refine (if_pos rfl).symm ▸ ?_
        clear hs hq hf
        unfold gives
        go_simp
        exact ⟨Below.refl _ _, rfl⟩
      refine ⟨fun r wx hG hs hq hf => ?_, ?_⟩
      · have h4 : r 40 = .pointer (some ⟨q, 0, none⟩) := hf.1
        refine (if_pos rfl).symm ▸ ?_
        clear hs hq hf
        unfold gives
        go_simp
        exact ⟨Below.refl _ _, rfl⟩
      refine ⟨fun r wx hG hs hq hf => ?_, ?_⟩
      · have h5 : r 41 = .pointer (some ⟨q, 0, none⟩) := hf.1
        refine (if_pos rfl).symm ▸ ?_
        clear hs hq hf
        unfold gives
        go_simp
        exact ⟨Below.refl _ _, rfl⟩
      refine ⟨fun r wx hG hs hq hf => ?_, ?_⟩
      · have h6 : r 42 = .pointer (some ⟨q, 1, none⟩) := hf.1
        refine (if_pos rfl).symm ▸ ?_
        clear hs hq hf
        unfold gives
        have hc := (hG.cell (p := ⟨q, 1, none⟩) HC.out.1).trans HC.out.2.2.1
        go_simp
        exact ⟨Below.refl _ _, rfl⟩
      refine ⟨fun r wx hG hs hq hf => ?_, ?_⟩
      · have h7 : r 43 = .int .i64 (pos + 1 : Nat) := hf.1
        refine (if_pos rfl).symm ▸ ?_
        clear hs hq hf
        unfold gives
        have z8 : IntKind.i64.wrap (pos : Int) = (pos : Int) := IntWalk.i64_in _ (by omega)
        go_simp
        exact ⟨Below.refl _ _, rfl⟩
      refine ⟨fun r wx hG hs hq hf => ?_, ?_⟩
      · have h3 : r 39 = .slice (some ⟨b, o, none⟩) n c := hf.1
        have h8 : r 44 = .int .i64 pos := hf.2.1
        refine (if_pos rfl).symm ▸ ?_
        clear hs hq hf
        unfold gives
        have zk : (0 : Int) ≤ (pos : Int) := by omega
        go_simp
        exact ⟨Below.refl _ _, rfl⟩
      refine ⟨fun r wx hG hs hq hf => ?_, ?_⟩
      · have h9 : r 45 = .pointer (some ⟨b, o + pos, none⟩) := hf.1
        refine (if_pos rfl).symm ▸ ?_
        clear hs hq hf
        unfold gives
        have hc := (hG.cell (p := ⟨b, o + pos, none⟩) HX.out.1).trans HX.out.2
        go_simp
        exact ⟨Below.refl _ _, rfl⟩
      refine ⟨fun r wx hG hs hq hf => ?_, ?_⟩
      · have h10 : r 46 = .int .u8 x.toNat := hf.1
        refine (if_pos rfl).symm ▸ ?_
        clear hs hq hf
        unfold gives
        go_simp
        exact ⟨Below.refl _ _, rfl⟩
      refine ⟨fun r wx hG hs hq hf => ?_, ?_⟩
      · refine (if_pos rfl).symm ▸ ?_
        clear hs hq hf
        unfold gives
        go_simp
        exact ⟨Below.refl _ _, rfl⟩
      exact trivial
    case hend =>
      intro u wz hG hfin
      have z11 : u 11 = .int .u8 x.toNat := hfin 11 (by decide) (by kernel_rfl)
      have z12 : u 12 = .int .i64 0 := hfin 12 (by decide) (by kernel_rfl)
      clear hfin
      simp only [fill]
      go_simp
      go_wp2_with fail
      go_ret2
      exact ⟨rfl, HH2.out.1.below hG, grown_trans HH2.out.2 (below_grownR hG) (fun j hj => .inl hj)⟩
end Go.Proofs.Ytdociiogddihfaa
