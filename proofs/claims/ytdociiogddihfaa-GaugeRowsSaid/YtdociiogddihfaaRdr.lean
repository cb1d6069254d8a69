/- bin's Reader: one byte; a number. -/
import Derived.Test.YtdociiogddihfaaRec
import Derived.Test.YtdociiogddihfaaShelf
import Derived.Test.YtdociiogddihfaaProg
import Derived.Outline
import Derived.Deep.DeepCutAuto
import Derived.Deep.CutBlock
import Derived.Laws.Rows
import Derived.Laws.Bits64b
import Derived.Defers
namespace Go.Proofs.Ytdociiogddihfaa
open Go.RowKit

/-- A reader at block p: what is left is l, its error no. -/
structure Rdr (w : World) (p : Nat) (a : Option Addr) (c : Nat) (no : Int) (l : List UInt8) : Prop where
  row : w.heap[p]? = some (.cells #[.slice a l.length c, .int .i64 no] 88 (0, 0))
  rd : Rd w 1 (.slice a l.length c) l.length (bv l)
  off : ∀ x, a = some x → x.block < p
/-- What a panic with an error hands on. -/
def errP (e : Int) : List PanicEntry := [{ v := .iface 46 (.int .i64 e), recovered := false }]

theorem one_none (w : World) (p : Nat) (a : Option Addr) (c : Nat) (no : Int) (h : Rdr w p a c no []) :
    Calls Try.prog 65 #[.pointer (some ⟨p, 0, none⟩)] w fun e w' => e = .panicked (errP 2) ∧ w' = w := by
  have h0 : w.cell? ⟨p, 0, none⟩ = some (.slice a 0 c) := by simp [World.cell?, h.row]
  go_enter Try.func65, Try.ntmps65
  go_wp2_with fail
  exact ⟨rfl, rfl, rfl⟩

/-- What is left behind one byte: where. -/
def nxA (b off c : Nat) : Option Addr := if c = 1 then some ⟨b, off, none⟩ else some ⟨b, off + 1, none⟩
theorem Rd.keepP {w w' : World} {a : Option Addr} {n n' c : Nat} {xs : List Value} (h : Rd w 1 (.slice a n c) n' xs) (hb : ∀ y, a = some y → w'.heap[y.block]? = w.heap[y.block]?) : Rd w' 1 (.slice a n c) n' xs := by
  obtain ⟨hl, h1, h2 | ⟨ad, c', hv, hc, hcell⟩⟩ := h
  · exact ⟨hl, h1, .inl h2⟩
  · refine ⟨hl, h1, .inr ⟨ad, c', hv, hc, fun j u hu => ?_⟩⟩
    simp only [Value.slice.injEq] at hv
    rw [← hcell j u hu]
    have he : (ad.add j).block = ad.block := by unfold Addr.add; split <;> rfl
    exact World.cell?_of_block (by rw [he]; exact hb ad hv.1)
theorem rd_drop1 {w : World} {b off n c : Nat} {x : UInt8} {l : List UInt8} (h : Rd w 1 (.slice (some ⟨b, off, none⟩) (n + 1) c) (n + 1) (bv (x :: l))) : Rd w 1 (.slice (nxA b off c) n (c - 1)) n (bv l) := by
  have hl := h.1
  obtain ⟨b', off', c', hv, hcap, hcell⟩ := h.at (by omega)
  simp only [Value.slice.injEq, Option.some.injEq, Addr.mk.injEq, and_true, true_and] at hv
  obtain ⟨⟨rfl, rfl⟩, rfl⟩ := hv
  have hln : l.length = n := by simpa [bv_length] using hl
  unfold nxA
  by_cases h1 : c = 1
  · have hn : n = 0 := by omega
    rw [if_pos h1]
    have : l = [] := List.eq_nil_of_length_eq_zero (by omega)
    subst this
    exact ⟨by simp [hn, bv], by simp [bv], .inr ⟨_, _, rfl, by omega, fun j u hu => by simp [bv] at hu⟩⟩
  · rw [if_neg h1]
    refine ⟨by rw [bv_length, hln]; omega, bv_one _, .inr ⟨_, _, rfl, by omega, fun j u hu => ?_⟩⟩
    have := hcell (j + 1) u (by simpa [bv] using hu)
    rw [Addr.add_lit]
    rwa [show off + 1 + j = off + (j + 1) by omega]
theorem Rdr.next {w : World} {p b off c : Nat} {no : Int} {x : UInt8} {l : List UInt8} (h : Rdr w p (some ⟨b, off, none⟩) c no (x :: l)) :
    Rdr (w.setCell ⟨p, 0, none⟩ (.slice (nxA b off c) l.length (c - 1))) p (nxA b off c) (c - 1) no l := by
  have hne : b < p := h.off _ rfl
  have hoff : ∀ y, nxA b off c = some y → y.block < p := fun y hy => by
    unfold nxA at hy
    split at hy <;> (simp only [Option.some.injEq] at hy; subst hy; exact hne)
  refine ⟨by rw [heap_setCell_same w p 0 _ _ _ h.row]; rfl, ?_, hoff⟩
  have h1 := rd_drop1 h.rd
  exact h1.keepP (fun y hy => heap_setCell_other w ⟨p, 0, none⟩ y.block _ (Nat.ne_of_lt (hoff y hy)))
theorem one_some (w : World) (p b off c : Nat) (no : Int) (x : UInt8) (l : List UInt8) (h : Rdr w p (some ⟨b, off, none⟩) c no (x :: l)) :
    Calls Try.prog 65 #[.pointer (some ⟨p, 0, none⟩)] w fun e w' => e = .returned (.int .u8 x.toNat) ∧ w' = w.setCell ⟨p, 0, none⟩ (.slice (nxA b off c) l.length (c - 1)) := by
  have h0 : w.cell? ⟨p, 0, none⟩ = some (.slice (some ⟨b, off, none⟩) (l.length + 1) c) := by simp [World.cell?, h.row]
  have hz : w.frozen? ⟨p, 0, none⟩ = false := by simp [World.frozen?, h.row]
  obtain ⟨b', off', c', hv, hcap, hcell⟩ := h.rd.at (by simp)
  simp only [Value.slice.injEq, Option.some.injEq, Addr.mk.injEq, and_true, true_and, List.length_cons] at hv
  obtain ⟨⟨rfl, rfl⟩, rfl⟩ := hv
  have hx : w.cell? ⟨b, off, none⟩ = some (.int .u8 x.toNat) := by have := hcell 0 (.int .u8 x.toNat) (by simp [bv]); simpa using this
  obtain ⟨n, hn⟩ : ∃ n, n = l.length := ⟨_, rfl⟩
  rw [← hn] at h0 ⊢
  simp only [List.length_cons, ← hn] at hcap
  clear hcell hn h
  have z0 : (((n + 1 : Nat) : Int) == 0) = false := by simp; omega
  go_enter Try.func65, Try.ntmps65
  by_cases h1 : c = 1
  · have z1 : n = 0 := by omega
    go_wp2_with fail
    go_ret
    exact ⟨rfl, by simp [nxA, h1, z1]⟩
  · go_wp2_with fail
    go_ret
    exact ⟨rfl, by simp [nxA, h1]⟩
theorem Rdr.addr {w : World} {p : Nat} {a : Option Addr} {c : Nat} {no : Int} {x : UInt8} {l : List UInt8} (h : Rdr w p a c no (x :: l)) : ∃ b off, a = some ⟨b, off, none⟩ := by
  obtain ⟨b, off, c', hv, _, _⟩ := h.rd.at (by simp)
  simp only [Value.slice.injEq] at hv
  exact ⟨b, off, hv.1⟩
theorem grown_set1 {w0 w : World} {g : Nat} (h : w0.grownBy w (some g)) (i : Nat) (v : Value) : w0.grownBy (w.setCell ⟨g, i, none⟩ v) (some g) :=
  ⟨h.os, h.tape, h.output, by have := h.size; simpa [World.setCell] using this, fun k hk hne => (heap_setCell_other w ⟨g, i, none⟩ k v (fun e => hne (by rw [e]))).trans (h.block k hk hne)⟩
/-- One byte. -/
theorem one_any (w : World) (p : Nat) (a : Option Addr) (c : Nat) (no : Int) (x : UInt8) (l : List UInt8) (h : Rdr w p a c no (x :: l)) :
    Calls Try.prog 65 #[.pointer (some ⟨p, 0, none⟩)] w fun e w' => ∃ a' c', e = .returned (.int .u8 x.toNat) ∧ Rdr w' p a' c' no l ∧ w.grownBy w' (some p) := by
  obtain ⟨b, off, rfl⟩ := h.addr
  refine (one_some w p b off c no x l h).mono ?_
  rintro e w' ⟨rfl, rfl⟩
  exact ⟨_, _, rfl, h.next, grown_set1 (World.grownBy.refl _ _) 0 _⟩
theorem or_byte (n : Nat) (c : UInt8) : bits .or .u64 ((n * 256 : Nat) : Int) (c.toNat : Int) = ((n * 256 + c.toNat : Nat) : Int) ∨ 72057594037927936 ≤ n := by
  rcases Nat.lt_or_ge n 72057594037927936 with h | h
  · left
    have hc : c.toNat < 256 := c.toNat_lt
    rw [bits_or_u64_nat _ _ (by omega) (by omega)]
    have := Nat.two_pow_add_eq_or_of_lt (i := 8) hc n
    rw [show (2 : Nat) ^ 8 = 256 from rfl, Nat.mul_comm] at this
    rw [← this]
  · exact .inr h
/-- What a number's reading comes to. -/
def NumR (w w' : World) (p : Nat) (no : Int) (R : Int × Nat × List UInt8) (e : Ending) : Prop :=
  w.grownBy w' (some p) ∧ if R.1 = 0 then e = .returned (.int .u64 R.2.1) ∧ ∃ a' c', Rdr w' p a' c' no R.2.2 else e = .panicked (errP R.1) ∧ ∃ v, w'.heap[p]? = some (.cells #[v, .int .i64 no] 88 (0, 0))
set_option maxHeartbeats 4000000 in
set_option maxRecDepth 100000 in
theorem number_any (w : World) (p : Nat) (a : Option Addr) (c : Nat) (no : Int) (l : List UInt8) (h : Rdr w p a c no l) :
    Calls Try.prog 60 #[.pointer (some ⟨p, 0, none⟩)] w fun e w' => NumR w w' p no (rdN l) e := by
  cases l with
  | nil =>
    have h1 := one_none w p a c no h
    have HR := Lib.hid h
    clear h
    go_enter Try.func60, Try.ntmps60
    go_wp2_with fail
    refine h1.mono ?_
    rintro e w' ⟨rfl, rfl⟩
    exact ⟨rfl, World.grownBy.refl _ _, by rw [if_neg (by decide)]; exact ⟨rfl, _, HR.out.row⟩⟩
  | cons k t =>
    have h1 := one_any w p a c no k t h
    obtain ⟨R, hR⟩ : ∃ R, R = rdN (k :: t) := ⟨_, rfl⟩
    rw [← hR]
    rw [rdN] at hR
    obtain ⟨K, hK⟩ : ∃ K, K = k.toNat := ⟨_, rfl⟩
    have hK8 : K < 256 := by rw [hK]; exact k.toNat_lt
    rw [← hK] at hR h1
    clear h hK
    go_enter Try.func60, Try.ntmps60
    go_wp2_with fail
    refine h1.mono ?_
    rintro e w1 ⟨a1, c1, rfl, hr1, hg1⟩
    by_cases h8 : 8 < K
    · have z1 : (8 : Int) < (K : Int) := by omega
      rw [if_pos h8] at hR
      have HZ := Lib.hid (And.intro hr1 hg1)
      clear hr1 hg1
      go_wp2_with fail
      refine ⟨rfl, HZ.out.2, ?_⟩
      rw [hR, if_neg (by simp)]
      exact ⟨rfl, _, HZ.out.1.row⟩
    · have z1 : ¬ (8 : Int) < (K : Int) := by omega
      rw [if_neg h8] at hR
      have HR := Lib.hid hR
      have HZ := Lib.hid (And.intro hr1 hg1)
      clear hr1 hg1 hR
      go_wp2_with fail
      go_loopw [2, 4, 5, 12] (fun s2 _ _ s12 wr => ∃ (i acc : Nat) (a' : Option Addr) (c' : Nat) (l' : List UInt8), i ≤ K ∧ s12 = .int .u8 i ∧ s2 = .int .u64 acc ∧ acc < 256 ^ i ∧ Rdr wr p a' c' no l' ∧ w.grownBy wr (some p) ∧ R = rdK (K - i) i acc l') (fun _ _ _ s12 _ => K - (intOf s12).toNat)
      case atStart => exact ⟨0, 0, a1, c1, t, by omega, rfl, rfl, by decide, HZ.out.1, HZ.out.2, HR.out⟩
      case round =>
        obtain ⟨i, acc, a', c', l', hiK, rfl, rfl, hacc, hrd, hg, hRe⟩ := hrel
        by_cases hlt : i < K
        · have z2 : (i : Int) < (K : Int) := by omega
          obtain ⟨q, hq⟩ : ∃ q, K - i = q + 1 := ⟨K - i - 1, by omega⟩
          rw [hq] at hRe
          cases l' with
          | nil =>
            have h2 := one_none wr p a' c' no hrd
            have H2 := Lib.hid (And.intro hrd (And.intro hg hRe))
            clear hrd hg hRe
            go_wp2_with fail
            refine h2.mono ?_
            rintro e w' ⟨rfl, rfl⟩
            refine ⟨rfl, H2.out.2.1, ?_⟩
            rw [H2.out.2.2]
            exact ⟨rfl, _, H2.out.1.row⟩
          | cons x l2 =>
            have h2 := one_any wr p a' c' no x l2 hrd
            have H2 := Lib.hid (And.intro hg hRe)
            clear hrd hg hRe
            go_wp2_with fail
            refine h2.mono ?_
            rintro e w3 ⟨a3, c3, rfl, hr3, hg3⟩
            have H3 := Lib.hid (And.intro hr3 (grown_trans H2.out.1 hg3 (fun j hj => .inl hj)))
            have hRe := H2.out.2
            rw [rdK] at hRe
            obtain ⟨y, hy⟩ : ∃ y, y = x.toNat := ⟨_, rfl⟩
            have hy8 : y < 256 := by rw [hy]; exact x.toNat_lt
            rw [← hy] at hRe
            by_cases hbad : i = 0 ∧ y = 0
            · obtain ⟨hi0, hy0⟩ := hbad
              have z3 : ((i : Int) == 0) = true := by simp; omega
              have z4 : ((y : Int) == 0) = true := by simp; omega
              rw [if_pos ⟨hi0, hy0⟩] at hRe
              have H4 := Lib.hid hRe
              have HY := Lib.hid hy
              clear hr3 hg3 hRe hy h2
              rw [← HY.out]
              go_wp2_with fail
              refine ⟨rfl, H3.out.2, ?_⟩
              rw [H4.out]
              exact ⟨rfl, _, H3.out.1.row⟩
            · rw [if_neg hbad] at hRe
              have hi7 : i < 8 := by omega
              have hpow : 256 ^ i ≤ 256 ^ 7 := Nat.pow_le_pow_right (by omega) (by omega)
              have e7 : (256 : Nat) ^ 7 = 72057594037927936 := by decide
              have hor := (or_byte acc x).resolve_right (by omega)
              rw [← hy] at hor
              have hacc2 : acc * 256 + y < 256 ^ (i + 1) := by rw [Nat.pow_succ]; omega
              have z5 : IntKind.u64.wrap ((acc : Int) * 256) = ((acc * 256 : Nat) : Int) := (IntWalk.u64_in _ (by omega)).trans (by omega)
              have z6 : IntKind.u64.wrap (y : Int) = (y : Int) := IntWalk.u64_in _ (by omega)
              have z7 : IntKind.u8.wrap ((i : Int) + 1) = ((i + 1 : Nat) : Int) := by rw [IntKind.wrap_u8]; omega
              have H4 := Lib.hid (And.intro hRe hacc2)
              have hacc3 : acc < 72057594037927936 := by omega
              clear hr3 hg3 hRe hacc2 hpow e7
              have z8 : bits .or .u64 ((acc : Int) * 256) (y : Int) = ((acc * 256 + y : Nat) : Int) := by rw [← hor]; simp
              have HY := Lib.hid hy
              have HW7 := Lib.hid z7
              clear hor hy h2 hy8 z5
              have z5 : IntKind.u64.wrap ((acc : Int) * 256) = (acc : Int) * 256 := IntWalk.u64_in _ (by omega)
              rcases Nat.eq_zero_or_pos i with hi0 | hi0
              · have z3 : ((i : Int) == 0) = true := by simp; omega
                have z4 : ((y : Int) == 0) = false := by simp; omega
                rw [← HY.out]
                go_wp2_with fail
                go_roundw
                case rel => exact ⟨i + 1, acc * 256 + y, a3, c3, l2, by omega, by first | rfl | (rw [HW7.out]) | go_num, by first | rfl | (rw [z8]), H4.out.2, H3.out.1, H3.out.2, by rw [show K - (i + 1) = q by omega]; exact H4.out.1⟩
                case measure =>
                  have z9 : IntKind.u8.wrap ((i : Int) + 1) = (i : Int) + 1 := by rw [IntKind.wrap_u8]; omega
                  simp [intOf]
                  omega
              · have z3 : ((i : Int) == 0) = false := by simp; omega
                rw [← HY.out]
                go_wp2_with fail
                go_roundw
                case rel => exact ⟨i + 1, acc * 256 + y, a3, c3, l2, by omega, by first | rfl | (rw [HW7.out]) | go_num, by first | rfl | (rw [z8]), H4.out.2, H3.out.1, H3.out.2, by rw [show K - (i + 1) = q by omega]; exact H4.out.1⟩
                case measure =>
                  have z9 : IntKind.u8.wrap ((i : Int) + 1) = (i : Int) + 1 := by rw [IntKind.wrap_u8]; omega
                  simp [intOf]
                  omega
        · have z2 : ¬ (i : Int) < (K : Int) := by omega
          rw [show K - i = 0 by omega, rdK] at hRe
          have H2 := Lib.hid (And.intro hrd (And.intro hg hRe))
          clear hrd hg hRe
          go_wp2_with fail
          go_ret
          refine ⟨H2.out.2.1, ?_⟩
          rw [H2.out.2.2, if_pos rfl]
          exact ⟨rfl, _, _, H2.out.1⟩
set_option maxRecDepth 100000 in
/-- A reader that is stuck panics with its error. -/
theorem start_any (w : World) (p : Nat) (a : Option Addr) (c : Nat) (no : Int) (l : List UInt8) (h : Rdr w p a c no l) :
    Calls Try.prog 59 #[.pointer (some ⟨p, 0, none⟩)] w fun e w' => e = (if no = 0 then .returned (.tuple #[]) else .panicked (errP no)) ∧ w' = w := by
  have h1 : w.cell? ⟨p, 1, none⟩ = some (.int .i64 no) := by simp [World.cell?, h.row]
  clear h
  by_cases h0 : no = 0
  · subst h0
    go_enter Try.func59, Try.ntmps59
    go_wp2_with fail
    go_end0
    exact ⟨rfl, rfl⟩
  · have z1 : (no == 0) = false := by simp [h0]
    rw [if_neg h0]
    go_enter Try.func59, Try.ntmps59
    go_wp2_with fail
    exact ⟨rfl, rfl, rfl⟩
set_option maxRecDepth 100000 in
/-- What was caught: the reader is set back. -/
theorem caught_some (w : World) (p q : Nat) (old : Value) (aw : Option Addr) (nw cw : Nat) (no e0 err : Int) (hp : w.heap[p]? = some (.cells #[old, .int .i64 no] 88 (0, 0))) (hq : w.heap[q]? = some (.cells #[.int .i64 e0] 46 (0, 0))) (hpq : p ≠ q) :
    Calls Try.prog 58 #[.pointer (some ⟨p, 0, none⟩), .iface 46 (.int .i64 err), .slice aw nw cw, .pointer (some ⟨q, 0, none⟩)] w fun e w' => e = .returned (.tuple #[]) ∧
      w' = ((w.setCell ⟨p, 0, none⟩ (.slice aw nw cw)).setCell ⟨p, 1, none⟩ (.int .i64 err)).setCell ⟨q, 0, none⟩ (.int .i64 err) := by
  have h0 : w.cell? ⟨p, 0, none⟩ = some old := by simp [World.cell?, hp]
  have h1 : w.cell? ⟨p, 1, none⟩ = some (.int .i64 no) := by simp [World.cell?, hp]
  have h2 : w.cell? ⟨q, 0, none⟩ = some (.int .i64 e0) := by simp [World.cell?, hq]
  have z0 : w.frozen? ⟨p, 0, none⟩ = false := by simp [World.frozen?, hp]
  have z1 : w.frozen? ⟨p, 1, none⟩ = false := by simp [World.frozen?, hp]
  have z2 : w.frozen? ⟨q, 0, none⟩ = false := by simp [World.frozen?, hq]
  have hta : ∀ wx : World, (Instr.typeAssert (.iface 46 (.int .i64 err)) 20 46 true).run Try.prog wx = .ok (.tuple #[.int .i64 err, .bool true]) wx := fun _ => by first | rfl | kernel_rfl
  have hqp : q ≠ p := fun e => hpq e.symm
  go_enter Try.func58, Try.ntmps58
  go_wp2_with fail
  go_end0
  exact ⟨rfl, rfl⟩
set_option maxRecDepth 100000 in
theorem caught_none (w : World) (p q : Nat) (aw : Option Addr) (nw cw : Nat) :
    Calls Try.prog 58 #[.pointer (some ⟨p, 0, none⟩), .nilIface, .slice aw nw cw, .pointer (some ⟨q, 0, none⟩)] w fun e w' => e = .returned (.tuple #[]) ∧ w' = w := by
  have hta : ∀ wx : World, (Instr.typeAssert .nilIface 20 46 true).run Try.prog wx = .ok (.tuple #[.int .i64 0, .bool false]) wx := fun _ => by first | rfl | kernel_rfl
  go_enter Try.func58, Try.ntmps58
  go_wp2_with fail
  go_end0
  exact ⟨rfl, rfl⟩
set_option maxRecDepth 100000 in
theorem close_some (w : World) (b1 b4 b3 p : Nat) (old : Value) (aw : Option Addr) (nw cw : Nat) (no e0 err : Int) (older : List PanicEntry) (h1 : w.cell? ⟨b1, 0, none⟩ = some (.pointer (some ⟨p, 0, none⟩))) (h4 : w.cell? ⟨b4, 0, none⟩ = some (.slice aw nw cw))
    (hp : w.heap[p]? = some (.cells #[old, .int .i64 no] 88 (0, 0))) (hq : w.heap[b3]? = some (.cells #[.int .i64 e0] 46 (0, 0))) (hpq : p ≠ b3) :
    CallsD Try.prog 57 #[.pointer (some ⟨b1, 0, none⟩), .pointer (some ⟨b4, 0, none⟩), .pointer (some ⟨b3, 0, none⟩)] (.panicking ({ v := .iface 46 (.int .i64 err), recovered := false } :: older)) w fun e u' w' =>
      e = .returned (.tuple #[]) ∧ u' = .panicking ({ v := .iface 46 (.int .i64 err), recovered := true } :: older) ∧
        w' = (((w.drew.setCell ⟨p, 0, none⟩ (.slice aw nw cw)).setCell ⟨p, 1, none⟩ (.int .i64 err)).setCell ⟨b3, 0, none⟩ (.int .i64 err)) := by
  have hc := caught_some w.drew p b3 old aw nw cw no e0 err hp hq hpq
  have h1' : w.drew.cell? ⟨b1, 0, none⟩ = some (.pointer (some ⟨p, 0, none⟩)) := h1
  have h4' : w.drew.cell? ⟨b4, 0, none⟩ = some (.slice aw nw cw) := h4
  refine callsD_of_wpS Try.func57 rfl fun c₀ cs hu => ?_
  apply wpS_region_any (by kernel_rfl)
  change wpAnyR _ _ _ _ 4 (Array.replicate 4 false) _ _ w.drew
  refine wpAnyR_at (L := [0, 1, 2]) (by kernel_rfl) (by simp) ?_
  intro i hi
  simp only [List.mem_cons, List.not_mem_nil, or_false] at hi
  rcases hi with rfl | rfl | rfl
  · skip
    unfold wpOp1
    simp [go_sem, h1', Try.ntmps57, Region.wanted]
    refine wpAnyR_at (L := [1, 2]) (by kernel_rfl) (by simp) ?_
    intro i hi
    simp only [List.mem_cons, List.not_mem_nil, or_false] at hi
    rcases hi with rfl | rfl
    · skip
      unfold wpOp1
      simp [go_sem, recoverD, hu, Region.wanted]
      refine wpAnyR_at (L := [2]) (by kernel_rfl) (by simp) ?_
      intro i hi
      simp only [List.mem_cons, List.not_mem_nil, or_false] at hi
      subst hi
      unfold wpOp1
      simp [go_sem, h4', Region.wanted]
      refine wpAnyR_at (L := [3]) (by kernel_rfl) (by simp) ?_
      intro i hi
      simp only [List.mem_cons, List.not_mem_nil, or_false] at hi
      subst hi
      unfold wpOp1
      simp [go_sem, Region.wanted]
      refine hc.mono ?_
      rintro e w' ⟨rfl, rfl⟩
      refine wpAnyR_end (by kernel_rfl) ?_
      simp [bodyPostS, results, Try.results57, go_sem]
    · skip
      unfold wpOp1
      simp [go_sem, h4', Region.wanted]
      refine wpAnyR_at (L := [1]) (by kernel_rfl) (by simp) ?_
      intro i hi
      simp only [List.mem_cons, List.not_mem_nil, or_false] at hi
      subst hi
      unfold wpOp1
      simp [go_sem, recoverD, hu, Region.wanted]
      refine wpAnyR_at (L := [3]) (by kernel_rfl) (by simp) ?_
      intro i hi
      simp only [List.mem_cons, List.not_mem_nil, or_false] at hi
      subst hi
      unfold wpOp1
      simp [go_sem, Region.wanted]
      refine hc.mono ?_
      rintro e w' ⟨rfl, rfl⟩
      refine wpAnyR_end (by kernel_rfl) ?_
      simp [bodyPostS, results, Try.results57, go_sem]
  · skip
    unfold wpOp1
    simp [go_sem, recoverD, hu, Try.ntmps57, Region.wanted]
    refine wpAnyR_at (L := [0, 2]) (by kernel_rfl) (by simp) ?_
    intro i hi
    simp only [List.mem_cons, List.not_mem_nil, or_false] at hi
    rcases hi with rfl | rfl
    · skip
      unfold wpOp1
      simp [go_sem, h1', Region.wanted]
      refine wpAnyR_at (L := [2]) (by kernel_rfl) (by simp) ?_
      intro i hi
      simp only [List.mem_cons, List.not_mem_nil, or_false] at hi
      subst hi
      unfold wpOp1
      simp [go_sem, h4', Region.wanted]
      refine wpAnyR_at (L := [3]) (by kernel_rfl) (by simp) ?_
      intro i hi
      simp only [List.mem_cons, List.not_mem_nil, or_false] at hi
      subst hi
      unfold wpOp1
      simp [go_sem, Region.wanted]
      refine hc.mono ?_
      rintro e w' ⟨rfl, rfl⟩
      refine wpAnyR_end (by kernel_rfl) ?_
      simp [bodyPostS, results, Try.results57, go_sem]
    · skip
      unfold wpOp1
      simp [go_sem, h4', Region.wanted]
      refine wpAnyR_at (L := [0]) (by kernel_rfl) (by simp) ?_
      intro i hi
      simp only [List.mem_cons, List.not_mem_nil, or_false] at hi
      subst hi
      unfold wpOp1
      simp [go_sem, h1', Region.wanted]
      refine wpAnyR_at (L := [3]) (by kernel_rfl) (by simp) ?_
      intro i hi
      simp only [List.mem_cons, List.not_mem_nil, or_false] at hi
      subst hi
      unfold wpOp1
      simp [go_sem, Region.wanted]
      refine hc.mono ?_
      rintro e w' ⟨rfl, rfl⟩
      refine wpAnyR_end (by kernel_rfl) ?_
      simp [bodyPostS, results, Try.results57, go_sem]
  · skip
    unfold wpOp1
    simp [go_sem, h4', Try.ntmps57, Region.wanted]
    refine wpAnyR_at (L := [0, 1]) (by kernel_rfl) (by simp) ?_
    intro i hi
    simp only [List.mem_cons, List.not_mem_nil, or_false] at hi
    rcases hi with rfl | rfl
    · skip
      unfold wpOp1
      simp [go_sem, h1', Region.wanted]
      refine wpAnyR_at (L := [1]) (by kernel_rfl) (by simp) ?_
      intro i hi
      simp only [List.mem_cons, List.not_mem_nil, or_false] at hi
      subst hi
      unfold wpOp1
      simp [go_sem, recoverD, hu, Region.wanted]
      refine wpAnyR_at (L := [3]) (by kernel_rfl) (by simp) ?_
      intro i hi
      simp only [List.mem_cons, List.not_mem_nil, or_false] at hi
      subst hi
      unfold wpOp1
      simp [go_sem, Region.wanted]
      refine hc.mono ?_
      rintro e w' ⟨rfl, rfl⟩
      refine wpAnyR_end (by kernel_rfl) ?_
      simp [bodyPostS, results, Try.results57, go_sem]
    · skip
      unfold wpOp1
      simp [go_sem, recoverD, hu, Region.wanted]
      refine wpAnyR_at (L := [0]) (by kernel_rfl) (by simp) ?_
      intro i hi
      simp only [List.mem_cons, List.not_mem_nil, or_false] at hi
      subst hi
      unfold wpOp1
      simp [go_sem, h1', Region.wanted]
      refine wpAnyR_at (L := [3]) (by kernel_rfl) (by simp) ?_
      intro i hi
      simp only [List.mem_cons, List.not_mem_nil, or_false] at hi
      subst hi
      unfold wpOp1
      simp [go_sem, Region.wanted]
      refine hc.mono ?_
      rintro e w' ⟨rfl, rfl⟩
      refine wpAnyR_end (by kernel_rfl) ?_
      simp [bodyPostS, results, Try.results57, go_sem]
set_option maxRecDepth 100000 in
theorem close_none (w : World) (b1 b4 b3 p : Nat) (aw : Option Addr) (nw cw : Nat) (h1 : w.cell? ⟨b1, 0, none⟩ = some (.pointer (some ⟨p, 0, none⟩))) (h4 : w.cell? ⟨b4, 0, none⟩ = some (.slice aw nw cw)) :
    CallsD Try.prog 57 #[.pointer (some ⟨b1, 0, none⟩), .pointer (some ⟨b4, 0, none⟩), .pointer (some ⟨b3, 0, none⟩)] .returning w fun e u' w' =>
      e = .returned (.tuple #[]) ∧ u' = .returning ∧ w' = w.drew := by
  have hc := caught_none w.drew p b3 aw nw cw
  have h1' : w.drew.cell? ⟨b1, 0, none⟩ = some (.pointer (some ⟨p, 0, none⟩)) := h1
  have h4' : w.drew.cell? ⟨b4, 0, none⟩ = some (.slice aw nw cw) := h4
  refine callsD_of_wpS Try.func57 rfl fun c₀ cs hu => ?_
  apply wpS_region_any (by kernel_rfl)
  change wpAnyR _ _ _ _ 4 (Array.replicate 4 false) _ _ w.drew
  refine wpAnyR_at (L := [0, 1, 2]) (by kernel_rfl) (by simp) ?_
  intro i hi
  simp only [List.mem_cons, List.not_mem_nil, or_false] at hi
  rcases hi with rfl | rfl | rfl
  · skip
    unfold wpOp1
    simp [go_sem, h1', Try.ntmps57, Region.wanted]
    refine wpAnyR_at (L := [1, 2]) (by kernel_rfl) (by simp) ?_
    intro i hi
    simp only [List.mem_cons, List.not_mem_nil, or_false] at hi
    rcases hi with rfl | rfl
    · skip
      unfold wpOp1
      simp [go_sem, recoverD, hu, Region.wanted]
      refine wpAnyR_at (L := [2]) (by kernel_rfl) (by simp) ?_
      intro i hi
      simp only [List.mem_cons, List.not_mem_nil, or_false] at hi
      subst hi
      unfold wpOp1
      simp [go_sem, h4', Region.wanted]
      refine wpAnyR_at (L := [3]) (by kernel_rfl) (by simp) ?_
      intro i hi
      simp only [List.mem_cons, List.not_mem_nil, or_false] at hi
      subst hi
      unfold wpOp1
      simp [go_sem, Region.wanted]
      refine hc.mono ?_
      rintro e w' ⟨rfl, rfl⟩
      refine wpAnyR_end (by kernel_rfl) ?_
      (cases c₀; simp_all [bodyPostS, results, Try.results57, go_sem])
    · skip
      unfold wpOp1
      simp [go_sem, h4', Region.wanted]
      refine wpAnyR_at (L := [1]) (by kernel_rfl) (by simp) ?_
      intro i hi
      simp only [List.mem_cons, List.not_mem_nil, or_false] at hi
      subst hi
      unfold wpOp1
      simp [go_sem, recoverD, hu, Region.wanted]
      refine wpAnyR_at (L := [3]) (by kernel_rfl) (by simp) ?_
      intro i hi
      simp only [List.mem_cons, List.not_mem_nil, or_false] at hi
      subst hi
      unfold wpOp1
      simp [go_sem, Region.wanted]
      refine hc.mono ?_
      rintro e w' ⟨rfl, rfl⟩
      refine wpAnyR_end (by kernel_rfl) ?_
      (cases c₀; simp_all [bodyPostS, results, Try.results57, go_sem])
  · skip
    unfold wpOp1
    simp [go_sem, recoverD, hu, Try.ntmps57, Region.wanted]
    refine wpAnyR_at (L := [0, 2]) (by kernel_rfl) (by simp) ?_
    intro i hi
    simp only [List.mem_cons, List.not_mem_nil, or_false] at hi
    rcases hi with rfl | rfl
    · skip
      unfold wpOp1
      simp [go_sem, h1', Region.wanted]
      refine wpAnyR_at (L := [2]) (by kernel_rfl) (by simp) ?_
      intro i hi
      simp only [List.mem_cons, List.not_mem_nil, or_false] at hi
      subst hi
      unfold wpOp1
      simp [go_sem, h4', Region.wanted]
      refine wpAnyR_at (L := [3]) (by kernel_rfl) (by simp) ?_
      intro i hi
      simp only [List.mem_cons, List.not_mem_nil, or_false] at hi
      subst hi
      unfold wpOp1
      simp [go_sem, Region.wanted]
      refine hc.mono ?_
      rintro e w' ⟨rfl, rfl⟩
      refine wpAnyR_end (by kernel_rfl) ?_
      (cases c₀; simp_all [bodyPostS, results, Try.results57, go_sem])
    · skip
      unfold wpOp1
      simp [go_sem, h4', Region.wanted]
      refine wpAnyR_at (L := [0]) (by kernel_rfl) (by simp) ?_
      intro i hi
      simp only [List.mem_cons, List.not_mem_nil, or_false] at hi
      subst hi
      unfold wpOp1
      simp [go_sem, h1', Region.wanted]
      refine wpAnyR_at (L := [3]) (by kernel_rfl) (by simp) ?_
      intro i hi
      simp only [List.mem_cons, List.not_mem_nil, or_false] at hi
      subst hi
      unfold wpOp1
      simp [go_sem, Region.wanted]
      refine hc.mono ?_
      rintro e w' ⟨rfl, rfl⟩
      refine wpAnyR_end (by kernel_rfl) ?_
      (cases c₀; simp_all [bodyPostS, results, Try.results57, go_sem])
  · skip
    unfold wpOp1
    simp [go_sem, h4', Try.ntmps57, Region.wanted]
    refine wpAnyR_at (L := [0, 1]) (by kernel_rfl) (by simp) ?_
    intro i hi
    simp only [List.mem_cons, List.not_mem_nil, or_false] at hi
    rcases hi with rfl | rfl
    · skip
      unfold wpOp1
      simp [go_sem, h1', Region.wanted]
      refine wpAnyR_at (L := [1]) (by kernel_rfl) (by simp) ?_
      intro i hi
      simp only [List.mem_cons, List.not_mem_nil, or_false] at hi
      subst hi
      unfold wpOp1
      simp [go_sem, recoverD, hu, Region.wanted]
      refine wpAnyR_at (L := [3]) (by kernel_rfl) (by simp) ?_
      intro i hi
      simp only [List.mem_cons, List.not_mem_nil, or_false] at hi
      subst hi
      unfold wpOp1
      simp [go_sem, Region.wanted]
      refine hc.mono ?_
      rintro e w' ⟨rfl, rfl⟩
      refine wpAnyR_end (by kernel_rfl) ?_
      (cases c₀; simp_all [bodyPostS, results, Try.results57, go_sem])
    · skip
      unfold wpOp1
      simp [go_sem, recoverD, hu, Region.wanted]
      refine wpAnyR_at (L := [0]) (by kernel_rfl) (by simp) ?_
      intro i hi
      simp only [List.mem_cons, List.not_mem_nil, or_false] at hi
      subst hi
      unfold wpOp1
      simp [go_sem, h1', Region.wanted]
      refine wpAnyR_at (L := [3]) (by kernel_rfl) (by simp) ?_
      intro i hi
      simp only [List.mem_cons, List.not_mem_nil, or_false] at hi
      subst hi
      unfold wpOp1
      simp [go_sem, Region.wanted]
      refine hc.mono ?_
      rintro e w' ⟨rfl, rfl⟩
      refine wpAnyR_end (by kernel_rfl) ?_
      (cases c₀; simp_all [bodyPostS, results, Try.results57, go_sem])
end Go.Proofs.Ytdociiogddihfaa
