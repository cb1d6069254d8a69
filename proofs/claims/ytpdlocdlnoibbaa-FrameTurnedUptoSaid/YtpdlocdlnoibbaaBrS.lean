/- The two readers side by side: what each call hands back, and what it leaves. -/
import Derived.Test.YtpdlocdlnoibbaaRfR
import Derived.Test.YtpdlocdlnoibbaaRdZ
namespace Go.Proofs.Ytpdlocdlnoibbaa
open Go.RowKit

/-- A reader's answer: the value, the error, the reader's error, what is left. -/
def outO {α : Type} (z : α) (no : Int) (T : List UInt8) (R : Int × α × List UInt8) : α × Int × Int × List UInt8 :=
  if no = 0 then (if R.1 = 0 then (R.2.1, 0, 0, R.2.2) else (z, R.1, R.1, T)) else (z, no, no, T)
theorem ByteD.out {w w' : World} {p : Nat} {a : Option Addr} {c : Nat} {no : Int} {T : List UInt8} {e : Ending} (h : ByteD w w' p a c no T e) :
    w.grownBy w' (some p) ∧ e = .returned (.tuple #[.int .u8 (outO 0 no T (rdB T)).1, .int .i64 (outO 0 no T (rdB T)).2.1]) ∧ ∃ a' c', Rdr w' p a' c' (outO 0 no T (rdB T)).2.2.1 (outO 0 no T (rdB T)).2.2.2 := by
  obtain ⟨hg, h⟩ := h
  refine ⟨hg, ?_⟩
  by_cases h0 : no = 0
  · rw [if_pos h0] at h
    by_cases h1 : (rdB T).1 = 0
    · rw [if_pos h1] at h
      simp only [outO, if_pos h0, if_pos h1]
      exact h
    · rw [if_neg h1] at h
      simp only [outO, if_pos h0, if_neg h1]
      exact ⟨h.1, _, _, h.2⟩
  · rw [if_neg h0] at h
    simp only [outO, if_neg h0]
    exact ⟨h.1, _, _, h.2⟩
theorem NumD.out {w w' : World} {p : Nat} {a : Option Addr} {c : Nat} {no : Int} {T : List UInt8} {e : Ending} (h : NumD w w' p a c no T e) :
    w.grownBy w' (some p) ∧ e = .returned (.tuple #[.int .u64 (outO 0 no T (rdN T)).1, .int .i64 (outO 0 no T (rdN T)).2.1]) ∧ ∃ a' c', Rdr w' p a' c' (outO 0 no T (rdN T)).2.2.1 (outO 0 no T (rdN T)).2.2.2 := by
  obtain ⟨hg, h⟩ := h
  refine ⟨hg, ?_⟩
  by_cases h0 : no = 0
  · rw [if_pos h0] at h
    by_cases h1 : (rdN T).1 = 0
    · rw [if_pos h1] at h
      simp only [outO, if_pos h0, if_pos h1]
      exact h
    · rw [if_neg h1] at h
      simp only [outO, if_pos h0, if_neg h1]
      exact ⟨h.1, _, _, h.2⟩
  · rw [if_neg h0] at h
    simp only [outO, if_neg h0]
    exact ⟨h.1, _, _, h.2⟩
theorem RawD.out {w w' : World} {p : Nat} {a : Option Addr} {c : Nat} {no most : Int} {T : List UInt8} {e : Ending} (h : RawD w w' p a c no most T e) :
    w.grownBy w' (some p) ∧ (∃ v', e = .returned (.tuple #[v', .int .i64 (outO [] no T (rdR most T)).2.1]) ∧ w'.ownsRow w.heap.size 5 1 v' (outO [] no T (rdR most T)).1.length (bv (outO [] no T (rdR most T)).1)) ∧ ∃ a' c', Rdr w' p a' c' (outO [] no T (rdR most T)).2.2.1 (outO [] no T (rdR most T)).2.2.2 := by
  obtain ⟨hg, h⟩ := h
  refine ⟨hg, ?_⟩
  by_cases h0 : no = 0
  · rw [if_pos h0] at h
    by_cases h1 : (rdR most T).1 = 0
    · rw [if_pos h1] at h
      simp only [outO, if_pos h0, if_pos h1]
      exact h
    · rw [if_neg h1] at h
      simp only [outO, if_pos h0, if_neg h1]
      exact ⟨⟨_, h.1, World.ownsRow_nil _ _ _ _⟩, _, _, h.2⟩
  · rw [if_neg h0] at h
    simp only [outO, if_neg h0]
    exact ⟨⟨_, h.1, World.ownsRow_nil _ _ _ _⟩, _, _, h.2⟩
/-- What the reference's Byte hands back, and what it leaves. -/
theorem rByte_out (w : World) (q : Nat) (a : Option Addr) (c : Nat) (B : List UInt8) (pos : Nat) (no : Int) (T : List UInt8) (hT : B.drop pos = T) (h : Rfr w q a c B pos no) (hl : B.length ≤ 140737488355328) :
    Calls Try.prog 20 #[.pointer (some ⟨q, 0, none⟩)] w fun e w' =>
      w.grownBy w' (some q) ∧ e = .returned (.tuple #[.int .u8 (outO 0 no T (rdB T)).1, .int .i64 (outO 0 no T (rdB T)).2.1]) ∧ ∃ pos', Rfr w' q a c B pos' (outO 0 no T (rdB T)).2.2.1 ∧ B.drop pos' = (outO 0 no T (rdB T)).2.2.2 := by
  by_cases h0 : no = 0
  · subst h0
    cases T with
    | nil =>
      refine (rByte_end w q a c B pos h (drop_nil_len hT h.le)).mono ?_
      rintro e w' ⟨rfl, hr, hg⟩
      exact ⟨hg, rfl, _, hr, hT⟩
    | cons x t =>
      obtain ⟨hx, ht⟩ := drop_cons hT
      refine (rByte_good w q a c B pos x h hx hl).mono ?_
      rintro e w' ⟨rfl, hr, hg⟩
      exact ⟨hg, rfl, _, hr, ht⟩
  · refine (rByte_bad w q a c B pos no h h0).mono ?_
    rintro e w' ⟨rfl, hr, hg⟩
    simp only [outO, if_neg h0]
    exact ⟨hg, rfl, _, hr, hT⟩
theorem RfNum.out {w w' : World} {q : Nat} {a : Option Addr} {c : Nat} {B : List UInt8} {pos : Nat} {no : Int} {T : List UInt8} {e : Ending} (hT : B.drop pos = T) (h : RfNum w w' q a c B pos no (rdN (B.drop pos)) e) :
    w.grownBy w' (some q) ∧ e = .returned (.tuple #[.int .u64 (outO 0 no T (rdN T)).1, .int .i64 (outO 0 no T (rdN T)).2.1]) ∧ ∃ pos', Rfr w' q a c B pos' (outO 0 no T (rdN T)).2.2.1 ∧ B.drop pos' = (outO 0 no T (rdN T)).2.2.2 := by
  rw [hT] at h
  obtain ⟨hg, h⟩ := h
  refine ⟨hg, ?_⟩
  by_cases h0 : no = 0
  · rw [if_pos h0] at h
    by_cases h1 : (rdN T).1 = 0
    · rw [if_pos h1] at h
      simp only [outO, if_pos h0, if_pos h1]
      exact h
    · rw [if_neg h1] at h
      simp only [outO, if_pos h0, if_neg h1]
      exact ⟨h.1, _, h.2, hT⟩
  · rw [if_neg h0] at h
    simp only [outO, if_neg h0]
    exact ⟨h.1, _, h.2, hT⟩
theorem RfRaw.out {w w' : World} {q : Nat} {a : Option Addr} {c : Nat} {B : List UInt8} {pos : Nat} {no most : Int} {T : List UInt8} {e : Ending} (hT : B.drop pos = T) (h : RfRaw w w' q a c B pos no (rdR most (B.drop pos)) e) :
    w.grownBy w' (some q) ∧ (∃ a' c', e = .returned (.tuple #[.slice a' (outO [] no T (rdR most T)).1.length c', .int .i64 (outO [] no T (rdR most T)).2.1]) ∧ Rd w' 1 (.slice a' (outO [] no T (rdR most T)).1.length c') (outO [] no T (rdR most T)).1.length (bv (outO [] no T (rdR most T)).1)) ∧
      ∃ pos', Rfr w' q a c B pos' (outO [] no T (rdR most T)).2.2.1 ∧ B.drop pos' = (outO [] no T (rdR most T)).2.2.2 := by
  rw [hT] at h
  obtain ⟨hg, h⟩ := h
  refine ⟨hg, ?_⟩
  by_cases h0 : no = 0
  · rw [if_pos h0] at h
    by_cases h1 : (rdR most T).1 = 0
    · rw [if_pos h1] at h
      simp only [outO, if_pos h0, if_pos h1]
      obtain ⟨⟨a', c', h1, h2, _⟩, h3⟩ := h
      exact ⟨⟨a', c', h1, h2⟩, h3⟩
    · rw [if_neg h1] at h
      simp only [outO, if_pos h0, if_neg h1]
      exact ⟨⟨_, _, h.1, Rd.nil _ _⟩, _, h.2, hT⟩
  · rw [if_neg h0] at h
    simp only [outO, if_neg h0]
    exact ⟨⟨_, _, h.1, Rd.nil _ _⟩, _, h.2, hT⟩
/-- Both readers stand alike. -/
def SV (w : World) (p q : Nat) (a0 : Option Addr) (c0 : Nat) (l : List UInt8) (no : Int) : Prop :=
  ∃ a c pos, Rdr w p a c no (l.drop pos) ∧ Rfr w q a0 c0 l pos no
/-- Where all lies. -/
structure Lie (B0 p q : Nat) (a0 : Option Addr) (l : List UInt8) : Prop where
  p0 : B0 ≤ p
  pq : p < q
  a0 : l ≠ [] → ∀ x, a0 = some x → x.block < B0
theorem Rfr.other {w w' : World} {B0 p q : Nat} {a0 : Option Addr} {c0 : Nat} {l : List UInt8} {pos : Nat} {no : Int} (h : Rfr w q a0 c0 l pos no) (L : Lie B0 p q a0 l) (hg : w.grownBy w' (some p)) : Rfr w' q a0 c0 l pos no :=
  h.keep hg (fun e => by have := L.pq; simp only [Option.some.injEq] at e; omega) (fun hn x hx e => by have := L.a0 hn x hx; have := L.p0; simp only [Option.some.injEq] at e; omega)
theorem Rdr.ref {w w' : World} {B0 p q : Nat} {a a0 : Option Addr} {c : Nat} {l T : List UInt8} {no : Int} (h : Rdr w p a c no T) (L : Lie B0 p q a0 l) (hg : w.grownBy w' (some q)) : Rdr w' p a c no T :=
  h.keep hg (fun e => by have := L.pq; simp only [Option.some.injEq] at e; omega) (fun x hx e => by have := h.off x hx; have := L.pq; simp only [Option.some.injEq] at e; omega)
theorem SV.far {w w' : World} {B0 p q g : Nat} {a0 : Option Addr} {c0 : Nat} {l : List UInt8} {no : Int} (h : SV w p q a0 c0 l no) (L : Lie B0 p q a0 l) (hq : q < g) (hg : w.grownBy w' (some g)) : SV w' p q a0 c0 l no := by
  obtain ⟨a, c, pos, h1, h2⟩ := h
  refine ⟨a, c, pos, h1.keep hg (fun e => ?_) (fun x hx e => ?_), h2.keep hg (fun e => ?_) (fun hn x hx e => ?_)⟩
  · have := L.pq; simp only [Option.some.injEq] at e; omega
  · have := h1.off x hx; have := L.pq; simp only [Option.some.injEq] at e; omega
  · simp only [Option.some.injEq] at e; omega
  · have := L.a0 hn x hx; have := L.p0; have := L.pq; simp only [Option.some.injEq] at e; omega
theorem SV.below {w w' : World} {p q : Nat} {a0 : Option Addr} {c0 : Nat} {l : List UInt8} {no : Int} (h : SV w p q a0 c0 l no) (hb : Below w.heap.size w w') : SV w' p q a0 c0 l no := by
  obtain ⟨a, c, pos, h1, h2⟩ := h
  exact ⟨a, c, pos, h1.below hb, h2.below hb⟩
/-- What a row that grew leaves of what lay below. -/
theorem below_row {B0 g : Nat} {w w1 w2 : World} (h : Below B0 w w1) (hg : w1.grownBy w2 (some g)) (hB : B0 ≤ g) (hz : B0 ≤ w1.heap.size) : Below B0 w w2 :=
  h.trans ⟨hg.os, hg.tape, hg.output, hg.size, fun k hk => hg.block k (by omega) (fun e => by simp only [Option.some.injEq] at e; omega)⟩
theorem rdB_lt (no : Int) (T : List UInt8) : (outO 0 no T (rdB T)).1 < 256 := by
  unfold outO
  split
  · cases T with
    | nil => simp [rdB]
    | cons x t => simp only [rdB, if_pos]; exact x.toNat_lt
  · simp
theorem rdR_len (no most : Int) (T : List UInt8) : (outO [] no T (rdR most T)).1.length ≤ T.length := by
  have h0 : (rdR most T).2.1.length ≤ T.length := by
    unfold rdR
    split
    · simp
    · split
      · simp
      · split
        · simp
        · simp only [List.length_take]
          have h2 : (rdN T).2.2.length ≤ T.length := by
            cases T with
            | nil => simp [rdN]
            | cons c t =>
              rw [rdN]
              split
              · simp
              · obtain ⟨p, hp⟩ := rdK_suffix c.toNat 0 0 t
                have := congrArg List.length hp
                rw [List.length_append] at this
                rw [List.length_cons]; omega
          omega
  unfold outO
  split
  · split
    · exact h0
    · simp
  · simp
end Go.Proofs.Ytpdlocdlnoibbaa
