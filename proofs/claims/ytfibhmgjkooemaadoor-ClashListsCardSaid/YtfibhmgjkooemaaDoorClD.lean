/- clash: its closures; Lists. (printed by gen/cld.py) -/
import Derived.Test.YtfibhmgjkooemaaDoorClC
import Derived.Test.YtfibhmgjkooemaaDoorRec
import Derived.Defers
namespace Go.Proofs.YtfibhmgjkooemaaDoor
open Go.RowKit Sha Root Path Clash

theorem cell_of_rowp {w : World} {g : Nat} {xs : Array Value} {t : TypeId} {v : Value} {i : Nat} (h : w.heap[g]? = some (.cells xs t (0, 0))) (hv : xs[i]? = some v) : w.cell? ⟨g, i, none⟩ = some v := by
  simp [World.cell?, h, hv]
/-- A pair and an error are set. -/
def st2 (w : World) (p q : Nat) (a b e : Value) : World := ((w.setCell ⟨p, 0, none⟩ a).setCell ⟨p, 1, none⟩ b).setCell ⟨q, 0, none⟩ e
theorem st2_facts {w : World} {p q : Nat} {o1 o2 o3 a b e : Value} {T T' : TypeId} (hp : w.heap[p]? = some (.cells #[o1, o2] T (0, 0))) (hq : w.heap[q]? = some (.cells #[o3] T' (0, 0))) (hpq : p ≠ q) :
    (st2 w p q a b e).heap[p]? = some (.cells #[a, b] T (0, 0)) ∧ (st2 w p q a b e).heap[q]? = some (.cells #[e] T' (0, 0)) ∧ (∀ k, k ≠ p → k ≠ q → (st2 w p q a b e).heap[k]? = w.heap[k]?) ∧
      (∀ B, B ≤ p → B ≤ q → Below B w (st2 w p q a b e)) := by
  unfold st2
  have h1 := heap_setCell_same w p 0 _ _ a hp
  have h2 := heap_setCell_same _ p 1 _ _ b h1
  have h3 : ((w.setCell ⟨p, 0, none⟩ a).setCell ⟨p, 1, none⟩ b).heap[q]? = some (.cells #[o3] T' (0, 0)) := by
    rw [heap_setCell_other _ _ _ _ (fun e => hpq e.symm), heap_setCell_other _ _ _ _ (fun e => hpq e.symm)]; exact hq
  have h4 : ∀ k, k ≠ p → k ≠ q → (((w.setCell ⟨p, 0, none⟩ a).setCell ⟨p, 1, none⟩ b).setCell ⟨q, 0, none⟩ e).heap[k]? = w.heap[k]? := fun k hkp hkq => by
    rw [heap_setCell_other _ _ _ _ hkq, heap_setCell_other _ _ _ _ hkp, heap_setCell_other _ _ _ _ hkp]
  refine ⟨?_, ?_, h4, fun B h5 h6 => ⟨rfl, rfl, rfl, by simp [World.setCell], fun k hk => h4 k (by omega) (by omega)⟩⟩
  · rw [heap_setCell_other _ _ _ _ hpq, h2]; rfl
  · rw [heap_setCell_same _ q 0 _ _ e h3]; rfl
/-- Bytes stand, where a pair and an error are set. -/
theorem Rd.st2 {w : World} {p q : Nat} {a1 a2 : Option Addr} {n1 n2 c1 c2 : Nat} {e0 : Int} {a b e : Value} {T T' : TypeId} {v : Value} {n : Nat} {l : List UInt8} (h : Rd w 1 v n (bv l)) (hp : w.heap[p]? = some (.cells #[.slice a1 n1 c1, .slice a2 n2 c2] T (0, 0))) (hq : w.heap[q]? = some (.cells #[.int .i64 e0] T' (0, 0))) (hpq : p ≠ q) :
    Rd (st2 w p q a b e) 1 v n (bv l) := by
  have hf := (st2_facts (a := a) (b := b) (e := e) hp hq hpq).2.2.1
  by_cases h0 : n = 0
  · obtain ⟨hl, h1, h2 | ⟨ad, c, hv, hc, hcell⟩⟩ := h
    · exact ⟨hl, h1, .inl h2⟩
    · refine ⟨hl, h1, .inr ⟨ad, c, hv, hc, fun j u hu => ?_⟩⟩
      have hj := (List.getElem?_eq_some_iff.1 hu).1
      rw [hl, h0] at hj
      omega
  · obtain ⟨blk, off, c, hv, hc, hcell⟩ := h.at (by omega)
    refine ⟨h.1, h.2.1, .inr ⟨⟨blk, off, none⟩, c, hv, hc, fun j u hu => ?_⟩⟩
    have h3 := hcell j u hu
    rw [Addr.add_lit]
    obtain ⟨x, rfl⟩ : ∃ x : UInt8, u = .int .u8 x.toNat := by
      unfold bv at hu
      rw [List.getElem?_map] at hu
      obtain ⟨x, _, rfl⟩ := Option.map_eq_some_iff.1 hu
      exact ⟨x, rfl⟩
    rw [← h3]
    refine World.cell?_of_block (hf _ (fun e1 => ?_) (fun e1 => ?_))
    · have e1 : blk = p := e1
      subst e1
      simp only [World.cell?, hp] at h3
      match hj : off + j with
      | 0 => rw [hj] at h3; simp at h3
      | 1 => rw [hj] at h3; simp at h3
      | k + 2 => rw [hj] at h3; simp at h3
    · have e1 : blk = q := e1
      subst e1
      simp only [World.cell?, hq] at h3
      match hj : off + j with
      | 0 => rw [hj] at h3; simp at h3
      | k + 1 => rw [hj] at h3; simp at h3

set_option maxRecDepth 100000 in
theorem close_foundL (w : World) (p q : Nat) (o1 o2 : Value) (e0 : Int) (older : List PanicEntry) (hp : w.heap[p]? = some (.cells #[o1, o2] 27 (0, 0))) (hq : w.heap[q]? = some (.cells #[.int .i64 e0] 28 (0, 0))) (hpq : p ≠ q)
    (a1 a2 : Option Addr) (n1 n2 c1 c2 : Nat) :
    CallsD Tryd.prog 26 #[.pointer (some ⟨p, 0, none⟩), .pointer (some ⟨q, 0, none⟩)] (.panicking ({ v := .iface 92 (.agg #[.slice a1 n1 c1, .slice a2 n2 c2]), recovered := false } :: older)) w fun e u' w' =>
      e = .returned (.tuple #[]) ∧ u' = .panicking ({ v := .iface 92 (.agg #[.slice a1 n1 c1, .slice a2 n2 c2]), recovered := true } :: older) ∧
        w' = st2 (w.alloc (.cells #[.slice a1 n1 c1, .slice a2 n2 c2] 92)) p q (.slice a1 n1 c1) (.slice a2 n2 c2) (.int .i64 0) := by
  have hc := found_some w p q (.slice a1 n1 c1) (.slice a2 n2 c2) o1 o2 e0 hp hq hpq a1 a2 n1 n2 c1 c2 rfl rfl
  refine callsD_of_wpS Tryd.func26 rfl fun c₀ cs hu => ?_
  apply wpS_region
  simp [wpOpsS, go_sem, recoverD, hu, Tryd.ntmps26, Region.wanted]
  refine hc.mono ?_
  rintro e w' ⟨rfl, rfl⟩
  simp [wpOpsS, bodyPostS, results, Tryd.results26, go_sem, st2]
set_option maxRecDepth 100000 in
theorem close_quietL (w : World) (p q : Nat) :
    CallsD Tryd.prog 26 #[.pointer (some ⟨p, 0, none⟩), .pointer (some ⟨q, 0, none⟩)] .returning w fun e u' w' => e = .returned (.tuple #[]) ∧ u' = .returning ∧ Below w.heap.size w w' := by
  have hc := found_none w p q
  refine callsD_of_wpS Tryd.func26 rfl fun c₀ cs hu => ?_
  apply wpS_region
  simp [wpOpsS, go_sem, recoverD, hu, Tryd.ntmps26, Region.wanted]
  refine hc.mono ?_
  rintro e w' ⟨rfl, hb⟩
  cases c₀
  simp_all [wpOpsS, bodyPostS, results, Tryd.results26, go_sem]

set_option maxRecDepth 100000 in
theorem close_foundG (w : World) (p q : Nat) (o1 o2 : Value) (e0 : Int) (older : List PanicEntry) (hp : w.heap[p]? = some (.cells #[o1, o2] 27 (0, 0))) (hq : w.heap[q]? = some (.cells #[.int .i64 e0] 28 (0, 0))) (hpq : p ≠ q)
    (a1 a2 : Option Addr) (n1 n2 c1 c2 : Nat) :
    CallsD Tryd.prog 32 #[.pointer (some ⟨p, 0, none⟩), .pointer (some ⟨q, 0, none⟩)] (.panicking ({ v := .iface 92 (.agg #[.slice a1 n1 c1, .slice a2 n2 c2]), recovered := false } :: older)) w fun e u' w' =>
      e = .returned (.tuple #[]) ∧ u' = .panicking ({ v := .iface 92 (.agg #[.slice a1 n1 c1, .slice a2 n2 c2]), recovered := true } :: older) ∧
        w' = st2 (w.alloc (.cells #[.slice a1 n1 c1, .slice a2 n2 c2] 92)) p q (.slice a1 n1 c1) (.slice a2 n2 c2) (.int .i64 0) := by
  have hc := found_some w p q (.slice a1 n1 c1) (.slice a2 n2 c2) o1 o2 e0 hp hq hpq a1 a2 n1 n2 c1 c2 rfl rfl
  refine callsD_of_wpS Tryd.func32 rfl fun c₀ cs hu => ?_
  apply wpS_region
  simp [wpOpsS, go_sem, recoverD, hu, Tryd.ntmps32, Region.wanted]
  refine hc.mono ?_
  rintro e w' ⟨rfl, rfl⟩
  simp [wpOpsS, bodyPostS, results, Tryd.results32, go_sem, st2]
set_option maxRecDepth 100000 in
theorem close_quietG (w : World) (p q : Nat) :
    CallsD Tryd.prog 32 #[.pointer (some ⟨p, 0, none⟩), .pointer (some ⟨q, 0, none⟩)] .returning w fun e u' w' => e = .returned (.tuple #[]) ∧ u' = .returning ∧ Below w.heap.size w w' := by
  have hc := found_none w p q
  refine callsD_of_wpS Tryd.func32 rfl fun c₀ cs hu => ?_
  apply wpS_region
  simp [wpOpsS, go_sem, recoverD, hu, Tryd.ntmps32, Region.wanted]
  refine hc.mono ?_
  rintro e w' ⟨rfl, hb⟩
  cases c₀
  simp_all [wpOpsS, bodyPostS, results, Tryd.results32, go_sem]

set_option maxRecDepth 100000 in
theorem close_foundP (w : World) (p q : Nat) (o1 o2 : Value) (e0 : Int) (older : List PanicEntry) (hp : w.heap[p]? = some (.cells #[o1, o2] 27 (0, 0))) (hq : w.heap[q]? = some (.cells #[.int .i64 e0] 28 (0, 0))) (hpq : p ≠ q)
    (a1 a2 : Option Addr) (n1 n2 c1 c2 : Nat) :
    CallsD Tryd.prog 46 #[.pointer (some ⟨p, 0, none⟩), .pointer (some ⟨q, 0, none⟩)] (.panicking ({ v := .iface 92 (.agg #[.slice a1 n1 c1, .slice a2 n2 c2]), recovered := false } :: older)) w fun e u' w' =>
      e = .returned (.tuple #[]) ∧ u' = .panicking ({ v := .iface 92 (.agg #[.slice a1 n1 c1, .slice a2 n2 c2]), recovered := true } :: older) ∧
        w' = st2 (w.alloc (.cells #[.slice a1 n1 c1, .slice a2 n2 c2] 92)) p q (.slice a1 n1 c1) (.slice a2 n2 c2) (.int .i64 0) := by
  have hc := found_some w p q (.slice a1 n1 c1) (.slice a2 n2 c2) o1 o2 e0 hp hq hpq a1 a2 n1 n2 c1 c2 rfl rfl
  refine callsD_of_wpS Tryd.func46 rfl fun c₀ cs hu => ?_
  apply wpS_region
  simp [wpOpsS, go_sem, recoverD, hu, Tryd.ntmps46, Region.wanted]
  refine hc.mono ?_
  rintro e w' ⟨rfl, rfl⟩
  simp [wpOpsS, bodyPostS, results, Tryd.results46, go_sem, st2]
set_option maxRecDepth 100000 in
theorem close_quietP (w : World) (p q : Nat) :
    CallsD Tryd.prog 46 #[.pointer (some ⟨p, 0, none⟩), .pointer (some ⟨q, 0, none⟩)] .returning w fun e u' w' => e = .returned (.tuple #[]) ∧ u' = .returning ∧ Below w.heap.size w w' := by
  have hc := found_none w p q
  refine callsD_of_wpS Tryd.func46 rfl fun c₀ cs hu => ?_
  apply wpS_region
  simp [wpOpsS, go_sem, recoverD, hu, Tryd.ntmps46, Region.wanted]
  refine hc.mono ?_
  rintro e w' ⟨rfl, hb⟩
  cases c₀
  simp_all [wpOpsS, bodyPostS, results, Tryd.results46, go_sem]

/-- What is answered: an error and two texts. -/
def PairE (w w' : World) (r : Int × List UInt8 × List UInt8) (e : Ending) : Prop := ∃ a1 c1 a2 c2, e = .returned (.tuple #[.agg #[.slice a1 r.2.1.length c1, .slice a2 r.2.2.length c2], .int .i64 r.1]) ∧ Rd w' 1 (.slice a1 r.2.1.length c1) r.2.1.length (bv r.2.1) ∧ Rd w' 1 (.slice a2 r.2.2.length c2) r.2.2.length (bv r.2.2) ∧ Below w.heap.size w w'
def ansL (W : Int) (a b : List (List UInt8)) : Int × List UInt8 × List UInt8 := if a.length ≠ b.length then (9, [], []) else if rt (hw W) a ≠ rt (hw W) b then (3, [], []) else
  match meetF (hw W) a.length a b with
  | none => (8, [], [])
  | some p => (0, p.1, p.2)
theorem pair_ld (P : Program) (w : World) (g : Nat) (a b : Value) (d : TypeDesc) (T : TypeId) (hg : w.heap[g]? = some (.cells #[a, b] T (0, 0))) (hu : P.underlying T = some d) (hd : (match d with | .struct _ | .array _ _ => true | _ => false) = true) (hi : (P.info? T).map (·.size) = some 2) : (loadVar T ⟨g, 0, none⟩).run P w = .ok (.agg #[a, b]) w :=
  run_loadVar_row w g T T #[a, b] (0, 0) d hg hu hd (by simpa using hi)
theorem pairInfo : (Tryd.prog.info? 27).map (·.size) = some 2 := by kernel_rfl

set_option maxHeartbeats 8000000 in
set_option maxRecDepth 100000 in
theorem cLists_any (W : Int) (la lb : List (List UInt8)) (v u : Value) (w : World) (hW : -9223372036854775808 ≤ W ∧ W ≤ 9223372036854775807) (hla : la.length ≤ 4294967296) (hlb : lb.length ≤ 4294967296) (hta : ∀ t ∈ la, t.length ≤ 140737488351232) (htb : ∀ t ∈ lb, t.length ≤ 140737488351232) (hv : Txw w v la) (hu : Txw w u lb) (hT : Tabs w) :
    Calls Tryd.prog 10 #[.int .i64 W, v, u] w fun e w' => PairE w w' (ansL W la lb) e := by
  have hmf : ∀ (fn : Fn) (first cap : Array Value) (w : World), (Instr.makeFunc fn first cap).run Tryd.prog w = .ok (.func fn first cap) w := fun _ _ _ _ => rfl
  obtain ⟨a1, c1, rfl⟩ := hv.form
  obtain ⟨a2, c2, rfl⟩ := hu.form
  obtain ⟨n, hn⟩ : ∃ n, n = la.length := ⟨_, rfl⟩
  obtain ⟨m, hm⟩ : ∃ n, n = lb.length := ⟨_, rfl⟩
  obtain ⟨w1, hw1⟩ : ∃ x : World, x = (w.alloc (.cells #[.slice none 0 0, .slice none 0 0] 27)).alloc (.cells #[.int .i64 0] 28) := ⟨_, rfl⟩
  have hB : Below w.heap.size w w1 := by rw [hw1]; exact ((Below.refl _ _).alloc (Nat.le_refl _) _).alloc (by simp) _
  have r1 : w1.heap[w.heap.size]? = some (.cells #[.slice none 0 0, .slice none 0 0] 27 (0, 0)) := by
    rw [hw1, heap_alloc_old _ _ (by simp)]; exact heap_alloc_new _ _
  have r2 : w1.heap[w.heap.size + 1]? = some (.cells #[.int .i64 0] 28 (0, 0)) := by
    rw [hw1]
    have := heap_alloc_new (w.alloc (.cells #[.slice none 0 0, .slice none 0 0] 27)) (.cells #[.int .i64 0] 28)
    simpa using this
  have HW1 := Lib.hid hw1
  have H1 := Lib.hid (And.intro hB (And.intro r1 r2))
  have HG1 := Lib.hid (fun wx (hb : Below w1.heap.size w1 wx) => grown_any W hW la.length la (.slice a1 la.length c1) wx (Nat.le_refl _) hla hta (hv.keep (hB.trans (hb.mono hB.size))) (hT.keepB (hB.trans (hb.mono hB.size))))
  have HG2 := Lib.hid (fun wx (hb : Below w1.heap.size w1 wx) => grown_any W hW lb.length lb (.slice a2 lb.length c2) wx (Nat.le_refl _) hlb htb (hu.keep (hB.trans (hb.mono hB.size))) (hT.keepB (hB.trans (hb.mono hB.size))))
  have HT := Lib.hid (fun wx (hb : Below w1.heap.size w1 wx) => hT.keepB (hB.trans (hb.mono hB.size)))
  have HWW := Lib.hid hW
  rw [← hn] at HG1 ⊢
  rw [← hm] at HG2 ⊢
  have HN := Lib.hid (And.intro hn hm)
  have hee : ansL W la lb = (if n ≠ m then (9, [], []) else if rt (hw W) la ≠ rt (hw W) lb then (3, [], []) else (match meetF (hw W) n la lb with
    | none => (8, [], [])
    | some p => (0, p.1, p.2)) : Int × List UInt8 × List UInt8) := by rw [ansL, ← hn, ← hm]
  obtain ⟨A, hA⟩ : ∃ A, A = ansL W la lb := ⟨_, rfl⟩
  have HEE := Lib.hid (hA.trans hee)
  rw [← hA]
  clear hA hee hw1 hB r1 r2 hv hu hT hW hn hm hla hlb hta htb
  go_enter_defers Tryd.func10, Tryd.ntmps10
  go_upto_region 1 with fail
  rw [show (w.alloc (.cells #[.slice none 0 0, .slice none 0 0] 27)).alloc (.cells #[.int .i64 0] 28) = w1 from HW1.out.symm]
  have finish : ∀ (wz : World) (E : Int), wz.heap[w.heap.size]? = some (.cells #[.slice none 0 0, .slice none 0 0] 27 (0, 0)) → wz.heap[w.heap.size + 1]? = some (.cells #[.int .i64 0] 28 (0, 0)) → Below w.heap.size w wz →
      (st2 wz w.heap.size (w.heap.size + 1) (.slice none 0 0) (.slice none 0 0) (.int .i64 E)).heap[w.heap.size]? = some (.cells #[.slice none 0 0, .slice none 0 0] 27 (0, 0)) ∧
      (st2 wz w.heap.size (w.heap.size + 1) (.slice none 0 0) (.slice none 0 0) (.int .i64 E)).heap[w.heap.size + 1]? = some (.cells #[.int .i64 E] 28 (0, 0)) ∧ Below w.heap.size w (st2 wz w.heap.size (w.heap.size + 1) (.slice none 0 0) (.slice none 0 0) (.int .i64 E)) := by
    intro wz E h1 h2 h3
    have hst := st2_facts (a := .slice none 0 0) (b := .slice none 0 0) (e := .int .i64 E) h1 h2 (by omega)
    exact ⟨hst.1, hst.2.1, h3.trans (hst.2.2.2 _ (Nat.le_refl _) (by omega))⟩
  have FIN := Lib.hid finish
  clear finish
  by_cases hnm : n = m
  · subst hnm
    have y1 : ((n : Int) != (n : Int)) = false := by simp
    go_wp2_with fail
    refine (HG1.out _ (Below.refl _ _)).mono ?_
    rintro e w2 ⟨p1, rfl, ht1, hb2⟩
    obtain ⟨q1, rfl⟩ := ht1.form
    have H2 := Lib.hid (And.intro ht1 hb2)
    clear ht1 hb2
    go_wp2_with fail
    refine (HG2.out _ H2.out.2).mono ?_
    rintro e w3 ⟨p2, rfl, ht2, hb3⟩
    obtain ⟨q2, rfl⟩ := ht2.form
    have H3 := Lib.hid (And.intro (H2.out.1.keep hb3) (And.intro ht2 (H2.out.2.trans (hb3.mono H2.out.2.size))))
    clear ht2 hb3 H2
    go_wp2_with fail
    refine (troot_any W _ la w3 HWW.out H3.out.1 (HT.out _ H3.out.2.2)).mono ?_
    rintro e w4 ⟨rfl, hb4⟩
    have H4 := Lib.hid (And.intro (H3.out.1.keep hb4) (And.intro (H3.out.2.1.keep hb4) (H3.out.2.2.trans (hb4.mono H3.out.2.2.size))))
    clear hb4 H3
    go_wp2_with fail
    refine (troot_any W _ lb w4 HWW.out H4.out.2.1 (HT.out _ H4.out.2.2)).mono ?_
    rintro e w5 ⟨rfl, hb5⟩
    have H5 := Lib.hid (And.intro (H4.out.1.keep hb5) (And.intro (H4.out.2.1.keep hb5) (H4.out.2.2.trans (hb5.mono H4.out.2.2.size))))
    clear hb5 H4
    have hqe := fun wx => eqIn_hash (rt (hw W) la) (rt (hw W) lb) (rt32 W la) (rt32 W lb) wx
    have hgd := eq_guard
    have R5 := Lib.hid (And.intro ((H5.out.2.2.block _ (Array.getElem?_eq_some_iff.1 H1.out.2.1).1).trans H1.out.2.1) (And.intro ((H5.out.2.2.block _ (Array.getElem?_eq_some_iff.1 H1.out.2.2).1).trans H1.out.2.2) (H1.out.1.trans (H5.out.2.2.mono H1.out.1.size))))
    by_cases hrr : rt (hw W) la = rt (hw W) lb
    · have hrb : (rt (hw W) la == rt (hw W) lb) = true := by simp [hrr]
      rw [hrb] at hqe
      have HR9 := Lib.hid hrr
      clear hrr hrb
      go_wp2_with fail
      refine (meet_any W n la lb _ _ w5 (by rw [HN.out.1]; exact Nat.le_refl _) (HN.out.1.symm.trans HN.out.2) H5.out.1 H5.out.2.1).mono ?_
      rintro e w6 ⟨he, hb6⟩
      have q1' := (hb6.block _ (Array.getElem?_eq_some_iff.1 R5.out.1).1).trans R5.out.1
      have q2' := (hb6.block _ (Array.getElem?_eq_some_iff.1 R5.out.2.1).1).trans R5.out.2.1
      have qB : Below w.heap.size w w6 := R5.out.2.2.trans (hb6.mono R5.out.2.2.size)
      cases hmt : meetF (hw W) n la lb with
      | none =>
        rw [hmt] at he
        have he : e = .returned (.tuple #[]) := he
        subst he
        have h0 : w6.cell? ⟨w.heap.size, 0, none⟩ = some (.slice none 0 0) := cell_of_rowp q1' rfl
        have h1 : w6.cell? ⟨w.heap.size, 1, none⟩ = some (.slice none 0 0) := cell_of_rowp q1' rfl
        have h2 : w6.cell? ⟨w.heap.size + 1, 0, none⟩ = some (.int .i64 0) := cell_of_rowp q2' rfl
        have z0 : w6.frozen? ⟨w.heap.size, 0, none⟩ = false := by simp [World.frozen?, q1']
        have z1 : w6.frozen? ⟨w.heap.size, 1, none⟩ = false := by simp [World.frozen?, q1']
        have z2 : w6.frozen? ⟨w.heap.size + 1, 0, none⟩ = false := by simp [World.frozen?, q2']
        have F := FIN.out w6 8 q1' q2' qB
        have HF := Lib.hid F
        have hwm : w.heap.size + 1 ≠ w.heap.size := by omega
        have HRR := Lib.hid (And.intro HR9.out hmt)
        clear F q1' q2' qB hb6 hmt
        go_wp2_with fail
        refine leaves_cons (f := 26) (args := #[.pointer (some ⟨w.heap.size, 0, none⟩), .pointer (some ⟨w.heap.size + 1, 0, none⟩)]) (by simp) (by simp [go_sem]) ?_
        refine (close_quietL (st2 w6 w.heap.size (w.heap.size + 1) (.slice none 0 0) (.slice none 0 0) (.int .i64 8)) w.heap.size (w.heap.size + 1)).mono ?_
        rintro e u' w9 ⟨rfl, rfl, hb9⟩
        have q1 := (hb9.block _ (Array.getElem?_eq_some_iff.1 HF.out.1).1).trans HF.out.1
        have q2 := (hb9.block _ (Array.getElem?_eq_some_iff.1 HF.out.2.1).1).trans HF.out.2.1
        have hc0 := cell_of_rowp (i := 0) q1 rfl
        have hc1 := cell_of_rowp (i := 1) q1 rfl
        have hce := cell_of_rowp (i := 0) (v := .int .i64 8) q2 rfl
        have fin : PairE w w9 A (.returned (.tuple #[.agg #[.slice none 0 0, .slice none 0 0], .int .i64 8])) := by
          rw [HEE.out, if_neg (by simp), if_neg (by simp [HRR.out.1]), HRR.out.2]
          exact ⟨none, 0, none, 0, rfl, Rd.nil _ _, Rd.nil _ _, HF.out.2.2.trans (hb9.mono HF.out.2.2.size)⟩
        simp [Leaves, settle, results, Tryd.results10, go_sem, hc0, hc1, hce]
        exact fin
      | some P =>
        rw [hmt] at he
        obtain ⟨va, vb, rfl, hra, hrb2⟩ := he
        obtain ⟨xa, xc, rfl⟩ := hra.form
        obtain ⟨ya, yc, rfl⟩ := hrb2.form
        refine leaves_cons (f := 26) (args := #[.pointer (some ⟨w.heap.size, 0, none⟩), .pointer (some ⟨w.heap.size + 1, 0, none⟩)]) (by simp) (by simp [go_sem]) ?_
        refine (close_foundL w6 w.heap.size (w.heap.size + 1) _ _ 0 [] q1' q2' (by omega) xa ya _ _ xc yc).mono ?_
        rintro e u' w9 ⟨rfl, rfl, rfl⟩
        have k1 := (heap_alloc_old w6 (.cells #[.slice xa P.1.length xc, .slice ya P.2.length yc] 92) (Array.getElem?_eq_some_iff.1 q1').1).trans q1'
        have k2 := (heap_alloc_old w6 (.cells #[.slice xa P.1.length xc, .slice ya P.2.length yc] 92) (Array.getElem?_eq_some_iff.1 q2').1).trans q2'
        have hst := st2_facts (a := .slice xa P.1.length xc) (b := .slice ya P.2.length yc) (e := .int .i64 0) k1 k2 (by omega)
        have g1 := (hra.alloc (.cells #[.slice xa P.1.length xc, .slice ya P.2.length yc] 92)).st2 (a := .slice xa P.1.length xc) (b := .slice ya P.2.length yc) (e := .int .i64 0) k1 k2 (by omega)
        have g2 := (hrb2.alloc (.cells #[.slice xa P.1.length xc, .slice ya P.2.length yc] 92)).st2 (a := .slice xa P.1.length xc) (b := .slice ya P.2.length yc) (e := .int .i64 0) k1 k2 (by omega)
        have gB := (qB.alloc qB.size (.cells #[.slice xa P.1.length xc, .slice ya P.2.length yc] 92)).trans (hst.2.2.2 w.heap.size (Nat.le_refl _) (by omega))
        have s1 := hst.1
        have s2 := hst.2.1
        obtain ⟨w9, hw9⟩ : ∃ x, x = st2 (w6.alloc (.cells #[.slice xa P.1.length xc, .slice ya P.2.length yc] 92)) w.heap.size (w.heap.size + 1) (.slice xa P.1.length xc) (.slice ya P.2.length yc) (.int .i64 0) := ⟨_, rfl⟩
        rw [← hw9] at s1 s2 g1 g2 gB ⊢
        have hc0 := cell_of_rowp (i := 0) s1 rfl
        have hc1 := cell_of_rowp (i := 1) s1 rfl
        have hce := cell_of_rowp (i := 0) (v := .int .i64 0) s2 rfl
        have fin : PairE w w9 A (.returned (.tuple #[.agg #[.slice xa P.1.length xc, .slice ya P.2.length yc], .int .i64 0])) := by
          rw [HEE.out, if_neg (by simp), if_neg (by simp [HR9.out]), hmt]
          exact ⟨xa, xc, ya, yc, rfl, g1, g2, gB⟩
        simp [Leaves, settle, results, Tryd.results10, go_sem, hc0, hc1, hce]
        exact fin
    · have hrb : (rt (hw W) la == rt (hw W) lb) = false := by simpa using hrr
      rw [hrb] at hqe
      have h0 : w5.cell? ⟨w.heap.size, 0, none⟩ = some (.slice none 0 0) := cell_of_rowp R5.out.1 rfl
      have h1 : w5.cell? ⟨w.heap.size, 1, none⟩ = some (.slice none 0 0) := cell_of_rowp R5.out.1 rfl
      have h2 : w5.cell? ⟨w.heap.size + 1, 0, none⟩ = some (.int .i64 0) := cell_of_rowp R5.out.2.1 rfl
      have z0 : w5.frozen? ⟨w.heap.size, 0, none⟩ = false := by simp [World.frozen?, R5.out.1]
      have z1 : w5.frozen? ⟨w.heap.size, 1, none⟩ = false := by simp [World.frozen?, R5.out.1]
      have z2 : w5.frozen? ⟨w.heap.size + 1, 0, none⟩ = false := by simp [World.frozen?, R5.out.2.1]
      have HF := Lib.hid (FIN.out w5 3 R5.out.1 R5.out.2.1 R5.out.2.2)
      have hwm : w.heap.size + 1 ≠ w.heap.size := by omega
      have HRR := Lib.hid (show rt (hw W) la ≠ rt (hw W) lb from hrr)
      clear hrr hrb
      go_wp2_with fail
      have hc0 := cell_of_rowp (i := 0) HF.out.1 rfl
      have hc1 := cell_of_rowp (i := 1) HF.out.1 rfl
      have hce := cell_of_rowp (i := 0) (v := .int .i64 3) HF.out.2.1 rfl
      change Leaves _ _ _ _ _ _ (st2 w5 w.heap.size (w.heap.size + 1) (.slice none 0 0) (.slice none 0 0) (.int .i64 3))
      have fin : PairE w (st2 w5 w.heap.size (w.heap.size + 1) (.slice none 0 0) (.slice none 0 0) (.int .i64 3)) A (.returned (.tuple #[.agg #[.slice none 0 0, .slice none 0 0], .int .i64 3])) := by
        rw [HEE.out, if_neg (by simp), if_pos HRR.out]
        exact ⟨none, 0, none, 0, rfl, Rd.nil _ _, Rd.nil _ _, HF.out.2.2⟩
      simp [Leaves, settle, results, Tryd.results10, go_sem, hc0, hc1, hce]
      exact fin
  · have y1 : ((n : Int) != (m : Int)) = true := by simp; omega
    have HNM := Lib.hid hnm
    have h0 : w1.cell? ⟨w.heap.size, 0, none⟩ = some (.slice none 0 0) := cell_of_rowp H1.out.2.1 rfl
    have h1 : w1.cell? ⟨w.heap.size, 1, none⟩ = some (.slice none 0 0) := cell_of_rowp H1.out.2.1 rfl
    have h2 : w1.cell? ⟨w.heap.size + 1, 0, none⟩ = some (.int .i64 0) := cell_of_rowp H1.out.2.2 rfl
    have z0 : w1.frozen? ⟨w.heap.size, 0, none⟩ = false := by simp [World.frozen?, H1.out.2.1]
    have z1 : w1.frozen? ⟨w.heap.size, 1, none⟩ = false := by simp [World.frozen?, H1.out.2.1]
    have z2 : w1.frozen? ⟨w.heap.size + 1, 0, none⟩ = false := by simp [World.frozen?, H1.out.2.2]
    have HF := Lib.hid (FIN.out w1 9 H1.out.2.1 H1.out.2.2 H1.out.1)
    have hwm : w.heap.size + 1 ≠ w.heap.size := by omega
    clear hnm
    go_wp2_with fail
    have hc0 := cell_of_rowp (i := 0) HF.out.1 rfl
    have hc1 := cell_of_rowp (i := 1) HF.out.1 rfl
    have hce := cell_of_rowp (i := 0) (v := .int .i64 9) HF.out.2.1 rfl
    change Leaves _ _ _ _ _ _ (st2 w1 w.heap.size (w.heap.size + 1) (.slice none 0 0) (.slice none 0 0) (.int .i64 9))
    have fin : PairE w (st2 w1 w.heap.size (w.heap.size + 1) (.slice none 0 0) (.slice none 0 0) (.int .i64 9)) A (.returned (.tuple #[.agg #[.slice none 0 0, .slice none 0 0], .int .i64 9])) := by
      rw [HEE.out, if_pos HNM.out]
      exact ⟨none, 0, none, 0, rfl, Rd.nil _ _, Rd.nil _ _, HF.out.2.2⟩
    simp [Leaves, settle, results, Tryd.results10, go_sem, hc0, hc1, hce]
    exact fin
end Go.Proofs.YtfibhmgjkooemaaDoor
