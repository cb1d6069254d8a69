/- gauge.Rows. -/
import Derived.Test.YtdociiogddihfaaSoH
import Derived.Deep.OwnRows
namespace Go.Proofs.Ytdociiogddihfaa
open Go.ChangeShapes Go.WideShapes Go.ChangeAt Go.RowKit

def gz : GG := ⟨0, 0, 0, 0, 0⟩
def K1 (gs : List GG) (i : Nat) : Int := rankP ((gs[i]?).getD gz).m
def K2 (gs : List GG) (i : Nat) : Int := spK ((gs[i]?).getD gz).n ((gs[i]?).getD gz).s
def cfG (gs : List GG) (x y : Nat) : Int := orZ (ordZ (K1 gs x) (K1 gs y)) (ordZ (K2 gs x) (K2 gs y))
theorem cfG_kl (gs : List GG) (x y : Nat) : decide (cfG gs x y < 0) = kl (K1 gs) (K2 gs) x y := by
  unfold cfG kl orZ ordZ
  generalize K1 gs x = a
  generalize K1 gs y = b
  generalize K2 gs x = c
  generalize K2 gs y = d
  rw [Bool.eq_iff_iff, decide_eq_true_iff, decide_eq_true_iff]
  by_cases h1 : a < b
  · rw [if_pos h1]; simp; omega
  · rw [if_neg h1]
    by_cases h2 : b < a
    · rw [if_pos h2]; simp; omega
    · rw [if_neg h2]; simp
      by_cases h3 : c < d
      · rw [if_pos h3]; omega
      · rw [if_neg h3]; split <;> omega
theorem madeZ (n : Nat) : madeCells #[.int .i64 0] n = (sv (List.replicate n 0)).toArray := by
  apply Array.ext'
  simp [madeCells, sv, Nat.mod_one, List.map_const']
theorem fill_set (n i : Nat) (hi : i < n) : (List.range' 0 i ++ List.replicate (n - i) 0).set i i = List.range' 0 (i + 1) ++ List.replicate (n - (i + 1)) 0 := by
  have h1 : (List.range' 0 i).length = i := List.length_range'
  rw [List.set_append_right _ _ (by omega), h1, Nat.sub_self, show n - i = (n - (i + 1)) + 1 by omega, List.replicate_succ, List.set_cons_zero, List.range'_concat]
  simp
theorem Rd.atG {w : World} {size : Nat} {v : Value} {n : Nat} {xs : List Value} (h : Rd w size v n xs) (h0 : 0 < n) (hs : 0 < size) :
    ∃ b off c, v = .slice (some ⟨b, off, none⟩) n c ∧ ∀ j u, xs[j]? = some u → w.cell? ⟨b, off + j, none⟩ = some u := by
  obtain ⟨hl, h1, ⟨_, h2⟩ | ⟨ad, c, hv, hc, hcell⟩⟩ := h
  · omega
  · obtain ⟨b, off, spot⟩ := ad
    have hpos : 0 < xs.length := by rw [hl]; exact Nat.mul_pos h0 hs
    have h3 := hcell 0 xs[0] (by simp)
    have hspot : spot = none := by
      have := World.cell?_spot h3
      simpa [Addr.add] using this
    subst hspot
    refine ⟨b, off, c, hv, fun j u hu => ?_⟩
    have := hcell j u hu
    rwa [Addr.add_lit] at this
/-- A gauge's cells among a list's. -/
theorem gs_cells {w : World} {q o c n : Nat} {gs : List GG} (h : Rd w 5 (.slice (some ⟨q, o, none⟩) n c) n (gs.flatMap gcl)) (hn : gs.length = n) {x : Nat} (hx : x < n) :
    w.cell? ⟨q, o + x * 5, none⟩ = some (.int .u64 ((gs[x]?).getD gz).n) ∧ w.cell? ⟨q, o + x * 5 + 1, none⟩ = some (.float .f64 ((gs[x]?).getD gz).m) ∧ w.cell? ⟨q, o + x * 5 + 2, none⟩ = some (.float .f64 ((gs[x]?).getD gz).s) ∧ w.cell? ⟨q, o + x * 5 + 3, none⟩ = some (.float .f64 ((gs[x]?).getD gz).l) ∧ w.cell? ⟨q, o + x * 5 + 4, none⟩ = some (.float .f64 ((gs[x]?).getD gz).h) := by
  obtain ⟨q', o', c', hv, hcell⟩ := h.atG (by omega) (by omega)
  simp only [Value.slice.injEq, Option.some.injEq, Addr.mk.injEq, true_and, and_true] at hv
  obtain ⟨⟨rfl, rfl⟩, rfl⟩ := hv
  obtain ⟨g, hg⟩ : ∃ g, gs[x]? = some g := ⟨_, List.getElem?_eq_getElem (by omega)⟩
  have key : ∀ (l : List GG) (x k : Nat) (g : GG), l[x]? = some g → k < 5 → (l.flatMap gcl)[x * 5 + k]? = (gcl g)[k]? := by
    intro l
    induction l with
    | nil => intro x k g h; simp at h
    | cons a l ih =>
      intro x k g h hk
      cases x with
      | zero =>
        simp at h; subst h
        rw [List.flatMap_cons, List.getElem?_append_left (by simp [gcl]; omega)]; congr 1; omega
      | succ x =>
        rw [List.getElem?_cons_succ] at h
        rw [List.flatMap_cons, List.getElem?_append_right (by simp [gcl]; omega), ← ih x k g h hk]
        congr 1; simp [gcl]; omega
  rw [hg]
  have k0 := key gs x 0 g hg (by omega)
  have k1 := key gs x 1 g hg (by omega)
  have k2 := key gs x 2 g hg (by omega)
  have k3 := key gs x 3 g hg (by omega)
  have k4 := key gs x 4 g hg (by omega)
  exact ⟨hcell (x * 5) _ k0, hcell (x * 5 + 1) _ k1, hcell (x * 5 + 2) _ k2, hcell (x * 5 + 3) _ k3, hcell (x * 5 + 4) _ k4⟩

theorem infoInt : (Try.prog.info? 3).map (fun i => (i.zero, i.size, i.bytes)) = some (some (.int .i64 0), 1, 8) := by kernel_rfl
set_option maxHeartbeats 8000000 in
set_option maxRecDepth 100000 in
theorem GRows_any (gs : List GG) (v : Value) (n : Nat) (w : World) (hn : gs.length = n) (hnb : n < 1000000) (hg : ∀ g ∈ gs, g.n < 18446744073709551616 ∧ g.m < 18446744073709551616) (hr : Rd w 5 v n (gs.flatMap gcl)) :
    Calls Try.prog 24 #[v] w fun e w' => ∃ B xs, e = .returned (.slice (some ⟨B, 0, none⟩) n n) ∧ SRow w' B xs ∧ Srt (K1 gs) (K2 gs) xs ∧ xs.Perm (List.range' 0 n) ∧ Below w.heap.size w w' := by
  obtain ⟨a, c, rfl⟩ := hr.form
  obtain ⟨i, hi⟩ := Option.isSome_iff_exists.1 (show (Try.prog.info? 3).isSome = true by kernel_rfl)
  have hii := infoInt
  rw [hi] at hii
  simp only [Option.map_some, Option.some.injEq, Prod.mk.injEq] at hii
  obtain ⟨hz0, hz1, hz2⟩ := hii
  obtain ⟨B, hB⟩ : ∃ q, q = w.heap.size + 1 := ⟨_, rfl⟩
  obtain ⟨w1, hw1⟩ : ∃ q, q = w.alloc (.cells #[.slice a n c] 51) := ⟨_, rfl⟩
  have hs1 : w1.heap.size = B := by rw [hw1, hB]; simp
  have hb1 : Below w.heap.size w w1 := by rw [hw1]; exact (Below.refl _ _).alloc (Nat.le_refl _) _
  have hbx1 : w1.cell? ⟨w.heap.size, 0, none⟩ = some (.slice a n c) := by rw [hw1]; simp
  have HZ := Lib.hid (And.intro hi (And.intro hz0 (And.intro hz1 hz2)))
  have HW1 := Lib.hid hw1
  have HS1 := Lib.hid hs1
  have HB1 := Lib.hid hb1
  have HBX := Lib.hid hbx1
  have HR := Lib.hid hr
  have HG := Lib.hid (And.intro hn hg)
  clear hr hn hg hi hz0 hz1 hz2 hw1 hs1 hb1 hbx1
  have HBe := Lib.hid hB
  clear hB
  go_enter Try.func24, Try.ntmps24
  go_upto_region 1 with fail
  rw [show w.alloc (.cells #[.slice a n c] 51) = w1 from HW1.out.symm]
  have hbx := HBX.out
  go_wp2_with (at_make; go_loud (refine wpList_make_row w1 rfl _ _ 52 rfl 3 i (.int .i64 0) Try.underlying52 HZ.out.1 HZ.out.2.1 HZ.out.2.2.1 rfl _ _ n rfl rfl (by rw [HZ.out.2.2.2]; omega) (by omega) ?_))
  rw [HS1.out, madeZ]
  obtain ⟨w2, hw2⟩ : ∃ q, q = w1.alloc (.cells (sv (List.replicate n 0)).toArray 3) := ⟨_, rfl⟩
  have hrow2 : SRow w2 B (List.replicate n 0) := by
    rw [hw2, ← HS1.out]; exact heap_alloc_new _ _
  have hb2 : Below w1.heap.size w1 w2 := by rw [hw2]; exact (Below.refl _ _).alloc (Nat.le_refl _) _
  rw [← hw2]
  have HR2 := Lib.hid hrow2
  have HB2 := Lib.hid hb2
  have HSZ := Lib.hid (Array.getElem?_eq_some_iff.1 hrow2).1
  clear hw2 hrow2 hb2 hbx
  go_upto_region 3 with fail
  go_loopw [10] (fun s10 wr => ∃ k : Nat, s10 = .int .i64 k ∧ k ≤ n ∧ Hid (SRow wr B (List.range' 0 k ++ List.replicate (n - k) 0)) ∧ Hid (w2.grownBy wr (some B))) (fun k _ => n - (intOf k).toNat)
  case atStart => exact ⟨0, rfl, Nat.zero_le _, Lib.hid (by have := HR2.out; simpa using this), Lib.hid (World.grownBy.refl _ _)⟩
  case round =>
    clear HR2
    obtain ⟨k, rfl, hkn, HS, HGR⟩ := hrel
    by_cases hlt : k < n
    · have hz : (k : Int) < (n : Int) := by omega
      have y0 : (0 : Int) ≤ (k : Int) := by omega
      have hrow := HS.out
      obtain ⟨z, hz4⟩ : ∃ z, (List.range' 0 k ++ List.replicate (n - k) 0)[k]? = some z := ⟨_, List.getElem?_eq_getElem (by simp; omega)⟩
      have hc := hrow.cell hz4
      have hf := hrow.free k
      have hset := hrow.set k k
      rw [fill_set n k hlt] at hset
      have HSET := Lib.hid hset
      clear hrow hset hz4
      go_wp2_with fail
      go_roundw
      case rel => exact ⟨k + 1, by go_num, by omega, HSET, Lib.hid (grown_tr HGR.out (grown_set k _))⟩
      case measure => simp [intOf]; omega
    · have hz : ¬ (k : Int) < (n : Int) := by omega
      obtain rfl : k = n := by omega
      have hrow : SRow wr B (List.range' 0 k) := by have := HS.out; simpa using this
      have hB := HBe.out
      have hcmp : CmpOk w2 B k 47 #[.pointer (some ⟨w.heap.size, 0, none⟩)] (cfG gs) (K1 gs) (K2 gs) := fun wx hgx x y hx hy => by
        refine ⟨cfG_kl gs x y, ?_⟩
        have hb2 : Below w.heap.size w w2 := HB1.out.trans (HB2.out.mono HB1.out.size)
        have hbw : Below w.heap.size w wx := grow_below hb2 hgx (by omega) hb2.size
        have hrd := HR.out.keep hbw
        obtain ⟨q, o, c', hv, _⟩ := hrd.atG (by omega) (by omega)
        have hgx' := HG.out.2
        have hn0 := HG.out.1
        have hgd : ∀ z, z < k → ((gs[z]?).getD gz).n < 18446744073709551616 ∧ ((gs[z]?).getD gz).m < 18446744073709551616 := fun z hz => by
          obtain ⟨g, hg⟩ : ∃ g, gs[z]? = some g := ⟨_, List.getElem?_eq_getElem (by omega)⟩
          rw [hg]; exact hgx' g (List.mem_of_getElem? hg)
        have hbx : wx.cell? ⟨w.heap.size, 0, none⟩ = some (.slice (some ⟨q, o, none⟩) k c') := by
          rw [← hv]
          have hlt1 := World.block_lt_of_cell? w1 _ HBX.out
          have h2 := (HB2.out.cell hlt1).trans HBX.out
          have hlt2 := World.block_lt_of_cell? w2 _ h2
          have hk := hgx.block w.heap.size hlt2 (fun e => by simp only [Option.some.injEq] at e; omega)
          rw [← h2]
          simp only [World.cell?, hk]
        rw [hv] at hrd
        exact cmp_any q o k c' x y w.heap.size ((gs[x]?).getD gz) ((gs[y]?).getD gz) wx hx hy hbx (gs_cells hrd hn0 hx) (gs_cells hrd hn0 hy) ⟨(hgd x hx).1, (hgd y hy).1, (hgd x hx).2, (hgd y hy).2⟩
      have eg : ∀ args w, (callFunc 47 args).run Try.prog w = .ok (.enter 47 args) w := by
        intro args w
        have hname : (Try.f47.name == "runtime.NumGoroutine") = false := by kernel_rfl
        have h1 : Try.f47.name ≠ "runtime.NumGoroutine" := by simpa using hname
        obtain ⟨c, hb⟩ : ∃ c, Try.f47.body = some c := ⟨_, rfl⟩
        simp [callFunc, Try.func47, h1, hb]
      have hsort := sortStable_any k k 47 B #[.pointer (some ⟨w.heap.size, 0, none⟩)] (cfG gs) (K1 gs) (K2 gs) w2 wr eg hcmp hnb hrow HGR.out
      have HSO := Lib.hid hsort
      clear hsort hcmp eg hrow hB
      go_wp2_with fail
      refine HSO.out.mono ?_
      rintro e w4 ⟨rfl, hr4⟩
      have H4 := Lib.hid hr4
      clear hr4
      go_wp2_with fail
      go_ret
      obtain ⟨xs, q1, q2, q3, q4⟩ := H4.out
      refine ⟨B, xs, rfl, q1, q2, q3, ?_⟩
      have hb2 : Below w.heap.size w w2 := HB1.out.trans (HB2.out.mono HB1.out.size)
      exact grow_below hb2 q4 (by have := HBe.out; omega) hb2.size
end Go.Proofs.Ytdociiogddihfaa
