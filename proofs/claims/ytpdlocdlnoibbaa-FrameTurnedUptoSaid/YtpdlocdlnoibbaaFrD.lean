/- Lists of texts; frame.Scan and the reference's (gen/frscan.py). -/
import Derived.Test.YtpdlocdlnoibbaaFrC
import Derived.Test.YtpdlocdlnoibbaaTw
namespace Go.Proofs.Ytpdlocdlnoibbaa
open Go.ChangeShapes Go.WideShapes Go.ChangeAt Go.RowKit

/-- A list of texts. -/
def Txs (w : World) (v : Value) (ls : List (List UInt8)) : Prop :=
  ∃ vs : List Value, vs.length = ls.length ∧ Rd w 1 v ls.length vs ∧ ∀ (i : Nat) (l : List UInt8) (u : Value), ls[i]? = some l → vs[i]? = some u → Rd w 1 u l.length (bv l)
theorem Txs.below {w w' : World} {v : Value} {ls : List (List UInt8)} (h : Txs w v ls) (hb : Below w.heap.size w w') : Txs w' v ls := by
  obtain ⟨vs, h1, h2, h3⟩ := h
  exact ⟨vs, h1, h2.keep hb, fun i l u hl hu => (h3 i l u hl hu).keep hb⟩
theorem Txs.form {w : World} {v : Value} {ls : List (List UInt8)} (h : Txs w v ls) : ∃ a c, v = .slice a ls.length c := by
  obtain ⟨vs, h1, h2, h3⟩ := h
  exact h2.form
theorem infoS8 : (Try.prog.info? 22).map (fun i => (i.zero, i.size, i.bytes)) = some (some (.slice none 0 0), 1, 24) := by kernel_rfl
theorem Rd.keepG {w w' : World} {a : Option Addr} {n c n' : Nat} {xs : List Value} {r : Option Nat} (h : Rd w 1 (.slice a n c) n' xs) (hg : w.grownBy w' r) (ha : ∀ y, a = some y → r ≠ some y.block) : Rd w' 1 (.slice a n c) n' xs := by
  obtain ⟨h1, h2, h3 | ⟨ad, c', hv, hc, hcell⟩⟩ := h
  · exact ⟨h1, h2, .inl h3⟩
  · refine ⟨h1, h2, .inr ⟨ad, c', hv, hc, fun j u hu => ?_⟩⟩
    simp only [Value.slice.injEq] at hv
    have hx := hcell j u hu
    have he : (ad.add j).block = ad.block := by unfold Addr.add; split <;> rfl
    rw [← hx]
    refine World.cell?_of_block (hg.block _ (World.block_lt_of_cell? w _ hx) ?_)
    rw [he]; exact fun e => ha ad hv.1 e.symm
/-- A list of texts that one makes oneself: v is the list, vs its elements. -/
structure OwnT (w : World) (B : Nat) (v : Value) (vs : List Value) (ls : List (List UInt8)) : Prop where
  len : vs.length = ls.length
  own : w.ownsRow B 22 1 v ls.length vs
  rd : ∀ (i : Nat) (l : List UInt8) (u : Value), ls[i]? = some l → vs[i]? = some u → Rd w 1 u l.length (bv l)
  far : ∀ u ∈ vs, u.oneCell' = true ∧ ∀ j, u.ownBlock = some j → j < w.heap.size ∧ v.ownBlock ≠ some j
theorem OwnT.nil (w : World) (B : Nat) : OwnT w B (.slice none 0 0) [] [] := ⟨rfl, World.ownsRow_nil _ _ _ _, fun i l u h => by simp at h, fun u h => by cases h⟩
theorem OwnT.below {w w' : World} {B : Nat} {v : Value} {vs : List Value} {ls : List (List UInt8)} (h : OwnT w B v vs ls) (hb : Below w.heap.size w w') : OwnT w' B v vs ls :=
  ⟨h.len, own_keep h.own hb, fun i l u hl hu => (h.rd i l u hl hu).keep hb, fun u hu => ⟨(h.far u hu).1, fun j hj => ⟨Nat.lt_of_lt_of_le ((h.far u hu).2 j hj).1 hb.size, ((h.far u hu).2 j hj).2⟩⟩⟩
theorem OwnT.txs {w : World} {B : Nat} {v : Value} {vs : List Value} {ls : List (List UInt8)} (h : OwnT w B v vs ls) : Txs w v ls :=
  ⟨vs, h.len, own_rd h.own (fun u hu => (h.far u hu).1), h.rd⟩
theorem OwnT.one {w : World} {B : Nat} {v : Value} {vs : List Value} {ls : List (List UInt8)} (h : OwnT w B v vs ls) : ∀ u ∈ vs, u.oneCell' = true := fun u hu => (h.far u hu).1
/-- One text more. -/
theorem OwnT.app {w w' : World} {B : Nat} {v v' u0 : Value} {vs : List Value} {ls : List (List UInt8)} {l0 : List UInt8} (h : OwnT w B v vs ls) (hn : w'.ownsRow B 22 1 v' (ls.length + 1) (vs ++ [u0])) (hg : Grew w w' v v')
    (hr : Rd w 1 u0 l0.length (bv l0)) (h1 : u0.oneCell' = true) (hf : ∀ j, u0.ownBlock = some j → j < w.heap.size ∧ v.ownBlock ≠ some j) : OwnT w' B v' (vs ++ [u0]) (ls ++ [l0]) := by
  have far : ∀ u : Value, (∀ j, u.ownBlock = some j → j < w.heap.size ∧ v.ownBlock ≠ some j) → ∀ j, u.ownBlock = some j → j < w'.heap.size ∧ v'.ownBlock ≠ some j := fun u hu j hj => by
    obtain ⟨h2, h3⟩ := hu j hj
    refine ⟨Nat.lt_of_lt_of_le h2 hg.grown.size, fun e => ?_⟩
    rcases hg.blk j e with h4 | h4
    · exact h3 h4
    · omega
  have keep : ∀ (u : Value) (l : List UInt8), Rd w 1 u l.length (bv l) → (∀ j, u.ownBlock = some j → j < w.heap.size ∧ v.ownBlock ≠ some j) → Rd w' 1 u l.length (bv l) := fun u l hr hu => by
    obtain ⟨a, c, rfl⟩ := hr.form
    exact hr.keepG hg.grown (fun y hy e => by subst hy; exact (hu y.block (by simp [Value.ownBlock])).2 e)
  refine ⟨by simp [h.len], by rw [List.length_append]; exact hn, fun i l u hl hu => ?_, fun u hu => ?_⟩
  · rcases Nat.lt_or_ge i ls.length with hi | hi
    · rw [List.getElem?_append_left hi] at hl
      rw [List.getElem?_append_left (by rw [h.len]; exact hi)] at hu
      exact keep u l (h.rd i l u hl hu) (h.far u (List.mem_of_getElem? hu)).2
    · rw [List.getElem?_append_right hi] at hl
      rw [List.getElem?_append_right (by rw [h.len]; exact hi), h.len] at hu
      have hi0 : i - ls.length = 0 := by
        have := (List.getElem?_eq_some_iff.1 hl).1; simp at this; omega
      rw [hi0] at hl hu
      simp at hl hu
      subst hl; subst hu
      exact keep _ _ hr hf
  · rcases List.mem_append.1 hu with hu | hu
    · exact ⟨(h.far u hu).1, far u (h.far u hu).2⟩
    · simp only [List.mem_singleton] at hu
      subst hu
      exact ⟨h1, far _ hf⟩
/-- The bytes behind a slice's first N. -/
theorem slice_fromI {w : World} {a : Option Addr} {n c : Nat} {T : List UInt8} (N : Nat) (h : Rd w 1 (.slice a n c) n (bv T)) (hT : n = T.length) (hN : N ≤ n) (hb : n ≤ 140737488355328) :
    ∃ a3 c3, (∀ wx : World, (Instr.slice 22 (.slice a n c) (some (.int .i64 N)) none none).run Try.prog wx = .ok (.slice a3 (n - N) c3) wx) ∧ Rd w 1 (.slice a3 (n - N) c3) (n - N) (bv (T.drop N)) := by
  by_cases hn0 : n = 0
  · subst hn0
    obtain rfl : N = 0 := by omega
    obtain rfl : T = [] := List.eq_nil_of_length_eq_zero (by omega)
    have hrun : ∀ wx : World, (Instr.slice 22 (.slice a 0 c) (some (.int .i64 (0 : Nat))) none none).run Try.prog wx = .ok (.slice a (0 - 0) c) wx := fun wx => by
      cases a with
      | none => simp [go_sem]
      | some ad => simp [go_sem, Addr.add]
    exact ⟨a, c, hrun, by simpa using h⟩
  · obtain ⟨b, off, c', hv, hc, hcell⟩ := h.at (by omega)
    simp only [Value.slice.injEq] at hv
    obtain ⟨rfl, _, rfl⟩ := hv
    by_cases hcN : c = N
    · subst hcN
      obtain rfl : n = c := by omega
      refine ⟨some ⟨b, off, none⟩, 0, fun wx => ?_, ⟨by simp [bv, hT], by simp [bv, hT], .inr ⟨_, _, rfl, by omega, fun j u hu => by simp [bv, hT] at hu⟩⟩⟩
      simp [go_sem]
    · refine ⟨some ⟨b, off + N, none⟩, c - N, fun wx => ?_, ⟨by rw [bv_length, List.length_drop, hT, Nat.mul_one], bv_one _, .inr ⟨_, _, rfl, by omega, fun j u hu => ?_⟩⟩⟩
      · simp [go_sem, hcN]
        intro hlt
        omega
      · have hb2 : bv (T.drop N) = (bv T).drop N := by simp [bv]
        rw [hb2, List.getElem?_drop] at hu
        have := hcell (N + j) u hu
        rw [Addr.add_lit]
        rwa [show off + N + j = off + (N + j) by omega]
/-- What Scan hands back. -/
def ScanD (w w' : World) (b : List UInt8) (e : Ending) : Prop :=
  Below w.heap.size w w' ∧ ∃ v, e = .returned (.tuple #[v, .int .i64 (scan b).2]) ∧ Txs w' v (scan b).1
set_option maxHeartbeats 4000000 in
set_option maxRecDepth 100000 in
theorem Scan_any (v : Value) (b : List UInt8) (w : World) (hl : b.length ≤ 1000000000000) (hr : Rd w 1 v b.length (bv b)) :
    Calls Try.prog 31 #[v] w fun e w' => ScanD w w' b e := by
  obtain ⟨a, c, rfl⟩ := hr.form
  obtain ⟨n, hn⟩ : ∃ n, n = b.length := ⟨_, rfl⟩
  have HN := Lib.hid hn
  rw [← hn] at hr hl ⊢
  have HR0 := Lib.hid hr
  clear hr hn
  go_enter Try.func31, Try.ntmps31
  go_wp2_with fail
  go_loopw [2, 3, 4, 5, 6] (fun s2 s3 _ _ _ wr => ∃ (acc : List (List UInt8)) (vs : List Value) (pos : Nat), pos ≤ n ∧ s3 = .int .i64 pos ∧ OwnT wr w.heap.size s2 vs acc ∧ Below w.heap.size w wr ∧ acc ++ (scan (b.drop pos)).1 = (scan b).1 ∧ pos + (scan (b.drop pos)).2 = (scan b).2 ∧ 5 * acc.length ≤ pos) (fun _ s3 _ _ _ _ => n - (intOf s3).toNat)
  case atStart => exact ⟨[], [], 0, Nat.zero_le _, rfl, OwnT.nil _ _, Below.refl _ _, by simp, by simp, by simp⟩
  case round =>
    obtain ⟨acc, vs, pos, hp, rfl, hown, hbr, hs1, hs2, h5⟩ := hrel
    obtain ⟨a3, c3, hsl, hrd⟩ := slice_fromI pos (HR0.out.keep hbr) HN.out hp (by omega)
    have hdl : (b.drop pos).length = n - pos := by rw [List.length_drop, ← HN.out]
    have hone := One_any (.slice a3 (n - pos) c3) (b.drop pos) wr (by omega) (by rw [hdl]; exact hrd)
    have hpos := oneF_pos (b.drop pos)
    have hsc := scan_eq (b.drop pos)
    obtain ⟨R, hR⟩ : ∃ R, R = oneF (b.drop pos) := ⟨_, rfl⟩
    rw [← hR] at hone hpos hsc
    obtain ⟨m, hm⟩ : ∃ m, m = n - pos := ⟨_, rfl⟩
    rw [← hm] at hone hsl
    have HMM := Lib.hid hm
    clear hm
    have HI := Lib.hid (And.intro hown (And.intro hbr (And.intro hs1 (And.intro hs2 (And.intro hsc (And.intro hpos hdl))))))
    have hzr := hbr.size
    obtain ⟨al, cl, rfl⟩ := own_formq hown.own
    clear hown hbr hs1 hs2 hsc hpos hrd hR hdl
    have hzp : (0 : Int) ≤ (pos : Int) := by omega
    go_wp2_with fail
    refine hone.mono ?_
    rintro e w1 ⟨hb1, u, rfl, hru, hob⟩
    obtain ⟨au, cu, rfl⟩ := hru.form
    by_cases hR0 : R.1 = 0
    · rw [hR0]
      have hsc := HI.out.2.2.2.2.1
      rw [if_neg (fun h => h hR0)] at hsc
      obtain ⟨p1, p2, -, -, -⟩ := HI.out.2.2.2.2.2.1 hR0
      rw [HI.out.2.2.2.2.2.2] at p2
      obtain ⟨k, hk⟩ : ∃ k, k = R.2.2 := ⟨_, rfl⟩
      obtain ⟨rec', hrec⟩ : ∃ r, r = R.2.1 := ⟨_, rfl⟩
      rw [← hk, ← hrec] at hsc
      rw [← hk] at p1 p2 ⊢
      rw [← hrec] at hru hob ⊢
      have hownd := HI.out.1.below hb1
      have hfar : ∀ j, (Value.slice au rec'.length cu).ownBlock = some j → j < w1.heap.size ∧ (Value.slice al acc.length cl).ownBlock ≠ some j := fun j hj => ⟨(hob j hj).2, fun e => by
        have h1 := (HI.out.1.own.lt j e).2
        have h2 := (hob j hj).1
        omega⟩
      have HW7 : Hid (IntKind.i64.wrap ((pos : Int) + (k : Int)) = ((pos + k : Nat) : Int)) := Lib.hid ((IntWalk.i64_in _ (by omega)).trans (by omega))
      have hz1 := hb1.size
      have H1 := Lib.hid (And.intro hru (And.intro hfar (And.intro hb1 hsc)))
      clear hru hfar hob hb1 hsc hk hrec hR0
      have hown1 := hownd.own
      have HOD := Lib.hid hownd
      clear hownd
      go_wp2_with (at_builtin; refine wpList_app Try.underlying35 infoS8 rfl (by decide) rfl _ _ rfl rfl rfl (hown1.alloc _) (Rd.one w1 _ 22 rfl) (by omega) (by omega) (by simp; omega) ?_)
      intro v2 w2 hown2 hg2 _
      have hg2' := hg2.alloc
      have hnew := HOD.out.app hown2 hg2' H1.out.1 rfl H1.out.2.1
      have hb2 := (HI.out.2.1.trans (H1.out.2.2.1.mono hzr)).trans (hg2'.below (by omega) (own_block hown1))
      have HF := Lib.hid (And.intro hnew hb2)
      obtain ⟨a5, c5, rfl⟩ := own_formq hown2
      clear hnew hb2 hown2 hg2 hg2' hown1
      go_wp2_with fail
      go_roundw
      case rel =>
        have hsc := H1.out.2.2.2
        have hs1 := HI.out.2.2.1
        have hs2 := HI.out.2.2.2.1
        rw [hsc] at hs1 hs2
        rw [List.drop_drop] at hs1 hs2
        exact ⟨acc ++ [rec'], _, pos + k, by omega, by first | rfl | (rw [HW7.out]) | go_num, HF.out.1, HF.out.2, by rw [List.append_assoc]; exact hs1, by rw [Nat.add_assoc]; exact hs2, by rw [List.length_append]; simp; omega⟩
      case measure =>
        try rw [HW7.out]
        simp [intOf]
        omega
    · have hsc := HI.out.2.2.2.2.1
      rw [if_pos hR0] at hsc
      obtain ⟨z, hz⟩ : ∃ z, z = R.1 := ⟨_, rfl⟩
      rw [← hz] at hR0 ⊢
      have z1 : (z == 0) = false := by simp [hR0]
      have HF := Lib.hid (And.intro ((HI.out.1.below hb1).txs) (And.intro (HI.out.2.1.trans (hb1.mono hzr)) hsc))
      clear hru hob hb1 hsc hz
      go_wp2_with fail
      go_ret2
      have hs1 := HI.out.2.2.1
      have hs2 := HI.out.2.2.2.1
      rw [HF.out.2.2] at hs1 hs2
      simp only [List.append_nil, Nat.add_zero] at hs1 hs2
      refine ⟨HF.out.2.1, _, by rw [← hs2]; rfl, ?_⟩
      rw [← hs1]; exact HF.out.1
set_option maxHeartbeats 4000000 in
set_option maxRecDepth 100000 in
theorem refScan_any (v : Value) (b : List UInt8) (w : World) (hl : b.length ≤ 1000000000000) (hr : Rd w 1 v b.length (bv b)) :
    Calls Try.prog 32 #[v] w fun e w' => ScanD w w' b e := by
  obtain ⟨a, c, rfl⟩ := hr.form
  obtain ⟨n, hn⟩ : ∃ n, n = b.length := ⟨_, rfl⟩
  have HN := Lib.hid hn
  rw [← hn] at hr hl ⊢
  have HR0 := Lib.hid hr
  clear hr hn
  go_enter Try.func32, Try.ntmps32
  go_wp2_with fail
  go_loopw [4, 5, 6, 7, 8] (fun s4 s5 _ _ _ wr => ∃ (acc : List (List UInt8)) (vs : List Value) (pos : Nat), pos ≤ n ∧ s5 = .int .i64 pos ∧ OwnT wr w.heap.size s4 vs acc ∧ Below w.heap.size w wr ∧ acc ++ (scan (b.drop pos)).1 = (scan b).1 ∧ pos + (scan (b.drop pos)).2 = (scan b).2 ∧ 5 * acc.length ≤ pos) (fun _ s5 _ _ _ _ => n - (intOf s5).toNat)
  case atStart => exact ⟨[], [], 0, Nat.zero_le _, rfl, OwnT.nil _ _, Below.refl _ _, by simp, by simp, by simp⟩
  case round =>
    obtain ⟨acc, vs, pos, hp, rfl, hown, hbr, hs1, hs2, h5⟩ := hrel
    obtain ⟨a3, c3, hsl, hrd⟩ := slice_fromI pos (HR0.out.keep hbr) HN.out hp (by omega)
    have hdl : (b.drop pos).length = n - pos := by rw [List.length_drop, ← HN.out]
    have hone := refOne_any (.slice a3 (n - pos) c3) (b.drop pos) wr (by omega) (by rw [hdl]; exact hrd)
    have hpos := oneF_pos (b.drop pos)
    have hsc := scan_eq (b.drop pos)
    obtain ⟨R, hR⟩ : ∃ R, R = oneF (b.drop pos) := ⟨_, rfl⟩
    rw [← hR] at hone hpos hsc
    obtain ⟨m, hm⟩ : ∃ m, m = n - pos := ⟨_, rfl⟩
    rw [← hm] at hone hsl
    have HMM := Lib.hid hm
    clear hm
    have HI := Lib.hid (And.intro hown (And.intro hbr (And.intro hs1 (And.intro hs2 (And.intro hsc (And.intro hpos hdl))))))
    have hzr := hbr.size
    obtain ⟨al, cl, rfl⟩ := own_formq hown.own
    clear hown hbr hs1 hs2 hsc hpos hrd hR hdl
    have hzp : (0 : Int) ≤ (pos : Int) := by omega
    go_wp2_with fail
    refine hone.mono ?_
    rintro e w1 ⟨hb1, u, rfl, hru, hob⟩
    obtain ⟨au, cu, rfl⟩ := hru.form
    by_cases hR0 : R.1 = 0
    · rw [hR0]
      have hsc := HI.out.2.2.2.2.1
      rw [if_neg (fun h => h hR0)] at hsc
      obtain ⟨p1, p2, -, -, -⟩ := HI.out.2.2.2.2.2.1 hR0
      rw [HI.out.2.2.2.2.2.2] at p2
      obtain ⟨k, hk⟩ : ∃ k, k = R.2.2 := ⟨_, rfl⟩
      obtain ⟨rec', hrec⟩ : ∃ r, r = R.2.1 := ⟨_, rfl⟩
      rw [← hk, ← hrec] at hsc
      rw [← hk] at p1 p2 ⊢
      rw [← hrec] at hru hob ⊢
      have hownd := HI.out.1.below hb1
      have hfar : ∀ j, (Value.slice au rec'.length cu).ownBlock = some j → j < w1.heap.size ∧ (Value.slice al acc.length cl).ownBlock ≠ some j := fun j hj => ⟨(hob j hj).2, fun e => by
        have h1 := (HI.out.1.own.lt j e).2
        have h2 := (hob j hj).1
        omega⟩
      have HW7 : Hid (IntKind.i64.wrap ((pos : Int) + (k : Int)) = ((pos + k : Nat) : Int)) := Lib.hid ((IntWalk.i64_in _ (by omega)).trans (by omega))
      have hz1 := hb1.size
      have H1 := Lib.hid (And.intro hru (And.intro hfar (And.intro hb1 hsc)))
      clear hru hfar hob hb1 hsc hk hrec hR0
      have hown1 := hownd.own
      have HOD := Lib.hid hownd
      clear hownd
      go_wp2_with (at_builtin; refine wpList_app Try.underlying35 infoS8 rfl (by decide) rfl _ _ rfl rfl rfl (hown1.alloc _) (Rd.one w1 _ 22 rfl) (by omega) (by omega) (by simp; omega) ?_)
      intro v2 w2 hown2 hg2 _
      have hg2' := hg2.alloc
      have hnew := HOD.out.app hown2 hg2' H1.out.1 rfl H1.out.2.1
      have hb2 := (HI.out.2.1.trans (H1.out.2.2.1.mono hzr)).trans (hg2'.below (by omega) (own_block hown1))
      have HF := Lib.hid (And.intro hnew hb2)
      obtain ⟨a5, c5, rfl⟩ := own_formq hown2
      clear hnew hb2 hown2 hg2 hg2' hown1
      go_wp2_with fail
      go_roundw
      case rel =>
        have hsc := H1.out.2.2.2
        have hs1 := HI.out.2.2.1
        have hs2 := HI.out.2.2.2.1
        rw [hsc] at hs1 hs2
        rw [List.drop_drop] at hs1 hs2
        exact ⟨acc ++ [rec'], _, pos + k, by omega, by first | rfl | (rw [HW7.out]) | go_num, HF.out.1, HF.out.2, by rw [List.append_assoc]; exact hs1, by rw [Nat.add_assoc]; exact hs2, by rw [List.length_append]; simp; omega⟩
      case measure =>
        try rw [HW7.out]
        simp [intOf]
        omega
    · have hsc := HI.out.2.2.2.2.1
      rw [if_pos hR0] at hsc
      obtain ⟨z, hz⟩ : ∃ z, z = R.1 := ⟨_, rfl⟩
      rw [← hz] at hR0 ⊢
      have z1 : (z == 0) = false := by simp [hR0]
      have HF := Lib.hid (And.intro ((HI.out.1.below hb1).txs) (And.intro (HI.out.2.1.trans (hb1.mono hzr)) hsc))
      clear hru hob hb1 hsc hz
      go_wp2_with fail
      go_ret2
      have hs1 := HI.out.2.2.1
      have hs2 := HI.out.2.2.2.1
      rw [HF.out.2.2] at hs1 hs2
      simp only [List.append_nil, Nat.add_zero] at hs1 hs2
      refine ⟨HF.out.2.1, _, by rw [← hs2]; rfl, ?_⟩
      rw [← hs1]; exact HF.out.1
end Go.Proofs.Ytpdlocdlnoibbaa
