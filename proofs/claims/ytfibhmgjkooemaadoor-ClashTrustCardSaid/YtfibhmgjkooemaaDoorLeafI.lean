/- leaf.Root: the root over leaves. -/
import Derived.Test.YtfibhmgjkooemaaDoorLeafC
import Derived.Test.YtfibhmgjkooemaaDoorLeafG
import Derived.Great.BuildSlice
namespace Go.Proofs.YtfibhmgjkooemaaDoor
open Go.RowKit Sha Root

/-- The library's table. -/
def TabD (w : World) : Prop := TabAt 3 Lib.deBruijn64tab w
theorem TabD.keepB {w w' : World} (h : TabD w) (k : Below w.heap.size w w') : TabD w' := fun j hj => (k.cell (p := ⟨3, j, none⟩) (World.block_lt_of_cell? w _ (h j hj))).trans (h j hj)

set_option maxHeartbeats 1000000 in
theorem tz64_core (x k idx : Nat) (w : World) (hx0 : ((x : Int) == 0) = false)
    (key : IntKind.u64.wrap (bits BinOp.and IntKind.u64 (x : Int) (IntKind.u64.wrap (-(x : Int))) * 285870213051353865) / 288230376151711744 = (idx : Int))
    (hi : idx < 64) (hk : k < 64) (hcell : w.cell? ⟨3, idx, none⟩ = some (.int .u8 k)) :
    Calls Tryd.prog 76 #[.int .u64 x] w fun e w' => e = .returned (.int .i64 k) ∧ Below w.heap.size w w' := by
  go_enter Tryd.func76, Tryd.ntmps76
  go_wp2_with (simp only [key])
  go_ret
  exact ⟨rfl, Below.refl _ _⟩
theorem tz64_any (x : Nat) (hx : x < 18446744073709551616) (hx0 : x ≠ 0) (w : World) (hT : TabD w) :
    Calls Tryd.prog 76 #[.int .u64 x] w fun e w' => e = .returned (.int .i64 (Lib.ctz 64 x)) ∧ Below w.heap.size w w' := by
  obtain ⟨hlow, hk⟩ := Lib.lowest_bit 64 x hx0 hx
  obtain ⟨hi, htab⟩ := Lib.deBruijn64_at _ hk
  have hcell := hT _ hi
  rw [htab] at hcell
  exact tz64_core x _ _ w (by simp; omega) (tz64_key x _ hx hx0 hlow) hi hk hcell
set_option maxHeartbeats 1000000 in
theorem tz_any (x : Nat) (hx : x < 18446744073709551616) (hx0 : x ≠ 0) (w : World) (hT : TabD w) :
    Calls Tryd.prog 55 #[.int .u64 x] w fun e w' => e = .returned (.int .i64 (Lib.ctz 64 x)) ∧ Below w.heap.size w w' := by
  go_enter Tryd.func55, Tryd.ntmps55
  go_wp2_with fail
  refine (tz64_any x hx hx0 w hT).mono ?_
  rintro e w1 ⟨rfl, hb⟩
  obtain ⟨k, hk⟩ : ∃ k, k = Lib.ctz 64 x := ⟨_, rfl⟩
  rw [← hk]
  have HK := Lib.hid hk
  clear hk
  go_wp2_with fail
  go_ret
  exact ⟨by rw [HK.out]; rfl, hb⟩
theorem ctz_not (i : Nat) (hi : i < 140737488355329) : Lib.ctz 64 (18446744073709551615 - i) = tz1 i := by
  unfold Lib.ctz
  rw [if_neg (by omega)]
  exact ctz_ones 64 i (by omega)

theorem not_u64 (i : Nat) (hi : i < 18446744073709551616) : bits .xor .u64 IntKind.u64.max (i : Int) = ((18446744073709551615 - i : Nat) : Int) := by
  have h := bits_xor_u64_nat 18446744073709551615 i (by omega) hi
  refine (show bits .xor .u64 IntKind.u64.max (i : Int) = ((18446744073709551615 ^^^ i : Nat) : Int) from h).trans ?_
  congr 1
  have e := congrArg BitVec.toNat (BitVec.allOnes_xor (x := BitVec.ofNat 64 i))
  rw [BitVec.toNat_xor, BitVec.toNat_not, BitVec.toNat_allOnes, BitVec.toNat_ofNat, Nat.mod_eq_of_lt (show i < 2 ^ 64 by omega)] at e
  simpa using e

/-- The root; the peaks. -/
def rootH (n : Int) (l : List (List UInt8)) : List UInt8 := rootL (nodeH n) (emptyH n) l
def pkH (n : Int) (l : List (List UInt8)) : List (List UInt8) := pk (nodeH n) (emptyH n) l
theorem rootF_32 (n : Int) : ∀ (f : Nat) (l : List (List UInt8)), (∀ p ∈ l, p.length = 32) → (rootF (nodeH n) (emptyH n) f l).length = 32
  | 0, [], _ => emptyH_length n
  | f + 1, [], _ => emptyH_length n
  | 0, [x], h => h x (by simp)
  | f + 1, [x], h => h x (by simp)
  | 0, x :: y :: l, h => h x (by simp)
  | f + 1, x :: y :: l, _ => nodeH_length _ _ _
theorem rootH_32 (n : Int) (l : List (List UInt8)) (h : ∀ p ∈ l, p.length = 32) : (rootH n l).length = 32 := rootF_32 n _ l h
theorem pkF_32 (n : Int) : ∀ (f : Nat) (l : List (List UInt8)), (∀ p ∈ l, p.length = 32) → ∀ p ∈ pkF (nodeH n) (emptyH n) f l, p.length = 32
  | 0, _, _, p, hp => by simp [pkF] at hp
  | f + 1, [], _, p, hp => by simp [pkF] at hp
  | f + 1, x :: l, h, p, hp => by
    rw [pkF, List.mem_cons] at hp
    · rcases hp with rfl | hp
      · exact rootH_32 n _ (fun q hq => h q (List.mem_of_mem_take hq))
      · exact pkF_32 n f _ (fun q hq => h q (List.mem_of_mem_drop hq)) p hp
    · intro e; cases e
theorem pkH_32 (n : Int) (l : List (List UInt8)) (h : ∀ p ∈ l, p.length = 32) : ∀ p ∈ pkH n l, p.length = 32 := pkF_32 n _ l h
theorem pkF_length (n : Int) : ∀ (f : Nat) (l : List (List UInt8)), (pkF (nodeH n) (emptyH n) f l).length ≤ f
  | 0, _ => by simp [pkF]
  | f + 1, [] => by simp [pkF]
  | f + 1, x :: l => by
    rw [pkF]
    · have := pkF_length n f ((x :: l).drop (hi (x :: l).length))
      simp only [List.length_cons] at this ⊢; omega
    · intro e; cases e
theorem pkH_length (n : Int) (l : List (List UInt8)) : (pkH n l).length ≤ l.length := pkF_length n _ l
theorem infoHb : (Tryd.prog.info? 35).map (fun i => (i.zero, i.size, i.bytes)) = some (some (.agg (bv (zs 32)).toArray), 32, 32) := by kernel_rfl
theorem fold_set : ∀ (l : List Value) (n : Nat) (init : Array Value), n + l.length ≤ init.size →
    (l.zipIdx n).foldl (fun cs x => cs.setIfInBounds (0 + x.2) x.1) init = (init.toList.take n ++ (l ++ init.toList.drop (n + l.length))).toArray
  | [], n, init, _ => by simp
  | c :: l, n, init, h => by
    simp only [List.length_cons] at h
    rw [List.zipIdx_cons, List.foldl_cons, fold_set l (n + 1) _ (by simp; omega)]
    congr 1
    simp only [Nat.zero_add, Array.toList_setIfInBounds, List.length_cons]
    rw [List.take_add_one, List.getElem?_set_self (by simp; omega), List.drop_set_of_lt (by omega), List.take_set_of_le (by omega)]
    simp [Nat.add_assoc, Nat.add_comm 1]
theorem fill_one (cs : List Value) (init : Array Value) (h : init.size = cs.length) (size : Nat) (hs : size = cs.length) :
    Instr.fill (fun i => some (i * size, size)) init [(0, .agg cs.toArray)] = some cs.toArray := by
  subst hs
  have hf := fold_set cs 0 init (by omega)
  simp only [Nat.zero_add, List.take_zero, List.nil_append] at hf
  rw [List.drop_of_length_le (by simp; omega), List.append_nil] at hf
  simp [Instr.fill, Value.cells, h, hf]
theorem wpList_build1 {P : Program} {ops : Array Oper} {rest : List Oper} {o : Oper} {a : Act} {w : World} {Q : Exit → Act → World → Prop} (hg : o.guard = none) (t e : TypeId) (x : Operand) (ho : o.op = .buildSlice t 1 #[(0, x)])
    (cs : List Value) (hx : a.eval x = .agg cs.toArray) (hu : P.underlying t = some (.slice e)) {z : Value} {size bytes : Nat} (hinfo : (P.info? e).map (fun i => (i.zero, i.size, i.bytes)) = some (some z, size, bytes)) (hs : cs.length = size) (h0 : 0 < size) (h24 : size ≤ 16777216)
    (h : wpList P ops Q rest (a.put o.dst (.slice (some ⟨w.heap.size, 0, none⟩) 1 1)) (w.alloc (.cells cs.toArray e))) : wpList P ops Q (o :: rest) a w := by
  obtain ⟨i, hi, hz, hsize, _⟩ := info_parts hinfo
  refine wpList_buildSlice hg t e 1 _ ho cs.toArray i z hu hi hz (by rw [hsize]; omega) (by rw [hsize]; omega) ?_ h
  have e : (Array.map (fun x : Nat × Operand => match x with | (i, x) => (i, a.eval x)) #[(0, x)]).toList = [(0, a.eval x)] := by simp
  rw [e, hx]
  exact fill_one cs _ (by simp [hsize, hs]) _ (by rw [hsize, hs])
theorem Rd.row (w : World) (e : TypeId) (size : Nat) (xs : List Value) (hx : xs.length = size) (h1 : ∀ u ∈ xs, u.oneCell' = true) : Rd (w.alloc (.cells xs.toArray e)) size (.slice (some ⟨w.heap.size, 0, none⟩) 1 1) 1 xs := by
  refine ⟨by omega, h1, .inr ⟨_, _, rfl, Nat.le_refl _, fun j u hu => ?_⟩⟩
  rw [Addr.add_lit, Nat.zero_add, World.cell?_alloc_at _ _ _ _ rfl]
  simpa using hu

set_option maxRecDepth 100000 in
set_option maxHeartbeats 8000000 in
theorem Root_any (n : Int) (ls : List (List UInt8)) (v : Value) (w : World) (hn : -9223372036854775808 ≤ n ∧ n ≤ 9223372036854775807) (h32 : ∀ p ∈ ls, p.length = 32) (hl : ls.length * 32 ≤ 140737488351232) (hr : Rd w 32 v ls.length (ls.flatMap bv)) (hT : Tabs w) (hD : TabD w) :
    Calls Tryd.prog 20 #[.int .i64 n, v] w fun e w' => e = .returned (.agg (bv (rootH n ls)).toArray) ∧ Below w.heap.size w w' := by
  obtain ⟨a, c, rfl⟩ := hr.form
  have hz := (zero_of_info info32).1
  have hg3 := hT.size
  have HR := Lib.hid hr
  have HT := Lib.hid (And.intro hT hD)
  clear hr hT hD
  go_enter Tryd.func20, Tryd.ntmps20
  go_wp2_with fail
  obtain ⟨w0, hw0⟩ : ∃ x : World, x = w.alloc (.cells (bv (zs 32)).toArray 35) := ⟨_, rfl⟩
  have hres0 : w0.heap[w.heap.size]? = some (.cells (bv (zs 32)).toArray 35 (0, 0)) := by rw [hw0]; exact heap_alloc_new _ _
  have hbw0 : Below w.heap.size w w0 := by rw [hw0]; exact (Below.refl _ _).alloc (Nat.le_refl _) _
  have hs0 : w.heap.size + 1 ≤ w0.heap.size := by rw [hw0]; simp
  rw [← hw0]
  clear hw0
  go_loopw [5, 10] (fun s5 s10 wr => ∃ i : Nat, i ≤ ls.length ∧ s10 = .int .i64 i ∧ wr.ownsRow (w.heap.size + 1) 35 32 s5 (pkH n (ls.take i)).length ((pkH n (ls.take i)).flatMap bv) ∧ wr.heap[w.heap.size]? = some (.cells (bv (zs 32)).toArray 35 (0, 0)) ∧ Below w.heap.size w wr ∧ w.heap.size + 1 ≤ wr.heap.size) (fun _ s10 _ => ls.length - (intOf s10).toNat)
  case atStart => exact ⟨0, by omega, rfl, World.ownsRow_nil _ _ _ _, hres0, hbw0, hs0⟩
  case round =>
    clear hres0 hbw0 hs0
    obtain ⟨i, hi, rfl, how, hres, hbw, hsz⟩ := hrel
    obtain ⟨pa, pc, rfl⟩ := own_form how
    by_cases hlt : i < ls.length
    · have z1 : (i : Int) < (ls.length : Int) := by omega
      have z0 : (0 : Int) ≤ (i : Int) := by omega
      obtain ⟨x, hx⟩ : ∃ x, ls[i]? = some x := ⟨ls[i], List.getElem?_eq_getElem hlt⟩
      have hx32 := h32 x (List.mem_of_getElem? hx)
      obtain ⟨b, off, c', hv, _, hcell⟩ := (HR.out.keep hbw).atN (by omega) (by omega)
      simp only [Value.slice.injEq, true_and] at hv
      obtain ⟨rfl, rfl⟩ := hv
      have hrg : wr.rangeAt b (off + i * 32) (bv x) := fun j u hu => by
        have hj : j < 32 := by have := (List.getElem?_eq_some_iff.1 hu).1; rwa [bv_length, hx32] at this
        have := hcell (i * 32 + j) u (by rw [flat_at32 ls i j x h32 hx hj]; exact hu)
        rwa [← Nat.add_assoc] at this
      have hpush := push_pk (nodeH n) (emptyH n) x _ (ls.take i) (Nat.le_refl _)
      have htk : ls.take i ++ [x] = ls.take (i + 1) := by rw [List.take_add_one, hx]; rfl
      have hti : (ls.take i).length = i := by rw [List.length_take]; omega
      rw [htk, hti] at hpush
      have hpl := pkH_length n (ls.take i)
      rw [hti] at hpl
      have hp32 := pkH_32 n (ls.take i) (fun q hq => h32 q (List.mem_of_mem_take hq))
      have hB := hbw.size
      obtain ⟨ps, hps⟩ : ∃ ps, ps = pkH n (ls.take i) := ⟨_, rfl⟩
      rw [show pk (nodeH n) (emptyH n) (ls.take i) = ps from hps.symm] at hpush
      rw [← hps] at how hpl hp32 ⊢
      have HO := Lib.hid (And.intro how (And.intro hres hbw))
      have HX := Lib.hid (And.intro hx32 hrg)
      have HP := Lib.hid (And.intro hpush hp32)
      have H7 := Lib.hid (heap_alloc_new wr (.cells (bv (zs 32)).toArray 35))
      clear how hres hbw hcell hrg hx32 hpush hp32 hx htk hti hps
      go_upto_region 5 with (first
        | (with_reducible show wpList _ _ _ (⟨some 12, _, _, _, _, _⟩ :: _) _ _; fail)
        | (with_reducible show wpList _ _ _ (⟨some 14, _, _, _, _, _⟩ :: _) _ _; refine wpList_load_mid rfl _ _ rfl b (off + i * 32) rfl (bv x) _ HX.out.2 Tryd.underlying35 rfl (hInfo' _ HX.out.1) ?_)
        | (with_reducible show wpList _ _ _ (⟨none, Op.store _ _ _, _, _, _, _⟩ :: _) _ _; refine wpList_store_whole rfl _ _ _ rfl wr.heap.size (bv x) rfl rfl (bv (zs 32)) _ H7.out (hInfo' _ HX.out.1) (by rw [bv_length, bv_length, HX.out.1]; simp [zs]) (bv_one _) ?_; intro w3 HG3 hg3))
      have k3 : Below wr.heap.size wr w3 := below_grow ((Below.refl _ _).alloc (Nat.le_refl _) _) hg3 (Nat.le_refl _) (by simp)
      have how3 := own_keep HO.out.1 k3
      have hsz3 : w.heap.size + 1 ≤ w3.heap.size := Nat.le_trans hsz k3.size
      have hres3 := (k3.block _ (Array.getElem?_eq_some_iff.1 HO.out.2.1).1).trans HO.out.2.1
      have hbw3 := HO.out.2.2.trans (k3.mono HO.out.2.2.size)
      have H3 := Lib.hid (And.intro HG3.out (And.intro hres3 hbw3))
      have HOW := Lib.hid how3
      clear HG3 hg3 k3 how3 hres3 hbw3
      go_wp2_with (first
        | (with_reducible show wpList _ _ _ (⟨some 17, _, _, _, _, _⟩ :: _) _ _; refine wpList_load_row rfl _ _ rfl wr.heap.size rfl _ _ (0, 0) _ H3.out.1 Tryd.underlying35 rfl (hInfo _ HX.out.1) ?_)
        | (with_reducible show wpList _ _ _ (⟨some 18, _, _, _, _, _⟩ :: _) _ _; refine wpList_build1 rfl 36 35 _ rfl (bv x) rfl Tryd.underlying36 infoHb (by rw [bv_length]; exact HX.out.1) (by decide) (by decide) ?_)
        | (at_builtin; refine wpList_app (o := ⟨some 19, _, _, _, _, _⟩) Tryd.underlying36 infoHb rfl (by decide) rfl _ _ rfl rfl rfl (own_keep HOW.out ((Below.refl _ _).alloc (Nat.le_refl _) _)) (Rd.row w3 35 32 (bv x) (by rw [bv_length]; exact HX.out.1) (bv_one x)) (by omega) (by omega) (by simp; omega) ?_; intro v5 w5 how5 hg5 _))
      replace hg5 := hg5.alloc
      have hb5 : Below (w.heap.size + 1) w3 w5 := hg5.below hsz3 (own_block HOW.out)
      have hbw5 := H3.out.2.2.trans (hb5.mono (by omega))
      have hres5 := (hb5.block w.heap.size (by omega)).trans H3.out.2.1
      have hsz5 := Nat.le_trans hsz3 hb5.size
      obtain ⟨ps2, hps2⟩ : ∃ q, q = ps ++ [x] := ⟨_, rfl⟩
      have hl2 : ps2.length = ps.length + 1 := by rw [hps2]; simp
      have hap : w5.ownsRow (w.heap.size + 1) 35 32 v5 ps2.length (ps2.flatMap bv) := by
        rw [hps2, List.length_append, List.length_singleton, List.flatMap_append, List.flatMap_cons, List.flatMap_nil, List.append_nil]; exact how5
      have htl : tz1 i < ps2.length := by have := HP.out.1.2; omega
      have hfl : ps2.length ≤ 140737488355328 := by omega
      have h32p : ∀ q ∈ ps2, q.length = 32 := fun q hq => by
        rw [hps2] at hq
        exact (List.mem_append.1 hq).elim (fun h => HP.out.2 q h) (fun h => by simp at h; subst h; exact HX.out.1)
      have hfp : foldT (nodeH n) (tz1 i) ps2 = pkH n (ls.take (i + 1)) := by rw [hps2]; exact HP.out.1.1
      have HQ := Lib.hid (And.intro htl (And.intro hfl (And.intro h32p hfp)))
      obtain ⟨pa5, pc5, rfl⟩ := own_form hap
      have H5 := Lib.hid (And.intro hap (And.intro hres5 hbw5))
      clear how5 hg5 hb5 hbw5 hres5 hap H3 HOW htl hfl h32p hfp hps2 hl2
      rw [not_u64 i (by omega)]
      have hctz := ctz_not i (by omega)
      refine (tz_any (18446744073709551615 - i) (by omega) (by omega) w5 (HT.out.2.keepB H5.out.2.2)).mono ?_
      rintro e w6 ⟨rfl, hb6⟩
      rw [hctz]
      have hap6 := own_keep H5.out.1 hb6
      have hbw6 := H5.out.2.2.trans (hb6.mono H5.out.2.2.size)
      have hres6 := (hb6.block _ (Array.getElem?_eq_some_iff.1 H5.out.2.1).1).trans H5.out.2.1
      have hsz6 := Nat.le_trans hsz5 hb6.size
      have hF := fold_any n ps2 (tz1 i) _ w6 (w.heap.size + 1) hn HQ.out.2.2.1 HQ.out.1 HQ.out.2.1 hap6 (by omega) hsz6 (HT.out.1.keepB hbw6)
      rw [HQ.out.2.2.2] at hF
      have HF := Lib.hid hF
      have H6 := Lib.hid (And.intro hres6 hbw6)
      clear hap6 hbw6 hres6 hF hb6 hctz
      go_wp2_with fail
      refine HF.out.mono ?_
      rintro e w7 ⟨v7, rfl, hap7, hb7⟩
      have hbw7 := H6.out.2.trans (hb7.mono (by omega))
      have hres7 := (hb7.block w.heap.size (by omega)).trans H6.out.1
      have hsz7 := Nat.le_trans hsz6 hb7.size
      obtain ⟨pa7, pc7, rfl⟩ := own_form hap7
      have H7 := Lib.hid (And.intro hap7 (And.intro hres7 hbw7))
      clear hap7 hres7 hbw7 hb7 H6 HF
      go_wp2_with fail
      go_roundw
      case rel => exact ⟨i + 1, by omega, by go_num, H7.out.1, H7.out.2.1, H7.out.2.2, hsz7⟩
      case measure => simp [intOf]; omega
    · have z1 : ¬ (i : Int) < (ls.length : Int) := by omega
      rw [List.take_of_length_le (by omega)] at how ⊢
      have hp32 := pkH_32 n ls h32
      have hpl := pkH_length n ls
      have hov := over_any n (pkH n ls) _ wr hn hp32 (by omega) (own_rd how (flat_one32 _)) (HT.out.1.keepB hbw)
      have hroot : overH n (pkH n ls) = rootH n ls := over_pk (nodeH n) (emptyH n) _ ls (Nat.le_refl _)
      have hol := rootH_32 n ls h32
      rw [hroot] at hov
      obtain ⟨out, hout⟩ : ∃ o, o = rootH n ls := ⟨_, rfl⟩
      rw [← hout] at hov hol
      have HOV := Lib.hid hov
      have HOUT := Lib.hid (And.intro hout hol)
      have HO := Lib.hid (And.intro hres hbw)
      obtain ⟨m, hm⟩ : ∃ m, m = (pkH n ls).length := ⟨_, rfl⟩
      rw [← hm] at HOV ⊢
      clear how hres hbw hp32 hpl hov hroot hol hout hm
      go_wp2_with fail
      refine HOV.out.mono ?_
      rintro e w2 ⟨rfl, hb2⟩
      have hres2 := (hb2.block _ (Array.getElem?_eq_some_iff.1 HO.out.1).1).trans HO.out.1
      have hbw2 := HO.out.2.trans (hb2.mono HO.out.2.size)
      have HX := Lib.hid (And.intro hres2 (And.intro hbw2 HOUT.out.2))
      clear hres2 hbw2 hb2 HO HOV
      go_wp2_with (with_reducible show wpList _ _ _ (⟨none, Op.store _ _ _, _, _, _, _⟩ :: _) _ _; refine wpList_store_whole rfl _ _ _ rfl w.heap.size (bv out) rfl rfl _ _ HX.out.1 (hInfo' _ HX.out.2.2) (by rw [bv_length, bv_length, HX.out.2.2]; simp [zs]) (bv_one _) ?_; intro w9 HG9 hg9)
      refine bodyPost_ret (v := .agg (bv out).toArray) ?_ ?_ ?_
      · exact results_cell_row Tryd.results20 _ _ w.heap.size 35 _ (0, 0) _ rfl HG9.out Tryd.underlying35 rfl (hInfo _ HX.out.2.2)
      · rfl
      · exact ⟨by rw [HOUT.out.1], below_grow HX.out.2.1 hg9 (Nat.le_refl _) (Array.getElem?_eq_some_iff.1 HX.out.1).1⟩
end Go.Proofs.YtfibhmgjkooemaaDoor
