/- The reference's Sign of heads. (printed by gen/hde.py) -/
import Derived.Test.YtgimblpdmlnfeaaDoorHdD
namespace Go.Proofs.YtgimblpdmlnfeaaDoor
open Go.RowKit Sha

theorem below_ofg {w w1 w2 : World} {p : Nat} (hb : Below w.heap.size w w1) (hp : w.heap.size ≤ p) (hg : w1.grownBy w2 (some p)) : Below w.heap.size w w2 :=
  ⟨hg.os.trans hb.os, hg.tape.trans hb.tape, hg.output.trans hb.output, Nat.le_trans hb.size hg.size, fun k hk => (hg.block k (Nat.lt_of_lt_of_le hk hb.size) (fun e => by simp only [Option.some.injEq] at e; omega)).trans (hb.block k hk)⟩
/-- One operation stores into one row; the others leave alone what there was. -/
def kP (q g : Nat) (j : Nat) (w w' : World) : Prop := if j = q then w.grownBy w' (some g) else Below w.heap.size w w'
theorem kP_refl (q g j : Nat) (w : World) : kP q g j w w := by
  unfold kP; split
  · exact World.grownBy.refl _ _
  · exact Below.refl _ _
theorem kP_of {q g j : Nat} {w w' : World} (h1 : j ≠ q) (h : Below w.heap.size w w') : kP q g j w w' := by unfold kP; rw [if_neg h1]; exact h
theorem kP_st {q g : Nat} {w w' : World} (h : w.grownBy w' (some g)) : kP q g q w w' := by unfold kP; rw [if_pos rfl]; exact h
theorem kP_below {q g j : Nat} {w w' : World} (h1 : j ≠ q) (h : kP q g j w w') : Below w.heap.size w w' := by unfold kP at h; rwa [if_neg h1] at h
theorem kP_G {q g j : Nat} {w0 w w' : World} (h : w0.grownBy w (some g)) (k : kP q g j w w') : w0.grownBy w' (some g) := by
  unfold kP at k
  split at k
  · exact grown_trans h k (fun j hj => .inl hj)
  · exact ⟨k.os.trans h.os, k.tape.trans h.tape, k.output.trans h.output, Nat.le_trans h.size k.size, fun i hi hne => (k.block i (Nat.lt_of_lt_of_le hi h.size)).trans (h.block i hi hne)⟩
theorem gives_build {P : Program} {r : Nat → Value} {o : Oper} {w : World} {R : Value → World → Prop} (t : TypeId) (parts : Array (Nat × Operand)) (ho : o.op = .build t parts) (cells : Array Value)
    (hb : P.built t (parts.map fun (i, x) => (i, rd r x)).toList = some cells) (h : R (.agg cells) w) : gives P r o w R := by
  unfold gives execOp
  simp only [ho, Sem.run_bind, run_build w t _ cells hb, Result.andThen_ok]
  exact h
/-- What each operation hands on. -/
def rSignF (n z gk g8 : Nat) (v9 : Value) (rt mk : List UInt8) (H1 : Array Value) : Nat → Value → World → Prop
  | 0, v, _ => v = .int .u64 n
  | 1, v, _ => v = .int .u64 z
  | 2, v, _ => v = .agg (bv rt).toArray
  | 3, v, _ => v = .slice (some ⟨gk, 0, none⟩) 32 32
  | 4, v, _ => v = v9
  | 5, v, _ => v = .agg (bv mk).toArray
  | 6, v, _ => v = .agg H1
  | 7, _, w => w.heap[g8]? = some (.cells H1 37 (0, 0))
  | _, _, _ => True
set_option maxHeartbeats 8000000 in
set_option maxRecDepth 100000 in
theorem refSign_any (key : List UInt8) (n z : Nat) (rt : List UInt8) (v : Value) (w : World) (hl : key.length ≤ 140737488351232) (hn : n < 18446744073709551616) (hz : z < 18446744073709551616) (hrt : rt.length = 32) (hr : Rd w 1 v key.length (bv key)) (hG : TabsR w) :
    Calls Tryd.prog 19 #[v, .int .u64 n, .int .u64 z, .agg (bv rt).toArray] w fun e w' => e = .returned (.agg (hdL n z rt (signB key n z rt)).toArray) ∧ Below w.heap.size w w' := by
  have hzh := (zero_of_info info32).1
  have hzd := (zero_of_info infoHead).1
  have hder := fun wx hb => refDerive_any key n v wx hl hn (hr.keep hb) (hG.keepB hb)
  obtain ⟨k0, hk0⟩ : ∃ k, k = macB key (nodeT n) := ⟨_, rfl⟩
  have hk0l : k0.length = 32 := by rw [hk0]; exact macB_length _ _
  have hmk0 : signB key n z rt = macB k0 (headW ++ bodyB n z rt) := by rw [hk0]; rfl
  rw [← hk0] at hder
  have hnl : (numB n).length ≤ 9 ∧ 0 < (numB n).length := by have := nk_le n hn; rw [numB_length]; omega
  have hzl : (numB z).length ≤ 9 ∧ 0 < (numB z).length := by have := nk_le z hz; rw [numB_length]; omega
  have htx : headW ++ bodyB n z rt = headW ++ numB n ++ numB z ++ rt := by simp [bodyB, List.append_assoc]
  have hN := fun wx => refNum_any n wx hn
  have hZ := fun wx => refNum_any z wx hz
  have hMx := fun v v1 w' hr hr1 hT => refMark_any k0 (headW ++ bodyB n z rt) v v1 w' (by omega) (by rw [htx]; simp [headW, hrt]; omega) hr hr1 hT
  obtain ⟨mk, hmk⟩ : ∃ o, o = macB k0 (headW ++ bodyB n z rt) := ⟨_, rfl⟩
  have hml : mk.length = 32 := by rw [hmk]; exact macB_length _ _
  rw [← hmk] at hMx hmk0
  rw [htx] at hMx
  have hbu := built_head4 n z rt mk hrt hml
  obtain ⟨Z0, hZ0⟩ : ∃ A, A = (hdL 0 0 (zs 32) (zs 32)).toArray := ⟨_, rfl⟩
  rw [← hZ0] at hzd
  obtain ⟨x0, hx0⟩ : ∃ x, x = numB n := ⟨_, rfl⟩
  obtain ⟨x1, hx1⟩ : ∃ x, x = numB z := ⟨_, rfl⟩
  rw [← hx0] at hMx hN hnl
  rw [← hx1] at hMx hZ hzl
  have HDE := Lib.hid hder
  have HM0 := Lib.hid hMx
  have HMK := Lib.hid hmk0
  have HZ0 := Lib.hid hZ0
  have HBU := Lib.hid hbu
  have HN := Lib.hid hN
  have HZ := Lib.hid hZ
  have HI0 := Lib.hid (And.intro hk0l (And.intro hml (And.intro hrt (And.intro hnl hzl))))
  have HGT := Lib.hid hG
  clear hder hMx hmk hmk0 hk0 hZ0 hk0l hml hrt hnl hzl hbu hG hr hl hn hz htx hN hZ hx0 hx1
  go_enter Tryd.func19, Tryd.ntmps19
  go_upto_region 1 with fail
  obtain ⟨w1, hw1⟩ : ∃ x : World, x = (w.alloc (.cells (bv rt).toArray 35)).alloc (.cells Z0 37) := ⟨_, rfl⟩
  rw [← hw1]
  have r7 : w1.heap[w.heap.size]? = some (.cells (bv rt).toArray 35 (0, 0)) := by rw [hw1]; exact (heap_alloc_old _ _ (by simp)).trans (heap_alloc_new _ _)
  have r8 : w1.heap[w.heap.size + 1]? = some (.cells Z0 37 (0, 0)) := by
    rw [hw1]
    have h := heap_alloc_new (w.alloc (.cells (bv rt).toArray 35)) (.cells Z0 37)
    simpa using h
  have b1 : Below w.heap.size w w1 := by rw [hw1]; exact ((Below.refl _ _).alloc (Nat.le_refl _) _).alloc (by simp) _
  have H1 := Lib.hid (And.intro r7 (And.intro r8 b1))
  have hde := HDE.out w1 b1
  have HDE2 := Lib.hid hde
  clear r7 r8 b1 hw1 hde HDE
  go_wp2_with fail
  refine HDE2.out.mono ?_
  rintro e w2 ⟨rfl, hb2⟩
  have r7 := (hb2.block _ (Array.getElem?_eq_some_iff.1 H1.out.1).1).trans H1.out.1
  have r8 := (hb2.block _ (Array.getElem?_eq_some_iff.1 H1.out.2.1).1).trans H1.out.2.1
  have b2 := H1.out.2.2.trans (hb2.mono H1.out.2.2.size)
  have H2 := Lib.hid (And.intro r7 (And.intro r8 b2))
  clear r7 r8 b2 hb2 H1 HDE2
  go_upto_region 2 with (with_reducible show wpList _ _ _ (⟨none, Op.store _ _ _, _, _, _, _⟩ :: _) _ _; go_loud (refine wpList_store_whole rfl _ _ _ rfl w2.heap.size (bv k0) rfl rfl (bv (zs 32)) _ (heap_alloc_new _ _) (hInfo' _ HI0.out.1) (by rw [bv_length, bv_length, HI0.out.1]; simp [zs]) (bv_one _) ?_); intro w3 HG3 hg3)
  obtain ⟨gk, hgk⟩ : ∃ g, g = w2.heap.size := ⟨_, rfl⟩
  have hG3 := HG3.out
  rw [← hgk] at hG3 hg3 ⊢
  have hb3 : Below gk w2 w3 := below_grow ((Below.refl _ _).alloc (by omega) _) hg3 (Nat.le_refl _) (by simp; omega)
  have r7 := (hb3.block _ (by rw [hgk]; exact (Array.getElem?_eq_some_iff.1 H2.out.1).1)).trans H2.out.1
  have r8 := (hb3.block _ (by rw [hgk]; exact (Array.getElem?_eq_some_iff.1 H2.out.2.1).1)).trans H2.out.2.1
  have b3 := H2.out.2.2.trans (hb3.mono (by rw [hgk]; exact H2.out.2.2.size))
  have H3 := Lib.hid (And.intro r7 (And.intro r8 (And.intro b3 hG3)))
  clear r7 r8 b3 hG3 hb3 hgk hg3 HG3 H2
  have kc := Lib.run_convert_bytes_const (P := Tryd.prog) w3 25 5 #[Value.int .u8 104, .int .u8 101, .int .u8 97, .int .u8 100] 4 4 Tryd.underlying25 Tryd.underlying5
  go_wp2_with fail
  clear kc
  obtain ⟨w4, hw4⟩ : ∃ x : World, x = w3.alloc (.cells #[Value.int .u8 104, .int .u8 101, .int .u8 97, .int .u8 100] 5 (4, 5)) := ⟨_, rfl⟩
  rw [← hw4]
  have hb4 : Below w3.heap.size w3 w4 := by rw [hw4]; exact (Below.refl _ _).alloc (Nat.le_refl _) _
  have hc4 : w4.heap[w3.heap.size]? = some (.cells #[Value.int .u8 104, .int .u8 101, .int .u8 97, .int .u8 100] 5 (4, 5)) := by rw [hw4]; exact heap_alloc_new _ _
  clear hw4
  refine (HN.out w4).mono ?_
  rintro e w5 ⟨vn, rfl, hon, hb5⟩
  have hc5 := (hb5.block _ (Array.getElem?_eq_some_iff.1 hc4).1).trans hc4
  have holds : ∀ j u, [Value.int .u8 104, .int .u8 101, .int .u8 97, .int .u8 100][j]? = some u → w5.cell? ((⟨w3.heap.size, 0, none⟩ : Addr).add j) = some u := fun j u hu => by
    rw [Addr.add_lit, Nat.zero_add, Go.cell_of_row _ _ _ _ _ _ hc5, List.getElem?_toArray]
    exact hu
  have hb35 := hb4.trans (hb5.mono hb4.size)
  have H5 := Lib.hid (And.intro holds (And.intro hb35 (own_rd hon (bv_one _))))
  clear hc4 hc5 holds hb4 hb5 hb35 hon
  go_wp2_with (at_builtin; go_loud (refine wpList_app_grow Tryd.underlying25 infoU8s rfl (by decide) rfl _ _ rfl rfl rfl rfl H5.out.1 H5.out.2.2 (by have := HI0.out.2.2.2.1.2; omega) (by have := HI0.out.2.2.2.1.1; omega) (by have := HI0.out.2.2.2.1.1; omega) HI0.out.2.2.2.1.2 ?_))
  intro v6 w6 ho6 hb6
  have hb36 := H5.out.2.1.trans (hb6.mono H5.out.2.1.size)
  have H6 := Lib.hid (And.intro hb36 (own_base ho6 H5.out.2.1.size))
  clear hb36 ho6 hb6 H5
  go_wp2_with fail
  refine (HZ.out w6).mono ?_
  rintro e w7 ⟨vz, rfl, hoz, hb7⟩
  have ho7 := own_keep H6.out.2 hb7
  have hb37 := H6.out.1.trans (hb7.mono H6.out.1.size)
  have H7 := Lib.hid (And.intro ho7 (And.intro hb37 (own_rd hoz (bv_one _))))
  clear ho7 hb37 hoz hb7 H6
  go_wp2_with (at_builtin; go_loud (refine wpList_app Tryd.underlying25 infoU8s rfl (by decide) rfl _ _ rfl rfl rfl H7.out.1 H7.out.2.2 (by have := HI0.out.2.2.2.1.1; have := HI0.out.2.2.2.2.1; omega) (by have := HI0.out.2.2.2.1.1; have := HI0.out.2.2.2.2.1; omega) H7.out.2.1.size ?_))
  intro v8 w8 ho8 hgr8 _
  have hb8 : Below w3.heap.size w7 w8 := hgr8.below H7.out.2.1.size (own_block H7.out.1)
  have hb38 := H7.out.2.1.trans hb8
  have r78 := (hb38.block _ (Array.getElem?_eq_some_iff.1 H3.out.1).1).trans H3.out.1
  have H8 := Lib.hid (And.intro ho8 (And.intro hb38 (rd_row (n := 32) r78 HI0.out.2.2.1)))
  clear hgr8 hb8 hb38 r78 ho8 H7
  go_upto_region 5 with (at_builtin; go_loud (refine wpList_app Tryd.underlying25 infoU8s rfl (by decide) rfl _ _ rfl rfl rfl H8.out.1 (by have h := H8.out.2.2; rw [HI0.out.2.2.1] at h; exact h) (by have := HI0.out.2.2.2.1.1; have := HI0.out.2.2.2.2.1; omega) (by have := HI0.out.2.2.2.1.1; have := HI0.out.2.2.2.2.1; omega) H8.out.2.1.size ?_); intro v9 wv ho9 hgr9 _)
  have hb9 : Below w3.heap.size w8 wv := hgr9.below H8.out.2.1.size (own_block H8.out.1)
  have hb39 := H8.out.2.1.trans hb9
  have r7 := (hb39.block _ (Array.getElem?_eq_some_iff.1 H3.out.1).1).trans H3.out.1
  have r8 := (hb39.block _ (Array.getElem?_eq_some_iff.1 H3.out.2.1).1).trans H3.out.2.1
  have rk := (hb39.block _ (Array.getElem?_eq_some_iff.1 H3.out.2.2.2).1).trans H3.out.2.2.2
  have hBW := H3.out.2.2.1.trans (hb39.mono H3.out.2.2.1.size)
  have hbv9 : [Value.int .u8 104, .int .u8 101, .int .u8 97, .int .u8 100] ++ bv x0 ++ bv x1 ++ bv rt = bv (headW ++ x0 ++ x1 ++ rt) := by rw [bv_append, bv_append, bv_append]; rfl
  simp only [List.cons_append, List.nil_append] at ho9 hbv9
  rw [hbv9] at ho9
  have hrt9 := own_rd ho9 (bv_one _)
  have hkr := rd_row (n := 32) rk HI0.out.1
  obtain ⟨g7, hg7⟩ : ∃ g, g = w.heap.size := ⟨_, rfl⟩
  obtain ⟨g8, hg8⟩ : ∃ g, g = w.heap.size + 1 := ⟨_, rfl⟩
  rw [← hg8] at r8 ⊢
  have hle8 : w.heap.size ≤ g8 := by omega
  obtain ⟨H1, hH1⟩ : ∃ H, H = (hdL n z rt mk).toArray := ⟨_, rfl⟩
  have hl9 : (headW ++ x0 ++ x1 ++ rt).length = 4 + x0.length + x1.length + 32 := by simp [headW, HI0.out.2.2.1]; omega
  have hrt9' : Rd wv 1 v9 (headW ++ x0 ++ x1 ++ rt).length (bv (headW ++ x0 ++ x1 ++ rt)) := by
    rw [hl9]; exact hrt9
  rw [← hg7] at r7 ⊢
  have HR := Lib.hid (And.intro (Array.getElem?_eq_some_iff.1 r8).1 (And.intro (by rw [HZ0.out] at r8; exact r8) (And.intro (Array.getElem?_eq_some_iff.1 r7).1 (And.intro r7 hle8))))
  have HI := Lib.hid (And.intro HI0.out.2.1 (And.intro hH1 HI0.out.2.2.1))
  have HBW := Lib.hid hBW
  have HM := Lib.hid (fun wx (hb : Below wv.heap.size wv wx) => HM0.out (.slice (some ⟨gk, 0, none⟩) 32 32) v9 wx (hkr.keep hb) (hrt9'.keep hb) (HGT.out.keepB (hBW.trans (hb.mono hBW.size))))
  clear hb9 hb39 r7 r8 rk hBW hrt9 hrt9' hkr hg7 hg8 hle8 hH1 hl9 ho9 hgr9 H8 H3 HM0 HGT HI0 HZ0
  refine wp_region_until [some 26, some 27, some 28, some 29, some 30, some 31, some 32, none] [] 7 (fun wx => Below wv.heap.size wv wx) [0, 1, 2, 3, 4, 5, 6, 7] (rSignF n z gk g8 v9 rt mk H1) (kP 7 g8) (fun wx => wv.grownBy wx (some g8)) (by kernel_rfl) (by kernel_rfl) rfl (by kernel_rfl) (by kernel_rfl) (kHS_drew _ _) (Below.refl _ _).drew (fun j hj _ _ k h => h.trans ((kP_below hj k).mono h.size)) (kP_refl 7 g8) (fun _ _ _ h k => kP_G h k) ?hF ?hstep ?hend
  case hF =>
    exact ⟨fun _ _ _ _ _ _ h => h, ⟨fun _ _ _ _ _ _ h => h, ⟨fun _ _ _ _ _ _ h => h, ⟨fun _ _ _ _ _ _ h => h, ⟨fun _ _ _ _ _ _ h => h, ⟨fun _ _ _ _ _ _ h => h, ⟨fun _ _ _ _ _ _ h => h, ⟨fun j hg _ _ _ k h => ((kP_below (fun e => by subst e; exact absurd hg (by rw [show goneB _ 7 7 = true by kernel_rfl]; simp)) k).block _ (Array.getElem?_eq_some_iff.1 h).1).trans h, trivial⟩⟩⟩⟩⟩⟩⟩⟩
  case hstep =>
    -- operation 0: Op.move (tmp 1)
    refine ⟨fun r wx hG hs hq hf => ?_, ?_⟩
    · have hQ := hq rfl
      have e1 : r 1 = .int .u64 n := hs 1 rfl
      refine (if_pos rfl).symm ▸ ?_
      clear hs hq hf
      unfold gives
      go_simp
      exact ⟨kP_refl _ _ _ _, rfl⟩
    -- operation 1: Op.move (tmp 2)
    refine ⟨fun r wx hG hs hq hf => ?_, ?_⟩
    · have hQ := hq rfl
      have e2 : r 2 = .int .u64 z := hs 2 rfl
      refine (if_pos rfl).symm ▸ ?_
      clear hs hq hf
      unfold gives
      go_simp
      exact ⟨kP_refl _ _ _ _, rfl⟩
    -- operation 2: Op.load 35 (tmp 7)
    refine ⟨fun r wx hG hs hq hf => ?_, ?_⟩
    · have hQ := hq rfl
      have e7 : r 7 = .pointer (some ⟨g7, 0, none⟩) := hs 7 rfl
      refine (if_pos rfl).symm ▸ ?_
      clear hs hq hf
      unfold gives
      refine gives_load_row 35 _ rfl g7 e7 35 _ (0, 0) _ ((hQ.block _ HR.out.2.2.1).trans HR.out.2.2.2.1) Tryd.underlying35 rfl (hInfo _ HI.out.2.2) ?_
      exact ⟨kP_refl _ _ _ _, rfl⟩
    -- operation 3: Op.slice 35 (tmp 9) none none none
    refine ⟨fun r wx hG hs hq hf => ?_, ?_⟩
    · have hQ := hq rfl
      have e9 : r 9 = .pointer (some ⟨gk, 0, none⟩) := hs 9 rfl
      refine (if_pos rfl).symm ▸ ?_
      clear hs hq hf
      unfold gives
      go_simp
      exact ⟨kP_refl _ _ _ _, rfl⟩
    -- operation 4: Op.move (tmp 10)
    refine ⟨fun r wx hG hs hq hf => ?_, ?_⟩
    · have hQ := hq rfl
      have e10 : r 10 = v9 := hs 10 rfl
      refine (if_pos rfl).symm ▸ ?_
      clear hs hq hf
      unfold gives
      go_simp
      exact ⟨kP_refl _ _ _ _, rfl⟩
    -- operation 5: Op.call ( callee := Callee.value (func 58), args := #[tmp 29, tmp 30], argTypes := #[25, 25] )
    refine ⟨fun r wx hG hs hq hf => ?_, ?_⟩
    · have hQ := hq rfl
      have h3 : r 29 = .slice (some ⟨gk, 0, none⟩) 32 32 := hf.1
      have h4 : r 30 = v9 := hf.2.1
      refine (if_pos rfl).symm ▸ ?_
      clear hs hq hf
      unfold gives
      have hk := HM.out wx hQ
      go_simp
      refine hk.mono ?_
      rintro e wy ⟨rfl, hb1⟩
      exact ⟨_, rfl, kP_of (by decide) hb1, rfl⟩
    -- operation 6: Op.build 37 #[(0, tmp 26), (1, tmp 27), (2, tmp 28), (3, tmp 31)]
    refine ⟨fun r wx hG hs hq hf => ?_, ?_⟩
    · have hQ := hq rfl
      have h0 : r 26 = .int .u64 n := hf.1
      have h1 : r 27 = .int .u64 z := hf.2.1
      have h2 : r 28 = .agg (bv rt).toArray := hf.2.2.1
      have h5 : r 31 = .agg (bv mk).toArray := hf.2.2.2.1
      refine (if_pos rfl).symm ▸ ?_
      clear hs hq hf
      unfold gives
      refine gives_build 37 _ rfl H1 (by rw [HI.out.2.1]; simp only [List.map_toArray, List.map_cons, List.map_nil, rd_tmp, h0, h1, h2, h5]; exact HBU.out) ?_
      exact ⟨kP_refl _ _ _ _, rfl⟩
    -- operation 7: Op.store 37 (tmp 8) (tmp 32)
    refine ⟨fun r wx hG hs hq hf => ?_, ?_⟩
    · have hQ := hq rfl
      have e8 : r 8 = .pointer (some ⟨g8, 0, none⟩) := hs 8 rfl
      have h6 : r 32 = .agg H1 := hf.1
      refine (if_pos rfl).symm ▸ ?_
      clear hs hq hf
      unfold gives
      refine gives_store_row 37 _ _ rfl g8 (hdL n z rt mk) e8 (by show r 32 = _; rw [h6, HI.out.2.1]) (hdL 0 0 (zs 32) (zs 32)) 37 ((hQ.block _ HR.out.1).trans HR.out.2.1) (hdInfo' _ _ _ _ HI.out.2.2 HI.out.1) (by rw [hdL_length _ _ _ _ HI.out.2.2 HI.out.1, hdL_length _ _ _ _ (by simp [zs]) (by simp [zs])]) (hdL_one _ _ _ _) ?_
      intro wy h1 h2
      rw [← HI.out.2.1] at h1
      exact ⟨kP_st h2, h1⟩
    exact trivial
  case hend =>
    intro u wz hG hfin
    have z7 : wz.heap[g8]? = some (.cells H1 37 (0, 0)) := hfin 7 (by decide) (by kernel_rfl)
    clear hfin
    simp only [fill]
    go_simp
    rw [HI.out.2.1] at z7
    have HF := Lib.hid (And.intro z7 hG)
    clear z7 hG
    go_wp2_with fail
    refine bodyPost_ret (v := .agg (hdL n z rt mk).toArray) ?_ ?_ ?_
    · exact results_cell_row Tryd.results19 _ _ g8 37 _ (0, 0) _ rfl HF.out.1 Tryd.underlying37 rfl (hdInfo _ _ _ _ HI.out.2.2 HI.out.1)
    · rfl
    · exact ⟨by rw [HMK.out], below_ofg HBW.out HR.out.2.2.2.2 HF.out.2⟩
end Go.Proofs.YtgimblpdmlnfeaaDoor
