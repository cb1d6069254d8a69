/- The reference's part; growth.Size. (printed by gen/grc.py) -/
import Derived.Test.YtdjmebfjanophaaDoorGrB
import Derived.Test.YtdjmebfjanophaaDoorLeafRA
namespace Go.Proofs.YtdjmebfjanophaaDoor
open Go.RowKit Sha Root Path Growth

/-- What each operation hands on. -/
def rp8gF (W : Int) (b off o2 len c K m B Lq : Nat) (old : Bool) (q : List (List UInt8)) (rt : List UInt8) : Nat → Value → World → Prop
  | 0, v, _ => v = .int .i64 W
  | 1, v, _ => v = .slice (some ⟨b, off, none⟩) len c
  | 2, v, _ => v = .int .i64 (K : Nat)
  | 3, v, _ => v = .slice (some ⟨b, off, none⟩) K c
  | 4, v, _ => v = .int .i64 (m : Nat)
  | 5, v, _ => v = .bool old
  | 6, v, w => w.ownsRow B 33 32 v Lq (q.flatMap bv)
  | 7, v, _ => v = .int .i64 W
  | 8, v, _ => v = .slice (some ⟨b, off, none⟩) len c
  | 9, v, _ => v = .int .i64 (K : Nat)
  | 10, v, _ => v = .slice (some ⟨b, o2, none⟩) (len - K) (c - K)
  | 11, v, _ => v = .agg (bv rt).toArray
  | 12, v, w => Rd w 32 v 1 (bv rt)
  | 13, v, w => w.ownsRow B 33 32 v (Lq + 1) ((q ++ [rt]).flatMap bv)
  | 14, v, w => w.ownsRow B 33 32 v (Lq + 1) ((q ++ [rt]).flatMap bv)
  | _, _, _ => True

/-- What each operation hands on. -/
def rp9gF (W : Int) (b off o2 len c K m B Lq : Nat) (old : Bool) (q : List (List UInt8)) (rt : List UInt8) : Nat → Value → World → Prop
  | 0, v, _ => v = .int .i64 W
  | 1, v, _ => v = .slice (some ⟨b, off, none⟩) len c
  | 2, v, _ => v = .int .i64 (K : Nat)
  | 3, v, _ => v = .slice (some ⟨b, o2, none⟩) (len - K) (c - K)
  | 4, v, _ => v = .int .i64 (m : Nat)
  | 5, v, _ => v = .int .i64 (K : Nat)
  | 6, v, _ => v = .int .i64 ((m - K : Nat) : Int)
  | 7, v, w => w.ownsRow B 33 32 v Lq (q.flatMap bv)
  | 8, v, _ => v = .int .i64 W
  | 9, v, _ => v = .slice (some ⟨b, off, none⟩) len c
  | 10, v, _ => v = .int .i64 (K : Nat)
  | 11, v, _ => v = .slice (some ⟨b, off, none⟩) K c
  | 12, v, _ => v = .agg (bv rt).toArray
  | 13, v, w => Rd w 32 v 1 (bv rt)
  | 14, v, w => w.ownsRow B 33 32 v (Lq + 1) ((q ++ [rt]).flatMap bv)
  | 15, v, w => w.ownsRow B 33 32 v (Lq + 1) ((q ++ [rt]).flatMap bv)
  | _, _, _ => True

set_option maxHeartbeats 16000000 in
set_option maxRecDepth 100000 in
theorem refPart_any (W : Int) (hW : -9223372036854775808 ≤ W ∧ W ≤ 9223372036854775807) : ∀ (f : Nat) (l : List (List UInt8)) (m : Nat) (old : Bool) (b off c : Nat) (w : World), l.length ≤ f → 1 ≤ m → m ≤ l.length → l.length ≤ c → (∀ p ∈ l, p.length = 32) → l.length * 32 ≤ 140737488351232 →
    Rd w 32 (.slice (some ⟨b, off, none⟩) l.length c) l.length (l.flatMap bv) → TabsR w →
    Calls Tryd.prog 64 #[.int .i64 W, .slice (some ⟨b, off, none⟩) l.length c, .int .i64 m, .bool old] w fun e w' => ∃ va vc, e = .returned (.slice va (Growth.part (nodeH W) (emptyH W) l m old).length vc) ∧
      w'.ownsRow w.heap.size 33 32 (.slice va (Growth.part (nodeH W) (emptyH W) l m old).length vc) (Growth.part (nodeH W) (emptyH W) l m old).length ((Growth.part (nodeH W) (emptyH W) l m old).flatMap bv) ∧ Below w.heap.size w w' := by
  intro f
  induction f with
  | zero => intro l m old b off c w hf; intros; omega
  | succ f ih =>
    intro l m old b off c w hf hm hmn hlc h32 hl hr hT
    obtain ⟨P, hP⟩ : ∃ p, p = Growth.part (nodeH W) (emptyH W) l m old := ⟨_, rfl⟩
    rw [← hP]
    by_cases heq : m = l.length
    · subst heq
      rw [part_same (nodeH W) (emptyH W) l old hm] at hP
      cases old with
      | true =>
        rw [if_pos rfl] at hP
        subst hP
        obtain ⟨len, hlen⟩ : ∃ x, x = l.length := ⟨_, rfl⟩
        rw [← hlen]
        clear hr hT h32 ih
        go_enter Tryd.func64, Tryd.ntmps64
        go_wp2_with fail
        go_ret
        exact ⟨none, 0, rfl, World.ownsRow_nil _ _ _ _, Below.refl _ _⟩
      | false =>
        have hP2 : P = [rootH W l] := by rw [if_neg (by decide)] at hP; exact hP
        have hro := refRoot_any W hW l.length l (some ⟨b, off, none⟩) c w (Nat.le_refl _) h32 (by omega) hr hT
        have hro32 := rootH_32 W l h32
        obtain ⟨rt, hrt⟩ : ∃ r, r = rootH W l := ⟨_, rfl⟩
        rw [← hrt] at hro hro32 hP2
        subst hP2
        obtain ⟨len, hlen⟩ : ∃ x, x = l.length := ⟨_, rfl⟩
        rw [← hlen] at hro ⊢
        have HRO := Lib.hid hro
        have HLN := Lib.hid hro32
        clear hr hT h32 ih hP hro hro32 hrt hlen
        go_enter Tryd.func64, Tryd.ntmps64
        go_wp2_with fail
        refine HRO.out.mono ?_
        rintro e w2 ⟨rfl, hb2⟩
        have HB2 := Lib.hid hb2
        clear hb2
        go_wp2_with (with_reducible show wpList _ _ _ (⟨some 20, _, _, _, _, _⟩ :: _) _ _; refine wpList_build1 rfl 22 33 _ rfl (bv rt) rfl Tryd.underlying22 infoHb (by rw [bv_length]; exact HLN.out) (by decide) (by decide) ?_)
        go_ret
        refine ⟨some ⟨w2.heap.size, 0, none⟩, 1, rfl, ?_, HB2.out.alloc HB2.out.size _⟩
        have := own_new w2 33 32 1 w.heap.size (bv rt) (by rw [bv_length, HLN.out]) (by omega) HB2.out.size
        simpa using this
    · have hsp := fun wx => Split_any l.length wx (by omega) (by omega)
      have htl := top_lt l.length (by omega)
      have htp := top_pos l.length
      obtain ⟨K, hK⟩ : ∃ k, k = top l.length := ⟨_, rfl⟩
      rw [← hK] at hsp htl htp
      obtain ⟨len, hlen⟩ : ∃ x, x = l.length := ⟨_, rfl⟩
      rw [← hlen] at hr hsp htl hlc hl hf heq ⊢
      have hmn' : m ≤ len := by omega
      have hta : (l.take K).length = K := by rw [List.length_take]; omega
      have hda : (l.drop K).length = len - K := by rw [List.length_drop, hlen]
      have hrt1 : Rd w 32 (.slice (some ⟨b, off, none⟩) K c) K ((l.take K).flatMap bv) := by rw [flat_take32 _ _ h32]; exact rd_take hr K (by omega)
      have hrt2 : Rd w 32 (.slice (some ⟨b, off + K * 32, none⟩) (len - K) (c - K)) (len - K) ((l.drop K).flatMap bv) := by rw [flat_drop32 _ _ h32]; exact rd_drop hr K (by omega)
      obtain ⟨o2, ho2⟩ : ∃ x, x = off + K * 32 := ⟨_, rfl⟩
      rw [← ho2] at hrt2
      have HO2 := Lib.hid ho2
      have HSP := Lib.hid hsp
      have ht32 : ∀ p ∈ l.take K, p.length = 32 := fun p hp => h32 p (List.mem_of_mem_take hp)
      have hd32 : ∀ p ∈ l.drop K, p.length = 32 := fun p hp => h32 p (List.mem_of_mem_drop hp)
      have y1 : ((m : Int) == (len : Int)) = false := by simp; omega
      obtain ⟨B, hBe⟩ : ∃ B, B = w.heap.size := ⟨_, rfl⟩
      have HBE := Lib.hid hBe
      clear hBe
      by_cases hmk : m ≤ K
      · have y7 : (m : Int) ≤ (K : Int) := by omega
        have hps := part_left (nodeH W) (emptyH W) l m old hm (by omega) (by rw [← hK]; exact hmk)
        have hup := fun wx (hb : Below w.heap.size w wx) => ih (l.take K) m old b off c wx (by omega) hm (by omega) (by omega) ht32 (by omega) (by rw [hta]; exact hrt1.keep hb) (hT.keepB hb)
        have hro := fun wx (hb : Below w.heap.size w wx) => refRoot_any W hW (l.drop K).length (l.drop K) (some ⟨b, o2, none⟩) (c - K) wx (Nat.le_refl _) hd32 (by omega) (by rw [hda]; exact hrt2.keep hb) (hT.keepB hb)
        have hro32 := rootH_32 W (l.drop K) hd32
        rw [hta] at hup
        rw [hda] at hro
        obtain ⟨q, hq⟩ : ∃ q, q = Growth.part (nodeH W) (emptyH W) (l.take K) m old := ⟨_, rfl⟩
        obtain ⟨rt, hrt⟩ : ∃ r, r = rootH W (l.drop K) := ⟨_, rfl⟩
        rw [← hK] at hps
        rw [← hq] at hup hps
        rw [show rootL (nodeH W) (emptyH W) (l.drop K) = rt from hrt.symm] at hps
        rw [← hrt] at hro hro32
        have hqP := hP.trans hps
        have hpl := congrArg List.length hqP
        rw [List.length_append] at hpl
        obtain ⟨Lq, hLq⟩ : ∃ x, x = q.length := ⟨_, rfl⟩
        rw [← hLq] at hup hpl
        have hqb : Lq ≤ 66 := by
          have := part_length (nodeH W) (emptyH W) l.length l m old (Nat.le_refl _) hm hmn
          rw [← hP] at this
          have h2 := szG_le m l.length old hm hmn (by omega)
          simp at hpl; omega
        have HLN := Lib.hid hro32
        have HOUT := Lib.hid (And.intro hqP (show P.length = Lq + 1 from hpl))
        have HUP0 := Lib.hid hup
        have HRT0 := Lib.hid hro
        clear hps hup hro hro32 hq hrt hqP hpl hLq hta hda hrt1 hrt2 ho2 ht32 hd32 hP hr hT h32 ih hK hlen hsp
        go_enter Tryd.func64, Tryd.ntmps64
        go_wp2_with fail
        refine (HSP.out _).mono ?_
        rintro e w1 ⟨rfl, hb1⟩
        have hBs : B ≤ w1.heap.size := by rw [HBE.out]; exact hb1.size
        have HBW := Lib.hid hb1
        have HUP := Lib.hid (fun wx (h : Below B w1 wx) => HUP0.out wx (hb1.trans (h.mono (by rw [HBE.out]; exact Nat.le_refl _))))
        have HRT := Lib.hid (fun wx (h : Below B w1 wx) => HRT0.out wx (hb1.trans (h.mono (by rw [HBE.out]; exact Nat.le_refl _))))
        clear HUP0 HRT0 hb1
        go_upto_region 8 with fail
        refine wp_region_steps [some 26, some 27, some 28, some 29, some 30, some 31, some 32, some 33, some 34, some 35, some 36, some 37, some 38, some 39, some 8] [] (rp8gF W b off o2 len c K m B Lq old q rt) (kOne 13 B) (fun wx => Below B w1 wx) (by kernel_rfl) (by kernel_rfl) rfl (by kernel_rfl) (Below.refl _ _).drew (fun _ _ => kOne_refl _ _ _ _) (fun _ _ _ h k => h.trans (kOne_base (Nat.le_trans hBs h.size) k)) ?hF ?hstep ?hend
        case hF =>
          exact ⟨fun _ _ _ _ _ _ h => h, ⟨fun _ _ _ _ _ _ h => h, ⟨fun _ _ _ _ _ _ h => h, ⟨fun _ _ _ _ _ _ h => h, ⟨fun _ _ _ _ _ _ h => h, ⟨fun _ _ _ _ _ _ h => h, ⟨fun j hg _ _ _ k h => own_keep h (kOne_below (fun e => by subst e; exact absurd hg (by rw [show goneB _ 6 13 = true by kernel_rfl]; simp)) k), ⟨fun _ _ _ _ _ _ h => h, ⟨fun _ _ _ _ _ _ h => h, ⟨fun _ _ _ _ _ _ h => h, ⟨fun _ _ _ _ _ _ h => h, ⟨fun _ _ _ _ _ _ h => h, ⟨fun j hg _ _ _ k h => Rd.keep h (kOne_below (fun e => by subst e; exact absurd hg (by rw [show goneB _ 12 13 = true by kernel_rfl]; simp)) k), ⟨fun j hg _ _ _ k h => own_keep h (kOne_below (fun e => by subst e; exact absurd hg (by rw [show goneB _ 13 13 = true by kernel_rfl]; simp)) k), ⟨fun j hg _ _ _ k h => own_keep h (kOne_below (fun e => by subst e; exact absurd hg (by rw [show goneB _ 14 13 = true by kernel_rfl]; simp)) k), trivial⟩⟩⟩⟩⟩⟩⟩⟩⟩⟩⟩⟩⟩⟩⟩
        case hstep =>
          -- operation 0: Op.move (tmp 0)
          refine ⟨fun r wx hG hs hq hf => ?_, ?_⟩
          · have e0 : r 0 = .int .i64 W := hs 0 rfl
            refine (if_pos rfl).symm ▸ ?_
            clear hs hq hf
            unfold gives
            go_simp
            exact ⟨kOne_refl _ _ _ _, rfl⟩
          -- operation 1: Op.move (tmp 1)
          refine ⟨fun r wx hG hs hq hf => ?_, ?_⟩
          · have e1 : r 1 = .slice (some ⟨b, off, none⟩) len c := hs 1 rfl
            refine (if_pos rfl).symm ▸ ?_
            clear hs hq hf
            unfold gives
            go_simp
            exact ⟨kOne_refl _ _ _ _, rfl⟩
          -- operation 2: Op.move (tmp 10)
          refine ⟨fun r wx hG hs hq hf => ?_, ?_⟩
          · have e10 : r 10 = .int .i64 (K : Nat) := hs 10 rfl
            refine (if_pos rfl).symm ▸ ?_
            clear hs hq hf
            unfold gives
            go_simp
            exact ⟨kOne_refl _ _ _ _, rfl⟩
          -- operation 3: Op.slice 22 (tmp 27) none (some (tmp 28)) none
          refine ⟨fun r wx hG hs hq hf => ?_, ?_⟩
          · have h1 : r 27 = .slice (some ⟨b, off, none⟩) len c := hf.1
            have h2 : r 28 = .int .i64 (K : Nat) := hf.2.1
            refine (if_pos rfl).symm ▸ ?_
            clear hs hq hf
            unfold gives
            have z0 : (0 : Int) ≤ (K : Int) := by omega
            have z1 : (K : Int) ≤ (c : Int) := by omega
            go_simp
            exact ⟨kOne_refl _ _ _ _, rfl⟩
          -- operation 4: Op.move (tmp 2)
          refine ⟨fun r wx hG hs hq hf => ?_, ?_⟩
          · have e2 : r 2 = .int .i64 (m : Nat) := hs 2 rfl
            refine (if_pos rfl).symm ▸ ?_
            clear hs hq hf
            unfold gives
            go_simp
            exact ⟨kOne_refl _ _ _ _, rfl⟩
          -- operation 5: Op.move (tmp 3)
          refine ⟨fun r wx hG hs hq hf => ?_, ?_⟩
          · have e3 : r 3 = .bool old := hs 3 rfl
            refine (if_pos rfl).symm ▸ ?_
            clear hs hq hf
            unfold gives
            go_simp
            exact ⟨kOne_refl _ _ _ _, rfl⟩
          -- operation 6: Op.call ( callee := Callee.value (func 64), args := #[tmp 26, tmp 29, tmp 30, tmp 31], argTypes := #[3, 22, 3, 4] )
          refine ⟨fun r wx hG hs hq hf => ?_, ?_⟩
          · have h0 : r 26 = .int .i64 W := hf.1
            have h3 : r 29 = .slice (some ⟨b, off, none⟩) K c := hf.2.1
            have h4 : r 30 = .int .i64 (m : Nat) := hf.2.2.1
            have h5 : r 31 = .bool old := hf.2.2.2.1
            refine (if_pos rfl).symm ▸ ?_
            clear hs hq hf
            unfold gives
            go_simp
            refine (HUP.out wx hG).mono ?_
            rintro e wy ⟨va, vc, rfl, ho, hb1⟩
            exact ⟨_, rfl, kOne_of rfl hb1, own_base ho (Nat.le_trans hBs hG.size)⟩
          -- operation 7: Op.move (tmp 0)
          refine ⟨fun r wx hG hs hq hf => ?_, ?_⟩
          · have e0 : r 0 = .int .i64 W := hs 0 rfl
            refine (if_pos rfl).symm ▸ ?_
            clear hs hq hf
            unfold gives
            go_simp
            exact ⟨kOne_refl _ _ _ _, rfl⟩
          -- operation 8: Op.move (tmp 1)
          refine ⟨fun r wx hG hs hq hf => ?_, ?_⟩
          · have e1 : r 1 = .slice (some ⟨b, off, none⟩) len c := hs 1 rfl
            refine (if_pos rfl).symm ▸ ?_
            clear hs hq hf
            unfold gives
            go_simp
            exact ⟨kOne_refl _ _ _ _, rfl⟩
          -- operation 9: Op.move (tmp 10)
          refine ⟨fun r wx hG hs hq hf => ?_, ?_⟩
          · have e10 : r 10 = .int .i64 (K : Nat) := hs 10 rfl
            refine (if_pos rfl).symm ▸ ?_
            clear hs hq hf
            unfold gives
            go_simp
            exact ⟨kOne_refl _ _ _ _, rfl⟩
          -- operation 10: Op.slice 22 (tmp 34) (some (tmp 35)) none none
          refine ⟨fun r wx hG hs hq hf => ?_, ?_⟩
          · have h8 : r 34 = .slice (some ⟨b, off, none⟩) len c := hf.1
            have h9 : r 35 = .int .i64 (K : Nat) := hf.2.1
            refine (if_pos rfl).symm ▸ ?_
            clear hs hq hf
            unfold gives
            have z0 : (0 : Int) ≤ (K : Int) := by omega
            have z1 : (K : Int) ≤ (len : Int) := by omega
            have z2 : (len : Int) ≤ (c : Int) := by omega
            have z3 : ¬ c = K := by omega
            have z4 : ((len : Int) - (K : Int)).toNat = len - K := by omega
            have z5 : ((c : Int) - (K : Int)).toNat = c - K := by omega
            have zo := HO2.out
            go_simp
            exact ⟨kOne_refl _ _ _ _, by first | rfl | (rw [zo]; rfl) | (show _ = Value.slice _ _ _; rw [zo])⟩
          -- operation 11: Op.call ( callee := Callee.value (func 45), args := #[tmp 33, tmp 36], argTypes := #[3, 22] )
          refine ⟨fun r wx hG hs hq hf => ?_, ?_⟩
          · have h7 : r 33 = .int .i64 W := hf.1
            have h10 : r 36 = .slice (some ⟨b, o2, none⟩) (len - K) (c - K) := hf.2.1
            have h6 : wx.ownsRow B 33 32 (r 32) Lq (q.flatMap bv) := hf.2.2.1
            refine (if_pos rfl).symm ▸ ?_
            clear hs hq hf
            unfold gives
            go_simp
            refine (HRT.out wx hG).mono ?_
            rintro e wy ⟨rfl, hb1⟩
            exact ⟨_, rfl, kOne_of rfl hb1, rfl⟩
          -- operation 12: Op.buildSlice 22 1 #[(0, tmp 37)]
          refine ⟨fun r wx hG hs hq hf => ?_, ?_⟩
          · have h11 : r 37 = .agg (bv rt).toArray := hf.1
            refine (if_pos rfl).symm ▸ ?_
            clear hs hq hf
            unfold gives
            refine gives_build1p 22 33 _ rfl (bv rt) h11 Tryd.underlying22 infoHb (by rw [bv_length]; exact HLN.out) (by decide) (by decide) ?_
            exact ⟨kOne_of rfl ((Below.refl _ _).alloc (Nat.le_refl _) _), Rd.row wx 33 32 (bv rt) (by rw [bv_length]; exact HLN.out) (bv_one rt)⟩
          -- operation 13: Op.call ( callee := Callee.builtin Builtin.append, args := #[tmp 32, tmp 38], argTypes := #[22, 22] )
          refine ⟨fun r wx hG hs hq hf => ?_, ?_⟩
          · have h6 : wx.ownsRow B 33 32 (r 32) Lq (q.flatMap bv) := hf.1
            have h12 : Rd wx 32 (r 38) 1 (bv rt) := hf.2.1
            refine (if_pos rfl).symm ▸ ?_
            clear hs hq hf
            unfold gives
            refine gives_app Tryd.underlying22 infoHb rfl (by decide) _ _ rfl rfl rfl h6 h12 (by omega) (by omega) (Nat.le_trans hBs hG.size) ?_
            intro v' wy ho hg _
            exact ⟨kOne_at (hg.below (Nat.le_trans hBs hG.size) (own_block h6)), by show wy.ownsRow B 33 32 v' (Lq + 1) ((q ++ [rt]).flatMap bv); rw [List.flatMap_append, List.flatMap_cons, List.flatMap_nil, List.append_nil]; exact ho⟩
          -- operation 14: Op.assign (tmp 39)
          refine ⟨fun r wx hG hs hq hf => ?_, ?_⟩
          · have h13 : wx.ownsRow B 33 32 (r 39) (Lq + 1) ((q ++ [rt]).flatMap bv) := hf.1
            refine (if_pos rfl).symm ▸ ?_
            clear hs hq hf
            unfold gives
            go_simp
            exact ⟨kOne_refl _ _ _ _, h13⟩
          exact trivial
        case hend =>
          intro u wz hG hfin
          have z14 : wz.ownsRow B 33 32 (u 14) (Lq + 1) ((q ++ [rt]).flatMap bv) := hfin 14 (by decide) (by kernel_rfl)
          clear hfin
          simp only [fill]
          obtain ⟨pa5, pc5, hv5⟩ := own_form z14
          have HZ := Lib.hid (And.intro (hv5 ▸ z14) hG)
          rw [hv5]
          clear z14 hG
          go_simp
          go_wp2_with fail
          go_ret
          rw [HOUT.out.2]
          refine ⟨_, _, rfl, ?_, HBW.out.trans (HZ.out.2.mono (by rw [HBE.out]; exact Nat.le_refl _))⟩
          rw [HOUT.out.1, ← HBE.out]
          exact HZ.out.1
      · have y7 : ¬ (m : Int) ≤ (K : Int) := by omega
        have hps := part_right (nodeH W) (emptyH W) l m old (by omega) (by rw [← hK]; omega)
        have hup := fun wx (hb : Below w.heap.size w wx) => ih (l.drop K) (m - K) false b o2 (c - K) wx (by omega) (by omega) (by omega) (by omega) hd32 (by omega) (by rw [hda]; exact hrt2.keep hb) (hT.keepB hb)
        have hro := fun wx (hb : Below w.heap.size w wx) => refRoot_any W hW (l.take K).length (l.take K) (some ⟨b, off, none⟩) c wx (Nat.le_refl _) ht32 (by omega) (by rw [hta]; exact hrt1.keep hb) (hT.keepB hb)
        have hro32 := rootH_32 W (l.take K) ht32
        rw [hda] at hup
        rw [hta] at hro
        obtain ⟨q, hq⟩ : ∃ q, q = Growth.part (nodeH W) (emptyH W) (l.drop K) (m - K) false := ⟨_, rfl⟩
        obtain ⟨rt, hrt⟩ : ∃ r, r = rootH W (l.take K) := ⟨_, rfl⟩
        rw [← hK] at hps
        rw [← hq] at hup hps
        rw [show rootL (nodeH W) (emptyH W) (l.take K) = rt from hrt.symm] at hps
        rw [← hrt] at hro hro32
        have hqP := hP.trans hps
        have hpl := congrArg List.length hqP
        rw [List.length_append] at hpl
        obtain ⟨Lq, hLq⟩ : ∃ x, x = q.length := ⟨_, rfl⟩
        rw [← hLq] at hup hpl
        have hqb : Lq ≤ 66 := by
          have := part_length (nodeH W) (emptyH W) l.length l m old (Nat.le_refl _) hm hmn
          rw [← hP] at this
          have h2 := szG_le m l.length old hm hmn (by omega)
          simp at hpl; omega
        have HLN := Lib.hid hro32
        have HOUT := Lib.hid (And.intro hqP (show P.length = Lq + 1 from hpl))
        have HUP0 := Lib.hid hup
        have HRT0 := Lib.hid hro
        clear hps hup hro hro32 hq hrt hqP hpl hLq hta hda hrt1 hrt2 ho2 ht32 hd32 hP hr hT h32 ih hK hlen hsp
        go_enter Tryd.func64, Tryd.ntmps64
        go_wp2_with fail
        refine (HSP.out _).mono ?_
        rintro e w1 ⟨rfl, hb1⟩
        have hBs : B ≤ w1.heap.size := by rw [HBE.out]; exact hb1.size
        have HBW := Lib.hid hb1
        have HUP := Lib.hid (fun wx (h : Below B w1 wx) => HUP0.out wx (hb1.trans (h.mono (by rw [HBE.out]; exact Nat.le_refl _))))
        have HRT := Lib.hid (fun wx (h : Below B w1 wx) => HRT0.out wx (hb1.trans (h.mono (by rw [HBE.out]; exact Nat.le_refl _))))
        clear HUP0 HRT0 hb1
        go_upto_region 9 with fail
        refine wp_region_steps [some 40, some 41, some 42, some 43, some 44, some 45, some 46, some 47, some 48, some 49, some 50, some 51, some 52, some 53, some 54, some 8] [] (rp9gF W b off o2 len c K m B Lq old q rt) (kOne 14 B) (fun wx => Below B w1 wx) (by kernel_rfl) (by kernel_rfl) rfl (by kernel_rfl) (Below.refl _ _).drew (fun _ _ => kOne_refl _ _ _ _) (fun _ _ _ h k => h.trans (kOne_base (Nat.le_trans hBs h.size) k)) ?hF ?hstep ?hend
        case hF =>
          exact ⟨fun _ _ _ _ _ _ h => h, ⟨fun _ _ _ _ _ _ h => h, ⟨fun _ _ _ _ _ _ h => h, ⟨fun _ _ _ _ _ _ h => h, ⟨fun _ _ _ _ _ _ h => h, ⟨fun _ _ _ _ _ _ h => h, ⟨fun _ _ _ _ _ _ h => h, ⟨fun j hg _ _ _ k h => own_keep h (kOne_below (fun e => by subst e; exact absurd hg (by rw [show goneB _ 7 14 = true by kernel_rfl]; simp)) k), ⟨fun _ _ _ _ _ _ h => h, ⟨fun _ _ _ _ _ _ h => h, ⟨fun _ _ _ _ _ _ h => h, ⟨fun _ _ _ _ _ _ h => h, ⟨fun _ _ _ _ _ _ h => h, ⟨fun j hg _ _ _ k h => Rd.keep h (kOne_below (fun e => by subst e; exact absurd hg (by rw [show goneB _ 13 14 = true by kernel_rfl]; simp)) k), ⟨fun j hg _ _ _ k h => own_keep h (kOne_below (fun e => by subst e; exact absurd hg (by rw [show goneB _ 14 14 = true by kernel_rfl]; simp)) k), ⟨fun j hg _ _ _ k h => own_keep h (kOne_below (fun e => by subst e; exact absurd hg (by rw [show goneB _ 15 14 = true by kernel_rfl]; simp)) k), trivial⟩⟩⟩⟩⟩⟩⟩⟩⟩⟩⟩⟩⟩⟩⟩⟩
        case hstep =>
          -- operation 0: Op.move (tmp 0)
          refine ⟨fun r wx hG hs hq hf => ?_, ?_⟩
          · have e0 : r 0 = .int .i64 W := hs 0 rfl
            refine (if_pos rfl).symm ▸ ?_
            clear hs hq hf
            unfold gives
            go_simp
            exact ⟨kOne_refl _ _ _ _, rfl⟩
          -- operation 1: Op.move (tmp 1)
          refine ⟨fun r wx hG hs hq hf => ?_, ?_⟩
          · have e1 : r 1 = .slice (some ⟨b, off, none⟩) len c := hs 1 rfl
            refine (if_pos rfl).symm ▸ ?_
            clear hs hq hf
            unfold gives
            go_simp
            exact ⟨kOne_refl _ _ _ _, rfl⟩
          -- operation 2: Op.move (tmp 10)
          refine ⟨fun r wx hG hs hq hf => ?_, ?_⟩
          · have e10 : r 10 = .int .i64 (K : Nat) := hs 10 rfl
            refine (if_pos rfl).symm ▸ ?_
            clear hs hq hf
            unfold gives
            go_simp
            exact ⟨kOne_refl _ _ _ _, rfl⟩
          -- operation 3: Op.slice 22 (tmp 41) (some (tmp 42)) none none
          refine ⟨fun r wx hG hs hq hf => ?_, ?_⟩
          · have h1 : r 41 = .slice (some ⟨b, off, none⟩) len c := hf.1
            have h2 : r 42 = .int .i64 (K : Nat) := hf.2.1
            refine (if_pos rfl).symm ▸ ?_
            clear hs hq hf
            unfold gives
            have z0 : (0 : Int) ≤ (K : Int) := by omega
            have z1 : (K : Int) ≤ (len : Int) := by omega
            have z2 : (len : Int) ≤ (c : Int) := by omega
            have z3 : ¬ c = K := by omega
            have z4 : ((len : Int) - (K : Int)).toNat = len - K := by omega
            have z5 : ((c : Int) - (K : Int)).toNat = c - K := by omega
            have zo := HO2.out
            go_simp
            exact ⟨kOne_refl _ _ _ _, by first | rfl | (rw [zo]; rfl) | (show _ = Value.slice _ _ _; rw [zo])⟩
          -- operation 4: Op.move (tmp 2)
          refine ⟨fun r wx hG hs hq hf => ?_, ?_⟩
          · have e2 : r 2 = .int .i64 (m : Nat) := hs 2 rfl
            refine (if_pos rfl).symm ▸ ?_
            clear hs hq hf
            unfold gives
            go_simp
            exact ⟨kOne_refl _ _ _ _, rfl⟩
          -- operation 5: Op.move (tmp 10)
          refine ⟨fun r wx hG hs hq hf => ?_, ?_⟩
          · have e10 : r 10 = .int .i64 (K : Nat) := hs 10 rfl
            refine (if_pos rfl).symm ▸ ?_
            clear hs hq hf
            unfold gives
            go_simp
            exact ⟨kOne_refl _ _ _ _, rfl⟩
          -- operation 6: Op.binOp BinOp.sub 3 (tmp 44) (tmp 45) 3
          refine ⟨fun r wx hG hs hq hf => ?_, ?_⟩
          · have h4 : r 44 = .int .i64 (m : Nat) := hf.1
            have h5 : r 45 = .int .i64 (K : Nat) := hf.2.1
            refine (if_pos rfl).symm ▸ ?_
            clear hs hq hf
            unfold gives
            have zw : IntKind.i64.wrap ((m : Int) - (K : Int)) = ((m - K : Nat) : Int) := (IntWalk.i64_in _ (by omega)).trans (by omega)
            go_simp
            exact ⟨kOne_refl _ _ _ _, rfl⟩
          -- operation 7: Op.call ( callee := Callee.value (func 64), args := #[tmp 40, tmp 43, tmp 46, const (Value.bool false)], argTypes := #[3
          refine ⟨fun r wx hG hs hq hf => ?_, ?_⟩
          · have h0 : r 40 = .int .i64 W := hf.1
            have h3 : r 43 = .slice (some ⟨b, o2, none⟩) (len - K) (c - K) := hf.2.1
            have h6 : r 46 = .int .i64 ((m - K : Nat) : Int) := hf.2.2.1
            refine (if_pos rfl).symm ▸ ?_
            clear hs hq hf
            unfold gives
            go_simp
            refine (HUP.out wx hG).mono ?_
            rintro e wy ⟨va, vc, rfl, ho, hb1⟩
            exact ⟨_, rfl, kOne_of rfl hb1, own_base ho (Nat.le_trans hBs hG.size)⟩
          -- operation 8: Op.move (tmp 0)
          refine ⟨fun r wx hG hs hq hf => ?_, ?_⟩
          · have e0 : r 0 = .int .i64 W := hs 0 rfl
            refine (if_pos rfl).symm ▸ ?_
            clear hs hq hf
            unfold gives
            go_simp
            exact ⟨kOne_refl _ _ _ _, rfl⟩
          -- operation 9: Op.move (tmp 1)
          refine ⟨fun r wx hG hs hq hf => ?_, ?_⟩
          · have e1 : r 1 = .slice (some ⟨b, off, none⟩) len c := hs 1 rfl
            refine (if_pos rfl).symm ▸ ?_
            clear hs hq hf
            unfold gives
            go_simp
            exact ⟨kOne_refl _ _ _ _, rfl⟩
          -- operation 10: Op.move (tmp 10)
          refine ⟨fun r wx hG hs hq hf => ?_, ?_⟩
          · have e10 : r 10 = .int .i64 (K : Nat) := hs 10 rfl
            refine (if_pos rfl).symm ▸ ?_
            clear hs hq hf
            unfold gives
            go_simp
            exact ⟨kOne_refl _ _ _ _, rfl⟩
          -- operation 11: Op.slice 22 (tmp 49) none (some (tmp 50)) none
          refine ⟨fun r wx hG hs hq hf => ?_, ?_⟩
          · have h9 : r 49 = .slice (some ⟨b, off, none⟩) len c := hf.1
            have h10 : r 50 = .int .i64 (K : Nat) := hf.2.1
            refine (if_pos rfl).symm ▸ ?_
            clear hs hq hf
            unfold gives
            have z0 : (0 : Int) ≤ (K : Int) := by omega
            have z1 : (K : Int) ≤ (c : Int) := by omega
            go_simp
            exact ⟨kOne_refl _ _ _ _, rfl⟩
          -- operation 12: Op.call ( callee := Callee.value (func 45), args := #[tmp 48, tmp 51], argTypes := #[3, 22] )
          refine ⟨fun r wx hG hs hq hf => ?_, ?_⟩
          · have h8 : r 48 = .int .i64 W := hf.1
            have h11 : r 51 = .slice (some ⟨b, off, none⟩) K c := hf.2.1
            have h7 : wx.ownsRow B 33 32 (r 47) Lq (q.flatMap bv) := hf.2.2.1
            refine (if_pos rfl).symm ▸ ?_
            clear hs hq hf
            unfold gives
            go_simp
            refine (HRT.out wx hG).mono ?_
            rintro e wy ⟨rfl, hb1⟩
            exact ⟨_, rfl, kOne_of rfl hb1, rfl⟩
          -- operation 13: Op.buildSlice 22 1 #[(0, tmp 52)]
          refine ⟨fun r wx hG hs hq hf => ?_, ?_⟩
          · have h12 : r 52 = .agg (bv rt).toArray := hf.1
            refine (if_pos rfl).symm ▸ ?_
            clear hs hq hf
            unfold gives
            refine gives_build1p 22 33 _ rfl (bv rt) h12 Tryd.underlying22 infoHb (by rw [bv_length]; exact HLN.out) (by decide) (by decide) ?_
            exact ⟨kOne_of rfl ((Below.refl _ _).alloc (Nat.le_refl _) _), Rd.row wx 33 32 (bv rt) (by rw [bv_length]; exact HLN.out) (bv_one rt)⟩
          -- operation 14: Op.call ( callee := Callee.builtin Builtin.append, args := #[tmp 47, tmp 53], argTypes := #[22, 22] )
          refine ⟨fun r wx hG hs hq hf => ?_, ?_⟩
          · have h7 : wx.ownsRow B 33 32 (r 47) Lq (q.flatMap bv) := hf.1
            have h13 : Rd wx 32 (r 53) 1 (bv rt) := hf.2.1
            refine (if_pos rfl).symm ▸ ?_
            clear hs hq hf
            unfold gives
            refine gives_app Tryd.underlying22 infoHb rfl (by decide) _ _ rfl rfl rfl h7 h13 (by omega) (by omega) (Nat.le_trans hBs hG.size) ?_
            intro v' wy ho hg _
            exact ⟨kOne_at (hg.below (Nat.le_trans hBs hG.size) (own_block h7)), by show wy.ownsRow B 33 32 v' (Lq + 1) ((q ++ [rt]).flatMap bv); rw [List.flatMap_append, List.flatMap_cons, List.flatMap_nil, List.append_nil]; exact ho⟩
          -- operation 15: Op.assign (tmp 54)
          refine ⟨fun r wx hG hs hq hf => ?_, ?_⟩
          · have h14 : wx.ownsRow B 33 32 (r 54) (Lq + 1) ((q ++ [rt]).flatMap bv) := hf.1
            refine (if_pos rfl).symm ▸ ?_
            clear hs hq hf
            unfold gives
            go_simp
            exact ⟨kOne_refl _ _ _ _, h14⟩
          exact trivial
        case hend =>
          intro u wz hG hfin
          have z15 : wz.ownsRow B 33 32 (u 15) (Lq + 1) ((q ++ [rt]).flatMap bv) := hfin 15 (by decide) (by kernel_rfl)
          clear hfin
          simp only [fill]
          obtain ⟨pa5, pc5, hv5⟩ := own_form z15
          have HZ := Lib.hid (And.intro (hv5 ▸ z15) hG)
          rw [hv5]
          clear z15 hG
          go_simp
          go_wp2_with fail
          go_ret
          rw [HOUT.out.2]
          refine ⟨_, _, rfl, ?_, HBW.out.trans (HZ.out.2.mono (by rw [HBE.out]; exact Nat.le_refl _))⟩
          rw [HOUT.out.1, ← HBE.out]
          exact HZ.out.1
set_option maxHeartbeats 2000000 in
theorem gSize_any (m n : Nat) (w : World) (hm : m < 18446744073709551616) (hn : n < 18446744073709551616) :
    Calls Tryd.prog 37 #[.int .u64 m, .int .u64 n] w fun e w' => e = .returned (.int .i64 ((if m = 0 ∨ n < m then 0 else szG m n true : Nat) : Int)) ∧ Below w.heap.size w w' := by
  by_cases h0 : m = 0
  · rw [if_pos (.inl h0)]
    have y1 : ((m : Int) == 0) = true := by simp; omega
    go_enter Tryd.func37, Tryd.ntmps37
    go_wp2_with fail
    go_ret
    exact ⟨rfl, Below.refl _ _⟩
  have y1 : ((m : Int) == 0) = false := by simp; omega
  by_cases h1 : n < m
  · rw [if_pos (.inr h1)]
    have y2 : (n : Int) < (m : Int) := by omega
    go_enter Tryd.func37, Tryd.ntmps37
    go_wp2_with fail
    go_ret
    exact ⟨rfl, Below.refl _ _⟩
  · rw [if_neg (fun h => h.elim h0 h1)]
    have y2 : ¬ (n : Int) < (m : Int) := by omega
    have ht := turns_any m n w (by omega) (by omega) hn
    have hle := way_length n m n 64 (Nat.le_refl _) (by omega) (by omega) (by omega)
    rw [szG]
    obtain ⟨WY, hWY⟩ : ∃ x, x = way m n := ⟨_, rfl⟩
    rw [← hWY] at ht hle ⊢
    obtain ⟨Lw, hLw⟩ : ∃ x, x = WY.length := ⟨_, rfl⟩
    rw [← hLw] at ht hle ⊢
    have HT := Lib.hid ht
    clear ht hWY hLw
    cases hw : whole m n
    all_goals
      rw [hw] at HT
      clear hw
      go_enter Tryd.func37, Tryd.ntmps37
      go_wp2_with fail
      refine HT.out.mono ?_
      rintro e w1 ⟨va, vc, rfl, ho, hb⟩
      have HB := Lib.hid hb
      clear ho hb
      go_wp2_with fail
      go_ret
      exact ⟨by first | rfl | (simp; rfl) | simp, HB.out⟩
end Go.Proofs.YtdjmebfjanophaaDoor
