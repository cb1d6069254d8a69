/- growth.Prove. (printed by gen/grb.py) -/
import Derived.Test.YtgimblpdmlnfeaaDoorGrA
import Derived.Test.YtgimblpdmlnfeaaDoorPathC
namespace Go.Proofs.YtgimblpdmlnfeaaDoor
open Go.RowKit Sha Root Path Growth

/-- What each operation hands on. -/
def gp10F (W : Int) (b o o2 len cl K La pc B _m : Nat) (pa : Option Addr) (acc : List (List UInt8)) (rt : List UInt8) : Nat → Value → World → Prop
  | 0, v, _ => v = .slice pa La pc
  | 1, v, _ => v = .int .i64 W
  | 2, v, _ => v = .slice (some ⟨b, o, none⟩) len cl
  | 3, v, _ => v = .int .i64 (K : Nat)
  | 4, v, _ => v = .slice (some ⟨b, o2, none⟩) (len - K) (cl - K)
  | 5, v, _ => v = .agg (bv rt).toArray
  | 6, v, w => Rd w 32 v 1 (bv rt)
  | 7, v, w => w.ownsRow B 35 32 v (La + 1) ((acc ++ [rt]).flatMap bv)
  | 8, v, _ => v = .slice (some ⟨b, o, none⟩) len cl
  | 9, v, _ => v = .int .i64 (K : Nat)
  | 10, v, _ => v = .slice (some ⟨b, o, none⟩) K cl
  | 11, v, w => w.ownsRow B 35 32 v (La + 1) ((acc ++ [rt]).flatMap bv)
  | 12, v, _ => v = .slice (some ⟨b, o, none⟩) K cl
  | _, _, _ => True

/-- What each operation hands on. -/
def gp11F (W : Int) (b o o2 len cl K La pc B m : Nat) (pa : Option Addr) (acc : List (List UInt8)) (rt : List UInt8) : Nat → Value → World → Prop
  | 0, v, _ => v = .slice pa La pc
  | 1, v, _ => v = .int .i64 W
  | 2, v, _ => v = .slice (some ⟨b, o, none⟩) len cl
  | 3, v, _ => v = .int .i64 (K : Nat)
  | 4, v, _ => v = .slice (some ⟨b, o, none⟩) K cl
  | 5, v, _ => v = .agg (bv rt).toArray
  | 6, v, w => Rd w 32 v 1 (bv rt)
  | 7, v, w => w.ownsRow B 35 32 v (La + 1) ((acc ++ [rt]).flatMap bv)
  | 8, v, _ => v = .slice (some ⟨b, o, none⟩) len cl
  | 9, v, _ => v = .int .i64 (K : Nat)
  | 10, v, _ => v = .slice (some ⟨b, o2, none⟩) (len - K) (cl - K)
  | 11, v, _ => v = .int .i64 (m : Nat)
  | 12, v, _ => v = .int .i64 (K : Nat)
  | 13, v, _ => v = .int .i64 ((m - K : Nat) : Int)
  | 14, v, w => w.ownsRow B 35 32 v (La + 1) ((acc ++ [rt]).flatMap bv)
  | 15, v, _ => v = .slice (some ⟨b, o2, none⟩) (len - K) (cl - K)
  | 16, v, _ => v = .int .i64 ((m - K : Nat) : Int)
  | 17, v, _ => v = .bool false
  | _, _, _ => True

theorem part_32 (W : Int) : ∀ (k : Nat) (l : List (List UInt8)) (m : Nat) (old : Bool), l.length ≤ k → 1 ≤ m → m ≤ l.length → (∀ p ∈ l, p.length = 32) → ∀ p ∈ Growth.part (nodeH W) (emptyH W) l m old, p.length = 32
  | 0, l, m, _, _, _, _, _, _, _ => by omega
  | k + 1, l, m, old, h, h1, h2, h32, p, hp => by
    by_cases e1 : m = l.length
    · subst e1
      rw [part_same (nodeH W) (emptyH W) l old h1] at hp
      split at hp
      · simp at hp
      · rw [List.mem_singleton.1 hp]; exact rootH_32 W l h32
    · have hl := top_lt l.length (by omega)
      have hpp := top_pos l.length
      by_cases hm : m ≤ top l.length
      · rw [part_left (nodeH W) (emptyH W) l m old h1 (by omega) hm] at hp
        rcases List.mem_append.1 hp with hp | hp
        · exact part_32 W k _ m old (by rw [List.length_take]; omega) h1 (by rw [List.length_take]; omega) (fun q hq => h32 q (List.mem_of_mem_take hq)) p hp
        · rw [List.mem_singleton.1 hp]; exact rootH_32 W _ (fun q hq => h32 q (List.mem_of_mem_drop hq))
      · rw [part_right (nodeH W) (emptyH W) l m old (by omega) (by omega)] at hp
        rcases List.mem_append.1 hp with hp | hp
        · exact part_32 W k _ _ false (by rw [List.length_drop]; omega) (by omega) (by rw [List.length_drop]; omega) (fun q hq => h32 q (List.mem_of_mem_drop hq)) p hp
        · rw [List.mem_singleton.1 hp]; exact rootH_32 W _ (fun q hq => h32 q (List.mem_of_mem_take hq))
set_option maxHeartbeats 16000000 in
set_option maxRecDepth 100000 in
theorem gProve_good (W : Int) (l0 : List (List UInt8)) (b off c m0 la : Nat) (w : World) (hW : -9223372036854775808 ≤ W ∧ W ≤ 9223372036854775807) (h32 : ∀ p ∈ l0, p.length = 32) (hl : l0.length * 32 ≤ 140737488351232)
    (hm : 1 ≤ m0) (hmn : m0 ≤ l0.length) (hla : l0.length ≤ la) (hlc : la ≤ c) (hr : Rd w 32 (.slice (some ⟨b, off, none⟩) l0.length c) l0.length (l0.flatMap bv)) (hT : Tabs w) (hD : TabD w) :
    Calls Tryd.prog 38 #[.int .i64 W, .slice (some ⟨b, off, none⟩) la c, .int .i64 m0, .int .i64 (l0.length : Nat)] w fun e w' => ∃ va vc, e = .returned (.tuple #[.slice va (Growth.part (nodeH W) (emptyH W) l0 m0 true).length vc, .int .i64 0]) ∧
      w'.ownsRow w.heap.size 35 32 (.slice va (Growth.part (nodeH W) (emptyH W) l0 m0 true).length vc) (Growth.part (nodeH W) (emptyH W) l0 m0 true).length ((Growth.part (nodeH W) (emptyH W) l0 m0 true).flatMap bv) ∧ Below w.heap.size w w' := by
  obtain ⟨P, hP⟩ : ∃ p, p = Growth.part (nodeH W) (emptyH W) l0 m0 true := ⟨_, rfl⟩
  have hP32 : ∀ p ∈ P, p.length = 32 := by rw [hP]; exact part_32 W _ l0 m0 true (Nat.le_refl _) hm hmn h32
  rw [← hP]
  have H32P := Lib.hid hP32
  clear hP32
  obtain ⟨B, hBe⟩ : ∃ B, B = w.heap.size := ⟨_, rfl⟩
  obtain ⟨n, hn⟩ : ∃ n, n = l0.length := ⟨_, rfl⟩
  rw [← hn] at hl hmn hla hr ⊢
  have HT := Lib.hid (And.intro hT hD)
  have HN := Lib.hid hW
  have HP := Lib.hid (And.intro hP (And.intro hr (And.intro h32 hn)))
  have HBE := Lib.hid hBe
  have y1 : ¬ (m0 : Int) < 0 := by omega
  have y2 : ¬ (n : Int) < (m0 : Int) := by omega
  have y3 : ¬ (la : Int) < (n : Int) := by omega
  have y4 : ((m0 : Int) == 0) = false := by simp; omega
  have y5 : (0 : Int) ≤ (n : Int) := by omega
  have y6 : (n : Int) ≤ (c : Int) := by omega
  clear hT hD hW hP hr h32 hn hBe
  go_enter Tryd.func38, Tryd.ntmps38
  go_wp2_with fail
  go_loopw [2, 10, 11, 12] (fun s2 s10 s11 s12 wr => ∃ (m : Nat) (o_ : Bool) (lst acc : List (List UInt8)) (o cl : Nat) (pa : Option Addr) (pc : Nat), s2 = .int .i64 m ∧ s10 = .slice pa acc.length pc ∧ s11 = .slice (some ⟨b, o, none⟩) lst.length cl ∧ s12 = .bool o_ ∧ 1 ≤ m ∧ m ≤ lst.length ∧ lst.length ≤ cl ∧
    Rd w 32 (.slice (some ⟨b, o, none⟩) lst.length cl) lst.length (lst.flatMap bv) ∧ (∀ p ∈ lst, p.length = 32) ∧ wr.ownsRow w.heap.size 35 32 (.slice pa acc.length pc) acc.length (acc.flatMap bv) ∧ Below w.heap.size w wr ∧ P = Growth.part (nodeH W) (emptyH W) lst m o_ ++ acc.reverse ∧ acc.length + lst.length ≤ n) (fun _ _ s11 _ _ => (match s11 with | .slice _ k _ => k | _ => 0))
  case atStart => exact ⟨m0, true, l0, [], off, c, none, 0, rfl, rfl, by rw [← HP.out.2.2.2], rfl, hm, by rw [← HP.out.2.2.2]; exact hmn, by rw [← HP.out.2.2.2]; omega, by rw [← HP.out.2.2.2]; exact HP.out.2.1, HP.out.2.2.1, World.ownsRow_nil _ _ _ _, Below.refl _ _, by rw [HP.out.1]; simp, by rw [← HP.out.2.2.2]; simp⟩
  case round =>
    clear y1 y2 y3 y4 y5 y6
    obtain ⟨m, o_, lst, acc, o, cl, pa, pc, rfl, rfl, rfl, rfl, hm1, hml, hlc2, hrd, hl32, hown, hbw, hpt, hbd⟩ := hrel
    obtain ⟨len, hlen⟩ : ∃ k, k = lst.length := ⟨_, rfl⟩
    obtain ⟨La, hLa⟩ : ∃ k, k = acc.length := ⟨_, rfl⟩
    rw [← hlen] at hml hlc2 hrd hbd ⊢
    rw [← hLa] at hown hbd ⊢
    have hB := hbw.size
    have hBq : B ≤ wr.heap.size := by rw [HBE.out]; exact hB
    rw [← HBE.out] at hown
    have HOW := Lib.hid hown
    have HBW := Lib.hid hbw
    have HR2 := Lib.hid hl32
    have HLA := Lib.hid hLa
    have HLE := Lib.hid hlen
    by_cases heq : m = len
    · have z1 : ((m : Int) != (len : Int)) = false := by simp; omega
      have hps := part_same (nodeH W) (emptyH W) lst o_ (by omega)
      rw [heq, hlen, hps] at hpt
      have hro := fun wx (hb : Below w.heap.size w wx) => Root_any W lst (.slice (some ⟨b, o, none⟩) len cl) wx HN.out hl32 (by omega) (by rw [← hlen]; exact hrd.keep hb) (HT.out.1.keepB hb) (HT.out.2.keepB hb)
      have hro32 := rootH_32 W lst hl32
      obtain ⟨rt, hrt⟩ : ∃ r, r = rootH W lst := ⟨_, rfl⟩
      rw [show rootL (nodeH W) (emptyH W) lst = rt from hrt.symm] at hpt
      rw [← hrt] at hro hro32
      have HLN := Lib.hid hro32
      have HRT := Lib.hid hro
      clear hps hro hro32 hrt hrd hl32
      cases o_ with
      | true =>
        have hpa : P = acc.reverse := by simpa using hpt
        have hac : ∀ p ∈ acc, p.length = 32 := fun p hp => H32P.out p (by rw [hpa]; exact List.mem_reverse.2 hp)
        have hrev := RevHash_any acc (.slice pa acc.length pc) wr B hac (by rw [← hLa]; omega) (by rw [← hLa]; exact hown)
        rw [← hLa] at hrev
        have HR := Lib.hid hrev
        have HPA := Lib.hid hpa
        clear hpt hpa hac hrev hown hbw hLa hlen
        go_wp2_with fail
        refine HR.out.mono ?_
        rintro e w2 ⟨rfl, ho2, hg2⟩
        rw [← HPA.out] at ho2
        have hPL : P.length = La := by rw [HPA.out, List.length_reverse, HLA.out]
        have hbw2 : Below w.heap.size w w2 := HBW.out.trans ⟨hg2.os, hg2.tape, hg2.output, hg2.size, fun q hq => hg2.block q (Nat.lt_of_lt_of_le hq HBW.out.size) (fun e => by have h1 := own_block HOW.out q e.symm; rw [HBE.out] at h1; omega)⟩
        have H9 := Lib.hid (And.intro ho2 hbw2)
        clear ho2 hg2 hbw2
        go_wp2_with fail
        go_ret2
        rw [hPL]
        exact ⟨_, _, rfl, by rw [← HBE.out]; exact H9.out.1, H9.out.2⟩
      | false =>
        have hpa : P = (acc ++ [rt]).reverse := by rw [hpt]; simp
        have hac : ∀ p ∈ acc ++ [rt], p.length = 32 := fun p hp => H32P.out p (by rw [hpa]; exact List.mem_reverse.2 hp)
        have hrev := fun (v : Value) (wx : World) (h : wx.ownsRow B 35 32 v (acc ++ [rt]).length ((acc ++ [rt]).flatMap bv)) => RevHash_any (acc ++ [rt]) v wx B hac (by rw [List.length_append, ← hLa]; simp; omega) h
        rw [show (acc ++ [rt]).length = La + 1 by rw [List.length_append, hLa]; rfl] at hrev
        have HR0 := Lib.hid hrev
        have HPA := Lib.hid hpa
        clear hpt hpa hac hrev hown hbw hLa hlen
        go_wp2_with fail
        refine (HRT.out _ HBW.out).mono ?_
        rintro e w3 ⟨rfl, hb3⟩
        have H3 := Lib.hid (And.intro (own_keep HOW.out hb3) (HBW.out.trans (hb3.mono HBW.out.size)))
        have hB3 : B ≤ w3.heap.size := by rw [HBE.out]; exact H3.out.2.size
        clear hb3
        go_wp2_with (first
          | (with_reducible show wpList _ _ _ (⟨some 79, _, _, _, _, _⟩ :: _) _ _; refine wpList_build1 rfl 44 35 _ rfl (bv rt) rfl Tryd.underlying44 infoHb (by rw [bv_length]; exact HLN.out) (by decide) (by decide) ?_)
          | (at_builtin; refine wpList_app (o := ⟨some 80, _, _, _, _, _⟩) Tryd.underlying44 infoHb rfl (by decide) rfl _ _ rfl rfl rfl (own_keep H3.out.1 ((Below.refl _ _).alloc (Nat.le_refl _) _)) (Rd.row _ 35 32 (bv rt) (by rw [bv_length]; exact HLN.out) (bv_one rt)) (by omega) (by omega) (by simp; omega) ?_; intro v5 w5 how5 hg5 _))
        replace hg5 := hg5.alloc
        change Grew w3 w5 (.slice pa La pc) v5 at hg5
        have hb5 := H3.out.2.trans ((hg5.below hB3 (own_block H3.out.1)).mono (by rw [HBE.out]; exact Nat.le_refl _))
        have how6 : w5.ownsRow B 35 32 v5 (La + 1) ((acc ++ [rt]).flatMap bv) := by rw [List.flatMap_append, List.flatMap_cons, List.flatMap_nil, List.append_nil]; exact how5
        have HR := Lib.hid (HR0.out v5 w5 how6)
        have H6 := Lib.hid (And.intro how6 hb5)
        obtain ⟨pa5, pc5, rfl⟩ := own_form how5
        clear how5 how6 hg5 hb5
        go_wp2_with fail
        refine HR.out.mono ?_
        rintro e w2 ⟨rfl, ho2, hg2⟩
        rw [← HPA.out] at ho2
        have hPL : P.length = La + 1 := by rw [HPA.out, List.length_reverse, List.length_append, HLA.out]; rfl
        have hbw2 : Below w.heap.size w w2 := H6.out.2.trans ⟨hg2.os, hg2.tape, hg2.output, hg2.size, fun q hq => hg2.block q (Nat.lt_of_lt_of_le hq H6.out.2.size) (fun e => by have h1 := own_block H6.out.1 q e.symm; rw [HBE.out] at h1; omega)⟩
        have H9 := Lib.hid (And.intro ho2 hbw2)
        clear ho2 hg2 hbw2
        go_wp2_with fail
        go_ret2
        rw [hPL]
        exact ⟨_, _, rfl, by rw [← HBE.out]; exact H9.out.1, H9.out.2⟩
    · have z1 : ((m : Int) != (len : Int)) = true := by simp; omega
      have z2 : IntKind.i64.wrap ((len : Int) - 1) = ((len - 1 : Nat) : Int) := (IntWalk.i64_in _ (by omega)).trans (by omega)
      have z2b : IntKind.u64.wrap ((len - 1 : Nat) : Int) = ((len - 1 : Nat) : Int) := IntWalk.u64_in _ (by omega)
      obtain ⟨hb1, hb64, htop⟩ := top_len len (by omega) (by omega)
      have hlen2 := fun wx => Tryd.bits_Len ((len - 1 : Nat) : Int) wx (by omega) (by omega)
      rw [Int.toNat_natCast] at hlen2
      have htl := top_lt len (by omega)
      have htp := top_pos len
      obtain ⟨K, hK⟩ : ∃ k, k = top len := ⟨_, rfl⟩
      rw [← hK] at htop htl htp
      obtain ⟨d, hd⟩ : ∃ d, Lib.bitLen (len - 1) = d + 1 := ⟨Lib.bitLen (len - 1) - 1, by omega⟩
      rw [hd] at hlen2 hb64
      rw [hd, Nat.add_sub_cancel] at htop
      have z3 : (1 : Int) * 2 ^ d = (K : Int) := by rw [htop]; simp
      have z3b : (2 : Int) ^ d = (K : Int) := by rw [htop]; simp
      have z4 : IntKind.i64.wrap (K : Int) = (K : Int) := IntWalk.i64_in _ (by omega)
      have z5 : IntKind.i64.wrap (((d + 1 : Nat) : Int) - 1) = (d : Int) := (IntWalk.i64_in _ (by omega)).trans (by omega)
      have z5b : IntKind.i64.wrap ((d : Int) + 1 - 1) = (d : Int) := (IntWalk.i64_in _ (by omega)).trans (by omega)
      have z6 : (d : Int) ≤ 64 := by omega
      have HL := Lib.hid hlen2
      have hK2 : K = top lst.length := by rw [hK, hlen]
      have hp1 := fun (h : m ≤ K) => part_left (nodeH W) (emptyH W) lst m o_ hm1 (by omega) (by rw [← hK2]; exact h)
      have hp2 := fun (h : K < m) => part_right (nodeH W) (emptyH W) lst m o_ (by omega) (by rw [← hK2]; exact h)
      rw [← hK2] at hp1 hp2
      have hta : (lst.take K).length = K := by rw [List.length_take]; omega
      have hda : (lst.drop K).length = len - K := by rw [List.length_drop, hlen]
      have hrt1 : Rd w 32 (.slice (some ⟨b, o, none⟩) K cl) K ((lst.take K).flatMap bv) := by rw [flat_take32 _ _ hl32]; exact rd_take hrd K (by omega)
      have hrt2 : Rd w 32 (.slice (some ⟨b, o + K * 32, none⟩) (len - K) (cl - K)) (len - K) ((lst.drop K).flatMap bv) := by rw [flat_drop32 _ _ hl32]; exact rd_drop hrd K (by omega)
      obtain ⟨o2, ho2⟩ : ∃ x, x = o + K * 32 := ⟨_, rfl⟩
      rw [← ho2] at hrt2
      have HO2 := Lib.hid ho2
      have HRD := Lib.hid (And.intro hrt1 hrt2)
      have HLK := Lib.hid (And.intro hta hda)
      have ht32 : ∀ p ∈ lst.take K, p.length = 32 := fun p hp => hl32 p (List.mem_of_mem_take hp)
      have hd32 : ∀ p ∈ lst.drop K, p.length = 32 := fun p hp => hl32 p (List.mem_of_mem_drop hp)
      by_cases hmk : m ≤ K
      · have z7 : (m : Int) ≤ (K : Int) := by omega
        have hro := fun wx (hb : Below w.heap.size w wx) => Root_any W (lst.drop K) (.slice (some ⟨b, o2, none⟩) (len - K) (cl - K)) wx HN.out hd32 (by rw [hda]; omega) (by rw [hda]; exact hrt2.keep hb) (HT.out.1.keepB hb) (HT.out.2.keepB hb)
        have hro32 := rootH_32 W (lst.drop K) hd32
        obtain ⟨rt, hrt⟩ : ∃ r, r = rootH W (lst.drop K) := ⟨_, rfl⟩
        rw [← hrt] at hro hro32
        have HRT := Lib.hid (fun wx (h : Below B wr wx) => hro wx (HBW.out.trans (h.mono (by rw [HBE.out]; exact Nat.le_refl _))))
        have HLN := Lib.hid hro32
        have HPT := Lib.hid (And.intro hpt (And.intro (fun h => (hp1 h).trans (by rw [show rootL (nodeH W) (emptyH W) (lst.drop K) = rt from hrt.symm])) trivial))
        clear hro hro32 hrt hp1 hp2 hpt hta hda hrt1 hrt2 ho2 ht32 hd32 hown hbw hl32 hLa hlen hlen2 hd hK hK2 htop hrd
        go_wp2_with fail
        refine (HL.out _).mono ?_
        rintro e w1 ⟨rfl, rfl⟩
        go_upto_region 10 with fail
        refine wp_region_until [some 48, some 49, some 50, some 51, some 52, some 53, some 54, some 55, some 56, some 57, some 58, some 10, some 11] [(0, 10), (2, 11), (8, 11)] 7 (fun wx => Below w1.heap.size w1 wx) [0, 1, 2, 3, 4, 5, 6, 7] (gp10F W b o o2 len cl K La pc B m pa acc rt) (kOne 7 B) (fun wx => Below B w1 wx) (by kernel_rfl) (by kernel_rfl) rfl (by kernel_rfl) (by kernel_rfl) (Below.refl _ _).drew (Below.refl _ _).drew (fun _ hj _ _ k h => h.trans ((kOne_below hj k).mono h.size)) (fun _ _ => kOne_refl _ _ _ _) (fun _ _ _ h k => h.trans (kOne_base (Nat.le_trans hBq h.size) k)) ?hF ?hstep ?hend
        case hF =>
          exact ⟨fun _ _ _ _ _ _ h => h, ⟨fun _ _ _ _ _ _ h => h, ⟨fun _ _ _ _ _ _ h => h, ⟨fun _ _ _ _ _ _ h => h, ⟨fun _ _ _ _ _ _ h => h, ⟨fun _ _ _ _ _ _ h => h, ⟨fun j hg _ _ _ k h => Rd.keep h (kOne_below (fun e => by subst e; exact absurd hg (by rw [show goneB _ 6 7 = true by kernel_rfl]; simp)) k), ⟨fun j hg _ _ _ k h => own_keep h (kOne_below (fun e => by subst e; exact absurd hg (by rw [show goneB _ 7 7 = true by kernel_rfl]; simp)) k), ⟨fun _ _ _ _ _ _ h => h, ⟨fun _ _ _ _ _ _ h => h, ⟨fun _ _ _ _ _ _ h => h, ⟨fun j hg _ _ _ k h => own_keep h (kOne_below (fun e => by subst e; exact absurd hg (by rw [show goneB _ 11 7 = true by kernel_rfl]; simp)) k), ⟨fun _ _ _ _ _ _ h => h, trivial⟩⟩⟩⟩⟩⟩⟩⟩⟩⟩⟩⟩⟩
        case hstep =>
          -- operation 0: Op.move (tmp 10)
          refine ⟨fun r wx hG hs hq hf => ?_, ?_⟩
          · have hQ := hq rfl
            have e10 : r 10 = .slice pa La pc := hs 10 rfl
            refine (if_pos rfl).symm ▸ ?_
            clear hs hq hf
            unfold gives
            go_simp
            exact ⟨kOne_refl _ _ _ _, rfl⟩
          -- operation 1: Op.move (tmp 0)
          refine ⟨fun r wx hG hs hq hf => ?_, ?_⟩
          · have hQ := hq rfl
            have e0 : r 0 = .int .i64 W := hs 0 rfl
            refine (if_pos rfl).symm ▸ ?_
            clear hs hq hf
            unfold gives
            go_simp
            exact ⟨kOne_refl _ _ _ _, rfl⟩
          -- operation 2: Op.move (tmp 11)
          refine ⟨fun r wx hG hs hq hf => ?_, ?_⟩
          · have hQ := hq rfl
            have e11 : r 11 = .slice (some ⟨b, o, none⟩) len cl := hs 11 rfl
            refine (if_pos rfl).symm ▸ ?_
            clear hs hq hf
            unfold gives
            go_simp
            exact ⟨kOne_refl _ _ _ _, rfl⟩
          -- operation 3: Op.move (tmp 13)
          refine ⟨fun r wx hG hs hq hf => ?_, ?_⟩
          · have hQ := hq rfl
            have e13 : r 13 = .int .i64 (K : Nat) := hs 13 rfl
            refine (if_pos rfl).symm ▸ ?_
            clear hs hq hf
            unfold gives
            go_simp
            exact ⟨kOne_refl _ _ _ _, rfl⟩
          -- operation 4: Op.slice 22 (tmp 50) (some (tmp 51)) none none
          refine ⟨fun r wx hG hs hq hf => ?_, ?_⟩
          · have hQ := hq rfl
            have h2 : r 50 = .slice (some ⟨b, o, none⟩) len cl := hf.1
            have h3 : r 51 = .int .i64 (K : Nat) := hf.2.1
            refine (if_pos rfl).symm ▸ ?_
            clear hs hq hf
            unfold gives
            have z0 : (0 : Int) ≤ (K : Int) := by omega
            have z1 : (K : Int) ≤ (len : Int) := by omega
            have z2 : (len : Int) ≤ (cl : Int) := by omega
            have z3 : ¬ cl = K := by omega
            have z4 : ((len : Int) - (K : Int)).toNat = len - K := by omega
            have z5 : ((cl : Int) - (K : Int)).toNat = cl - K := by omega
            have zo := HO2.out
            go_simp
            exact ⟨kOne_refl _ _ _ _, by first | rfl | (rw [zo]; rfl) | (show _ = Value.slice _ _ _; rw [zo])⟩
          -- operation 5: Op.call ( callee := Callee.value (func 33), args := #[tmp 49, tmp 52], argTypes := #[3, 22] )
          refine ⟨fun r wx hG hs hq hf => ?_, ?_⟩
          · have hQ := hq rfl
            have h1 : r 49 = .int .i64 W := hf.1
            have h4 : r 52 = .slice (some ⟨b, o2, none⟩) (len - K) (cl - K) := hf.2.1
            refine (if_pos rfl).symm ▸ ?_
            clear hs hq hf
            unfold gives
            go_simp
            refine (HRT.out wx (hQ.mono hBq)).mono ?_
            rintro e wy ⟨rfl, hb1⟩
            exact ⟨_, rfl, kOne_of rfl hb1, rfl⟩
          -- operation 6: Op.buildSlice 22 1 #[(0, tmp 53)]
          refine ⟨fun r wx hG hs hq hf => ?_, ?_⟩
          · have hQ := hq rfl
            have h5 : r 53 = .agg (bv rt).toArray := hf.1
            refine (if_pos rfl).symm ▸ ?_
            clear hs hq hf
            unfold gives
            refine gives_build1p 44 35 _ rfl (bv rt) h5 Tryd.underlying44 infoHb (by rw [bv_length]; exact HLN.out) (by decide) (by decide) ?_
            exact ⟨kOne_of rfl ((Below.refl _ _).alloc (Nat.le_refl _) _), Rd.row wx 35 32 (bv rt) (by rw [bv_length]; exact HLN.out) (bv_one rt)⟩
          -- operation 7: Op.call ( callee := Callee.builtin Builtin.append, args := #[tmp 48, tmp 54], argTypes := #[22, 22] )
          refine ⟨fun r wx hG hs hq hf => ?_, ?_⟩
          · have hQ := hq rfl
            have h0 : r 48 = .slice pa La pc := hf.1
            have h6 : Rd wx 32 (r 54) 1 (bv rt) := hf.2.1
            refine (if_pos rfl).symm ▸ ?_
            clear hs hq hf
            unfold gives
            refine gives_app Tryd.underlying44 infoHb rfl (by decide) _ _ rfl h0 rfl (own_keep HOW.out hQ) h6 (by omega) (by omega) (Nat.le_trans hBq hQ.size) ?_
            intro v' wy ho hg _
            exact ⟨kOne_at (hg.below (Nat.le_trans hBq hQ.size) (own_block (own_keep HOW.out hQ))), by show wy.ownsRow B 35 32 v' (La + 1) ((acc ++ [rt]).flatMap bv); rw [List.flatMap_append, List.flatMap_cons, List.flatMap_nil, List.append_nil]; exact ho⟩
          -- operation 8: Op.move (tmp 11)
          refine ⟨fun r wx hG hs hq hf => ?_, ?_⟩
          · have e11 : r 11 = .slice (some ⟨b, o, none⟩) len cl := hs 11 rfl
            refine (if_pos rfl).symm ▸ ?_
            clear hs hq hf
            unfold gives
            go_simp
            exact ⟨kOne_refl _ _ _ _, rfl⟩
          -- operation 9: Op.move (tmp 13)
          refine ⟨fun r wx hG hs hq hf => ?_, ?_⟩
          · have e13 : r 13 = .int .i64 (K : Nat) := hs 13 rfl
            refine (if_pos rfl).symm ▸ ?_
            clear hs hq hf
            unfold gives
            go_simp
            exact ⟨kOne_refl _ _ _ _, rfl⟩
          -- operation 10: Op.slice 22 (tmp 56) none (some (tmp 57)) none
          refine ⟨fun r wx hG hs hq hf => ?_, ?_⟩
          · have h8 : r 56 = .slice (some ⟨b, o, none⟩) len cl := hf.1
            have h9 : r 57 = .int .i64 (K : Nat) := hf.2.1
            refine (if_pos rfl).symm ▸ ?_
            clear hs hq hf
            unfold gives
            have z0 : (0 : Int) ≤ (K : Int) := by omega
            have z1 : (K : Int) ≤ (cl : Int) := by omega
            go_simp
            exact ⟨kOne_refl _ _ _ _, rfl⟩
          -- operation 11: Op.assign (tmp 55)
          refine ⟨fun r wx hG hs hq hf => ?_, ?_⟩
          · have h7 : wx.ownsRow B 35 32 (r 55) (La + 1) ((acc ++ [rt]).flatMap bv) := hf.1
            refine (if_pos rfl).symm ▸ ?_
            clear hs hq hf
            unfold gives
            go_simp
            exact ⟨kOne_refl _ _ _ _, h7⟩
          -- operation 12: Op.assign (tmp 58)
          refine ⟨fun r wx hG hs hq hf => ?_, ?_⟩
          · have h10 : r 58 = .slice (some ⟨b, o, none⟩) K cl := hf.1
            have h11 : wx.ownsRow B 35 32 (r 10) (La + 1) ((acc ++ [rt]).flatMap bv) := hf.2.1
            refine (if_pos rfl).symm ▸ ?_
            clear hs hq hf
            unfold gives
            go_simp
            exact ⟨kOne_refl _ _ _ _, rfl⟩
          exact trivial
        case hend =>
          intro u wz hG hfin
          have z11 : wz.ownsRow B 35 32 (u 11) (La + 1) ((acc ++ [rt]).flatMap bv) := hfin 11 (by decide) (by kernel_rfl)
          have z12 : u 12 = .slice (some ⟨b, o, none⟩) K cl := hfin 12 (by decide) (by kernel_rfl)
          clear hfin
          simp only [fill]
          have HZ := Lib.hid (And.intro z11 hG)
          clear z11 hG
          go_simp
          obtain ⟨ow, hbz⟩ := HZ.out
          obtain ⟨pa5, pc5, hv5⟩ := own_form ow
          rw [hv5] at ow ⊢
          have H5 := Lib.hid (And.intro ow (HBW.out.trans (hbz.mono (by rw [HBE.out]; exact Nat.le_refl _))))
          clear hv5 ow hbz HZ
          go_wp2_with fail
          go_roundw
          case rel =>
            refine ⟨m, o_, lst.take K, acc ++ [rt], o, cl, pa5, pc5, rfl, by rw [List.length_append, HLA.out]; rfl, by rw [HLK.out.1], rfl, hm1, by rw [HLK.out.1]; exact hmk, by rw [HLK.out.1]; omega, by rw [HLK.out.1]; exact HRD.out.1, fun p hp => HR2.out p (List.mem_of_mem_take hp), ?_, H5.out.2, ?_, by rw [List.length_append, HLK.out.1, ← HLA.out]; simp; omega⟩
            · rw [List.length_append, ← HLA.out, ← HBE.out]; exact H5.out.1
            · rw [HPT.out.1, HPT.out.2.1 hmk]; simp
          case measure => simp; omega
      · have z7 : ¬ (m : Int) ≤ (K : Int) := by omega
        have hro := fun wx (hb : Below w.heap.size w wx) => Root_any W (lst.take K) (.slice (some ⟨b, o, none⟩) K cl) wx HN.out ht32 (by rw [hta]; omega) (by rw [hta]; exact hrt1.keep hb) (HT.out.1.keepB hb) (HT.out.2.keepB hb)
        have hro32 := rootH_32 W (lst.take K) ht32
        obtain ⟨rt, hrt⟩ : ∃ r, r = rootH W (lst.take K) := ⟨_, rfl⟩
        rw [← hrt] at hro hro32
        have HRT := Lib.hid (fun wx (h : Below B wr wx) => hro wx (HBW.out.trans (h.mono (by rw [HBE.out]; exact Nat.le_refl _))))
        have HLN := Lib.hid hro32
        have HPT := Lib.hid (And.intro hpt (And.intro trivial (fun h => (hp2 h).trans (by rw [show rootL (nodeH W) (emptyH W) (lst.take K) = rt from hrt.symm]))))
        clear hro hro32 hrt hp1 hp2 hpt hta hda hrt1 hrt2 ho2 ht32 hd32 hown hbw hl32 hLa hlen hlen2 hd hK hK2 htop hrd
        go_wp2_with fail
        refine (HL.out _).mono ?_
        rintro e w1 ⟨rfl, rfl⟩
        go_upto_region 11 with fail
        refine wp_region_until [some 59, some 60, some 61, some 62, some 63, some 64, some 65, some 66, some 67, some 68, some 69, some 70, some 71, some 72, some 10, some 11, some 2, some 12] [(0, 10), (2, 11), (8, 11), (11, 2)] 7 (fun wx => Below w1.heap.size w1 wx) [0, 1, 2, 3, 4, 5, 6, 7] (gp11F W b o o2 len cl K La pc B m pa acc rt) (kOne 7 B) (fun wx => Below B w1 wx) (by kernel_rfl) (by kernel_rfl) rfl (by kernel_rfl) (by kernel_rfl) (Below.refl _ _).drew (Below.refl _ _).drew (fun _ hj _ _ k h => h.trans ((kOne_below hj k).mono h.size)) (fun _ _ => kOne_refl _ _ _ _) (fun _ _ _ h k => h.trans (kOne_base (Nat.le_trans hBq h.size) k)) ?hF ?hstep ?hend
        case hF =>
          exact ⟨fun _ _ _ _ _ _ h => h, ⟨fun _ _ _ _ _ _ h => h, ⟨fun _ _ _ _ _ _ h => h, ⟨fun _ _ _ _ _ _ h => h, ⟨fun _ _ _ _ _ _ h => h, ⟨fun _ _ _ _ _ _ h => h, ⟨fun j hg _ _ _ k h => Rd.keep h (kOne_below (fun e => by subst e; exact absurd hg (by rw [show goneB _ 6 7 = true by kernel_rfl]; simp)) k), ⟨fun j hg _ _ _ k h => own_keep h (kOne_below (fun e => by subst e; exact absurd hg (by rw [show goneB _ 7 7 = true by kernel_rfl]; simp)) k), ⟨fun _ _ _ _ _ _ h => h, ⟨fun _ _ _ _ _ _ h => h, ⟨fun _ _ _ _ _ _ h => h, ⟨fun _ _ _ _ _ _ h => h, ⟨fun _ _ _ _ _ _ h => h, ⟨fun _ _ _ _ _ _ h => h, ⟨fun j hg _ _ _ k h => own_keep h (kOne_below (fun e => by subst e; exact absurd hg (by rw [show goneB _ 14 7 = true by kernel_rfl]; simp)) k), ⟨fun _ _ _ _ _ _ h => h, ⟨fun _ _ _ _ _ _ h => h, ⟨fun _ _ _ _ _ _ h => h, trivial⟩⟩⟩⟩⟩⟩⟩⟩⟩⟩⟩⟩⟩⟩⟩⟩⟩⟩
        case hstep =>
          -- operation 0: Op.move (tmp 10)
          refine ⟨fun r wx hG hs hq hf => ?_, ?_⟩
          · have hQ := hq rfl
            have e10 : r 10 = .slice pa La pc := hs 10 rfl
            refine (if_pos rfl).symm ▸ ?_
            clear hs hq hf
            unfold gives
            go_simp
            exact ⟨kOne_refl _ _ _ _, rfl⟩
          -- operation 1: Op.move (tmp 0)
          refine ⟨fun r wx hG hs hq hf => ?_, ?_⟩
          · have hQ := hq rfl
            have e0 : r 0 = .int .i64 W := hs 0 rfl
            refine (if_pos rfl).symm ▸ ?_
            clear hs hq hf
            unfold gives
            go_simp
            exact ⟨kOne_refl _ _ _ _, rfl⟩
          -- operation 2: Op.move (tmp 11)
          refine ⟨fun r wx hG hs hq hf => ?_, ?_⟩
          · have hQ := hq rfl
            have e11 : r 11 = .slice (some ⟨b, o, none⟩) len cl := hs 11 rfl
            refine (if_pos rfl).symm ▸ ?_
            clear hs hq hf
            unfold gives
            go_simp
            exact ⟨kOne_refl _ _ _ _, rfl⟩
          -- operation 3: Op.move (tmp 13)
          refine ⟨fun r wx hG hs hq hf => ?_, ?_⟩
          · have hQ := hq rfl
            have e13 : r 13 = .int .i64 (K : Nat) := hs 13 rfl
            refine (if_pos rfl).symm ▸ ?_
            clear hs hq hf
            unfold gives
            go_simp
            exact ⟨kOne_refl _ _ _ _, rfl⟩
          -- operation 4: Op.slice 22 (tmp 61) none (some (tmp 62)) none
          refine ⟨fun r wx hG hs hq hf => ?_, ?_⟩
          · have hQ := hq rfl
            have h2 : r 61 = .slice (some ⟨b, o, none⟩) len cl := hf.1
            have h3 : r 62 = .int .i64 (K : Nat) := hf.2.1
            refine (if_pos rfl).symm ▸ ?_
            clear hs hq hf
            unfold gives
            have z0 : (0 : Int) ≤ (K : Int) := by omega
            have z1 : (K : Int) ≤ (cl : Int) := by omega
            go_simp
            exact ⟨kOne_refl _ _ _ _, rfl⟩
          -- operation 5: Op.call ( callee := Callee.value (func 33), args := #[tmp 60, tmp 63], argTypes := #[3, 22] )
          refine ⟨fun r wx hG hs hq hf => ?_, ?_⟩
          · have hQ := hq rfl
            have h1 : r 60 = .int .i64 W := hf.1
            have h4 : r 63 = .slice (some ⟨b, o, none⟩) K cl := hf.2.1
            refine (if_pos rfl).symm ▸ ?_
            clear hs hq hf
            unfold gives
            go_simp
            refine (HRT.out wx (hQ.mono hBq)).mono ?_
            rintro e wy ⟨rfl, hb1⟩
            exact ⟨_, rfl, kOne_of rfl hb1, rfl⟩
          -- operation 6: Op.buildSlice 22 1 #[(0, tmp 64)]
          refine ⟨fun r wx hG hs hq hf => ?_, ?_⟩
          · have hQ := hq rfl
            have h5 : r 64 = .agg (bv rt).toArray := hf.1
            refine (if_pos rfl).symm ▸ ?_
            clear hs hq hf
            unfold gives
            refine gives_build1p 44 35 _ rfl (bv rt) h5 Tryd.underlying44 infoHb (by rw [bv_length]; exact HLN.out) (by decide) (by decide) ?_
            exact ⟨kOne_of rfl ((Below.refl _ _).alloc (Nat.le_refl _) _), Rd.row wx 35 32 (bv rt) (by rw [bv_length]; exact HLN.out) (bv_one rt)⟩
          -- operation 7: Op.call ( callee := Callee.builtin Builtin.append, args := #[tmp 59, tmp 65], argTypes := #[22, 22] )
          refine ⟨fun r wx hG hs hq hf => ?_, ?_⟩
          · have hQ := hq rfl
            have h0 : r 59 = .slice pa La pc := hf.1
            have h6 : Rd wx 32 (r 65) 1 (bv rt) := hf.2.1
            refine (if_pos rfl).symm ▸ ?_
            clear hs hq hf
            unfold gives
            refine gives_app Tryd.underlying44 infoHb rfl (by decide) _ _ rfl h0 rfl (own_keep HOW.out hQ) h6 (by omega) (by omega) (Nat.le_trans hBq hQ.size) ?_
            intro v' wy ho hg _
            exact ⟨kOne_at (hg.below (Nat.le_trans hBq hQ.size) (own_block (own_keep HOW.out hQ))), by show wy.ownsRow B 35 32 v' (La + 1) ((acc ++ [rt]).flatMap bv); rw [List.flatMap_append, List.flatMap_cons, List.flatMap_nil, List.append_nil]; exact ho⟩
          -- operation 8: Op.move (tmp 11)
          refine ⟨fun r wx hG hs hq hf => ?_, ?_⟩
          · have e11 : r 11 = .slice (some ⟨b, o, none⟩) len cl := hs 11 rfl
            refine (if_pos rfl).symm ▸ ?_
            clear hs hq hf
            unfold gives
            go_simp
            exact ⟨kOne_refl _ _ _ _, rfl⟩
          -- operation 9: Op.move (tmp 13)
          refine ⟨fun r wx hG hs hq hf => ?_, ?_⟩
          · have e13 : r 13 = .int .i64 (K : Nat) := hs 13 rfl
            refine (if_pos rfl).symm ▸ ?_
            clear hs hq hf
            unfold gives
            go_simp
            exact ⟨kOne_refl _ _ _ _, rfl⟩
          -- operation 10: Op.slice 22 (tmp 67) (some (tmp 68)) none none
          refine ⟨fun r wx hG hs hq hf => ?_, ?_⟩
          · have h8 : r 67 = .slice (some ⟨b, o, none⟩) len cl := hf.1
            have h9 : r 68 = .int .i64 (K : Nat) := hf.2.1
            refine (if_pos rfl).symm ▸ ?_
            clear hs hq hf
            unfold gives
            have z0 : (0 : Int) ≤ (K : Int) := by omega
            have z1 : (K : Int) ≤ (len : Int) := by omega
            have z2 : (len : Int) ≤ (cl : Int) := by omega
            have z3 : ¬ cl = K := by omega
            have z4 : ((len : Int) - (K : Int)).toNat = len - K := by omega
            have z5 : ((cl : Int) - (K : Int)).toNat = cl - K := by omega
            have zo := HO2.out
            go_simp
            exact ⟨kOne_refl _ _ _ _, by first | rfl | (rw [zo]; rfl) | (show _ = Value.slice _ _ _; rw [zo])⟩
          -- operation 11: Op.move (tmp 2)
          refine ⟨fun r wx hG hs hq hf => ?_, ?_⟩
          · have e2 : r 2 = .int .i64 (m : Nat) := hs 2 rfl
            refine (if_pos rfl).symm ▸ ?_
            clear hs hq hf
            unfold gives
            go_simp
            exact ⟨kOne_refl _ _ _ _, rfl⟩
          -- operation 12: Op.move (tmp 13)
          refine ⟨fun r wx hG hs hq hf => ?_, ?_⟩
          · have e13 : r 13 = .int .i64 (K : Nat) := hs 13 rfl
            refine (if_pos rfl).symm ▸ ?_
            clear hs hq hf
            unfold gives
            go_simp
            exact ⟨kOne_refl _ _ _ _, rfl⟩
          -- operation 13: Op.binOp BinOp.sub 3 (tmp 70) (tmp 71) 3
          refine ⟨fun r wx hG hs hq hf => ?_, ?_⟩
          · have h11 : r 70 = .int .i64 (m : Nat) := hf.1
            have h12 : r 71 = .int .i64 (K : Nat) := hf.2.1
            refine (if_pos rfl).symm ▸ ?_
            clear hs hq hf
            unfold gives
            have zw : IntKind.i64.wrap ((m : Int) - (K : Int)) = ((m - K : Nat) : Int) := (IntWalk.i64_in _ (by omega)).trans (by omega)
            go_simp
            exact ⟨kOne_refl _ _ _ _, rfl⟩
          -- operation 14: Op.assign (tmp 66)
          refine ⟨fun r wx hG hs hq hf => ?_, ?_⟩
          · have h7 : wx.ownsRow B 35 32 (r 66) (La + 1) ((acc ++ [rt]).flatMap bv) := hf.1
            refine (if_pos rfl).symm ▸ ?_
            clear hs hq hf
            unfold gives
            go_simp
            exact ⟨kOne_refl _ _ _ _, h7⟩
          -- operation 15: Op.assign (tmp 69)
          refine ⟨fun r wx hG hs hq hf => ?_, ?_⟩
          · have h10 : r 69 = .slice (some ⟨b, o2, none⟩) (len - K) (cl - K) := hf.1
            have h14 : wx.ownsRow B 35 32 (r 10) (La + 1) ((acc ++ [rt]).flatMap bv) := hf.2.1
            refine (if_pos rfl).symm ▸ ?_
            clear hs hq hf
            unfold gives
            go_simp
            exact ⟨kOne_refl _ _ _ _, rfl⟩
          -- operation 16: Op.assign (tmp 72)
          refine ⟨fun r wx hG hs hq hf => ?_, ?_⟩
          · have h13 : r 72 = .int .i64 ((m - K : Nat) : Int) := hf.1
            refine (if_pos rfl).symm ▸ ?_
            clear hs hq hf
            unfold gives
            go_simp
            exact ⟨kOne_refl _ _ _ _, rfl⟩
          -- operation 17: Op.assign (const (Value.bool false))
          refine ⟨fun r wx hG hs hq hf => ?_, ?_⟩
          · refine (if_pos rfl).symm ▸ ?_
            clear hs hq hf
            unfold gives
            go_simp
            exact ⟨kOne_refl _ _ _ _, rfl⟩
          exact trivial
        case hend =>
          intro u wz hG hfin
          have z14 : wz.ownsRow B 35 32 (u 14) (La + 1) ((acc ++ [rt]).flatMap bv) := hfin 14 (by decide) (by kernel_rfl)
          have z15 : u 15 = .slice (some ⟨b, o2, none⟩) (len - K) (cl - K) := hfin 15 (by decide) (by kernel_rfl)
          have z16 : u 16 = .int .i64 ((m - K : Nat) : Int) := hfin 16 (by decide) (by kernel_rfl)
          have z17 : u 17 = .bool false := hfin 17 (by decide) (by kernel_rfl)
          clear hfin
          simp only [fill]
          have HZ := Lib.hid (And.intro z14 hG)
          clear z14 hG
          go_simp
          obtain ⟨ow, hbz⟩ := HZ.out
          obtain ⟨pa5, pc5, hv5⟩ := own_form ow
          rw [hv5] at ow ⊢
          have H5 := Lib.hid (And.intro ow (HBW.out.trans (hbz.mono (by rw [HBE.out]; exact Nat.le_refl _))))
          clear hv5 ow hbz HZ
          go_wp2_with fail
          go_roundw
          case rel =>
            refine ⟨m - K, false, lst.drop K, acc ++ [rt], o2, cl - K, pa5, pc5, rfl, by rw [List.length_append, HLA.out]; rfl, by rw [HLK.out.2], rfl, by omega, by rw [HLK.out.2]; omega, by rw [HLK.out.2]; omega, by rw [HLK.out.2]; exact HRD.out.2, fun p hp => HR2.out p (List.mem_of_mem_drop hp), ?_, H5.out.2, ?_, by rw [List.length_append, HLK.out.2, ← HLA.out]; simp; omega⟩
            · rw [List.length_append, ← HLA.out, ← HBE.out]; exact H5.out.1
            · rw [HPT.out.1, HPT.out.2.2 (by omega)]; simp
          case measure => simp; omega
end Go.Proofs.YtgimblpdmlnfeaaDoor
