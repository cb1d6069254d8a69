/- The reference's Prove; the law PathProves: the walk. (printed by gen/pathh.py) -/
import Derived.Test.YtdjmebfjanophaaDoorPathF
import Derived.Test.YtdjmebfjanophaaDoorLeafRA
namespace Go.Proofs.YtdjmebfjanophaaDoor
open Go.RowKit Sha Root Ones Path

set_option maxHeartbeats 4000000 in
theorem refProve_bad (W i n : Int) (a : Option Addr) (m c : Nat) (w : World) (hbad : n < 1 ∨ (m : Int) < n ∨ i < 0 ∨ n ≤ i) :
    Calls Tryd.prog 17 #[.int .i64 W, .slice a m c, .int .i64 i, .int .i64 n] w fun e w' => e = .returned (.tuple #[.slice none 0 0, .int .i64 9]) ∧ Below w.heap.size w w' := by
  go_enter Tryd.func17, Tryd.ntmps17
  by_cases h1 : n < 1
  · go_wp2_with fail
    go_ret2
    exact ⟨rfl, Below.refl _ _⟩
  by_cases h2 : (m : Int) < n
  · go_wp2_with fail
    go_ret2
    exact ⟨rfl, Below.refl _ _⟩
  by_cases h3 : i < 0
  · go_wp2_with fail
    go_ret2
    exact ⟨rfl, Below.refl _ _⟩
  · have h4 : n ≤ i := by omega
    go_wp2_with fail
    go_ret2
    exact ⟨rfl, Below.refl _ _⟩

set_option maxHeartbeats 16000000 in
set_option maxRecDepth 100000 in
theorem refProve_any (W : Int) (hW : -9223372036854775808 ≤ W ∧ W ≤ 9223372036854775807) : ∀ (f : Nat) (l : List (List UInt8)) (b off m c i : Nat) (w : World), l.length ≤ f → i < l.length → l.length ≤ m → m ≤ c → (∀ p ∈ l, p.length = 32) → l.length * 32 ≤ 140737488351232 →
    Rd w 32 (.slice (some ⟨b, off, none⟩) l.length c) l.length (l.flatMap bv) → TabsR w →
    Calls Tryd.prog 17 #[.int .i64 W, .slice (some ⟨b, off, none⟩) m c, .int .i64 i, .int .i64 (l.length : Nat)] w fun e w' => ∃ va vc, e = .returned (.tuple #[.slice va (prL (nodeH W) l i).length vc, .int .i64 0]) ∧
      w'.ownsRow w.heap.size 33 32 (.slice va (prL (nodeH W) l i).length vc) (prL (nodeH W) l i).length ((prL (nodeH W) l i).flatMap bv) ∧ Below w.heap.size w w' := by
  intro f
  induction f with
  | zero => intro l b off m c i w hf; intros; omega
  | succ f ih =>
    intro l b off m c i w hf hi hlm hmc h32 hl hr hT
    by_cases h1 : l.length = 1
    · rw [prL_small _ _ _ (by omega), h1]
      have y1 : ¬ (m : Int) < 1 := by omega
      have y2 : ¬ (i : Int) < 0 := by omega
      have y3 : ¬ (1 : Int) ≤ (i : Int) := by omega
      clear hr hT h32 ih
      go_enter Tryd.func17, Tryd.ntmps17
      go_wp2_with fail
      go_ret2
      exact ⟨none, 0, rfl, World.ownsRow_nil _ _ _ _, Below.refl _ _⟩
    · have h2 : 2 ≤ l.length := by omega
      have hsp := fun wx => Split_any l.length wx h2 (by omega)
      have hps := pr_split (nodeH W) (emptyH W) l.length l i (Nat.le_refl _) h2 hi
      have hK1 := top_lt l.length h2
      have hK0 := top_pos l.length
      obtain ⟨K, hK⟩ : ∃ k, k = top l.length := ⟨_, rfl⟩
      rw [← hK] at hsp hps hK1 hK0
      have hla : (l.take K).length = K := by rw [List.length_take]; omega
      have hlb : (l.drop K).length = l.length - K := List.length_drop
      have h32a : ∀ p ∈ l.take K, p.length = 32 := fun p hp => h32 p (List.mem_of_mem_take hp)
      have h32b : ∀ p ∈ l.drop K, p.length = 32 := fun p hp => h32 p (List.mem_of_mem_drop hp)
      have hRA : Rd w 32 (.slice (some ⟨b, off, none⟩) K c) K ((l.take K).flatMap bv) := by rw [flat_take32 _ _ h32]; exact rd_take hr K (by omega)
      have hRB : Rd w 32 (.slice (some ⟨b, off + K * 32, none⟩) (l.length - K) (c - K)) (l.length - K) ((l.drop K).flatMap bv) := by rw [flat_drop32 _ _ h32]; exact rd_drop hr K (by omega)
      have hroa := fun wx (hb : Below w.heap.size w wx) => refRoot_any W hW (l.take K).length (l.take K) (some ⟨b, off, none⟩) c wx (Nat.le_refl _) h32a (by omega) (by rw [hla]; exact hRA.keep hb) (hT.keepB hb)
      have hrob := fun wx (hb : Below w.heap.size w wx) => refRoot_any W hW (l.drop K).length (l.drop K) (some ⟨b, off + K * 32, none⟩) (c - K) wx (Nat.le_refl _) h32b (by omega) (by rw [hlb]; exact hRB.keep hb) (hT.keepB hb)
      rw [hla] at hroa
      rw [hlb] at hrob
      have hra32 := rootH_32 W (l.take K) h32a
      have hrb32 := rootH_32 W (l.drop K) h32b
      obtain ⟨out, hout⟩ : ∃ o, o = prL (nodeH W) l i := ⟨_, rfl⟩
      rw [← hout] at hps ⊢
      obtain ⟨n, hn⟩ : ∃ n, n = l.length := ⟨_, rfl⟩
      rw [← hn] at hsp hlb hK1 hl hlm hi h2 h1 hrob hRB ⊢
      have HSP := Lib.hid hsp
      have y0 : ¬ (n : Int) < 1 := by omega
      have y1 : ¬ (m : Int) < (n : Int) := by omega
      have y2 : ¬ (i : Int) < 0 := by omega
      have y3 : ¬ (n : Int) ≤ (i : Int) := by omega
      have y4 : ((n : Int) == 1) = false := by simp; omega
      have y5 : (0 : Int) ≤ (K : Int) := by omega
      have y6 : (K : Int) ≤ (c : Int) := by omega
      have y7 : (K : Int) ≤ (n : Int) := by omega
      have y8 : (n : Int) ≤ (c : Int) := by omega
      have y9 : ((n : Int) - (K : Int)).toNat = n - K := by omega
      have y10 : ((c : Int) - (K : Int)).toNat = c - K := by omega
      have y11 : ¬ c = K := by omega
      have y12 : (K : Int) ≤ (m : Int) := by omega
      have y13 : ((m : Int) - (K : Int)).toNat = m - K := by omega
      by_cases hik : i < K
      · rw [if_pos hik] at hps
        have hup := fun wx (hb : Below w.heap.size w wx) => ih (l.take K) b off K c i wx (by omega) (by omega) (by omega) (by omega) h32a (by omega) (by rw [hla]; exact hRA.keep hb) (hT.keepB hb)
        rw [hla] at hup
        obtain ⟨q, hq⟩ : ∃ q, q = prL (nodeH W) (l.take K) i := ⟨_, rfl⟩
        obtain ⟨rt, hrt⟩ : ∃ r, r = rootH W (l.drop K) := ⟨_, rfl⟩
        rw [← hrt] at hrob hrb32
        rw [← hq] at hup hps
        rw [show rootL (nodeH W) (emptyH W) (l.drop K) = rt from hrt.symm] at hps
        have hql : q.length ≤ 64 := by rw [hq, pr_length (nodeH W) K 64 (l.take K) i (by omega) (by omega) (by omega)]; exact sz_le _ _ _
        have HUP := Lib.hid hup
        have HRT := Lib.hid hrob
        have HLN := Lib.hid hrb32
        have hol : out.length = q.length + 1 := by rw [hps, List.length_append]; rfl
        have HOUT := Lib.hid (And.intro hps hol)
        have y14 : (i : Int) < (K : Int) := by omega
        clear hsp hps hla hlb h32a h32b hRA hRB hroa hrob hra32 hrb32 hup hq hrt hT h32 hr ih hout hn hK hol
        obtain ⟨Lq, hLq⟩ : ∃ x, x = q.length := ⟨_, rfl⟩
        rw [← hLq] at HUP HOUT hql
        clear hLq
        go_enter Tryd.func17, Tryd.ntmps17
        go_wp2_with fail
        refine (HSP.out _).mono ?_
        rintro e w1 ⟨rfl, hb1⟩
        go_wp2_with fail
        refine (HUP.out _ hb1).mono ?_
        rintro e w2 ⟨va, vc, rfl, ho2, hb2⟩
        have hbw2 := hb1.trans (hb2.mono hb1.size)
        have H2 := Lib.hid (And.intro (own_base ho2 hb1.size) hbw2)
        clear ho2 hb2 hbw2 hb1
        go_wp2_with fail
        refine (HRT.out _ H2.out.2).mono ?_
        rintro e w3 ⟨rfl, hb3⟩
        have H3 := Lib.hid (And.intro (own_keep H2.out.1 hb3) (H2.out.2.trans (hb3.mono H2.out.2.size)))
        have hB3 := H3.out.2.size
        clear hb3 H2
        go_wp2_with (first
          | (with_reducible show wpList _ _ _ (⟨some 56, _, _, _, _, _⟩ :: _) _ _; refine wpList_build1 rfl 22 33 _ rfl (bv rt) rfl Tryd.underlying22 infoHb (by rw [bv_length]; exact HLN.out) (by decide) (by decide) ?_)
          | (at_builtin; refine wpList_app (o := ⟨some 57, _, _, _, _, _⟩) Tryd.underlying22 infoHb rfl (by decide) rfl _ _ rfl rfl rfl (own_keep H3.out.1 ((Below.refl _ _).alloc (Nat.le_refl _) _)) (Rd.row _ 33 32 (bv rt) (by rw [bv_length]; exact HLN.out) (bv_one rt)) (by omega) (by omega) (by simp; omega) ?_; intro v5 w5 how5 hg5 _))
        replace hg5 := hg5.alloc
        change Grew w3 w5 (.slice va Lq vc) v5 at hg5
        have hb5 := H3.out.2.trans (hg5.below H3.out.2.size (own_block H3.out.1))
        obtain ⟨pa5, pc5, rfl⟩ := own_form how5
        go_ret2
        rw [HOUT.out.2]
        refine ⟨pa5, pc5, rfl, ?_, hb5⟩
        have : (out.flatMap bv) = q.flatMap bv ++ bv rt := by rw [HOUT.out.1, List.flatMap_append, List.flatMap_cons, List.flatMap_nil, List.append_nil]
        rw [this]
        exact how5
      · rw [if_neg hik] at hps
        have hup := fun wx (hb : Below w.heap.size w wx) => ih (l.drop K) b (off + K * 32) (n - K) (c - K) (i - K) wx (by omega) (by omega) (by omega) (by omega) h32b (by omega) (by rw [hlb]; exact hRB.keep hb) (hT.keepB hb)
        rw [hlb] at hup
        obtain ⟨q, hq⟩ : ∃ q, q = prL (nodeH W) (l.drop K) (i - K) := ⟨_, rfl⟩
        obtain ⟨rt, hrt⟩ : ∃ r, r = rootH W (l.take K) := ⟨_, rfl⟩
        rw [← hrt] at hroa hra32
        rw [← hq] at hup hps
        rw [show rootL (nodeH W) (emptyH W) (l.take K) = rt from hrt.symm] at hps
        have hql : q.length ≤ 64 := by rw [hq, pr_length (nodeH W) (n - K) 64 (l.drop K) (i - K) (by omega) (by omega) (by omega)]; exact sz_le _ _ _
        have HUP := Lib.hid hup
        have HRT := Lib.hid hroa
        have HLN := Lib.hid hra32
        have hol : out.length = q.length + 1 := by rw [hps, List.length_append]; rfl
        have HOUT := Lib.hid (And.intro hps hol)
        have y14 : ¬ (i : Int) < (K : Int) := by omega
        have y15 : IntKind.i64.wrap ((i : Int) - (K : Int)) = ((i - K : Nat) : Int) := (IntWalk.i64_in _ (by omega)).trans (by omega)
        have y16 : IntKind.i64.wrap ((n : Int) - (K : Int)) = ((n - K : Nat) : Int) := (IntWalk.i64_in _ (by omega)).trans (by omega)
        clear hsp hps hla hlb h32a h32b hRA hRB hroa hrob hra32 hrb32 hup hq hrt hT h32 hr ih hout hn hK hol
        obtain ⟨Lq, hLq⟩ : ∃ x, x = q.length := ⟨_, rfl⟩
        rw [← hLq] at HUP HOUT hql
        clear hLq
        go_enter Tryd.func17, Tryd.ntmps17
        go_wp2_with fail
        refine (HSP.out _).mono ?_
        rintro e w1 ⟨rfl, hb1⟩
        go_wp2_with fail
        refine (HUP.out _ hb1).mono ?_
        rintro e w2 ⟨va, vc, rfl, ho2, hb2⟩
        have hbw2 := hb1.trans (hb2.mono hb1.size)
        have H2 := Lib.hid (And.intro (own_base ho2 hb1.size) hbw2)
        clear ho2 hb2 hbw2 hb1
        go_wp2_with fail
        refine (HRT.out _ H2.out.2).mono ?_
        rintro e w3 ⟨rfl, hb3⟩
        have H3 := Lib.hid (And.intro (own_keep H2.out.1 hb3) (H2.out.2.trans (hb3.mono H2.out.2.size)))
        have hB3 := H3.out.2.size
        clear hb3 H2
        go_wp2_with (first
          | (with_reducible show wpList _ _ _ (⟨some 79, _, _, _, _, _⟩ :: _) _ _; refine wpList_build1 rfl 22 33 _ rfl (bv rt) rfl Tryd.underlying22 infoHb (by rw [bv_length]; exact HLN.out) (by decide) (by decide) ?_)
          | (at_builtin; refine wpList_app (o := ⟨some 80, _, _, _, _, _⟩) Tryd.underlying22 infoHb rfl (by decide) rfl _ _ rfl rfl rfl (own_keep H3.out.1 ((Below.refl _ _).alloc (Nat.le_refl _) _)) (Rd.row _ 33 32 (bv rt) (by rw [bv_length]; exact HLN.out) (bv_one rt)) (by omega) (by omega) (by simp; omega) ?_; intro v5 w5 how5 hg5 _))
        replace hg5 := hg5.alloc
        change Grew w3 w5 (.slice va Lq vc) v5 at hg5
        have hb5 := H3.out.2.trans (hg5.below H3.out.2.size (own_block H3.out.1))
        obtain ⟨pa5, pc5, rfl⟩ := own_form how5
        go_ret2
        rw [HOUT.out.2]
        refine ⟨pa5, pc5, rfl, ?_, hb5⟩
        have : (out.flatMap bv) = q.flatMap bv ++ bv rt := by rw [HOUT.out.1, List.flatMap_append, List.flatMap_cons, List.flatMap_nil, List.append_nil]
        rw [this]
        exact how5

/-- May it be proved? What comes out: the proof, the error. -/
def okV (m : Nat) (i n : Int) : Prop := 1 ≤ n ∧ n ≤ m ∧ 0 ≤ i ∧ i < n
theorem prove_same (W i n : Int) (hW : -9223372036854775808 ≤ W ∧ W ≤ 9223372036854775807) (ls : List (List UInt8)) (h32 : ∀ p ∈ ls, p.length = 32) (hl : ls.length * 32 ≤ 140737488351232) :
    ∃ (out : List (List UInt8)) (E : Int), (∀ p ∈ out, p.length = 32) ∧ out.length ≤ 64 ∧
      (∀ (a : Option Addr) (c : Nat) (w : World), Rd w 32 (.slice a ls.length c) ls.length (ls.flatMap bv) → Tabs w →
        Calls Tryd.prog 16 #[.int .i64 W, .slice a ls.length c, .int .i64 i, .int .i64 n] w fun e w' => (∃ va vc, e = .returned (.tuple #[.slice va out.length vc, .int .i64 E]) ∧ Rd w' 32 (.slice va out.length vc) out.length (out.flatMap bv)) ∧ Below w.heap.size w w') ∧
      (∀ (a : Option Addr) (c : Nat) (w : World), Rd w 32 (.slice a ls.length c) ls.length (ls.flatMap bv) → TabsR w →
        Calls Tryd.prog 17 #[.int .i64 W, .slice a ls.length c, .int .i64 i, .int .i64 n] w fun e w' => (∃ va vc, e = .returned (.tuple #[.slice va out.length vc, .int .i64 E]) ∧ Rd w' 32 (.slice va out.length vc) out.length (out.flatMap bv)) ∧ Below w.heap.size w w') := by
  by_cases h : okV ls.length i n
  · obtain ⟨h1, h2, h3, h4⟩ := h
    obtain ⟨i', rfl⟩ : ∃ k : Nat, i = (k : Int) := ⟨i.toNat, by omega⟩
    obtain ⟨n', rfl⟩ : ∃ k : Nat, n = (k : Int) := ⟨n.toNat, by omega⟩
    have hln : (ls.take n').length = n' := by rw [List.length_take]; omega
    have h32n : ∀ p ∈ ls.take n', p.length = 32 := fun p hp => h32 p (List.mem_of_mem_take hp)
    refine ⟨prL (nodeH W) (ls.take n') i', 0, prL_32 W _ _ h32n, ?_, fun a c w hr hT => ?_, fun a c w hr hT => ?_⟩
    · rw [pr_length (nodeH W) n' 64 (ls.take n') i' (by omega) (by omega) (by omega)]; exact sz_le _ _ _
    · refine (Prove_good W ls i' n' a c w hW h32 hl (by omega) (by omega) hr hT).mono ?_
      rintro e w' ⟨va, vc, rfl, ho, hb⟩
      exact ⟨⟨va, vc, rfl, own_rd ho (flat_one32 _)⟩, hb⟩
    · obtain ⟨b, off, c', hv, hcap, _⟩ := hr.atN (by omega) (by omega)
      simp only [Value.slice.injEq, true_and] at hv
      obtain ⟨rfl, rfl⟩ := hv
      have := refProve_any W hW n' (ls.take n') b off ls.length c i' w (by omega) (by omega) (by omega) hcap h32n (by omega) (by rw [hln, flat_take32 _ _ h32]; exact rd_take hr n' (by omega)) hT
      rw [hln] at this
      refine this.mono ?_
      rintro e w' ⟨va, vc, rfl, ho, hb⟩
      exact ⟨⟨va, vc, rfl, own_rd ho (flat_one32 _)⟩, hb⟩
  · have hbad : n < 1 ∨ (ls.length : Int) < n ∨ i < 0 ∨ n ≤ i := by unfold okV at h; omega
    refine ⟨[], 9, by simp, by simp, fun a c w hr hT => ?_, fun a c w hr hT => ?_⟩
    · refine (Prove_bad W i n a ls.length c w hbad).mono ?_
      rintro e w' ⟨rfl, hb⟩
      exact ⟨⟨none, 0, rfl, Rd.nil _ _⟩, hb⟩
    · refine (refProve_bad W i n a ls.length c w hbad).mono ?_
      rintro e w' ⟨rfl, hb⟩
      exact ⟨⟨none, 0, rfl, Rd.nil _ _⟩, hb⟩

set_option maxHeartbeats 8000000 in
set_option maxRecDepth 100000 in
theorem pathProves_walk (W i n : Int) (a : Option Addr) (c : Nat) (ls0 : List (List UInt8)) (w : World) (hW : -9223372036854775808 ≤ W ∧ W ≤ 9223372036854775807) (h32a : ∀ p ∈ ls0, p.length = 32) (hl : ls0.length * 32 ≤ 140737488351232) (hr : Rd w 32 (.slice a ls0.length c) ls0.length (ls0.flatMap bv)) (hT : TabsR w) :
    Calls Tryd.prog 3 #[.int .i64 W, .slice a ls0.length c, .int .i64 i, .int .i64 n] w fun e w' => e = .returned (.bool true) ∧ Below w.heap.size w w' := by
  have hcap : ls0.length ≤ c := by
    obtain ⟨_, _, ⟨hv, h0⟩ | ⟨ad, c', hv, hc, _⟩⟩ := hr
    · simp at hv; omega
    · simp at hv; omega
  have HR := Lib.hid hr
  have HT := Lib.hid (And.intro hT h32a)
  have HN := Lib.hid hW
  clear hr hT h32a hW
  go_enter Tryd.func3, Tryd.ntmps3
  go_wp2_with fail
  refine (awake15_any w HT.out.1.toTabs).mono ?_
  rintro e w1 ⟨rfl, hb1⟩
  have HB1 := Lib.hid hb1
  clear hb1
  go_upto_if 18 with fail
  go_cut [1] (fun s1 wz => s1 = .slice a (min ls0.length 200) c ∧ wz = w1)
  case first =>
    by_cases hgt : 200 < ls0.length
    · have z2 : (200 : Int) < (ls0.length : Int) := by omega
      have z4 : (200 : Int) ≤ (c : Int) := by omega
      go_wp2_with fail
      go_meet
      exact ⟨by rw [show min ls0.length 200 = 200 by omega], rfl⟩
    · have z2 : ¬ (200 : Int) < (ls0.length : Int) := by omega
      go_wp2_with fail
      go_meet
      exact ⟨by rw [show min ls0.length 200 = ls0.length by omega], rfl⟩
  case rest =>
    obtain ⟨rfl, rfl⟩ := hcut
    obtain ⟨m, hm⟩ : ∃ m, m = min ls0.length 200 := ⟨_, rfl⟩
    rw [← hm]
    have hm3 : m ≤ ls0.length := by omega
    have hm4 : m ≤ 200 := by omega
    have h32 : ∀ q ∈ ls0.take m, q.length = 32 := fun q hq => HT.out.2 q (List.mem_of_mem_take hq)
    have hR : Rd wc 32 (.slice a m c) m ((ls0.take m).flatMap bv) := by
      rw [flat_take32 _ _ HT.out.2]; exact rd_take (HR.out.keep HB1.out) m hm3
    have hlm : (ls0.take m).length = m := by rw [List.length_take]; omega
    obtain ⟨ls, hls⟩ : ∃ l, l = ls0.take m := ⟨_, rfl⟩
    rw [← hls] at hR h32 hlm
    subst hlm
    obtain ⟨out, E, ho32, hol, hP, hRP⟩ := prove_same W i n HN.out ls h32 (by omega)
    have HP := Lib.hid (And.intro hP hRP)
    have HO := Lib.hid ho32
    have hown0 := own_new wc 33 32 0 wc.heap.size [] rfl (by omega) (Nat.le_refl _)
    have hra := hR.alloc (.cells #[] 33)
    have HRD := Lib.hid hR
    have H32 := Lib.hid h32
    clear hR h32 hls hm hm3 hP hRP ho32
    go_wp2_with (at_builtin; refine wpList_app (o := ⟨some 23, _, _, _, _, _⟩) Tryd.underlying22 infoHb rfl (by decide) rfl _ _ rfl rfl rfl hown0 hra (by omega) (by omega) (by simp) ?_)
    intro v5 w5 ho hg5 _
    have hb5 : Below wc.heap.size wc w5 := ((Below.refl _ _).alloc (Nat.le_refl _) _).trans (hg5.below (by simp) (own_block hown0))
    have hr5 : Rd w5 32 v5 ls.length (ls.flatMap bv) := by have := own_rd ho (by simpa using flat_one32 ls); simpa using this
    obtain ⟨pa5, pc5, rfl⟩ := hr5.form
    have H5 := Lib.hid (And.intro hr5 (And.intro (HRD.out.keep hb5) (HB1.out.trans (hb5.mono HB1.out.size))))
    clear ho hg5 hb5 hr5 hown0 hra
    go_wp2_with fail
    refine (HP.out.1 _ _ _ H5.out.1 (HT.out.1.toTabs.keepB H5.out.2.2)).mono ?_
    rintro e w6 ⟨⟨va, vc, rfl, hr6⟩, hb6⟩
    have H6 := Lib.hid (And.intro (H5.out.1.keep hb6) (And.intro (H5.out.2.1.keep hb6) (And.intro (H5.out.2.2.trans (hb6.mono H5.out.2.2.size)) hr6)))
    clear hr6 hb6
    go_wp2_with fail
    refine (HP.out.2 _ _ _ H6.out.2.1 (HT.out.1.keepB H6.out.2.2.1)).mono ?_
    rintro e w7 ⟨⟨vb, vd, rfl, hr7⟩, hb7⟩
    have H7 := Lib.hid (And.intro (H6.out.1.keep hb7) (And.intro (H6.out.2.1.keep hb7) (And.intro (H6.out.2.2.1.trans (hb7.mono H6.out.2.2.1.size)) (And.intro (H6.out.2.2.2.keep hb7) hr7))))
    clear hr7 hb7
    go_wp2_with fail
    refine (Hashes_any out _ _ w7 HO.out (by omega) H7.out.2.2.2.1 H7.out.2.2.2.2).mono ?_
    rintro e w8 ⟨rfl, hb8⟩
    have H8 := Lib.hid (And.intro (H7.out.1.keep hb8) (And.intro (H7.out.2.1.keep hb8) (H7.out.2.2.1.trans (hb8.mono H7.out.2.2.1.size))))
    clear hb8
    go_wp2_with fail
    refine (Hashes_any ls _ _ w8 H32.out (by omega) H8.out.1 H8.out.2.1).mono ?_
    rintro e w9 ⟨rfl, hb9⟩
    have H9 := Lib.hid (H8.out.2.2.trans (hb9.mono H8.out.2.2.size))
    clear hb9
    go_wp2_with fail
    go_ret
    exact ⟨rfl, H9.out⟩
end Go.Proofs.YtdjmebfjanophaaDoor
