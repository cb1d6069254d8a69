/- slices.symMergeCmpFunc. (printed by gen/soe.py) -/
import Derived.Test.YtdociiogddihfaaSoB
import Derived.Test.YtdociiogddihfaaSoD
namespace Go.Proofs.Ytdociiogddihfaa
open Go.RowKit

/-- What symMerge comes to, where the pieces together are of at most F. -/
def SymAt (F nn c N g : Nat) (cb : Array Value) (k1 k2 : Nat → Int) (B : Nat) (base : World) : Prop :=
  ∀ (P L R Q : List Nat) (a m b : Nat) (w : World), L.length + R.length ≤ F → P.length = a → a + L.length = m → m + R.length = b → 0 < L.length → 0 < R.length → Srt k1 k2 L → Srt k1 k2 R → (∀ l ∈ L, ∀ r ∈ R, l < r) → (∀ l ∈ L, l < N) → (∀ r ∈ R, r < N) → (P ++ (L ++ R) ++ Q).length = nn → SRow w B (P ++ (L ++ R) ++ Q) → base.grownBy w (some B) →
    Calls Try.prog 67 #[.slice (some ⟨B, 0, none⟩) nn c, .int .i64 a, .int .i64 m, .int .i64 b, .func (.func g) #[] cb] w fun e w' => e = .returned (.tuple #[]) ∧ ∃ M, M.Perm (L ++ R) ∧ Srt k1 k2 M ∧ SRow w' B (P ++ M ++ Q) ∧ base.grownBy w' (some B)

/-- The code behind the search. -/
def seqR : Code → Code
  | .seq _ b => b
  | c => c
def tailOf (fn : Func) : Code := match fn.body with
  | some c => seqR (seqR (seqR (seqR (seqR (seqR (seqR (seqR (seqR c))))))))
  | none => .skip
theorem wp_tail {P : Program} {fn : Func} {c1 c2 c3 c4 c5 c6 c7 c8 c9 t : Code} {Q : Exit → Act → World → Prop} {a : Act} {w : World} (h : fn.body = some (c1.seq (c2.seq (c3.seq (c4.seq (c5.seq (c6.seq (c7.seq (c8.seq (c9.seq t)))))))))) (hw : t.wp P Q a w) : (tailOf fn).wp P Q a w := by
  unfold tailOf
  rw [h]
  exact hw
set_option maxHeartbeats 8000000 in
set_option maxRecDepth 100000 in
theorem symTail (P L1 L2 R1 R2 Q : List Nat) (F B a m b mid i e nn c N g : Nat) (cb : Array Value) (k1 k2 : Nat → Int) (base wr : World) (hIH : SymAt F nn c N g cb k1 k2 B base) (hbig : nn < 1000000)
    (hPa : P.length = a) (l1 : a + L1.length = i) (l2 : i + L2.length = m) (l3 : m + R1.length = e) (l4 : e + R2.length = b) (hn : mid + m = e + i) (hsl : Srt k1 k2 (L1 ++ L2)) (hsr : Srt k1 k2 (R1 ++ R2)) (hlr : ∀ l ∈ L1 ++ L2, ∀ r ∈ R1 ++ R2, l < r) (hLN : ∀ l ∈ L1 ++ L2, l < N) (hRN : ∀ r ∈ R1 ++ R2, r < N)
    (hF : L1.length + L2.length + (R1.length + R2.length) ≤ F + 1) (hlen : P.length + (L1.length + L2.length + (R1.length + R2.length)) + Q.length = nn) (hx1 : ∀ x y, L1.getLast? = some x → R2.head? = some y → tl k1 k2 x y) (hx2 : ∀ x y, R1.getLast? = some x → L2.head? = some y → tl k1 k2 x y)
    (hrow : SRow wr B (P ++ (L1 ++ L2 ++ (R1 ++ R2)) ++ Q)) (hg : base.grownBy wr (some B)) (hmb : a < mid ∧ mid < b ∧ a < m ∧ m < b ∧ i ≤ mid) ⦃Q' : Exit → Act → World → Prop⦄ ⦃code : Code⦄ ⦃x5 x6 x7 x8 x9 x10 x11 x12 x13 x14 x15 x16 x17 x19 x21 x22 x23 x25 x26 x27 x28 x29 x30 x31 x32 x33 x34 x35 x36 x37 x38 x39 x40 x41 x42 x43 x44 x45 x46 x47 x48 x49 x50 x51 x52 x53 x54 x55 x56 x57 x58 x59 x60 x61 x62 x63 x64 x65 x66 x67 x68 x69 x70 x71 x72 x73 x74 x75 x76 x77 x78 x79 x80 x81 x82 x83 x84 x85 x86 x87 x88 x89 x90 x91 x92 x93 x94 x95 x96 x97 x98 x99 x100 x101 x102 x103 x104 x105 x106 x107 x108 x109 x110 x111 x112 x113 x114 x115 x116 x117 x118 x119 x120 x121 x122 x123 x124 x125 x126 x127 x128 x129 x130 x131 x132 x133 x134 x135 x136 x137 x138 x139 x140 x141 x142 x143 x144 x145 x146 x147 x148 x149 x150 x151 x152 x153 x154 x155 x156 x157 x158 x159 x160 x161 x162 x163 x164 x165 x166 x167 x168 x169 x170 x171 x172 x173 x174 x175 x176 x177 x178 x179 x180 x181 x182 x183 x184 x185 x186 x187 x188 x189 x190 x191 x192 x193 x194 x195 x196 x197 x198 x199 x200 x201 x202 x203 x204 x205 x206 x207 x208 x209 x210 x211 x212 x213 x214 x215 x216 x217 x218 x219 : Value⦄ :
    code = tailOf Try.f67 → Q' = bodyPost Try.prog Try.f67 (fun e w' => e = .returned (.tuple #[]) ∧ ∃ M, M.Perm (L1 ++ L2 ++ (R1 ++ R2)) ∧ Srt k1 k2 M ∧ SRow w' B (P ++ M ++ Q) ∧ base.grownBy w' (some B)) → code.wp Try.prog Q' ⟨List.toArray (.slice (some ⟨B, 0, none⟩) nn c :: .int .i64 a :: .int .i64 m :: .int .i64 b :: .func (.func g) #[] cb :: x5 :: x6 :: x7 :: x8 :: x9 :: x10 :: x11 :: x12 :: x13 :: x14 :: x15 :: x16 :: x17 :: .int .i64 mid :: x19 :: .int .i64 i :: x21 :: x22 :: x23 :: .int .i64 e :: x25 :: x26 :: x27 :: x28 :: x29 :: x30 :: x31 :: x32 :: x33 :: x34 :: x35 :: x36 :: x37 :: x38 :: x39 :: x40 :: x41 :: x42 :: x43 :: x44 :: x45 :: x46 :: x47 :: x48 :: x49 :: x50 :: x51 :: x52 :: x53 :: x54 :: x55 :: x56 :: x57 :: x58 :: x59 :: x60 :: x61 :: x62 :: x63 :: x64 :: x65 :: x66 :: x67 :: x68 :: x69 :: x70 :: x71 :: x72 :: x73 :: x74 :: x75 :: x76 :: x77 :: x78 :: x79 :: x80 :: x81 :: x82 :: x83 :: x84 :: x85 :: x86 :: x87 :: x88 :: x89 :: x90 :: x91 :: x92 :: x93 :: x94 :: x95 :: x96 :: x97 :: x98 :: x99 :: x100 :: x101 :: x102 :: x103 :: x104 :: x105 :: x106 :: x107 :: x108 :: x109 :: x110 :: x111 :: x112 :: x113 :: x114 :: x115 :: x116 :: x117 :: x118 :: x119 :: x120 :: x121 :: x122 :: x123 :: x124 :: x125 :: x126 :: x127 :: x128 :: x129 :: x130 :: x131 :: x132 :: x133 :: x134 :: x135 :: x136 :: x137 :: x138 :: x139 :: x140 :: x141 :: x142 :: x143 :: x144 :: x145 :: x146 :: x147 :: x148 :: x149 :: x150 :: x151 :: x152 :: x153 :: x154 :: x155 :: x156 :: x157 :: x158 :: x159 :: x160 :: x161 :: x162 :: x163 :: x164 :: x165 :: x166 :: x167 :: x168 :: x169 :: x170 :: x171 :: x172 :: x173 :: x174 :: x175 :: x176 :: x177 :: x178 :: x179 :: x180 :: x181 :: x182 :: x183 :: x184 :: x185 :: x186 :: x187 :: x188 :: x189 :: x190 :: x191 :: x192 :: x193 :: x194 :: x195 :: x196 :: x197 :: x198 :: x199 :: x200 :: x201 :: x202 :: x203 :: x204 :: x205 :: x206 :: x207 :: x208 :: x209 :: x210 :: x211 :: x212 :: x213 :: x214 :: x215 :: x216 :: x217 :: x218 :: x219 :: []), []⟩ wr := by
  intro hc hQ
  subst hc
  obtain ⟨QQ, hQQ⟩ : ∃ q, q = Q' := ⟨_, rfl⟩
  subst hQ
  clear hQQ QQ
  have heb2 : m ≤ e ∧ e ≤ b ∧ a ≤ i ∧ i ≤ m := by omega
  have HX := Lib.hid (And.intro hx1 hx2)
  have HLE := Lib.hid (And.intro l1 (And.intro l2 (And.intro l3 l4)))
  have HSRT := Lib.hid (And.intro hsl hsr)
  have HALL := Lib.hid (And.intro hlr (And.intro hLN hRN))
  have HLN := Lib.hid (And.intro hF hlen)
  have HPA := Lib.hid hPa
  have HRW := Lib.hid hrow
  have HG := Lib.hid hg
  have HI := Lib.hid hIH
  have HE := Lib.hid hn
  have HQ := Lib.hid (And.intro hmb heb2)
  clear hx1 hx2 l1 l2 l3 l4 hsl hsr hlr hLN hRN hF hlen hPa hrow hg hIH hn hmb heb2
  refine wp_tail rfl ?_
  go_upto_region 39 with fail
  obtain ⟨t1, ht1⟩ : ∃ t, t = (decide (i < m) && decide (m < e)) := ⟨_, rfl⟩
  have HT1 := Lib.hid ht1
  clear ht1
  go_cut [185] (fun s185 wz => s185 = .bool t1 ∧ wz = wr)
  case first =>
    by_cases c1 : i < m
    · have y1 : (i : Int) < (m : Int) := by omega
      by_cases c2 : m < e
      · have y2 : (m : Int) < (e : Int) := by omega
        have e1 : t1 = true := by rw [HT1.out, decide_eq_true c1, decide_eq_true c2]; rfl
        have HE1 := Lib.hid e1
        clear e1
        go_wp2_with fail
        go_meet
        exact ⟨by rw [HE1.out], rfl⟩
      · have y2 : ¬ (m : Int) < (e : Int) := by omega
        have e1 : t1 = false := by rw [HT1.out, decide_eq_false c2]; simp
        have HE1 := Lib.hid e1
        clear e1
        go_wp2_with fail
        go_meet
        exact ⟨by rw [HE1.out], rfl⟩
    · have y1 : ¬ (i : Int) < (m : Int) := by omega
      have e1 : t1 = false := by rw [HT1.out, decide_eq_false c1]; rfl
      have HE1 := Lib.hid e1
      clear e1
      go_wp2_with fail
      go_meet
      exact ⟨by rw [HE1.out], rfl⟩
  case rest =>
    obtain ⟨rfl, rfl⟩ := hcut
    go_upto_if 185 with fail
    go_cut [] (fun wz => SRow wz B (P ++ (L1 ++ R1) ++ (L2 ++ R2) ++ Q) ∧ base.grownBy wz (some B))
    case first =>
      cases t1 with
      | true =>
        have hc : i < m ∧ m < e := by simpa using HT1.out.symm
        have hl := HLE.out
        have hq := HQ.out
        have hro := rotate_any (P ++ L1) L2 R1 (R2 ++ Q) B i m e nn c (.func (.func g) #[] cb) wc (by rw [List.length_append, HPA.out]; omega) (by omega) (by omega) (by omega) (by omega) (by have := HLN.out.2; simp; omega) hbig (by have := HRW.out; simpa using this)
        have HRO := Lib.hid hro
        clear hro hl hc hq
        go_wp2_with fail
        refine HRO.out.mono ?_
        rintro e w3 ⟨rfl, hr3, hg3⟩
        have H3 := Lib.hid (And.intro hr3 hg3)
        clear hr3 hg3
        go_wp2_with fail
        go_meet
        exact ⟨by have := H3.out.1; simpa using this, grown_tr HG.out H3.out.2⟩
      | false =>
        go_wp2_with fail
        go_meet
        refine ⟨?_, HG.out⟩
        have hc : ¬ (i < m ∧ m < e) := by
          have := HT1.out
          simpa using this.symm
        have hl := HLE.out
        have hq := HQ.out
        have h := HRW.out
        by_cases c1 : i < m
        · have : R1 = [] := List.eq_nil_of_length_eq_zero (by omega)
          subst this; simpa using h
        · have : L2 = [] := List.eq_nil_of_length_eq_zero (by omega)
          subst this; simpa using h
    case rest =>
      obtain ⟨hrow, hg⟩ := hcut
      have HRW2 := Lib.hid hrow
      have HG2 := Lib.hid hg
      clear hrow hg HRW HG HT1
      obtain ⟨t2, ht2⟩ : ∃ t, t = (decide (a < i) && decide (i < mid)) := ⟨_, rfl⟩
      have HT2 := Lib.hid ht2
      clear ht2
      obtain ⟨w5, hw5⟩ : ∃ q, q = wc := ⟨_, rfl⟩
      subst hw5
      go_upto_region 41 with fail
      go_cut [199] (fun s199 wz => s199 = .bool t2 ∧ wz = w5)
      case first =>
        by_cases c1 : a < i
        · have y1 : (a : Int) < (i : Int) := by omega
          by_cases c2 : i < mid
          · have y2 : (i : Int) < (mid : Int) := by omega
            have e1 : t2 = true := by rw [HT2.out, decide_eq_true c1, decide_eq_true c2]; rfl
            have HE1 := Lib.hid e1
            clear e1
            go_wp2_with fail
            go_meet
            exact ⟨by rw [HE1.out], rfl⟩
          · have y2 : ¬ (i : Int) < (mid : Int) := by omega
            have e1 : t2 = false := by rw [HT2.out, decide_eq_false c2]; simp
            have HE1 := Lib.hid e1
            clear e1
            go_wp2_with fail
            go_meet
            exact ⟨by rw [HE1.out], rfl⟩
        · have y1 : ¬ (a : Int) < (i : Int) := by omega
          have e1 : t2 = false := by rw [HT2.out, decide_eq_false c1]; rfl
          have HE1 := Lib.hid e1
          clear e1
          go_wp2_with fail
          go_meet
          exact ⟨by rw [HE1.out], rfl⟩
      case rest =>
        obtain ⟨rfl, rfl⟩ := hcut
        go_upto_if 199 with fail
        go_cut [] (fun wz => ∃ S1 : List Nat, S1.Perm (L1 ++ R1) ∧ Srt k1 k2 S1 ∧ SRow wz B (P ++ S1 ++ (L2 ++ R2) ++ Q) ∧ base.grownBy wz (some B))
        case first =>
          cases t2 with
          | true =>
            have hc : a < i ∧ i < mid := by simpa using HT2.out.symm
            have hl := HLE.out
            have hee := HE.out
            have hlr := HALL.out.1
            have hq := HQ.out
            have h1 := HI.out P L1 R1 ((L2 ++ R2) ++ Q) a i mid wc (by have := HLN.out.1; omega) HPA.out (by omega) (by omega) (by omega) (by omega) (List.pairwise_append.1 HSRT.out.1).1 (List.pairwise_append.1 HSRT.out.2).1 (fun l hl r hr => hlr l (by simp [hl]) r (by simp [hr])) (fun l hl => HALL.out.2.1 l (by simp [hl])) (fun l hl => HALL.out.2.2 l (by simp [hl])) (by have := HLN.out.2; simp; omega) (by have := HRW2.out; simpa using this) HG2.out
            have HC1 := Lib.hid h1
            clear h1 hl hc hee hlr hq
            go_wp2_with fail
            refine HC1.out.mono ?_
            rintro e w3 ⟨rfl, hr3⟩
            have H3 := Lib.hid hr3
            clear hr3
            go_wp2_with fail
            go_meet
            obtain ⟨S1, q1, q2, q3, q4⟩ := H3.out
            exact ⟨S1, q1, q2, by simpa using q3, q4⟩
          | false =>
            go_wp2_with fail
            go_meet
            have hc : ¬ (a < i ∧ i < mid) := by
              have := HT2.out
              simpa using this.symm
            have hl := HLE.out
            have hee := HE.out
            have hq := HQ.out
            refine ⟨L1 ++ R1, List.Perm.refl _, ?_, by have := HRW2.out; simpa using this, HG2.out⟩
            by_cases c1 : a < i
            · have : R1 = [] := List.eq_nil_of_length_eq_zero (by omega)
              subst this
              have := (List.pairwise_append.1 HSRT.out.1).1
              simpa using this
            · have : L1 = [] := List.eq_nil_of_length_eq_zero (by omega)
              subst this
              have := (List.pairwise_append.1 HSRT.out.2).1
              simpa using this
        case rest =>
          obtain ⟨S1, hp1, ho1, hrow, hg⟩ := hcut
          have HS1 := Lib.hid (And.intro hp1 ho1)
          have HRW3 := Lib.hid hrow
          have HG3 := Lib.hid hg
          clear hrow hg HRW2 HG2 HT2 hp1 ho1
          obtain ⟨w6, hw6⟩ : ∃ q, q = wc := ⟨_, rfl⟩
          subst hw6
          have hfin : ∀ (S2 : List Nat) (wz : World), S2.Perm (L2 ++ R2) → Srt k1 k2 S2 → SRow wz B (P ++ S1 ++ S2 ++ Q) → ∃ M, M.Perm ((L1 ++ L2) ++ (R1 ++ R2)) ∧ Srt k1 k2 M ∧ SRow wz B (P ++ M ++ Q) := fun S2 wz p2 o2 r2 => by
            refine ⟨S1 ++ S2, ?_, srt_cross HSRT.out.1 HSRT.out.2 HX.out.1 HX.out.2 HS1.out.2 o2 HS1.out.1 p2, by simpa using r2⟩
            refine (List.Perm.append HS1.out.1 p2).trans ?_
            simp only [List.append_assoc]
            refine List.Perm.append (List.Perm.refl _) ?_
            rw [← List.append_assoc, ← List.append_assoc]
            exact List.Perm.append List.perm_append_comm (List.Perm.refl _)
          have HFIN := Lib.hid hfin
          clear hfin
          by_cases c1 : mid < e
          · have y1 : (mid : Int) < (e : Int) := by omega
            by_cases c2 : e < b
            · have y2 : (e : Int) < (b : Int) := by omega
              have hl := HLE.out
              have hee := HE.out
              have hlr := HALL.out.1
              have hsl := HS1.out.1.length_eq
              rw [List.length_append] at hsl
              have hq := HQ.out
              have h1 := HI.out (P ++ S1) L2 R2 Q mid e b w6 (by have := HLN.out.1; omega) (by rw [List.length_append, HPA.out, hsl]; omega) (by omega) (by omega) (by omega) (by omega) (List.pairwise_append.1 HSRT.out.1).2.1 (List.pairwise_append.1 HSRT.out.2).2.1 (fun l hl r hr => hlr l (by simp [hl]) r (by simp [hr])) (fun l hl => HALL.out.2.1 l (by simp [hl])) (fun l hl => HALL.out.2.2 l (by simp [hl])) (by have := HLN.out.2; simp only [List.length_append]; omega) HRW3.out HG3.out
              have HC1 := Lib.hid h1
              clear h1 hl hee hlr hsl hq
              go_wp2_with fail
              refine HC1.out.mono ?_
              rintro e w3 ⟨rfl, hr3⟩
              have H3 := Lib.hid hr3
              clear hr3
              go_wp2_with fail
              go_end0
              obtain ⟨S2, q1, q2, q3, q4⟩ := H3.out
              obtain ⟨M, r1, r2, r3⟩ := HFIN.out S2 w3 q1 q2 q3
              exact ⟨rfl, M, by simpa using r1, r2, by simpa using r3, q4⟩
            · have y2 : ¬ (e : Int) < (b : Int) := by omega
              go_wp2_with fail
              go_end0
              have hl := HLE.out
              have hq := HQ.out
              have : R2 = [] := List.eq_nil_of_length_eq_zero (by omega)
              subst this
              obtain ⟨M, r1, r2, r3⟩ := HFIN.out (L2 ++ []) w6 (List.Perm.refl _) (by have := (List.pairwise_append.1 HSRT.out.1).2.1; simpa using this) HRW3.out
              exact ⟨rfl, M, by simpa using r1, r2, by simpa using r3, HG3.out⟩
          · have y1 : ¬ (mid : Int) < (e : Int) := by omega
            go_wp2_with fail
            go_end0
            have hl := HLE.out
            have hee := HE.out
            have hq := HQ.out
            have : L2 = [] := List.eq_nil_of_length_eq_zero (by omega)
            subst this
            obtain ⟨M, r1, r2, r3⟩ := HFIN.out ([] ++ R2) w6 (List.Perm.refl _) (by have := (List.pairwise_append.1 HSRT.out.2).2.1; simpa using this) HRW3.out
            exact ⟨rfl, M, by simpa using r1, r2, by simpa using r3, HG3.out⟩

end Go.Proofs.Ytdociiogddihfaa
