/- The law CrcThree: of three texts of one length the sum of what comes of xoring them is that of xoring their sums. -/
import Derived.Test.YtfeokdlkokmpcaaCrcLaw
import Derived.Deep.DeepCutAuto
import Derived.Deep.CutBlock
namespace Go.Proofs.Ytfeokdlkokmpcaa
open Go.ChangeShapes Go.WideShapes Go.ChangeAt Go.RowKit

/-- Three texts xored, as1 far as1 the shortest goes. -/
def x3 : List UInt8 → List UInt8 → List UInt8 → List UInt8
  | a :: as1, b :: bs1, c :: cs1 => (a ^^^ b ^^^ c) :: x3 as1 bs1 cs1
  | _, _, _ => []
theorem x3_length : ∀ (a b c : List UInt8) (n : Nat), a.length = n → b.length = n → c.length = n → (x3 a b c).length = n
  | [], b, c, n, h, _, _ => by cases b <;> cases c <;> simp [x3] <;> simpa using h
  | a :: as1, [], c, n, h, h2, _ => by simp at h h2; omega
  | a :: as1, b :: bs1, [], n, h, _, h3 => by simp at h h3; omega
  | a :: as1, b :: bs1, c :: cs1, n, h, h2, h3 => by
    cases n with
    | zero => simp at h
    | succ n => simp only [x3, List.length_cons]; rw [x3_length as1 bs1 cs1 n (by simpa using h) (by simpa using h2) (by simpa using h3)]
theorem st_x3 : ∀ (a b c : List UInt8) (n s t u : Nat), a.length = n → b.length = n → c.length = n → Crc.st (s ^^^ t ^^^ u) (x3 a b c) = Crc.st s a ^^^ Crc.st t b ^^^ Crc.st u c
  | [], b, c, n, s, t, u, h, h2, h3 => by
    have e2 : b = [] := List.eq_nil_of_length_eq_zero (by simp at h; omega)
    have e3 : c = [] := List.eq_nil_of_length_eq_zero (by simp at h; omega)
    subst e2 e3; rfl
  | a :: as1, [], c, n, _, _, _, h, h2, _ => by simp at h h2; omega
  | a :: as1, b :: bs1, [], n, _, _, _, h, _, h3 => by simp at h h3; omega
  | a :: as1, b :: bs1, c :: cs1, n, s, t, u, h, h2, h3 => by
    cases n with
    | zero => simp at h
    | succ n =>
      have ih := st_x3 as1 bs1 cs1 n (Crc.stp s a) (Crc.stp t b) (Crc.stp u c) (by simpa using h) (by simpa using h2) (by simpa using h3)
      show Crc.st (Crc.stp (s ^^^ t ^^^ u) (a ^^^ b ^^^ c)) (x3 as1 bs1 cs1) = Crc.st (Crc.stp s a) as1 ^^^ Crc.st (Crc.stp t b) bs1 ^^^ Crc.st (Crc.stp u c) cs1
      rw [← ih]
      congr 1
      unfold Crc.stp
      rw [← Crc.sn_xor, ← Crc.sn_xor]
      congr 1
      rw [UInt8.toNat_xor, UInt8.toNat_xor]
      generalize a.toNat = a; generalize b.toNat = b; generalize c.toNat = c
      apply Nat.eq_of_testBit_eq
      intro i
      simp only [Nat.testBit_xor]
      cases s.testBit i <;> cases t.testBit i <;> cases u.testBit i <;> cases a.testBit i <;> cases b.testBit i <;> cases c.testBit i <;> rfl
theorem sum_x3 (a b c : List UInt8) (n : Nat) (h : a.length = n) (h2 : b.length = n) (h3 : c.length = n) : Crc.sum (x3 a b c) = Crc.sum a ^^^ Crc.sum b ^^^ Crc.sum c := by
  unfold Crc.sum Crc.more
  have := st_x3 a b c n (0 ^^^ Crc.full) (0 ^^^ Crc.full) (0 ^^^ Crc.full) h h2 h3
  rw [Crc.xor_cancel] at this
  rw [this]
  generalize Crc.st (0 ^^^ Crc.full) a = x; generalize Crc.st (0 ^^^ Crc.full) b = y; generalize Crc.st (0 ^^^ Crc.full) c = z
  apply Nat.eq_of_testBit_eq
  intro i
  simp only [Nat.testBit_xor]
  cases x.testBit i <;> cases y.testBit i <;> cases z.testBit i <;> cases Crc.full.testBit i <;> rfl
theorem x3_snoc (a b c : List UInt8) (k : Nat) (ha : k < a.length) (hb : k < b.length) (hc : k < c.length) :
    x3 (a.take (k + 1)) (b.take (k + 1)) (c.take (k + 1)) = x3 (a.take k) (b.take k) (c.take k) ++ [a[k] ^^^ b[k] ^^^ c[k]] := by
  induction k generalizing a b c with
  | zero =>
    match a, b, c, ha, hb, hc with
    | a :: as1, b :: bs1, c :: cs1, _, _, _ => simp [x3]
  | succ k ih =>
    match a, b, c, ha, hb, hc with
    | a :: as1, b :: bs1, c :: cs1, ha, hb, hc =>
      have := ih as1 bs1 cs1 (by simpa using ha) (by simpa using hb) (by simpa using hc)
      simp only [List.take_succ_cons, x3, List.getElem_cons_succ, List.cons_append]
      rw [this]
-- WALK
theorem Rd.cap {w : World} {a : Option Addr} {m c n : Nat} {xs : List Value} (h : Rd w 1 (.slice a m c) n xs) : n ≤ c := by
  obtain ⟨_, _, h⟩ := h
  rcases h with ⟨e, rfl⟩ | ⟨ad, c', e, h, _⟩
  · cases e; exact Nat.zero_le _
  · cases e; exact h
theorem infoU8 : (Try.prog.info? 5).map (fun i => (i.zero, i.size, i.bytes)) = some (some (.int .u8 0), 1, 1) := by kernel_rfl
/-- What each operation hands on. -/
def threeF (a b c : List UInt8) (k : Nat) (qa oa ca qb ob cb qc oc cc : Nat) (vx : Value) (B : Nat) (x y z : UInt8) : Nat → Value → World → Prop
  | 0, v, _ => v = vx
  | 1, v, _ => v = .slice (some ⟨qa, oa, none⟩) a.length ca
  | 2, v, _ => v = .int .i64 k
  | 3, v, _ => v = .pointer (some ⟨qa, oa + k, none⟩)
  | 4, v, _ => v = .int .u8 ((x.toNat : Nat) : Int)
  | 5, v, _ => v = .slice (some ⟨qb, ob, none⟩) b.length cb
  | 6, v, _ => v = .int .i64 k
  | 7, v, _ => v = .pointer (some ⟨qb, ob + k, none⟩)
  | 8, v, _ => v = .int .u8 ((y.toNat : Nat) : Int)
  | 9, v, _ => v = .int .u8 (((x ^^^ y).toNat : Nat) : Int)
  | 10, v, _ => v = .slice (some ⟨qc, oc, none⟩) c.length cc
  | 11, v, _ => v = .int .i64 k
  | 12, v, _ => v = .pointer (some ⟨qc, oc + k, none⟩)
  | 13, v, _ => v = .int .u8 ((z.toNat : Nat) : Int)
  | 14, v, _ => v = .int .u8 (((x ^^^ y ^^^ z).toNat : Nat) : Int)
  | 15, v, w => Rd w 1 v 1 (bv [x ^^^ y ^^^ z])
  | 16, v, w => w.ownsRow B 5 1 v (x3 (a.take k) (b.take k) (c.take k) ++ [x ^^^ y ^^^ z]).length (bv (x3 (a.take k) (b.take k) (c.take k) ++ [x ^^^ y ^^^ z]))
  | 17, v, w => w.ownsRow B 5 1 v (x3 (a.take k) (b.take k) (c.take k) ++ [x ^^^ y ^^^ z]).length (bv (x3 (a.take k) (b.take k) (c.take k) ++ [x ^^^ y ^^^ z]))
  | _, _, _ => True
/-- What each operation hands on. -/
def three9F (a b c : List UInt8) (n : Nat) (pa pb pc : Option Addr) (ca cb cc : Nat) (vx : Value) : Nat → Value → World → Prop
  | 0, v, _ => v = vx
  | 1, v, _ => v = .int .u32 (Crc.sum (x3 (a.take n) (b.take n) (c.take n)))
  | 2, v, _ => v = .slice pa a.length ca
  | 3, v, _ => v = .int .i64 n
  | 4, v, _ => v = .slice pa n ca
  | 5, v, _ => v = .int .u32 (Crc.sum (a.take n))
  | 6, v, _ => v = .slice pb b.length cb
  | 7, v, _ => v = .int .i64 n
  | 8, v, _ => v = .slice pb n cb
  | 9, v, _ => v = .int .u32 (Crc.sum (b.take n))
  | 10, v, _ => v = .int .u32 ((Crc.sum (a.take n) ^^^ Crc.sum (b.take n) : Nat) : Int)
  | 11, v, _ => v = .slice pc c.length cc
  | 12, v, _ => v = .int .i64 n
  | 13, v, _ => v = .slice pc n cc
  | 14, v, _ => v = .int .u32 (Crc.sum (c.take n))
  | 15, v, _ => v = .int .u32 ((Crc.sum (a.take n) ^^^ Crc.sum (b.take n) ^^^ Crc.sum (c.take n) : Nat) : Int)
  | 16, v, _ => v = .bool true
  | 17, v, _ => v = .bool true
  | _, _, _ => True

set_option maxHeartbeats 4000000 in
theorem crcThree_walk (va vb vc : Value) (a b c : List UInt8) (w : World) (ha : a.length ≤ 140737488351232) (hb : b.length ≤ 140737488351232) (hc : c.length ≤ 140737488351232)
    (ra : Rd w 1 va a.length (bv a)) (rb : Rd w 1 vb b.length (bv b)) (rc : Rd w 1 vc c.length (bv c)) :
    Calls Try.prog 8 #[va, vb, vc] w fun e w' => e = .returned (.bool true) ∧ Below w.heap.size w w' := by
  obtain ⟨pa, ca, rfl⟩ := ra.form
  obtain ⟨pb, cb, rfl⟩ := rb.form
  obtain ⟨pc, cc, rfl⟩ := rc.form
  obtain ⟨n, hn⟩ : ∃ n, n = min (min a.length b.length) c.length := ⟨_, rfl⟩
  have na : n ≤ a.length := by omega
  have nb : n ≤ b.length := by omega
  have nc : n ≤ c.length := by omega
  go_enter Try.func8, Try.ntmps8
  go_wp2_with fail
  refine (awake02_any _).mono ?_
  rintro e w1 ⟨rfl, hb1⟩
  have ra1 := ra.keep hb1
  have rb1 := rb.keep hb1
  have rc1 := rc.keep hb1
  clear ra rb rc
  have hsn := hb1.size
  go_upto_region 3 with fail
  go_cut [7] (fun s7 wq => s7 = .int .i64 n ∧ wq = w1)
  case first =>
    go_wp2_with fail
    all_goals go_meet
    all_goals exact ⟨by congr 1; omega, rfl⟩
  case rest =>
    obtain ⟨rfl, rfl⟩ := hcut
    clear hn
    go_wp2_with fail
    obtain ⟨B, hBe⟩ : ∃ B, B = wc.heap.size := ⟨_, rfl⟩
    have hba : ∀ {v : Value} {l : List UInt8}, Rd wc 1 v l.length (bv l) → True := fun _ => trivial
    clear hba
    have hBw : B ≤ wc.heap.size := by omega
    go_loopw [8, 9] (fun s8 s9 wr => ∃ k : Nat, k ≤ n ∧ s9 = .int .i64 k ∧ wr.ownsRow B 5 1 s8 (x3 (a.take k) (b.take k) (c.take k)).length (bv (x3 (a.take k) (b.take k) (c.take k))) ∧ Below B wc wr ∧ B ≤ wr.heap.size) (fun _ i _ => n - (intOf i).toNat)
    case atStart => exact ⟨0, Nat.zero_le _, rfl, by simpa [x3, bv] using World.ownsRow_nil wc B 5 1, Below.refl _ _, hBw⟩
    case round =>
      obtain ⟨k, hk, rfl, hown, hbr, hBr⟩ := hrel
      by_cases hlt : k < n
      · have hkz : (k : Int) < (n : Int) := by omega
        have hk0 : (0 : Int) ≤ (k : Int) := by omega
        have hlen := x3_length (a.take k) (b.take k) (c.take k) k (by simp; omega) (by simp; omega) (by simp; omega)
        obtain ⟨qa, oa, ca', hva, _, cella⟩ := ra1.at (by omega)
        obtain ⟨qb, ob, cb', hvb, _, cellb⟩ := rb1.at (by omega)
        obtain ⟨qc, oc, cc', hvc, _, cellc⟩ := rc1.at (by omega)
        simp only [Value.slice.injEq, true_and] at hva hvb hvc
        obtain ⟨rfl, rfl⟩ := hva
        obtain ⟨rfl, rfl⟩ := hvb
        obtain ⟨rfl, rfl⟩ := hvc
        obtain ⟨x, hxa⟩ : ∃ x, a[k]'(Nat.lt_of_lt_of_le hlt na) = x := ⟨_, rfl⟩
        obtain ⟨y, hxb⟩ : ∃ x, b[k]'(Nat.lt_of_lt_of_le hlt nb) = x := ⟨_, rfl⟩
        obtain ⟨z, hxc⟩ : ∃ x, c[k]'(Nat.lt_of_lt_of_le hlt nc) = x := ⟨_, rfl⟩
        have hla0 := cella k (.int .u8 x.toNat) (by rw [← hxa]; simp [bv, List.getElem?_eq_getElem (show k < a.length by omega)])
        have hlb0 := cellb k (.int .u8 y.toNat) (by rw [← hxb]; simp [bv, List.getElem?_eq_getElem (show k < b.length by omega)])
        have hlc0 := cellc k (.int .u8 z.toNat) (by rw [← hxc]; simp [bv, List.getElem?_eq_getElem (show k < c.length by omega)])
        have ba : qa < B := by rw [hBe]; exact World.block_lt_of_cell? _ _ hla0
        have bb : qb < B := by rw [hBe]; exact World.block_lt_of_cell? _ _ hlb0
        have bc : qc < B := by rw [hBe]; exact World.block_lt_of_cell? _ _ hlc0
        have hla := (hbr.cell (p := ⟨qa, oa + k, none⟩) ba).trans hla0
        have hlb := (hbr.cell (p := ⟨qb, ob + k, none⟩) bb).trans hlb0
        have hlc := (hbr.cell (p := ⟨qc, oc + k, none⟩) bc).trans hlc0
        have la : (k : Int) < (a.length : Int) := by omega
        have lb : (k : Int) < (b.length : Int) := by omega
        have lc : (k : Int) < (c.length : Int) := by omega
        have HL := Lib.hid hlen
        have HA := Lib.hid hxa
        have HB := Lib.hid hxb
        have HC := Lib.hid hxc
        have HE := Lib.hid hBe
        have hlen9 : (x3 (a.take k) (b.take k) (c.take k)).length ≤ k := by omega
        clear cella cellb cellc hla0 hlb0 hlc0 hlen hxa hxb hxc hBe ra1 rb1 rc1
        go_wp2_with fail
        refine wp_region_until [some 24, some 25, some 26, some 27, some 28, some 29, some 30, some 31, some 32, some 33, some 34, some 35, some 36, some 37, some 38, some 39, some 40, some 8] [(0, 8)] 16 (fun wx => Below wr.heap.size wr wx) [0, 1, 2, 3, 4, 5, 6, 7, 8, 9, 10, 11, 12, 13, 14, 15, 16] (threeF a b c k qa oa ca qb ob cb qc oc cc u8 B x y z) (kOne 16 B) (fun wx => Below B wr wx) (by kernel_rfl) (by kernel_rfl) rfl (by kernel_rfl) (by kernel_rfl) (Below.refl _ _).drew (Below.refl _ _).drew ((fun _ hj _ _ k h => h.trans ((kOne_below hj k).mono h.size))) (fun _ _ => kOne_refl _ _ _ _) (fun _ _ _ h k => h.trans (kOne_base (Nat.le_trans hBr h.size) k)) ?hF ?hstep ?hend
        case hF =>
          exact ⟨fun _ _ _ _ _ _ h => h, ⟨fun _ _ _ _ _ _ h => h, ⟨fun _ _ _ _ _ _ h => h, ⟨fun _ _ _ _ _ _ h => h, ⟨fun _ _ _ _ _ _ h => h, ⟨fun _ _ _ _ _ _ h => h, ⟨fun _ _ _ _ _ _ h => h, ⟨fun _ _ _ _ _ _ h => h, ⟨fun _ _ _ _ _ _ h => h, ⟨fun _ _ _ _ _ _ h => h, ⟨fun _ _ _ _ _ _ h => h, ⟨fun _ _ _ _ _ _ h => h, ⟨fun _ _ _ _ _ _ h => h, ⟨fun _ _ _ _ _ _ h => h, ⟨fun _ _ _ _ _ _ h => h, ⟨fun j hg _ _ _ k h => Rd.keep h (kOne_below (fun e => by subst e; exact absurd hg (by rw [show goneB _ 15 16 = true by kernel_rfl]; simp)) k), ⟨fun j hg _ _ _ k h => own_keep h (kOne_below (fun e => by subst e; exact absurd hg (by rw [show goneB _ 16 16 = true by kernel_rfl]; simp)) k), ⟨fun j hg _ _ _ k h => own_keep h (kOne_below (fun e => by subst e; exact absurd hg (by rw [show goneB _ 17 16 = true by kernel_rfl]; simp)) k), trivial⟩⟩⟩⟩⟩⟩⟩⟩⟩⟩⟩⟩⟩⟩⟩⟩⟩⟩
        case hstep =>
          -- operation 0: Op.move (tmp 8)
          refine ⟨fun r wx hG hs hq hf => ?_, ?_⟩
          · have hQ := hq rfl
            have e8 : r 8 = u8 := hs 8 rfl
            refine (if_pos rfl).symm ▸ ?_
            clear hs hq hf
            unfold gives
            go_simp
            exact ⟨kOne_refl _ _ _ _, rfl⟩
          -- operation 1: Op.move (tmp 0)
          refine ⟨fun r wx hG hs hq hf => ?_, ?_⟩
          · have hQ := hq rfl
            have e0 : r 0 = .slice (some ⟨qa, oa, none⟩) a.length ca := hs 0 rfl
            refine (if_pos rfl).symm ▸ ?_
            clear hs hq hf
            unfold gives
            go_simp
            exact ⟨kOne_refl _ _ _ _, rfl⟩
          -- operation 2: Op.move (tmp 9)
          refine ⟨fun r wx hG hs hq hf => ?_, ?_⟩
          · have hQ := hq rfl
            have e9 : r 9 = .int .i64 k := hs 9 rfl
            refine (if_pos rfl).symm ▸ ?_
            clear hs hq hf
            unfold gives
            go_simp
            exact ⟨kOne_refl _ _ _ _, rfl⟩
          -- operation 3: Op.indexAddr 22 (tmp 25) (tmp 26)
          refine ⟨fun r wx hG hs hq hf => ?_, ?_⟩
          · have hQ := hq rfl
            have h1 : r 25 = .slice (some ⟨qa, oa, none⟩) a.length ca := hf.1
            have h2 : r 26 = .int .i64 k := hf.2.1
            refine (if_pos rfl).symm ▸ ?_
            clear hs hq hf
            unfold gives
            go_simp
            exact ⟨kOne_refl _ _ _ _, rfl⟩
          -- operation 4: Op.load 5 (tmp 27)
          refine ⟨fun r wx hG hs hq hf => ?_, ?_⟩
          · have hQ := hq rfl
            have h3 : r 27 = .pointer (some ⟨qa, oa + k, none⟩) := hf.1
            refine (if_pos rfl).symm ▸ ?_
            clear hs hq hf
            unfold gives
            have hcl := (hG.cell (p := ⟨qa, oa + k, none⟩) (by show qa < B; omega)).trans hla
            go_simp
            exact ⟨kOne_refl _ _ _ _, rfl⟩
          -- operation 5: Op.move (tmp 1)
          refine ⟨fun r wx hG hs hq hf => ?_, ?_⟩
          · have hQ := hq rfl
            have e1 : r 1 = .slice (some ⟨qb, ob, none⟩) b.length cb := hs 1 rfl
            refine (if_pos rfl).symm ▸ ?_
            clear hs hq hf
            unfold gives
            go_simp
            exact ⟨kOne_refl _ _ _ _, rfl⟩
          -- operation 6: Op.move (tmp 9)
          refine ⟨fun r wx hG hs hq hf => ?_, ?_⟩
          · have hQ := hq rfl
            have e9 : r 9 = .int .i64 k := hs 9 rfl
            refine (if_pos rfl).symm ▸ ?_
            clear hs hq hf
            unfold gives
            go_simp
            exact ⟨kOne_refl _ _ _ _, rfl⟩
          -- operation 7: Op.indexAddr 22 (tmp 29) (tmp 30)
          refine ⟨fun r wx hG hs hq hf => ?_, ?_⟩
          · have hQ := hq rfl
            have h5 : r 29 = .slice (some ⟨qb, ob, none⟩) b.length cb := hf.1
            have h6 : r 30 = .int .i64 k := hf.2.1
            refine (if_pos rfl).symm ▸ ?_
            clear hs hq hf
            unfold gives
            go_simp
            exact ⟨kOne_refl _ _ _ _, rfl⟩
          -- operation 8: Op.load 5 (tmp 31)
          refine ⟨fun r wx hG hs hq hf => ?_, ?_⟩
          · have hQ := hq rfl
            have h7 : r 31 = .pointer (some ⟨qb, ob + k, none⟩) := hf.1
            refine (if_pos rfl).symm ▸ ?_
            clear hs hq hf
            unfold gives
            have hcl := (hG.cell (p := ⟨qb, ob + k, none⟩) (by show qb < B; omega)).trans hlb
            go_simp
            exact ⟨kOne_refl _ _ _ _, rfl⟩
          -- operation 9: Op.binOp BinOp.xor 5 (tmp 28) (tmp 32) 5
          refine ⟨fun r wx hG hs hq hf => ?_, ?_⟩
          · have hQ := hq rfl
            have h4 : r 28 = .int .u8 ((x.toNat : Nat) : Int) := hf.1
            have h8 : r 32 = .int .u8 ((y.toNat : Nat) : Int) := hf.2.1
            refine (if_pos rfl).symm ▸ ?_
            clear hs hq hf
            unfold gives
            have hx := u8_xor_nat x.toNat y.toNat x.toNat_lt y.toNat_lt
            rw [← UInt8.toNat_xor] at hx
            go_simp
            exact ⟨kOne_refl _ _ _ _, rfl⟩
          -- operation 10: Op.move (tmp 2)
          refine ⟨fun r wx hG hs hq hf => ?_, ?_⟩
          · have hQ := hq rfl
            have e2 : r 2 = .slice (some ⟨qc, oc, none⟩) c.length cc := hs 2 rfl
            refine (if_pos rfl).symm ▸ ?_
            clear hs hq hf
            unfold gives
            go_simp
            exact ⟨kOne_refl _ _ _ _, rfl⟩
          -- operation 11: Op.move (tmp 9)
          refine ⟨fun r wx hG hs hq hf => ?_, ?_⟩
          · have hQ := hq rfl
            have e9 : r 9 = .int .i64 k := hs 9 rfl
            refine (if_pos rfl).symm ▸ ?_
            clear hs hq hf
            unfold gives
            go_simp
            exact ⟨kOne_refl _ _ _ _, rfl⟩
          -- operation 12: Op.indexAddr 22 (tmp 34) (tmp 35)
          refine ⟨fun r wx hG hs hq hf => ?_, ?_⟩
          · have hQ := hq rfl
            have h10 : r 34 = .slice (some ⟨qc, oc, none⟩) c.length cc := hf.1
            have h11 : r 35 = .int .i64 k := hf.2.1
            refine (if_pos rfl).symm ▸ ?_
            clear hs hq hf
            unfold gives
            go_simp
            exact ⟨kOne_refl _ _ _ _, rfl⟩
          -- operation 13: Op.load 5 (tmp 36)
          refine ⟨fun r wx hG hs hq hf => ?_, ?_⟩
          · have hQ := hq rfl
            have h12 : r 36 = .pointer (some ⟨qc, oc + k, none⟩) := hf.1
            refine (if_pos rfl).symm ▸ ?_
            clear hs hq hf
            unfold gives
            have hcl := (hG.cell (p := ⟨qc, oc + k, none⟩) (by show qc < B; omega)).trans hlc
            go_simp
            exact ⟨kOne_refl _ _ _ _, rfl⟩
          -- operation 14: Op.binOp BinOp.xor 5 (tmp 33) (tmp 37) 5
          refine ⟨fun r wx hG hs hq hf => ?_, ?_⟩
          · have hQ := hq rfl
            have h9 : r 33 = .int .u8 (((x ^^^ y).toNat : Nat) : Int) := hf.1
            have h13 : r 37 = .int .u8 ((z.toNat : Nat) : Int) := hf.2.1
            refine (if_pos rfl).symm ▸ ?_
            clear hs hq hf
            unfold gives
            have hxy : x.toNat ^^^ y.toNat < 256 := by rw [← UInt8.toNat_xor]; exact (x ^^^ y).toNat_lt
            have hx := u8_xor_nat (x.toNat ^^^ y.toNat) z.toNat hxy z.toNat_lt
            go_simp
            exact ⟨kOne_refl _ _ _ _, by simp [threeF, UInt8.toNat_xor]⟩
          -- operation 15: Op.buildSlice 22 1 #[(0, tmp 38)]
          refine ⟨fun r wx hG hs hq hf => ?_, ?_⟩
          · have hQ := hq rfl
            have h14 : r 38 = .int .u8 (((x ^^^ y ^^^ z).toNat : Nat) : Int) := hf.1
            refine (if_pos rfl).symm ▸ ?_
            clear hs hq hf
            unfold gives
            go_simp
            exact ⟨kOne_of rfl ((Below.refl _ _).alloc (Nat.le_refl _) _), Rd.one _ _ _ rfl⟩
          -- operation 16: Op.call ( callee := Callee.builtin Builtin.append, args := #[tmp 24, tmp 39], argTypes := #[22, 22] )
          refine ⟨fun r wx hG hs hq hf => ?_, ?_⟩
          · have hQ := hq rfl
            have h0 : r 24 = u8 := hf.1
            have h15 : Rd wx 1 (r 39) 1 (bv [x ^^^ y ^^^ z]) := hf.2.1
            refine (if_pos rfl).symm ▸ ?_
            clear hs hq hf
            unfold gives
            have hownx := own_keep hown hQ
            refine gives_app Try.underlying22 infoU8 rfl (by decide) _ _ rfl h0 rfl hownx h15 (by omega) (by omega) (Nat.le_trans hBr hG.size) ?_
            intro v' wy ho hg _
            refine ⟨kOne_at (hg.below (Nat.le_trans hBr hG.size) (own_block hownx)), ?_⟩
            show wy.ownsRow B 5 1 v' _ _
            rw [bv_append, List.length_append]; exact ho
          -- operation 17: Op.assign (tmp 40)
          refine ⟨fun r wx hG hs hq hf => ?_, ?_⟩
          · have h16 : wx.ownsRow B 5 1 (r 40) (x3 (a.take k) (b.take k) (c.take k) ++ [x ^^^ y ^^^ z]).length (bv (x3 (a.take k) (b.take k) (c.take k) ++ [x ^^^ y ^^^ z])) := hf.1
            refine (if_pos rfl).symm ▸ ?_
            clear hs hq hf
            unfold gives
            go_simp
            exact ⟨kOne_refl _ _ _ _, h16⟩
          exact trivial
        case hend =>
          intro u wz hG hfin
          have z17 : wz.ownsRow B 5 1 (u 17) (x3 (a.take k) (b.take k) (c.take k) ++ [x ^^^ y ^^^ z]).length (bv (x3 (a.take k) (b.take k) (c.take k) ++ [x ^^^ y ^^^ z])) := hfin 17 (by decide) (by kernel_rfl)
          clear hfin
          simp only [fill]
          go_simp
          go_wp2_with fail
          go_roundw
          case rel => exact ⟨k + 1, by omega, by go_num, by rw [x3_snoc a b c k (by omega) (by omega) (by omega), HA.out, HB.out, HC.out]; exact z17, hbr.trans hG, Nat.le_trans hBr hG.size⟩
          case measure => simp [intOf]; omega
      · obtain rfl : k = n := by omega
        have hkz : ¬ (k : Int) < (k : Int) := by omega
        have hlen := x3_length (a.take k) (b.take k) (c.take k) k (by simp; omega) (by simp; omega) (by simp; omega)
        have hfin := sum_x3 (a.take k) (b.take k) (c.take k) k (by simp; omega) (by simp; omega) (by simp; omega)
        have hrx := own_rd hown (bv_one _)
        have hbb : Below w.heap.size w wr := hb1.trans (hbr.mono (by omega))
        have hra := ((ra1.take' k na).keepB hbr (by omega)).bytes na
        have hrb := ((rb1.take' k nb).keepB hbr (by omega)).bytes nb
        have hrc := ((rc1.take' k nc).keepB hbr (by omega)).bytes nc
        have hbw := hbb
        have kca : k ≤ ca := Nat.le_trans na (Rd.cap ra1)
        have kcb : k ≤ cb := Nat.le_trans nb (Rd.cap rb1)
        have kcc : k ≤ cc := Nat.le_trans nc (Rd.cap rc1)
        clear hown hbr ra1 rb1 rc1
        go_wp2_with fail
        refine wp_region_steps [some 41, some 42, some 43, some 44, some 45, some 46, some 47, some 48, some 49, some 50, some 51, some 52, some 53, some 54, some 55, some 56, some 57, some 6] [] (three9F a b c k pa pb pc ca cb cc u8) (fun _ wx wy => Below wx.heap.size wx wy) (fun wx => Below wr.heap.size wr wx) (by kernel_rfl) (by kernel_rfl) rfl (by kernel_rfl) (Below.refl _ _).drew (fun _ wx => Below.refl _ _) (fun _ wx wy h k => h.trans (k.mono h.size)) ?hF ?hstep ?hend
        case hF =>
          exact ⟨fun _ _ _ _ _ _ h => h, ⟨fun _ _ _ _ _ _ h => h, ⟨fun _ _ _ _ _ _ h => h, ⟨fun _ _ _ _ _ _ h => h, ⟨fun _ _ _ _ _ _ h => h, ⟨fun _ _ _ _ _ _ h => h, ⟨fun _ _ _ _ _ _ h => h, ⟨fun _ _ _ _ _ _ h => h, ⟨fun _ _ _ _ _ _ h => h, ⟨fun _ _ _ _ _ _ h => h, ⟨fun _ _ _ _ _ _ h => h, ⟨fun _ _ _ _ _ _ h => h, ⟨fun _ _ _ _ _ _ h => h, ⟨fun _ _ _ _ _ _ h => h, ⟨fun _ _ _ _ _ _ h => h, ⟨fun _ _ _ _ _ _ h => h, ⟨fun _ _ _ _ _ _ h => h, ⟨fun _ _ _ _ _ _ h => h, trivial⟩⟩⟩⟩⟩⟩⟩⟩⟩⟩⟩⟩⟩⟩⟩⟩⟩⟩
        case hstep =>
          -- operation 0: Op.move (tmp 8)
          refine ⟨fun r wx hG hs hq hf => ?_, ?_⟩
          · have e8 : r 8 = u8 := hs 8 rfl
            refine (if_pos rfl).symm ▸ ?_
            clear hs hq hf
            unfold gives
            go_simp
            exact ⟨Below.refl _ _, rfl⟩
          -- operation 1: Op.call ( callee := Callee.value (func 10), args := #[tmp 41], argTypes := #[22] )
          refine ⟨fun r wx hG hs hq hf => ?_, ?_⟩
          · have h0 : r 41 = u8 := hf.1
            refine (if_pos rfl).symm ▸ ?_
            clear hs hq hf
            unfold gives
            go_simp
            refine (Sum_any _ (x3 (a.take k) (b.take k) (c.take k)) wx (by first | omega | (rw [List.length_take]; omega)) (hrx.keep hG)).mono ?_
            rintro e wy ⟨rfl, hb⟩
            exact ⟨_, rfl, hb, rfl⟩
          -- operation 2: Op.move (tmp 0)
          refine ⟨fun r wx hG hs hq hf => ?_, ?_⟩
          · have e0 : r 0 = .slice pa a.length ca := hs 0 rfl
            refine (if_pos rfl).symm ▸ ?_
            clear hs hq hf
            unfold gives
            go_simp
            exact ⟨Below.refl _ _, rfl⟩
          -- operation 3: Op.move (tmp 7)
          refine ⟨fun r wx hG hs hq hf => ?_, ?_⟩
          · have e7 : r 7 = .int .i64 k := hs 7 rfl
            refine (if_pos rfl).symm ▸ ?_
            clear hs hq hf
            unfold gives
            go_simp
            exact ⟨Below.refl _ _, rfl⟩
          -- operation 4: Op.slice 22 (tmp 43) none (some (tmp 44)) none
          refine ⟨fun r wx hG hs hq hf => ?_, ?_⟩
          · have h2 : r 43 = .slice pa a.length ca := hf.1
            have h3 : r 44 = .int .i64 k := hf.2.1
            refine (if_pos rfl).symm ▸ ?_
            clear hs hq hf
            unfold gives
            go_simp
            exact ⟨Below.refl _ _, rfl⟩
          -- operation 5: Op.call ( callee := Callee.value (func 10), args := #[tmp 45], argTypes := #[22] )
          refine ⟨fun r wx hG hs hq hf => ?_, ?_⟩
          · have h4 : r 45 = .slice pa k ca := hf.1
            refine (if_pos rfl).symm ▸ ?_
            clear hs hq hf
            unfold gives
            go_simp
            refine (Sum_any _ (a.take k) wx (by first | omega | (rw [List.length_take]; omega)) (hra.keep hG)).mono ?_
            rintro e wy ⟨rfl, hb⟩
            exact ⟨_, rfl, hb, rfl⟩
          -- operation 6: Op.move (tmp 1)
          refine ⟨fun r wx hG hs hq hf => ?_, ?_⟩
          · have e1 : r 1 = .slice pb b.length cb := hs 1 rfl
            refine (if_pos rfl).symm ▸ ?_
            clear hs hq hf
            unfold gives
            go_simp
            exact ⟨Below.refl _ _, rfl⟩
          -- operation 7: Op.move (tmp 7)
          refine ⟨fun r wx hG hs hq hf => ?_, ?_⟩
          · have e7 : r 7 = .int .i64 k := hs 7 rfl
            refine (if_pos rfl).symm ▸ ?_
            clear hs hq hf
            unfold gives
            go_simp
            exact ⟨Below.refl _ _, rfl⟩
          -- operation 8: Op.slice 22 (tmp 47) none (some (tmp 48)) none
          refine ⟨fun r wx hG hs hq hf => ?_, ?_⟩
          · have h6 : r 47 = .slice pb b.length cb := hf.1
            have h7 : r 48 = .int .i64 k := hf.2.1
            refine (if_pos rfl).symm ▸ ?_
            clear hs hq hf
            unfold gives
            go_simp
            exact ⟨Below.refl _ _, rfl⟩
          -- operation 9: Op.call ( callee := Callee.value (func 10), args := #[tmp 49], argTypes := #[22] )
          refine ⟨fun r wx hG hs hq hf => ?_, ?_⟩
          · have h8 : r 49 = .slice pb k cb := hf.1
            refine (if_pos rfl).symm ▸ ?_
            clear hs hq hf
            unfold gives
            go_simp
            refine (Sum_any _ (b.take k) wx (by first | omega | (rw [List.length_take]; omega)) (hrb.keep hG)).mono ?_
            rintro e wy ⟨rfl, hb⟩
            exact ⟨_, rfl, hb, rfl⟩
          -- operation 10: Op.binOp BinOp.xor 23 (tmp 46) (tmp 50) 23
          refine ⟨fun r wx hG hs hq hf => ?_, ?_⟩
          · have h5 : r 46 = .int .u32 (Crc.sum (a.take k)) := hf.1
            have h9 : r 50 = .int .u32 (Crc.sum (b.take k)) := hf.2.1
            refine (if_pos rfl).symm ▸ ?_
            clear hs hq hf
            unfold gives
            have hx := u32_xor_nat (Crc.sum (a.take k)) (Crc.sum (b.take k)) (Crc.sum_lt _) (Crc.sum_lt _)
            go_simp
            exact ⟨Below.refl _ _, rfl⟩
          -- operation 11: Op.move (tmp 2)
          refine ⟨fun r wx hG hs hq hf => ?_, ?_⟩
          · have e2 : r 2 = .slice pc c.length cc := hs 2 rfl
            refine (if_pos rfl).symm ▸ ?_
            clear hs hq hf
            unfold gives
            go_simp
            exact ⟨Below.refl _ _, rfl⟩
          -- operation 12: Op.move (tmp 7)
          refine ⟨fun r wx hG hs hq hf => ?_, ?_⟩
          · have e7 : r 7 = .int .i64 k := hs 7 rfl
            refine (if_pos rfl).symm ▸ ?_
            clear hs hq hf
            unfold gives
            go_simp
            exact ⟨Below.refl _ _, rfl⟩
          -- operation 13: Op.slice 22 (tmp 52) none (some (tmp 53)) none
          refine ⟨fun r wx hG hs hq hf => ?_, ?_⟩
          · have h11 : r 52 = .slice pc c.length cc := hf.1
            have h12 : r 53 = .int .i64 k := hf.2.1
            refine (if_pos rfl).symm ▸ ?_
            clear hs hq hf
            unfold gives
            go_simp
            exact ⟨Below.refl _ _, rfl⟩
          -- operation 14: Op.call ( callee := Callee.value (func 10), args := #[tmp 54], argTypes := #[22] )
          refine ⟨fun r wx hG hs hq hf => ?_, ?_⟩
          · have h13 : r 54 = .slice pc k cc := hf.1
            refine (if_pos rfl).symm ▸ ?_
            clear hs hq hf
            unfold gives
            go_simp
            refine (Sum_any _ (c.take k) wx (by first | omega | (rw [List.length_take]; omega)) (hrc.keep hG)).mono ?_
            rintro e wy ⟨rfl, hb⟩
            exact ⟨_, rfl, hb, rfl⟩
          -- operation 15: Op.binOp BinOp.xor 23 (tmp 51) (tmp 55) 23
          refine ⟨fun r wx hG hs hq hf => ?_, ?_⟩
          · have h10 : r 51 = .int .u32 ((Crc.sum (a.take k) ^^^ Crc.sum (b.take k) : Nat) : Int) := hf.1
            have h14 : r 55 = .int .u32 (Crc.sum (c.take k)) := hf.2.1
            refine (if_pos rfl).symm ▸ ?_
            clear hs hq hf
            unfold gives
            have hx := u32_xor_nat (Crc.sum (a.take k) ^^^ Crc.sum (b.take k)) (Crc.sum (c.take k)) (Nat.xor_lt_two_pow (n := 32) (Crc.sum_lt _) (Crc.sum_lt _)) (Crc.sum_lt _)
            go_simp
            exact ⟨Below.refl _ _, rfl⟩
          -- operation 16: Op.binOp BinOp.eql 23 (tmp 42) (tmp 56) 23
          refine ⟨fun r wx hG hs hq hf => ?_, ?_⟩
          · have h1 : r 42 = .int .u32 (Crc.sum (x3 (a.take k) (b.take k) (c.take k))) := hf.1
            have h15 : r 56 = .int .u32 ((Crc.sum (a.take k) ^^^ Crc.sum (b.take k) ^^^ Crc.sum (c.take k) : Nat) : Int) := hf.2.1
            refine (if_pos rfl).symm ▸ ?_
            clear hs hq hf
            unfold gives
            rw [← hfin] at h15
            go_simp
            exact ⟨Below.refl _ _, by simp [three9F]⟩
          -- operation 17: Op.assign (tmp 57)
          refine ⟨fun r wx hG hs hq hf => ?_, ?_⟩
          · have h16 : r 57 = .bool true := hf.1
            refine (if_pos rfl).symm ▸ ?_
            clear hs hq hf
            unfold gives
            go_simp
            exact ⟨Below.refl _ _, rfl⟩
          exact trivial
        case hend =>
          intro u wz hG hfin
          have z17 : u 17 = .bool true := hfin 17 (by decide) (by kernel_rfl)
          clear hfin
          simp only [fill]
          go_simp
          go_wp2_with fail
          go_ret
          exact ⟨rfl, hbw.trans (hG.mono (by omega))⟩
end Go.Proofs.Ytfeokdlkokmpcaa
