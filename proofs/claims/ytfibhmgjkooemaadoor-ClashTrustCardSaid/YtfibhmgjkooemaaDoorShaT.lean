/- Plain laws of the hash (SHA-256): no program is named here. · The hash of "abc". -/
import Derived.Test.YtfibhmgjkooemaaDoorBase
import Derived.KernelRfl
import Derived.Laws.BitsAllLaws
namespace Go.Proofs.YtfibhmgjkooemaaDoor.Sha

/-- A word as a value. -/
def u (x : UInt32) : Value := .int .u32 x.toNat

theorem i_add (x y : UInt32) : ((x.toNat : Int) + (y.toNat : Int)) % 4294967296 = ((x + y).toNat : Int) := by
  rw [UInt32.toNat_add]; omega
theorem i_xor (x y : UInt32) : bits .xor .u32 (x.toNat : Int) (y.toNat : Int) = ((x ^^^ y).toNat : Int) := by
  rw [Go.u32_xor_nat _ _ x.toNat_lt y.toNat_lt, UInt32.toNat_xor]
theorem i_and (x y : UInt32) : bits .and .u32 (x.toNat : Int) (y.toNat : Int) = ((x &&& y).toNat : Int) := by
  rw [Go.u32_and_nat _ _ x.toNat_lt y.toNat_lt, UInt32.toNat_and]
theorem i_or (x y : UInt32) : bits .or .u32 (x.toNat : Int) (y.toNat : Int) = ((x ||| y).toNat : Int) := by
  rw [Go.u32_or_nat _ _ x.toNat_lt y.toNat_lt, UInt32.toNat_or]
theorem i_not (x : UInt32) : bits .xor .u32 IntKind.u32.max (x.toNat : Int) = ((~~~x).toNat : Int) := by
  have h := Go.u32_xor_nat 4294967295 x.toNat (by omega) x.toNat_lt
  refine (show bits .xor .u32 IntKind.u32.max (x.toNat : Int) = ((4294967295 ^^^ x.toNat : Nat) : Int) from h).trans ?_
  congr 1
/-- A word shifted to the right. -/
def sh (x : UInt32) (k : Nat) : UInt32 := UInt32.ofNat (x.toNat / 2 ^ k)
theorem sh_nat (x : UInt32) (k : Nat) : (sh x k).toNat = x.toNat / 2 ^ k := by
  unfold sh
  rw [UInt32.toNat_ofNat', Nat.mod_eq_of_lt]
  exact Nat.lt_of_le_of_lt (Nat.div_le_self _ _) x.toNat_lt
/-- A word turned to the right. -/
def rr (x : UInt32) (k : Nat) : UInt32 := UInt32.ofNat (x.toNat / 2 ^ k) ||| UInt32.ofNat (x.toNat * 2 ^ (32 - k))
theorem rr_nat (x : UInt32) (k : Nat) : (rr x k).toNat = x.toNat / 2 ^ k ||| x.toNat * 2 ^ (32 - k) % 4294967296 := by
  unfold rr
  rw [UInt32.toNat_or, UInt32.toNat_ofNat', UInt32.toNat_ofNat', Nat.mod_eq_of_lt (b := 2 ^ 32) (Nat.lt_of_le_of_lt (Nat.div_le_self _ _) x.toNat_lt)]

def big1 (x : UInt32) : UInt32 := rr x 6 ^^^ rr x 11 ^^^ rr x 25
def big0 (x : UInt32) : UInt32 := rr x 2 ^^^ rr x 13 ^^^ rr x 22
def sml0 (x : UInt32) : UInt32 := rr x 7 ^^^ rr x 18 ^^^ sh x 3
def sml1 (x : UInt32) : UInt32 := rr x 17 ^^^ rr x 19 ^^^ sh x 10
/-- The choice and the majority, as the document says them. -/
def ch (e f g : UInt32) : UInt32 := e &&& f ^^^ ~~~e &&& g
def maj (a b c : UInt32) : UInt32 := a &&& b ^^^ a &&& c ^^^ b &&& c
theorem ch_prog (e f g : UInt32) : g ^^^ e &&& (f ^^^ g) = ch e f g := by
  unfold ch
  apply UInt32.toBitVec_inj.1
  simp only [UInt32.toBitVec_xor, UInt32.toBitVec_and, UInt32.toBitVec_not]
  ext i hi
  simp only [BitVec.getElem_xor, BitVec.getElem_and, BitVec.getElem_not]
  cases e.toBitVec[i] <;> cases f.toBitVec[i] <;> cases g.toBitVec[i] <;> rfl
theorem maj_prog (a p c : UInt32) : a &&& p ||| c &&& (a ||| p) = maj a p c := by
  unfold maj
  apply UInt32.toBitVec_inj.1
  simp only [UInt32.toBitVec_xor, UInt32.toBitVec_and, UInt32.toBitVec_or]
  ext i hi
  simp only [BitVec.getElem_xor, BitVec.getElem_and, BitVec.getElem_or]
  cases a.toBitVec[i] <;> cases p.toBitVec[i] <;> cases c.toBitVec[i] <;> rfl

/-- The constants. -/
def tab : List Nat := [1116352408, 1899447441, 3049323471, 3921009573, 961987163, 1508970993, 2453635748, 2870763221, 3624381080, 310598401, 607225278, 1426881987, 1925078388, 2162078206, 2614888103, 3248222580, 3835390401, 4022224774, 264347078, 604807628, 770255983, 1249150122, 1555081692, 1996064986, 2554220882, 2821834349, 2952996808, 3210313671, 3336571891, 3584528711, 113926993, 338241895, 666307205, 773529912, 1294757372, 1396182291, 1695183700, 1986661051, 2177026350, 2456956037, 2730485921, 2820302411, 3259730800, 3345764771, 3516065817, 3600352804, 4094571909, 275423344, 430227734, 506948616, 659060556, 883997877, 958139571, 1322822218, 1537002063, 1747873779, 1955562222, 2024104815, 2227730452, 2361852424, 2428436474, 2756734187, 3204031479, 3329325298]
def kk (t : Nat) : UInt32 := UInt32.ofNat (tab.getD t 0)

/-- Eight words. -/
structure W8 where
  a : UInt32
  b : UInt32
  c : UInt32
  d : UInt32
  e : UInt32
  f : UInt32
  g : UInt32
  h : UInt32

def W8.l (s : W8) : List UInt32 := [s.a, s.b, s.c, s.d, s.e, s.f, s.g, s.h]
def W8.add (s r : W8) : W8 := ⟨s.a + r.a, s.b + r.b, s.c + r.c, s.d + r.d, s.e + r.e, s.f + r.f, s.g + r.g, s.h + r.h⟩
def W8.sub (s r : W8) : W8 := ⟨s.a - r.a, s.b - r.b, s.c - r.c, s.d - r.d, s.e - r.e, s.f - r.f, s.g - r.g, s.h - r.h⟩
def begin0 : W8 := ⟨1779033703, 3144134277, 1013904242, 2773480762, 1359893119, 2600822924, 528734635, 1541459225⟩
theorem add_sub' (x y : UInt32) : y + (x - y) = x := by rw [UInt32.add_comm, UInt32.sub_add_cancel]
theorem W8.add_sub (s r : W8) : r.add (s.sub r) = s := by
  cases s; cases r
  simp [W8.add, W8.sub, add_sub']
theorem W8.sub_add (s r v : W8) : (s.sub r).add v = (s.add v).sub r := by
  cases s; cases r; cases v
  simp only [W8.add, W8.sub, W8.mk.injEq]
  refine ⟨?_, ?_, ?_, ?_, ?_, ?_, ?_, ?_⟩ <;> rw [UInt32.sub_eq_add_neg, UInt32.sub_eq_add_neg, UInt32.add_assoc, UInt32.add_comm (-_), ← UInt32.add_assoc]
theorem W8.sub_self (s : W8) : s.sub s = ⟨0, 0, 0, 0, 0, 0, 0, 0⟩ := by
  cases s; simp [W8.sub]

/-- The word that comes behind sixteen. -/
def nxt (w : List UInt32) : UInt32 := w.getD 0 0 + sml0 (w.getD 1 0) + w.getD 9 0 + sml1 (w.getD 14 0)
/-- The sixteen words from number t on. -/
def win (m : List UInt32) : Nat → List UInt32
  | 0 => m
  | t + 1 => (win m t).drop 1 ++ [nxt (win m t)]
/-- Word number t. -/
def wt (m : List UInt32) (t : Nat) : UInt32 := (win m t).getD 0 0
theorem win_length (m : List UInt32) (hm : m.length = 16) (t : Nat) : (win m t).length = 16 := by
  induction t with
  | zero => exact hm
  | succ t ih => simp [win, ih]
theorem win_step (m : List UInt32) (hm : m.length = 16) (t j : Nat) (hj : j + 1 < 16) : (win m (t + 1)).getD j 0 = (win m t).getD (j + 1) 0 := by
  have hl := win_length m hm t
  rw [win, List.getD_eq_getElem?_getD, List.getD_eq_getElem?_getD, List.getElem?_append_left (by simp [hl]; omega), List.getElem?_drop, Nat.add_comm 1 j]
theorem win_get (m : List UInt32) (hm : m.length = 16) : ∀ (j : Nat), j < 16 → ∀ t, (win m t).getD j 0 = wt m (t + j)
  | 0, _, t => rfl
  | j + 1, hj, t => by
    rw [← win_step m hm t j hj, win_get m hm j (by omega) (t + 1), show t + 1 + j = t + (j + 1) by omega]
theorem wt_low (m : List UInt32) (hm : m.length = 16) (t : Nat) (ht : t < 16) : wt m t = m.getD t 0 := by
  have := win_get m hm t ht 0
  rw [Nat.zero_add] at this
  rw [← this]; rfl
theorem wt_next (m : List UInt32) (hm : m.length = 16) (t : Nat) : wt m (t + 16) = wt m t + sml0 (wt m (t + 1)) + wt m (t + 9) + sml1 (wt m (t + 14)) := by
  have h1 := win_get m hm 15 (by omega) (t + 1)
  rw [show t + 1 + 15 = t + 16 by omega] at h1
  rw [← h1, win, List.getD_eq_getElem?_getD, List.getElem?_append_right (by simp [win_length m hm t])]
  simp only [List.length_drop, win_length m hm t, nxt, win_get m hm 0 (by omega) t, win_get m hm 1 (by omega) t, win_get m hm 9 (by omega) t, win_get m hm 14 (by omega) t]
  rfl

/-- One round. -/
def rnd (s : W8) (k w : UInt32) : W8 :=
  let one := s.h + big1 s.e + ch s.e s.f s.g + k + w
  let two := big0 s.a + maj s.a s.b s.c
  ⟨one + two, s.a, s.b, s.c, s.d + one, s.e, s.f, s.g⟩
def comp (m : List UInt32) (s : W8) : Nat → W8
  | 0 => s
  | t + 1 => rnd (comp m s t) (kk t) (wt m t)
/-- The words of a block. -/
def word (b : List UInt8) (i : Nat) : UInt32 := UInt32.ofNat ((b.getD (4 * i) 0).toNat * 16777216 + (b.getD (4 * i + 1) 0).toNat * 65536 + (b.getD (4 * i + 2) 0).toNat * 256 + (b.getD (4 * i + 3) 0).toNat)
def words (b : List UInt8) : List UInt32 := (List.range 16).map (word b)
theorem words_length (b : List UInt8) : (words b).length = 16 := by simp [words]
theorem words_get (b : List UInt8) (i : Nat) (h : i < 16) : (words b).getD i 0 = word b i := by
  rw [words, List.getD_eq_getElem?_getD]; simp [h]
/-- A block changes the words. -/
def blk (s : W8) (b : List UInt8) : W8 := s.add (comp (words b) s 64)
/-- The words behind the first k blocks. -/
def hs (l : List UInt8) : Nat → W8
  | 0 => begin0
  | k + 1 => blk (hs l k) ((l.drop (64 * k)).take 64)
theorem hs_append (l b : List UInt8) : ∀ k, 64 * k ≤ l.length → hs (l ++ b) k = hs l k
  | 0, _ => rfl
  | k + 1, h => by
    rw [hs, hs, hs_append l b k (by omega), List.drop_append_of_le_length (by omega), List.take_append_of_le_length (by simp; omega)]
/-- The text with its end. -/
def zs (n : Nat) : List UInt8 := List.replicate n 0
def gap (n : Nat) : Nat := (119 - n % 64) % 64
def pad (l : List UInt8) : List UInt8 := l ++ [128] ++ zs (gap l.length) ++ be 8 (l.length * 8)
theorem pad_length (l : List UInt8) : (pad l).length = l.length + 9 + gap l.length := by simp [pad, zs, be_length]; omega
theorem pad_mod (l : List UInt8) : (pad l).length % 64 = 0 := by rw [pad_length]; unfold gap; omega
def outB (s : W8) : List UInt8 := s.l.flatMap fun x => be 4 x.toNat
/-- The hash of a text. -/
def sum (l : List UInt8) : List UInt8 := outB (hs (pad l) ((pad l).length / 64))
theorem outB_length (s : W8) : (outB s).length = 32 := by simp [outB, W8.l, be_length]
theorem sum_length (l : List UInt8) : (sum l).length = 32 := outB_length _
end Go.Proofs.YtfibhmgjkooemaaDoor.Sha
namespace Go.Proofs.YtfibhmgjkooemaaDoor.Sha
/-- All rounds, the window carried along. -/
def fast : Nat → List UInt32 → W8 → Nat → W8
  | 0, _, s, _ => s
  | n + 1, w, s, t => fast n (w.drop 1 ++ [nxt w]) (rnd s (kk t) (w.getD 0 0)) (t + 1)
theorem fast_comp (m : List UInt32) (s : W8) : ∀ n t, fast n (win m t) (comp m s t) t = comp m s (t + n)
  | 0, t => rfl
  | n + 1, t => by
    rw [fast, show (win m t).drop 1 ++ [nxt (win m t)] = win m (t + 1) from rfl, show rnd (comp m s t) (kk t) ((win m t).getD 0 0) = comp m s (t + 1) from rfl, fast_comp m s n (t + 1), show t + 1 + n = t + (n + 1) by omega]
theorem blk_fast (s : W8) (b : List UInt8) : blk s b = s.add (fast 64 (words b) s 0) := by
  have := fast_comp (words b) s 64 0
  rw [blk, show (fast 64 (words b) s 0) = comp (words b) s (0 + 64) from this]
set_option maxRecDepth 100000 in
theorem abc : blk begin0 (pad [97, 98, 99]) = ⟨3128432319, 2399260650, 1094795486, 1571693091, 2953011619, 2518121116, 3021012833, 4060091821⟩ := by
  rw [blk_fast]
  kernel_rfl
end Go.Proofs.YtfibhmgjkooemaaDoor.Sha
