/- Plain words for slices of bytes in a world: no program is named here. -/
import Derived.WalkKit
import Derived.WalkLawsBesides
import Derived.WalkSpells
import Derived.Laws.AppendOwnNone
import Derived.Laws.BytesArg
import Derived.Lib.BitFns
import Derived.Lib.Hide
import Derived.WalkSmall
namespace Go.Proofs.Ytdociiogddihfaa
open Go.RowKit

/-- A list of bytes as cells. -/
def bv (l : List UInt8) : List Value := l.map fun b => .int .u8 b.toNat
theorem bv_length (l : List UInt8) : (bv l).length = l.length := by simp [bv]
theorem bv_append (a b : List UInt8) : bv (a ++ b) = bv a ++ bv b := by simp [bv]
theorem bv_one (l : List UInt8) : ∀ u ∈ bv l, u.oneCell' = true := by
  intro u hu
  obtain ⟨_, _, rfl⟩ := List.mem_map.1 hu
  rfl

/-- Big-endian: the k lowest bytes of n, the highest first. -/
def be : Nat → Nat → List UInt8
  | 0, _ => []
  | k + 1, n => be k (n / 256) ++ [UInt8.ofNat (n % 256)]
theorem be_length (k n : Nat) : (be k n).length = k := by
  induction k generalizing n with
  | zero => rfl
  | succ k ih => simp [be, ih]
/-- How many bytes a number takes. -/
def nk (n : Nat) : Nat := (Lib.bitLen n + 7) / 8
/-- A number's bytes. -/
def numB (n : Nat) : List UInt8 := UInt8.ofNat (nk n) :: be (nk n) n
theorem nk_le (n : Nat) (h : n < 2 ^ 64) : nk n ≤ 8 := by
  have := Lib.bitLen_le n 64 (by omega) h
  unfold nk; omega
theorem numB_length (n : Nat) : (numB n).length = nk n + 1 := by simp [numB, be_length]

theorem be_step (k n j : Nat) (hj : j + 1 ≤ k) : be (k - j) (n / 256 ^ j) = be (k - (j + 1)) (n / 256 ^ (j + 1)) ++ [UInt8.ofNat (n / 256 ^ j % 256)] := by
  rw [show k - j = (k - (j + 1)) + 1 by omega, be, Nat.div_div_eq_div_mul, ← Nat.pow_succ]
theorem u8_nat (n : Nat) (h : n < 256) : (UInt8.ofNat n).toNat = n := by simp; omega

theorem grown_trans {w w1 w2 : World} {r r1 : Option Nat} (h : w.grownBy w1 r) (k : w1.grownBy w2 r1) (hr : ∀ j, r1 = some j → r = some j ∨ w.heap.size ≤ j) : w.grownBy w2 r :=
  ⟨k.os.trans h.os, k.tape.trans h.tape, k.output.trans h.output, Nat.le_trans h.size k.size, fun j hj hne =>
    (k.block j (Nat.lt_of_lt_of_le hj h.size) (fun e => by rcases hr j e.symm with h1 | h1; exact hne h1.symm; omega)).trans (h.block j hj hne)⟩

/-- Value v reads, in w, as n elements of `size` cells each, whose cells are xs. -/
def Rd (w : World) (size : Nat) (v : Value) (n : Nat) (xs : List Value) : Prop :=
  xs.length = n * size ∧ (∀ u ∈ xs, u.oneCell' = true) ∧
  ((v = .slice none 0 0 ∧ n = 0) ∨ ∃ ad c, v = .slice (some ad) n c ∧ n ≤ c ∧ ∀ j u, xs[j]? = some u → w.cell? (ad.add j) = some u)

theorem Rd.one (w : World) (u : Value) (e : TypeId) (h : u.oneCell' = true) : Rd (w.alloc (.cells #[u] e)) 1 (.slice (some ⟨w.heap.size, 0, none⟩) 1 1) 1 [u] := by
  refine ⟨rfl, by simpa using h, .inr ⟨_, _, rfl, Nat.le_refl _, cell_one_new _ _ _⟩⟩

theorem Rd.nil (w : World) (size : Nat) : Rd w size (.slice none 0 0) 0 [] := ⟨by simp, by simp, .inl ⟨rfl, rfl⟩⟩

theorem own_rd {w : World} {B : Nat} {e : TypeId} {size : Nat} {v : Value} {n : Nat} {xs : List Value} (h : w.ownsRow B e size v n xs) (h1 : ∀ u ∈ xs, u.oneCell' = true) : Rd w size v n xs := by
  refine ⟨h.1, h1, ?_⟩
  rcases h.2 with hn | ⟨g, cap, cur, hv, hb, hg, hc, hm, hs, ht⟩
  · exact .inl hn
  · exact .inr ⟨_, _, hv, hc, h.cells (by rw [hv]; rfl)⟩

/-- From w to w' at most the block of the slice v was written; what v' leads to is v's block or a new one. -/
structure Grew (w w' : World) (v v' : Value) : Prop where
  grown : w.grownBy w' v.ownBlock
  blk : ∀ j, v'.ownBlock = some j → v.ownBlock = some j ∨ w.heap.size ≤ j

theorem Grew.refl (w : World) (v : Value) : Grew w w v v := ⟨World.grownBy.refl _ _, fun _ h => .inl h⟩
theorem Grew.trans {w w1 w2 : World} {v v1 v2 : Value} (h : Grew w w1 v v1) (k : Grew w1 w2 v1 v2) : Grew w w2 v v2 :=
  ⟨grown_trans h.grown k.grown h.blk, fun j hj => by
    rcases k.blk j hj with h1 | h1
    · exact h.blk j h1
    · exact .inr (Nat.le_trans h.grown.size h1)⟩
theorem Grew.alloc {w w' : World} {v v' : Value} (o : Obj) (h : Grew (w.alloc o) w' v v') : Grew w w' v v' :=
  ⟨⟨h.grown.os, h.grown.tape, h.grown.output, by have := h.grown.size; simp at this; omega, fun k hk hne => (h.grown.block k (by simp; omega) hne).trans (Below.heap_alloc _ _ _ hk)⟩, fun j hj => by
    rcases h.blk j hj with h1 | h1
    · exact .inl h1
    · simp at h1; exact .inr (by omega)⟩
theorem Grew.below {w w' : World} {v v' : Value} (h : Grew w w' v v') {B : Nat} (hB : B ≤ w.heap.size) (hv : ∀ j, v.ownBlock = some j → B ≤ j) : Below B w w' :=
  ⟨h.grown.os, h.grown.tape, h.grown.output, h.grown.size, fun k hk => h.grown.block k (by omega) (fun e => by have := hv k e.symm; omega)⟩
theorem Grew.nil {w w' : World} {v' : Value} (h : Grew w w' (.slice none 0 0) v') : Below w.heap.size w w' := h.below (Nat.le_refl _) (fun j hj => by simp [Value.ownBlock] at hj)

theorem run_app {P : Program} {w : World} (t ty : TypeId) {e : TypeId} {z : Value} {size bytes : Nat}
    (ht : P.underlying t = some (.slice e)) (hinfo : (P.info? e).map (fun i => (i.zero, i.size, i.bytes)) = some (some z, size, bytes)) (hzs : z.cells.size = size) (hsz : 0 < size)
    {B : Nat} {v xv : Value} {n m : Nat} {xs news : List Value} (hown : w.ownsRow B e size v n xs) (hr : Rd w size xv m news)
    (h63 : n + m ≤ 140737488355328) (hbytes : (n + m) * bytes ≤ 140737488355328) (hbase : B ≤ w.heap.size) :
    ∃ v' w', (Builtin.append_ #[t, t] ty #[v, xv]).run P w = .ok v' w' ∧ w'.ownsRow B e size v' (n + m) (xs ++ news) ∧ Grew w w' v v' ∧
      (v' = .slice none 0 0 ↔ v = .slice none 0 0 ∧ m = 0) := by
  obtain ⟨i, hi, hz, hsize, hby⟩ := info_parts hinfo
  obtain ⟨hl, h1, ⟨rfl, rfl⟩ | ⟨a, c, rfl, hcap, hnews⟩⟩ := hr
  · have hn : news = [] := List.eq_nil_of_length_eq_zero (by simpa using hl)
    subst hn
    exact ⟨v, w, run_append_owned_none (P := P) (w := w) B t ty e i size ht hi v n xs hown, by simpa using hown, Grew.refl _ _, by simp⟩
  subst hsize
  subst hby
  have hlen : (xs ++ news).length = (n + m) * i.size := by rw [List.length_append, hown.1, hl, Nat.add_mul]
  have grown : ∀ (old : Nat), old < n + m → ∀ (row : Option Nat),
      (w.drew.alloc (.cells (xs.toArray ++ news.toArray ++ Builtin.zeroCells z.cells (grownCap w (n + m) old e - (n + m))) e)).ownsRow B e i.size
        (.slice (some ⟨w.heap.size, 0, none⟩) (n + m) (grownCap w (n + m) old e)) (n + m) (xs ++ news) ∧
      w.grownBy (w.drew.alloc (.cells (xs.toArray ++ news.toArray ++ Builtin.zeroCells z.cells (grownCap w (n + m) old e - (n + m))) e)) row := by
    intro old ho row
    have hge := grownCap_ge w (n + m) old e
    have hcm : grownCap w (n + m) old e ≤ maxLen := grownCap_le_maxLen w (n + m) old e (by unfold maxLen; omega)
    refine ⟨⟨hlen, .inr ⟨w.heap.size, _, _, rfl, hbase, heap_alloc_new w.drew _, hge, hcm, ?_, ?_⟩⟩, ⟨rfl, rfl, rfl, by simp, fun k hk _ => Below.heap_alloc w.drew _ k hk⟩⟩
    · simp only [Array.size_append, List.size_toArray, size_zeroCells, hzs, hown.1, hl, ← Nat.add_mul]
      congr 1
      omega
    · simp only [Array.toList_append, List.append_assoc]
      rw [← List.append_assoc, ← hlen]
      exact List.take_left
  have fresh : ∀ c n, ∀ j, (Value.slice (some ⟨w.heap.size, 0, none⟩) n c).ownBlock = some j → v.ownBlock = some j ∨ w.heap.size ≤ j := by
    intro c n j hj
    simp [Value.ownBlock] at hj
    exact .inr (by omega)
  rcases hown.2 with ⟨rfl, rfl⟩ | ⟨g, cap, cur, rfl, hbg, hg, hnc, hcm, hcs, htake⟩
  · have hx : xs = [] := List.eq_nil_of_length_eq_zero (by simpa using hown.1)
    subst hx
    by_cases hm : m = 0
    · subst hm
      have hn : news = [] := List.eq_nil_of_length_eq_zero (by simpa using hl)
      subst hn
      refine ⟨.slice none 0 0, w, ?_, World.ownsRow_nil w B e i.size, Grew.refl _ _, by simp⟩
      simp [Builtin.append_, run_underlying ht, sizeOf, typeInfo, hi, Builtin.lenOf, Builtin.firstCells, loadCells, loadCellsFrom]
    · have hr := run_append_nil (P := P) w t ty e i z ht hi hz a m c news hl hnews (by omega) (by omega) (by have hb := hbytes; simp only [Nat.zero_add] at hb; omega)
      have hgr := grown 0 (by omega) (Value.ownBlock (.slice none 0 0))
      simp only [Nat.zero_add, List.nil_append, Array.empty_append] at hgr ⊢
      exact ⟨_, _, hr, hgr.1, ⟨hgr.2, fresh _ _⟩, by simp [hm]⟩
  · by_cases hroom : n + m ≤ cap
    · have hfit : n * i.size + news.length ≤ cur.size := by rw [hl, hcs, ← Nat.add_mul]; exact Nat.mul_le_mul_right _ hroom
      have hr := run_append_room (P := P) w t ty e i ht hi g n cap cur hg a m c news hl hnews h1 hroom hfit
      refine ⟨_, _, hr, ⟨hlen, .inr ⟨g, cap, _, rfl, hbg, setRow_heap w g cur _ e _ hg, hroom, hcm, ?_, ?_⟩⟩, ⟨⟨rfl, rfl, rfl, by simp, fun k _ hk => setRow_other w g k _ (fun e => hk (by simp [Value.ownBlock, e]))⟩, fun j hj => .inl hj⟩, by simp⟩
      · simp only [List.size_toArray, List.length_append, List.length_take, List.length_drop, Array.length_toList]
        omega
      · rw [htake, ← hlen]
        exact List.take_left
    · have holds : ∀ j u, xs[j]? = some u → w.cell? ((⟨g, 0, none⟩ : Addr).add j) = some u := hown.cells (g := g) rfl
      have hr := run_append_grow (P := P) w t ty e i z ht hi hz ⟨g, 0, none⟩ n cap xs hown.1 holds a m c news hl hnews (by omega) (by omega) (growslice_fits (by omega) hbytes)
      have hgr := grown cap (by omega) (Value.ownBlock (.slice (some ⟨g, 0, none⟩) n cap))
      exact ⟨_, _, hr, hgr.1, ⟨hgr.2, fresh _ _⟩, by simp⟩

theorem wpList_app {P : Program} {w : World} {ops : Array Oper} {rest : List Oper} {o : Oper} {a : Act} {Q : Exit → Act → World → Prop} {t e : TypeId} {z : Value} {size bytes : Nat}
    (ht : P.underlying t = some (.slice e)) (hinfo : (P.info? e).map (fun i => (i.zero, i.size, i.bytes)) = some (some z, size, bytes)) (hzs : z.cells.size = size) (hsz : 0 < size)
    (hgd : o.guard = none) (s x : Operand) (ho : o.op = .call { callee := .builtin .append, args := #[s, x], argTypes := #[t, t] })
    {B : Nat} {v xv : Value} {n m : Nat} {xs news : List Value} (hs : a.eval s = v) (hx : a.eval x = xv) (hown : w.ownsRow B e size v n xs) (hr : Rd w size xv m news)
    (h63 : n + m ≤ 140737488355328) (hbytes : (n + m) * bytes ≤ 140737488355328) (hB : B ≤ w.heap.size)
    (h : ∀ v' w', w'.ownsRow B e size v' (n + m) (xs ++ news) → Grew w w' v v' → (v' = .slice none 0 0 ↔ v = .slice none 0 0 ∧ m = 0) → wpList P ops Q rest (a.put o.dst v') w') : wpList P ops Q (o :: rest) a w := by
  refine wpList_plain hgd fun K hK => ?_
  obtain ⟨v', w', hr, h2, h3, h4⟩ := run_app (P := P) (w := w) t o.type ht hinfo hzs hsz hown hr h63 hbytes hB
  unfold Oper.wp execOp
  simp only [ho, resolve, invoke, builtin, Sem.run_bind, Sem.run_pure, Result.andThen_ok, List.map_toArray, List.map_cons, List.map_nil, hs, hx, hr]
  exact hK _ _ (h v' w' h2 h3 h4)

/-- Where v' is what an append on v left: its block is v's, or new. -/
theorem own_block {w' : World} {B : Nat} {e : TypeId} {size n : Nat} {v' : Value} {xs : List Value} (h : w'.ownsRow B e size v' n xs) : ∀ j, v'.ownBlock = some j → B ≤ j := fun j hj => (h.lt j hj).1

theorem string_of_bytes {P : Program} {w : World} {src dst e : TypeId} (hs : P.underlying src = some (.slice e)) (he : P.underlying e = some (.int .u8)) (hd : P.underlying dst = some .string) {v : Value} {l : List UInt8}
    (h : Rd w 1 v l.length (bv l)) : (convert src dst v).run P w = .ok (.string ⟨l.toArray⟩) w := by
  obtain ⟨hl, h1, ⟨rfl, h0⟩ | ⟨ad, c, rfl, hc, hcell⟩⟩ := h
  · have : l = [] := List.eq_nil_of_length_eq_zero h0
    subst this
    exact run_convert_bytes_nil w src e hs he 0 0 dst hd
  · have hlc : (loadCells ad l.length).run P w = .ok ((l.map fun b => (b.toNat : Int)).map (Value.int .u8)).toArray w := by
      have := run_loadCells_list (P := P) w ad (bv l) hcell
      rw [bv_length] at this
      rw [this]
      simp [bv]
    rw [run_convert_bytes_string w src dst e _ _ _ hs he hd, run_bytesToString w ad l.length c _ hlc, foldl_push_bytes]
    simp [ByteArray.empty, ByteArray.emptyWithCapacity, List.map_map, Function.comp_def]
    rfl

/-- What there was stays. -/
theorem Rd.keep {w w' : World} {size : Nat} {v : Value} {n : Nat} {xs : List Value} (h : Rd w size v n xs) (hb : Below w.heap.size w w') : Rd w' size v n xs := by
  obtain ⟨hl, h1, h2 | ⟨ad, c, hv, hc, hcell⟩⟩ := h
  · exact ⟨hl, h1, .inl h2⟩
  · exact ⟨hl, h1, .inr ⟨ad, c, hv, hc, fun j u hu => by
      have := hcell j u hu
      rw [← this]
      exact hb.cell (World.block_lt_of_cell? w _ this)⟩⟩
theorem Rd.keepB {w w' : World} {B size : Nat} {v : Value} {n : Nat} {xs : List Value} (h : Rd w size v n xs) (hb : Below B w w') (hB : w.heap.size ≤ B) : Rd w' size v n xs := h.keep (hb.mono hB)
theorem Rd.alloc {w : World} {size : Nat} {v : Value} {n : Nat} {xs : List Value} (h : Rd w size v n xs) (o : Obj) : Rd (w.alloc o) size v n xs := h.keep ((Below.refl _ _).alloc (Nat.le_refl _) o)
theorem Rd.drew {w : World} {size : Nat} {v : Value} {n : Nat} {xs : List Value} (h : Rd w size v n xs) : Rd w.drew size v n xs := h.keep (Below.refl _ _).drew

theorem Rd.at {w : World} {v : Value} {n : Nat} {xs : List Value} (h : Rd w 1 v n xs) (h0 : 0 < n) :
    ∃ b off c, v = .slice (some ⟨b, off, none⟩) n c ∧ n ≤ c ∧ ∀ j u, xs[j]? = some u → w.cell? ⟨b, off + j, none⟩ = some u := by
  obtain ⟨hl, h1, ⟨_, h2⟩ | ⟨ad, c, hv, hc, hcell⟩⟩ := h
  · omega
  · obtain ⟨b, off, spot⟩ := ad
    have h3 := hcell 0 xs[0] (by simp)
    have hspot : spot = none := by
      have := World.cell?_spot h3
      simpa [Addr.add] using this
    subst hspot
    refine ⟨b, off, c, hv, hc, fun j u hu => ?_⟩
    have := hcell j u hu
    rwa [Addr.add_lit] at this

theorem own_new (w : World) (e : TypeId) (size n B : Nat) (xs : List Value) (hx : xs.length = n * size) (hm : n ≤ 140737488355328) (hB : B ≤ w.heap.size) :
    (w.alloc (.cells xs.toArray e)).ownsRow B e size (.slice (some ⟨w.heap.size, 0, none⟩) n n) n xs :=
  ⟨hx, .inr ⟨w.heap.size, n, xs.toArray, rfl, hB, heap_alloc_new w _, Nat.le_refl _, by unfold maxLen; omega, by simpa using hx, by rw [← hx]; simp⟩⟩

/-- An owned row stands while blocks below are turned, or new ones come. -/
theorem own_keep {w w' : World} {B : Nat} {e : TypeId} {size : Nat} {v : Value} {n : Nat} {xs : List Value} (h : w.ownsRow B e size v n xs) (hb : Below w.heap.size w w') : w'.ownsRow B e size v n xs :=
  h.kept (row := none) ⟨hb.os, hb.tape, hb.output, hb.size, fun k hk _ => hb.block k hk⟩ (by cases v.ownBlock <;> simp)

theorem nk_zero : nk 0 = 0 := by decide
theorem nk_pos (n : Nat) (h0 : 0 < n) (h : n < 2 ^ 64) : nk n = nk (n / 256) + 1 := by
  by_cases h1 : 256 ≤ n
  · unfold nk; rw [Lib.bitLen_shift8 n h1 h]; omega
  · have h2 : n / 256 = 0 := by omega
    rw [h2, nk_zero]
    have h3 := Lib.bitLen_le n 8 (by omega) (by omega)
    have h4 := Lib.bitLen_half n (by omega) h
    unfold nk; omega
theorem be_pos (n : Nat) (h0 : 0 < n) (h : n < 2 ^ 64) : be (nk n) n = be (nk (n / 256)) (n / 256) ++ [UInt8.ofNat (n % 256)] := by
  rw [nk_pos n h0 h, be]
theorem own_base {w : World} {B B' : Nat} {e : TypeId} {size : Nat} {v : Value} {n : Nat} {xs : List Value} (h : w.ownsRow B e size v n xs) (hB : B' ≤ B) : w.ownsRow B' e size v n xs := by
  obtain ⟨h1, h2 | ⟨g, cap, cur, hv, hb, r⟩⟩ := h
  · exact ⟨h1, .inl h2⟩
  · exact ⟨h1, .inr ⟨g, cap, cur, hv, Nat.le_trans hB hb, r⟩⟩
theorem Rd.form {w : World} {size : Nat} {v : Value} {n : Nat} {xs : List Value} (h : Rd w size v n xs) : ∃ a c, v = .slice a n c := by
  obtain ⟨hl, h1, ⟨rfl, rfl⟩ | ⟨ad, c, hv, hc, hcell⟩⟩ := h
  · exact ⟨_, _, rfl⟩
  · exact ⟨_, _, hv⟩

/-- An owned row of at least one element: where it lies. -/
theorem own_at {w : World} {B : Nat} {e : TypeId} {size : Nat} {v : Value} {n : Nat} {xs : List Value} (h : w.ownsRow B e size v n xs) (h0 : 0 < n) :
    ∃ g cap, v = .slice (some ⟨g, 0, none⟩) n cap ∧ B ≤ g ∧ n ≤ cap ∧ cap ≤ maxLen ∧ g < w.heap.size := by
  obtain ⟨hl, h2 | ⟨g, cap, cur, hv, hb, hg, hc, hm, hs, ht⟩⟩ := h
  · omega
  · exact ⟨g, cap, hv, hb, hc, hm, (Array.getElem?_eq_some_iff.1 hg).1⟩

/-- The first elements of what reads. -/
theorem Rd.take {w : World} {a : Addr} {n c : Nat} {xs : List Value} (h : Rd w 1 (.slice (some a) n c) n xs) (k : Nat) (hk : k ≤ n) : Rd w 1 (.slice (some a) k c) k (xs.take k) := by
  obtain ⟨hl, h1, ⟨hv, h0⟩ | ⟨ad, c', hv, hc, hcell⟩⟩ := h
  · simp at hv
  · simp only [Value.slice.injEq, Option.some.injEq, true_and] at hv
    obtain ⟨rfl, rfl⟩ := hv
    refine ⟨by simp; omega, fun u hu => h1 u (List.mem_of_mem_take hu), .inr ⟨a, c, rfl, by omega, fun j u hu => hcell j u ?_⟩⟩
    have hj : j < k := by have := (List.getElem?_eq_some_iff.1 hu).1; simp at this; omega
    rwa [List.getElem?_take_of_lt hj] at hu

theorem Rd.bytes {w : World} {v : Value} {l : List UInt8} {k : Nat} (h : Rd w 1 v k ((bv l).take k)) (hk : k ≤ l.length) : Rd w 1 v (l.take k).length (bv (l.take k)) := by
  rw [List.length_take, Nat.min_eq_left hk]
  rwa [show bv (l.take k) = (bv l).take k by simp [bv]]
end Go.Proofs.Ytdociiogddihfaa
