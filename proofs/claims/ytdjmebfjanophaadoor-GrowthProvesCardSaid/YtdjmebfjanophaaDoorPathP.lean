/- Ways through a tree: sizes, climbs, proofs: a plain law; no program is named here. -/
import Derived.Test.YtdjmebfjanophaaDoorRootP
import Derived.Test.YtdjmebfjanophaaDoorOnesP
namespace Go.Proofs.YtdjmebfjanophaaDoor.Path
open Root Ones

/-- Up to where two ways are apart. -/
def lw : Nat → Nat → Nat → Nat
  | 0, _, _ => 0
  | f + 1, a, b => if a = b then 0 else 1 + lw f (a / 2) (b / 2)
/-- How long a proof is, of leaf a where b is the last one. -/
def sz : Nat → Nat → Nat → Nat
  | 0, _, _ => 0
  | f + 1, a, b => if a = b then pop (f + 1) a else 1 + sz f (a / 2) (b / 2)

theorem popLt : ∀ f n : Nat, n < 2 ^ f → pop (f + 1) n = pop f n
  | 0, n, h => by
    have : n = 0 := by omega
    subst this; rfl
  | f + 1, n, h => by
    have := popLt f (n / 2) (by rw [Nat.pow_succ] at h; omega)
    rw [pop, this, pop]
theorem popZ : ∀ f : Nat, pop f 0 = 0
  | 0 => rfl
  | f + 1 => by rw [pop, show (0 : Nat) / 2 = 0 from rfl, popZ f]
theorem popLe : ∀ f n : Nat, pop f n ≤ f
  | 0, _ => Nat.le_refl _
  | f + 1, n => by have := popLe f (n / 2); rw [pop]; omega
theorem popFull : ∀ (t f : Nat), t ≤ f → pop f (2 ^ t - 1) = t
  | 0, f, _ => popZ f
  | t + 1, 0, h => by omega
  | t + 1, f + 1, h => by
    have h1 := popFull t f (by omega)
    have h2 := Nat.pow_pos (n := t) (show 0 < 2 by omega)
    rw [pop, Nat.pow_succ, show (2 ^ t * 2 - 1) / 2 = 2 ^ t - 1 by omega, h1]
    omega
theorem popAdd : ∀ (t f m : Nat), t < f → m < 2 ^ t → pop f (2 ^ t + m) = pop f m + 1
  | 0, f + 1, m, _, h => by
    have : m = 0 := by omega
    subst this
    rw [pop, pop, show (2 ^ 0 + 0) / 2 = 0 from rfl, show (2 ^ 0 + 0) % 2 = 1 from rfl]
    omega
  | t + 1, f + 1, m, hf, h => by
    rw [Nat.pow_succ] at h
    have h1 := popAdd t f (m / 2) (by omega) (by omega)
    rw [pop, pop, Nat.pow_succ, show (2 ^ t * 2 + m) / 2 = 2 ^ t + m / 2 by omega, h1]
    omega

theorem lw_eq : ∀ (f a : Nat), lw f a a = 0
  | 0, _ => rfl
  | f + 1, a => by rw [lw, if_pos rfl]
theorem lw_xor : ∀ (f a b : Nat), Lib.bitLenAux f (a ^^^ b) = lw f a b
  | 0, _, _ => rfl
  | f + 1, a, b => by
    rw [Lib.bitLenAux, lw]
    by_cases h : a = b
    · rw [if_pos h, if_pos (by rw [h]; exact Nat.xor_self b)]
    · rw [if_neg h, if_neg (fun e => h (by
        have := congrArg (fun x => x ^^^ b) e
        simpa [Nat.xor_assoc] using this))]
      have : (a ^^^ b) / 2 = a / 2 ^^^ b / 2 := by
        have := Nat.xor_div_two_pow (a := a) (b := b) (n := 1)
        simpa using this
      rw [this, lw_xor f]
theorem sz_lw : ∀ (f a b : Nat), a < 2 ^ f → sz f a b = lw f a b + pop f (a / 2 ^ lw f a b)
  | 0, _, _, _ => rfl
  | f + 1, a, b, h => by
    rw [sz, lw]
    by_cases e : a = b
    · rw [if_pos e, if_pos e, Nat.pow_zero, Nat.div_one, Nat.zero_add]
    · rw [if_neg e, if_neg e, sz_lw f (a / 2) (b / 2) (by rw [Nat.pow_succ] at h; omega), Nat.add_comm 1 (lw f _ _), Nat.pow_succ, Nat.mul_comm, ← Nat.div_div_eq_div_mul]
      rw [popLt f]
      · omega
      · rw [Nat.pow_succ] at h
        exact Nat.lt_of_le_of_lt (Nat.div_le_self _ _) (by omega)
theorem sz_le : ∀ (f a b : Nat), sz f a b ≤ f
  | 0, _, _ => Nat.le_refl _
  | f + 1, a, b => by
    rw [sz]
    split
    · exact popLe _ _
    · have := sz_le f (a / 2) (b / 2); omega
theorem sz_eq (f a : Nat) : sz f a a = pop f a := by
  cases f with
  | zero => rfl
  | succ f => rw [sz, if_pos rfl]
theorem sz_full (f a t : Nat) (_hf : t + 1 ≤ f) (_ha : a < 2 ^ (t + 1)) (f' : Nat) (hf' : f = f' + 1) : sz f a (2 ^ (t + 1) - 1) = 1 + sz f' (a / 2) (2 ^ t - 1) := by
  subst hf'
  have h2 := Nat.pow_pos (n := t) (show 0 < 2 by omega)
  rw [sz]
  by_cases e : a = 2 ^ (t + 1) - 1
  · rw [if_pos e]
    subst e
    rw [popFull _ _ (by omega), Nat.pow_succ, show (2 ^ t * 2 - 1) / 2 = 2 ^ t - 1 by omega, sz_eq, popFull _ _ (by omega)]
    omega
  · rw [if_neg e, Nat.pow_succ, show (2 ^ t * 2 - 1) / 2 = 2 ^ t - 1 by omega]

section
variable {α : Type} (node : α → α → α) (e : α)
/-- A climb. -/
def cl : Nat → Nat → Nat → α → List α → α
  | 0, _, _, h, ps => ps.foldl (fun h p => node p h) h
  | _ + 1, _, _, h, [] => h
  | f + 1, a, b, h, p :: r => if a = b then (p :: r).foldl (fun h p => node p h) h else cl f (a / 2) (b / 2) (if a % 2 = 0 then node h p else node p h) r
theorem cl_nil (f a b : Nat) (h : α) : cl node f a b h [] = h := by
  cases f <;> rfl
theorem cl_eq (f a : Nat) (h : α) (ps : List α) : cl node f a a h ps = ps.foldl (fun h p => node p h) h := by
  cases f with
  | zero => rfl
  | succ f =>
    cases ps with
    | nil => rfl
    | cons p r => rw [cl, if_pos rfl]
theorem cl_ne (f a b : Nat) (h p : α) (r : List α) (hn : a ≠ b) : cl node (f + 1) a b h (p :: r) = cl node f (a / 2) (b / 2) (if a % 2 = 0 then node h p else node p h) r := by
  rw [cl, if_neg hn]

/-- The last hash of a proof, where the leaf lies to the left. -/
theorem sz_left : ∀ (t f a b : Nat), t + 1 ≤ f → a < 2 ^ t → 2 ^ t ≤ b → b < 2 ^ (t + 1) → sz f a b = sz f a (2 ^ t - 1) + 1
  | 0, f + 1, a, b, _, ha, hb, hb2 => by
    have : a = 0 := by omega
    have : b = 1 := by omega
    subst a b
    rw [sz, if_neg (by omega)]
    show 1 + sz f 0 0 = sz (f + 1) 0 0 + 1
    rw [sz_eq, popZ, sz_eq, popZ]
  | t + 1, f + 1, a, b, hf, ha, hb, hb2 => by
    have h1 := sz_left t f (a / 2) (b / 2) (by omega) (by rw [Nat.pow_succ] at ha; omega) (by rw [Nat.pow_succ] at hb; omega) (by rw [Nat.pow_succ] at hb2 ⊢; omega)
    rw [sz, if_neg (by omega), h1, sz_full (f + 1) a t (by omega) ha f rfl]
    omega
theorem cl_left : ∀ (t f a b : Nat) (h p : α) (q : List α), t + 1 ≤ f → a < 2 ^ t → 2 ^ t ≤ b → b < 2 ^ (t + 1) → q.length = sz f a (2 ^ t - 1) →
    cl node f a b h (q ++ [p]) = node (cl node f a (2 ^ t - 1) h q) p
  | 0, f + 1, a, b, h, p, q, _, ha, hb, hb2, hq => by
    have : a = 0 := by omega
    have : b = 1 := by omega
    subst a b
    rw [show 2 ^ 0 - 1 = 0 from rfl, sz_eq, popZ] at hq
    have : q = [] := List.eq_nil_of_length_eq_zero hq
    subst this
    rw [List.nil_append, cl_ne _ _ _ _ _ _ _ (by omega), cl_nil, cl_nil, if_pos rfl]
  | t + 1, f + 1, a, b, h, p, q, hf, ha, hb, hb2, hq => by
    rw [sz_full (f + 1) a t (by omega) ha f rfl] at hq
    match q, hq with
    | [], hq => simp at hq; omega
    | x :: q, hq =>
      have h2 := Nat.pow_pos (n := t) (show 0 < 2 by omega)
      have ih := cl_left t f (a / 2) (b / 2) (if a % 2 = 0 then node h x else node x h) p q (by omega) (by rw [Nat.pow_succ] at ha; omega) (by rw [Nat.pow_succ] at hb; omega) (by rw [Nat.pow_succ] at hb2 ⊢; omega) (by rw [List.length_cons] at hq; omega)
      rw [List.cons_append, cl_ne _ _ _ _ _ _ _ (by omega), ih]
      congr 1
      by_cases e : a = 2 ^ (t + 1) - 1
      · rw [e, cl_eq, Nat.pow_succ, show (2 ^ t * 2 - 1) / 2 = 2 ^ t - 1 by omega, cl_eq, if_neg (by omega)]
        rfl
      · rw [cl_ne _ _ _ _ _ _ _ e]
        congr 1
        rw [Nat.pow_succ]; omega
/-- The last hash of a proof, where the leaf lies to the right. -/
theorem sz_right : ∀ (t f a b : Nat), t + 1 ≤ f → a < 2 ^ t → b < 2 ^ t → sz f (2 ^ t + a) (2 ^ t + b) = sz f a b + 1
  | 0, f + 1, a, b, _, ha, hb => by
    have : a = 0 := by omega
    have : b = 0 := by omega
    subst a b
    rw [sz_eq, sz_eq, popAdd 0 _ _ (by omega) (by omega)]
  | t + 1, f + 1, a, b, hf, ha, hb => by
    by_cases e : a = b
    · rw [e, sz_eq, sz_eq, popAdd _ _ _ (by omega) hb]
    · have h1 := sz_right t f (a / 2) (b / 2) (by omega) (by rw [Nat.pow_succ] at ha; omega) (by rw [Nat.pow_succ] at hb; omega)
      rw [sz, if_neg (by omega), Nat.pow_succ, show (2 ^ t * 2 + a) / 2 = 2 ^ t + a / 2 by omega, show (2 ^ t * 2 + b) / 2 = 2 ^ t + b / 2 by omega, h1, sz, if_neg e]
      omega
theorem cl_right : ∀ (t f a b : Nat) (h p : α) (q : List α), t + 1 ≤ f → a < 2 ^ t → b < 2 ^ t → q.length = sz f a b →
    cl node f (2 ^ t + a) (2 ^ t + b) h (q ++ [p]) = node p (cl node f a b h q)
  | 0, f + 1, a, b, h, p, q, _, ha, hb, hq => by
    have : a = 0 := by omega
    have : b = 0 := by omega
    subst a b
    rw [cl_eq, cl_eq, List.foldl_append]
    rfl
  | t + 1, f + 1, a, b, h, p, q, hf, ha, hb, hq => by
    by_cases e : a = b
    · rw [e, cl_eq, cl_eq, List.foldl_append]
      rfl
    · rw [sz, if_neg e] at hq
      match q, hq with
      | [], hq => simp at hq; omega
      | x :: q, hq =>
        have ih := cl_right t f (a / 2) (b / 2) (if a % 2 = 0 then node h x else node x h) p q (by omega) (by rw [Nat.pow_succ] at ha; omega) (by rw [Nat.pow_succ] at hb; omega) (by rw [List.length_cons] at hq; omega)
        rw [List.cons_append, cl_ne _ _ _ _ _ _ _ (by omega), cl_ne _ _ _ _ _ _ _ e, ← ih]
        rw [Nat.pow_succ, show (2 ^ t * 2 + a) / 2 = 2 ^ t + a / 2 by omega, show (2 ^ t * 2 + b) / 2 = 2 ^ t + b / 2 by omega, show (2 ^ t * 2 + a) % 2 = a % 2 by omega]

/-- The climb by index. -/
def clI (low a : Nat) : Nat → α → List α → α
  | _, h, [] => h
  | k, h, p :: r => clI low a (k + 1) (if k < low ∧ a / 2 ^ k % 2 = 0 then node h p else node p h) r
theorem clI_zero (a : Nat) : ∀ (r : List α) (k : Nat) (h : α), clI node 0 a k h r = r.foldl (fun h p => node p h) h
  | [], _, _ => rfl
  | p :: r, k, h => by rw [clI, if_neg (by omega), clI_zero a r]; rfl
theorem clI_next (low a : Nat) : ∀ (r : List α) (k : Nat) (h : α), clI node (1 + low) a (k + 1) h r = clI node low (a / 2) k h r
  | [], _, _ => rfl
  | p :: r, k, h => by
    rw [clI, clI, clI_next low a r]
    have : (k + 1 < 1 + low ∧ a / 2 ^ (k + 1) % 2 = 0) ↔ (k < low ∧ a / 2 / 2 ^ k % 2 = 0) := by
      rw [Nat.div_div_eq_div_mul, Nat.pow_succ, Nat.mul_comm 2]
      constructor <;> rintro ⟨h1, h2⟩ <;> exact ⟨by omega, h2⟩
    simp only [this]
theorem clI_cl : ∀ (f a b : Nat) (h : α) (ps : List α), clI node (lw f a b) a 0 h ps = cl node f a b h ps
  | 0, a, b, h, ps => clI_zero node a ps 0 h
  | f + 1, a, b, h, ps => by
    by_cases e : a = b
    · rw [e, cl_eq, lw_eq, clI_zero]
    · match ps with
      | [] => rfl
      | p :: r =>
        rw [cl_ne _ _ _ _ _ _ _ e, ← clI_cl f, clI, lw, if_neg e, clI_next]
        simp only [Nat.pow_zero, Nat.div_one]
        have : (0 < 1 + lw f (a / 2) (b / 2) ∧ a % 2 = 0) ↔ (a % 2 = 0) := ⟨fun h => h.2, fun h => ⟨by omega, h⟩⟩
        simp only [this]
theorem clI_snoc (low a : Nat) : ∀ (r : List α) (k : Nat) (h p : α), clI node low a k h (r ++ [p]) = (if k + r.length < low ∧ a / 2 ^ (k + r.length) % 2 = 0 then node (clI node low a k h r) p else node p (clI node low a k h r))
  | [], k, h, p => rfl
  | x :: r, k, h, p => by
    rw [List.cons_append, clI, clI_snoc low a r, clI]
    rw [show k + 1 + r.length = k + (x :: r).length by rw [List.length_cons]; omega]

/-- One level up. -/
def lvl : List α → List α
  | x :: y :: r => node x y :: lvl r
  | l => l
theorem lvl_length : ∀ l : List α, (lvl node l).length = (l.length + 1) / 2
  | [] => by simp [lvl]
  | [x] => by simp [lvl]
  | x :: y :: r => by
    have := lvl_length r
    simp only [lvl, List.length_cons, this]; omega
theorem lvl_append : ∀ (a b : List α), a.length % 2 = 0 → lvl node (a ++ b) = lvl node a ++ lvl node b
  | [], _, _ => rfl
  | [x], _, h => by simp at h
  | x :: y :: r, b, h => by
    simp only [List.cons_append, lvl]
    rw [lvl_append r b (by simp only [List.length_cons] at h; omega)]
/-- A leaf's proof, level by level. -/
def prF : Nat → List α → Nat → List α
  | 0, _, _ => []
  | f + 1, row, i => if row.length ≤ 1 then [] else (row[i ^^^ 1]?).toList ++ prF f (lvl node row) (i / 2)
theorem prF_more : ∀ (f g : Nat) (row : List α) (i : Nat), row.length ≤ f + 1 → row.length ≤ g + 1 → prF node f row i = prF node g row i
  | 0, 0, _, _, _, _ => rfl
  | 0, g + 1, row, i, h, _ => by rw [prF, prF, if_pos (by omega)]
  | f + 1, 0, row, i, _, h => by rw [prF, prF, if_pos (by omega)]
  | f + 1, g + 1, row, i, h1, h2 => by
    rw [prF, prF]
    by_cases e : row.length ≤ 1
    · rw [if_pos e, if_pos e]
    · rw [if_neg e, if_neg e, prF_more f g _ _ (by rw [lvl_length]; omega) (by rw [lvl_length]; omega)]
def prL (row : List α) (i : Nat) : List α := prF node row.length row i
theorem prL_small (row : List α) (i : Nat) (h : row.length ≤ 1) : prL node row i = [] := by
  unfold prL
  cases row.length with
  | zero => rfl
  | succ n => rw [prF, if_pos h]
theorem prL_step (row : List α) (i : Nat) (h : 2 ≤ row.length) : prL node row i = (row[i ^^^ 1]?).toList ++ prL node (lvl node row) (i / 2) := by
  unfold prL
  obtain ⟨m, hm⟩ : ∃ m, row.length = m + 1 := ⟨row.length - 1, by omega⟩
  rw [hm, prF, if_neg (by omega), prF_more node m (lvl node row).length _ _ (by rw [lvl_length]; omega) (by omega)]

theorem top_half (n : Nat) (h : 3 ≤ n) : top n = 2 * top ((n + 1) / 2) := by
  unfold top
  have a1 := hi_le ((n + 1) / 2 - 1) (by omega)
  have a2 := hi_lt ((n + 1) / 2 - 1)
  have e := hi_unique (n - 1) (((n + 1) / 2 - 1).log2 + 1)
  unfold hi at a1 a2 e ⊢
  rw [e (by rw [Nat.pow_succ]; omega) (by rw [Nat.pow_succ, Nat.pow_succ]; omega), Nat.pow_succ]
  omega
theorem top_pos (n : Nat) : 0 < top n := hi_pos _
theorem top_lt (n : Nat) (h : 2 ≤ n) : top n < n := by
  have := hi_le (n - 1) (by omega)
  unfold top; omega
theorem top_le2 (n : Nat) : n ≤ 2 * top n := by
  have := hi_lt (n - 1)
  unfold top; omega
theorem lvl_take (l : List α) (k : Nat) (h : k % 2 = 0) : lvl node (l.take k) = (lvl node l).take (k / 2) ∨ l.length < k := by
  by_cases hl : l.length < k
  · exact .inr hl
  · have h1 : (l.take k).length = k := by rw [List.length_take]; omega
    have := lvl_append node (l.take k) (l.drop k) (by rw [h1]; exact h)
    rw [List.take_append_drop] at this
    rw [this]
    left
    rw [List.take_left' (by rw [lvl_length, h1]; omega)]
theorem lvl_drop (l : List α) (k : Nat) (h : k % 2 = 0) (hl : k ≤ l.length) : lvl node (l.drop k) = (lvl node l).drop (k / 2) := by
  have h1 : (l.take k).length = k := by rw [List.length_take]; omega
  have := lvl_append node (l.take k) (l.drop k) (by rw [h1]; exact h)
  rw [List.take_append_drop] at this
  rw [this, List.drop_left' (by rw [lvl_length, h1]; omega)]
/-- A level up has the same root. -/
theorem root_lvl : ∀ (m : Nat) (l : List α), l.length ≤ m → rootL node e (lvl node l) = rootL node e l
  | 0, l, h => by
    have : l = [] := List.eq_nil_of_length_eq_zero (by omega)
    subst this; rfl
  | m + 1, l, h => by
    by_cases h3 : 3 ≤ l.length
    · have ht := top_half l.length h3
      have hl := top_lt l.length (by omega)
      have hp := top_pos l.length
      rw [rootL_node node e l (by omega), rootL_node node e (lvl node l) (by rw [lvl_length]; omega), lvl_length]
      have e1 := (lvl_take node l (top l.length) (by omega)).resolve_right (by omega)
      have e2 := lvl_drop node l (top l.length) (by omega) (by omega)
      rw [show top l.length / 2 = top ((l.length + 1) / 2) by omega] at e1 e2
      rw [← e1, ← e2, root_lvl m _ (by rw [List.length_take]; omega), root_lvl m _ (by rw [List.length_drop]; omega)]
    · match l, h3 with
      | [], _ => rfl
      | [x], _ => rfl
      | [x, y], _ => rfl
      | x :: y :: z :: r, h3 => exact absurd (by simp) h3

theorem xor_one (i : Nat) : i ^^^ 1 = if i % 2 = 0 then i + 1 else i - 1 := by
  have h1 : (i ^^^ 1) / 2 = i / 2 := by
    have := Nat.xor_div_two_pow (a := i) (b := 1) (n := 1)
    simpa using this
  have h2 : (i ^^^ 1) % 2 = (i + 1) % 2 := by
    have := Nat.xor_mod_two_pow (a := i) (b := 1) (n := 1)
    rw [Nat.pow_one] at this
    rw [this]
    rcases Nat.mod_two_eq_zero_or_one i with e | e <;> rw [e, Nat.add_mod, e] <;> rfl
  split <;> omega
/-- The proof as the words say it: by the greatest power of two. -/
theorem pr_split : ∀ (m : Nat) (l : List α) (i : Nat), l.length ≤ m → 2 ≤ l.length → i < l.length →
    prL node l i = if i < top l.length then prL node (l.take (top l.length)) i ++ [rootL node e (l.drop (top l.length))] else prL node (l.drop (top l.length)) (i - top l.length) ++ [rootL node e (l.take (top l.length))]
  | 0, l, i, h, h2, _ => by omega
  | m + 1, l, i, h, h2, hi => by
    by_cases h3 : 3 ≤ l.length
    · have ht := top_half l.length h3
      have hl := top_lt l.length (by omega)
      have hp := top_pos ((l.length + 1) / 2)
      have e1 := (lvl_take node l (top l.length) (by omega)).resolve_right (by omega)
      have e2 := lvl_drop node l (top l.length) (by omega) (by omega)
      have hll := lvl_length node l
      rw [show top l.length / 2 = top ((l.length + 1) / 2) by omega] at e1 e2
      have ih := pr_split m (lvl node l) (i / 2) (by omega) (by omega) (by omega)
      rw [hll, ← e1, ← e2, root_lvl node e _ _ (Nat.le_refl _), root_lvl node e _ _ (Nat.le_refl _)] at ih
      rw [prL_step node l i h2, ih]
      have hx := xor_one i
      generalize top l.length = k at *
      generalize top ((l.length + 1) / 2) = k2 at *
      by_cases hik : i < k
      · rw [if_pos hik, if_pos (by omega), prL_step node (l.take k) i (by rw [List.length_take]; omega), ← List.append_assoc]
        congr 3
        rw [List.getElem?_take_of_lt]
        rw [hx]; split <;> omega
      · rw [if_neg hik, if_neg (by omega)]
        have hix : (i ^^^ 1) = k + ((i - k) ^^^ 1) := by
          rw [hx, xor_one (i - k)]
          split <;> split <;> omega
        have hg : l[i ^^^ 1]? = (l.drop k)[(i - k) ^^^ 1]? := by rw [List.getElem?_drop, hix]
        rw [hg]
        by_cases h1 : 2 ≤ (l.drop k).length
        · rw [prL_step node (l.drop k) (i - k) h1, ← List.append_assoc, show i / 2 - k2 = (i - k) / 2 by omega]
        · have hd : (l.drop k).length = l.length - k := List.length_drop
          have h0 : i - k = 0 := by omega
          rw [h0, prL_small node (l.drop k) 0 (by omega), prL_small node (lvl node (l.drop k)) _ (by rw [lvl_length]; omega), List.getElem?_eq_none (by show _ ≤ 0 ^^^ 1; rw [show (0 ^^^ 1) = 1 from rfl]; omega)]
          rfl
    · match l, h2, h3, hi with
      | [x, y], _, _, hi =>
        match i, hi with
        | 0, _ => rfl
        | 1, _ => rfl
      | x :: y :: z :: r, _, h3, _ => exact absurd (by simp) h3
/-- How long a proof is. -/
theorem pr_length : ∀ (m : Nat) (f : Nat) (l : List α) (i : Nat), l.length ≤ m → i < l.length → l.length ≤ 2 ^ f → (prL node l i).length = sz f i (l.length - 1)
  | 0, f, l, i, h, h2, _ => by omega
  | m + 1, f, l, i, h, hi, hf => by
    by_cases h2 : 2 ≤ l.length
    · have hl := top_lt l.length h2
      have hp := top_pos l.length
      have hle2 := top_le2 l.length
      obtain ⟨t, ht⟩ : ∃ t, top l.length = 2 ^ t := ⟨_, rfl⟩
      have htf : t + 1 ≤ f := by
        apply Nat.lt_of_not_le
        intro hc
        have := Nat.pow_le_pow_right (show 0 < 2 by omega) hc
        omega
      by_cases hil : i < top l.length
      · have hs := sz_left t f i (l.length - 1) htf (by omega) (by omega) (by rw [Nat.pow_succ]; omega)
        have ih := pr_length m f (l.take (top l.length)) i (by rw [List.length_take]; omega) (by rw [List.length_take]; omega) (by rw [List.length_take]; omega)
        rw [pr_split node (prL node l i |>.headD (l[i]'hi)) _ l i (Nat.le_refl _) h2 hi, if_pos hil, List.length_append, ih, hs, List.length_take, ← ht, Nat.min_eq_left (by omega)]
        rfl
      · have hs := sz_right t f (i - 2 ^ t) (l.length - 1 - 2 ^ t) htf (by omega) (by omega)
        rw [show 2 ^ t + (i - 2 ^ t) = i by omega, show 2 ^ t + (l.length - 1 - 2 ^ t) = l.length - 1 by omega] at hs
        have ih := pr_length m f (l.drop (top l.length)) (i - top l.length) (by rw [List.length_drop]; omega) (by rw [List.length_drop]; omega) (by rw [List.length_drop]; omega)
        rw [pr_split node (prL node l i |>.headD (l[i]'hi)) _ l i (Nat.le_refl _) h2 hi, if_neg hil, List.length_append, ih, hs, List.length_drop, ht, show l.length - 2 ^ t - 1 = l.length - 1 - 2 ^ t by omega]
        rfl
    · rw [prL_small node l i (by omega), show i = 0 by omega, show l.length - 1 = 0 by omega, sz_eq, popZ]
      rfl
/-- A proof leads to the root. -/
theorem pr_root : ∀ (m : Nat) (f : Nat) (l : List α) (i : Nat) (x : α), l.length ≤ m → l[i]? = some x → l.length ≤ 2 ^ f → cl node f i (l.length - 1) x (prL node l i) = rootL node e l
  | 0, f, l, i, x, h, hx, _ => by
    have := (List.getElem?_eq_some_iff.1 hx).1
    omega
  | m + 1, f, l, i, x, h, hx, hf => by
    have hi := (List.getElem?_eq_some_iff.1 hx).1
    by_cases h2 : 2 ≤ l.length
    · have hl := top_lt l.length h2
      have hp := top_pos l.length
      have hle2 := top_le2 l.length
      obtain ⟨t, ht⟩ : ∃ t, top l.length = 2 ^ t := ⟨_, rfl⟩
      have htf : t + 1 ≤ f := by
        apply Nat.lt_of_not_le
        intro hc
        have := Nat.pow_le_pow_right (show 0 < 2 by omega) hc
        omega
      rw [pr_split node e _ l i (Nat.le_refl _) h2 hi, rootL_node node e l h2]
      by_cases hil : i < top l.length
      · rw [if_pos hil]
        have htl : (l.take (top l.length)).length = 2 ^ t := by rw [List.length_take]; omega
        have ih := pr_root m f (l.take (top l.length)) i x (by omega) (by rw [List.getElem?_take_of_lt hil]; exact hx) (by omega)
        have hlen := pr_length node m f (l.take (top l.length)) i (by omega) (by omega) (by omega)
        rw [htl] at ih hlen
        rw [cl_left node t f i (l.length - 1) x _ _ htf (by omega) (by omega) (by rw [Nat.pow_succ]; omega) hlen, ih]
      · rw [if_neg hil]
        have hdl : (l.drop (top l.length)).length = l.length - 2 ^ t := by rw [List.length_drop]; omega
        have ih := pr_root m f (l.drop (top l.length)) (i - top l.length) x (by omega) (by rw [List.getElem?_drop, show top l.length + (i - top l.length) = i by omega]; exact hx) (by omega)
        have hlen := pr_length node m f (l.drop (top l.length)) (i - top l.length) (by omega) (by omega) (by omega)
        rw [hdl] at ih hlen
        have := cl_right node t f (i - top l.length) (l.length - 2 ^ t - 1) x (rootL node e (l.take (top l.length))) _ htf (by omega) (by omega) hlen
        rw [ih, show 2 ^ t + (i - top l.length) = i by omega, show 2 ^ t + (l.length - 2 ^ t - 1) = l.length - 1 by omega] at this
        exact this
    · have hl1 : l.length = 1 := by omega
      match l, hl1 with
      | [y], _ =>
        have : i = 0 := by simp at hi; omega
        subst this
        rw [prL_small node [y] 0 (by simp)]
        simp only [List.getElem?_cons_zero, Option.some.injEq] at hx
        subst hx
        rw [show [y].length - 1 = 0 from rfl, cl_eq]
        rfl
end
end Go.Proofs.YtdjmebfjanophaaDoor.Path
