/- A stable sort, in plain words: the order, parts of lists, blocks. No program is named here. -/
namespace Go.Proofs.Ytdociiogddihfaa

/-- Less by two keys. -/
def kl (k1 k2 : Nat → Int) (x y : Nat) : Bool := decide (k1 x < k1 y ∨ k1 x = k1 y ∧ k2 x < k2 y)
/-- Less by two keys, then by the number itself: no two are alike. -/
def tl (k1 k2 : Nat → Int) (x y : Nat) : Prop := k1 x < k1 y ∨ k1 x = k1 y ∧ (k2 x < k2 y ∨ k2 x = k2 y ∧ x < y)
variable {k1 k2 : Nat → Int}
theorem tl_trans {x y z : Nat} (h : tl k1 k2 x y) (h2 : tl k1 k2 y z) : tl k1 k2 x z := by unfold tl at *; omega
theorem tl_irrefl {x y : Nat} (h : tl k1 k2 x y) (h2 : tl k1 k2 y x) : False := by unfold tl at *; omega
theorem kl_tl {x y : Nat} (h : kl k1 k2 x y = true) : tl k1 k2 x y := by
  have := of_decide_eq_true h; unfold tl; omega
theorem tl_of_not {x y : Nat} (h : kl k1 k2 x y = false) (hxy : y < x) : tl k1 k2 y x := by
  have := of_decide_eq_false h; unfold tl; omega
/-- Sorted. -/
abbrev Srt (k1 k2 : Nat → Int) (l : List Nat) : Prop := l.Pairwise (tl k1 k2)

/-- Two that are sorted and hold the same are one. -/
theorem srt_unique {a b : List Nat} (ha : Srt k1 k2 a) (hb : Srt k1 k2 b) (h : a.Perm b) : a = b :=
  h.eq_of_pairwise (fun x y _ _ h1 h2 => (tl_irrefl h1 h2).elim) ha hb

/-- One put into its place. -/
theorem srt_put {a b : List Nat} {x : Nat} (h : Srt k1 k2 (a ++ b)) (h1 : ∀ s, a.getLast? = some s → tl k1 k2 s x) (h2 : ∀ s, b.head? = some s → tl k1 k2 x s) : Srt k1 k2 (a ++ x :: b) := by
  obtain ⟨ha, hb, hab⟩ := List.pairwise_append.1 h
  have hb1 : ∀ s ∈ b, tl k1 k2 x s := by
    cases b with
    | nil => simp
    | cons y b =>
      have hy := h2 y rfl
      intro s hs
      rcases List.mem_cons.1 hs with rfl | hs
      · exact hy
      · exact tl_trans hy (List.rel_of_pairwise_cons hb hs)
  have ha1 : ∀ s ∈ a, tl k1 k2 s x := by
    cases hl : a.getLast? with
    | none => have := List.getLast?_eq_none_iff.1 hl; subst this; simp
    | some y =>
      have hy := h1 y hl
      obtain ⟨a', rfl⟩ : ∃ a', a = a' ++ [y] := by
        obtain ⟨ys, hys⟩ := List.getLast?_eq_some_iff.1 hl
        exact ⟨ys, hys⟩
      intro s hs
      rcases List.mem_append.1 hs with hs | hs
      · exact tl_trans ((List.pairwise_append.1 ha).2.2 s hs y (by simp)) hy
      · simp at hs; subst hs; exact hy
  refine List.pairwise_append.2 ⟨ha, List.pairwise_cons.2 ⟨hb1, hb⟩, fun s hs t ht => ?_⟩
  rcases List.mem_cons.1 ht with rfl | ht
  · exact ha1 s hs
  · exact hab s hs t ht
/-- Two halves of two that are sorted, put side by side. -/
theorem srt_cross {l1 l2 r1 r2 s1 s2 : List Nat} (hl : Srt k1 k2 (l1 ++ l2)) (hr : Srt k1 k2 (r1 ++ r2)) (h1 : ∀ x y, l1.getLast? = some x → r2.head? = some y → tl k1 k2 x y) (h2 : ∀ x y, r1.getLast? = some x → l2.head? = some y → tl k1 k2 x y)
    (hs1 : Srt k1 k2 s1) (hs2 : Srt k1 k2 s2) (p1 : s1.Perm (l1 ++ r1)) (p2 : s2.Perm (l2 ++ r2)) : Srt k1 k2 (s1 ++ s2) := by
  obtain ⟨ha, hb, hab⟩ := List.pairwise_append.1 hl
  obtain ⟨hc, hd, hcd⟩ := List.pairwise_append.1 hr
  have key : ∀ {a b : List Nat}, Srt k1 k2 a → Srt k1 k2 b → (∀ x y, a.getLast? = some x → b.head? = some y → tl k1 k2 x y) → ∀ s ∈ a, ∀ t ∈ b, tl k1 k2 s t := by
    intro a b ha hb h s hs t ht
    cases b with
    | nil => simp at ht
    | cons y b =>
      cases hl : a.getLast? with
      | none => have := List.getLast?_eq_none_iff.1 hl; subst this; simp at hs
      | some x =>
        obtain ⟨a', rfl⟩ := List.getLast?_eq_some_iff.1 hl
        have hxy := h x y hl rfl
        have hsx : s = x ∨ tl k1 k2 s x := by
          rcases List.mem_append.1 hs with hs | hs
          · exact .inr ((List.pairwise_append.1 ha).2.2 s hs x (by simp))
          · simp at hs; exact .inl hs
        have hyt : t = y ∨ tl k1 k2 y t := by
          rcases List.mem_cons.1 ht with rfl | ht
          · exact .inl rfl
          · exact .inr (List.rel_of_pairwise_cons hb ht)
        rcases hsx with rfl | hsx <;> rcases hyt with rfl | hyt
        · exact hxy
        · exact tl_trans hxy hyt
        · exact tl_trans hsx hxy
        · exact tl_trans hsx (tl_trans hxy hyt)
  have k3 := key ha hd h1
  have k4 := key hc hb h2
  refine List.pairwise_append.2 ⟨hs1, hs2, fun s hs t ht => ?_⟩
  rcases List.mem_append.1 (p1.mem_iff.1 hs) with hs | hs <;> rcases List.mem_append.1 (p2.mem_iff.1 ht) with ht | ht
  · exact hab s hs t ht
  · exact k3 s hs t ht
  · exact k4 s hs t ht
  · exact hcd s hs t ht

/-- Two places of a list, turned. -/
def swapL (l : List Nat) (i j : Nat) : List Nat := (l.set i (l[j]?.getD 0)).set j (l[i]?.getD 0)
theorem swap_adj (a b : List Nat) (x y : Nat) : swapL (a ++ x :: y :: b) (a.length + 1) a.length = a ++ y :: x :: b := by
  unfold swapL
  have e1 : (a ++ x :: y :: b)[a.length]? = some x := by simp
  have e2 : (a ++ x :: y :: b)[a.length + 1]? = some y := by rw [List.getElem?_append_right (by omega)]; simp
  rw [e1, e2]
  simp [List.set_append]
theorem swap_adj' (a b : List Nat) (x y : Nat) : swapL (a ++ x :: y :: b) a.length (a.length + 1) = a ++ y :: x :: b := by
  unfold swapL
  have e1 : (a ++ x :: y :: b)[a.length]? = some x := by simp
  have e2 : (a ++ x :: y :: b)[a.length + 1]? = some y := by rw [List.getElem?_append_right (by omega)]; simp
  rw [e1, e2]
  simp [List.set_append]
theorem swap_far (a m b : List Nat) (x y : Nat) : swapL (a ++ x :: (m ++ y :: b)) a.length (a.length + 1 + m.length) = a ++ y :: (m ++ x :: b) := by
  unfold swapL
  have e1 : (a ++ x :: (m ++ y :: b))[a.length]? = some x := by simp
  have e2 : (a ++ x :: (m ++ y :: b))[a.length + 1 + m.length]? = some y := by
    rw [List.getElem?_append_right (by omega), show a.length + 1 + m.length - a.length = m.length + 1 by omega, List.getElem?_cons_succ, List.getElem?_append_right (by omega)]; simp
  rw [e1, e2]
  simp only [Option.getD_some]
  rw [List.set_append_right _ _ (by omega), List.set_append_right _ _ (by omega)]
  simp only [Nat.sub_self, List.set_cons_zero]
  rw [show a.length + 1 + m.length - a.length = m.length + 1 by omega, List.set_cons_succ, List.set_append_right _ _ (by omega)]
  simp

/-- A piece that is sorted, of the numbers from base on. -/
def Seg (k1 k2 : Nat → Int) (base : Nat) (s : List Nat) : Prop := Srt k1 k2 s ∧ s.Perm (List.range' base s.length)
theorem seg_nil (base : Nat) : Seg k1 k2 base [] := ⟨List.Pairwise.nil, List.Perm.refl _⟩
theorem Seg.mem {base : Nat} {s : List Nat} (h : Seg k1 k2 base s) (x : Nat) (hx : x ∈ s) : base ≤ x ∧ x < base + s.length := by
  have := h.2.mem_iff.1 hx
  simpa [List.mem_range'_1] using this
/-- Full pieces. -/
inductive FB (k1 k2 : Nat → Int) (bs : Nat) : List Nat → Prop
  | nil : FB k1 k2 bs []
  | snoc {d m : List Nat} : FB k1 k2 bs d → m.length = bs → Seg k1 k2 d.length m → FB k1 k2 bs (d ++ m)
/-- Pieces from base on, the last one may be short. -/
inductive RB (k1 k2 : Nat → Int) (bs : Nat) : Nat → List Nat → Prop
  | last {base : Nat} {s : List Nat} : s.length ≤ bs → Seg k1 k2 base s → RB k1 k2 bs base s
  | cons {base : Nat} {s t : List Nat} : s.length = bs → Seg k1 k2 base s → RB k1 k2 bs (base + bs) t → RB k1 k2 bs base (s ++ t)
theorem FB.rb {bs : Nat} {d : List Nat} (h : FB k1 k2 bs d) : ∀ {e : List Nat}, RB k1 k2 bs d.length e → RB k1 k2 bs 0 (d ++ e) := by
  induction h with
  | nil => intro e he; exact he
  | snoc hd hm hs ih =>
    intro e he
    rw [List.append_assoc]
    refine ih (.cons hm hs ?_)
    rwa [List.length_append, hm] at he
theorem RB.take {bs base : Nat} {e : List Nat} (h : RB k1 k2 bs base e) (hl : bs ≤ e.length) : ∃ s t, e = s ++ t ∧ s.length = bs ∧ Seg k1 k2 base s ∧ RB k1 k2 bs (base + bs) t := by
  cases h with
  | last h1 h2 => exact ⟨e, [], by simp, by omega, h2, .last (Nat.zero_le _) (seg_nil _)⟩
  | cons h1 h2 h3 => exact ⟨_, _, rfl, h1, h2, h3⟩
theorem RB.short {bs base : Nat} {e : List Nat} (h : RB k1 k2 bs base e) (hl : e.length ≤ bs) : Seg k1 k2 base e := by
  cases h with
  | last h1 h2 => exact h2
  | cons h1 h2 h3 =>
    rename_i s t
    have : t = [] := by
      cases t with
      | nil => rfl
      | cons x t => simp at hl; omega
    subst this
    simpa using h2
/-- Two pieces, merged. -/
theorem seg_merge {base : Nat} {l r m : List Nat} (hl : Seg k1 k2 base l) (hr : Seg k1 k2 (base + l.length) r) (hs : Srt k1 k2 m) (hp : m.Perm (l ++ r)) : Seg k1 k2 base m ∧ m.length = l.length + r.length := by
  have hlen : m.length = l.length + r.length := by rw [hp.length_eq, List.length_append]
  refine ⟨⟨hs, hp.trans ?_⟩, hlen⟩
  rw [hlen, ← List.range'_append_1]
  exact List.Perm.append hl.2 hr.2
theorem seg_below {base : Nat} {l r : List Nat} (hl : Seg k1 k2 base l) (hr : Seg k1 k2 (base + l.length) r) : ∀ x ∈ l, ∀ y ∈ r, x < y := by
  intro x hx y hy
  have := hl.mem x hx
  have := hr.mem y hy
  omega
theorem head_get (b : List Nat) : b.head? = b[0]? := by cases b <;> rfl
end Go.Proofs.Ytdociiogddihfaa
