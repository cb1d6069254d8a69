/- Appends in place; levels of a tree; xor with one. -/
import Derived.Test.YtfibhmgjkooemaaDoorLeafRA
import Derived.Test.YtfibhmgjkooemaaDoorGrowthP
namespace Go.Proofs.YtfibhmgjkooemaaDoor
open Go.RowKit Sha Root Path

theorem run_app_in {P : Program} {w : World} (t ty : TypeId) {e : TypeId} {z : Value} {size bytes : Nat}
    (ht : P.underlying t = some (.slice e)) (hinfo : (P.info? e).map (fun i => (i.zero, i.size, i.bytes)) = some (some z, size, bytes))
    {B g n M cap m : Nat} {xv : Value} {XS news : List Value} (hown : w.ownsRow B e size (.slice (some ⟨g, 0, none⟩) M cap) M XS) (hr : Rd w size xv m news) (hm : 0 < m) (hroom : n + m ≤ M) :
    ∃ w', (Builtin.append_ #[t, t] ty #[.slice (some ⟨g, 0, none⟩) n cap, xv]).run P w = .ok (.slice (some ⟨g, 0, none⟩) (n + m) cap) w' ∧
      w'.ownsRow B e size (.slice (some ⟨g, 0, none⟩) M cap) M (XS.take (n * size) ++ news ++ XS.drop ((n + m) * size)) ∧ w.grownBy w' (some g) := by
  obtain ⟨i, hi, hz, hsize, hby⟩ := info_parts hinfo
  subst hsize
  obtain ⟨hl, h1, ⟨rfl, rfl⟩ | ⟨a, c, rfl, hcap, hnews⟩⟩ := hr
  · omega
  obtain ⟨hXl, ⟨hv, _⟩ | ⟨g', cap', cur, hv, hb, hg, hc, hcm, hcs, htk⟩⟩ := hown
  · simp at hv
  · simp only [Value.slice.injEq, Option.some.injEq, Addr.mk.injEq, and_true, true_and] at hv
    obtain ⟨rfl, rfl⟩ := hv
    have hle : (n + m) * i.size ≤ M * i.size := Nat.mul_le_mul_right _ hroom
    have hlc : M * i.size ≤ cap * i.size := Nat.mul_le_mul_right _ hc
    have hnm : (n + m) * i.size = n * i.size + m * i.size := Nat.add_mul _ _ _
    have hr := run_append_room (P := P) w t ty e i ht hi g n cap cur hg a m c news hl hnews h1 (by omega) (by omega)
    have hcl : cur.toList.length = cap * i.size := by simpa using hcs
    refine ⟨_, hr, ⟨?_, .inr ⟨g, cap, _, rfl, hb, setRow_heap w g cur _ e _ hg, hc, hcm, ?_, ?_⟩⟩, grown_setRow w g _⟩
    · simp only [List.length_append, List.length_take, List.length_drop, hXl, hl]; omega
    · simp only [List.size_toArray, List.length_append, List.length_take, List.length_drop, hcl, hl]; omega
    · subst htk
      have e1 : (cur.toList.take (M * i.size)).take (n * i.size) = cur.toList.take (n * i.size) := by rw [List.take_take, Nat.min_eq_left (by omega)]
      have e2 : (cur.toList.take (n * i.size) ++ news).length = (n + m) * i.size := by rw [List.length_append, List.length_take, hcl, hl]; omega
      show ((cur.toList.take (n * i.size) ++ news ++ cur.toList.drop (n * i.size + news.length)).toArray.toList).take (M * i.size) = _
      rw [List.toList_toArray, List.take_append, e2, e1, List.take_of_length_le (by omega), hl, ← hnm, List.drop_take]
theorem wpList_app_in {P : Program} {w : World} {ops : Array Oper} {rest : List Oper} {o : Oper} {a : Act} {Q : Exit → Act → World → Prop} {t e : TypeId} {z : Value} {size bytes : Nat}
    (ht : P.underlying t = some (.slice e)) (hinfo : (P.info? e).map (fun i => (i.zero, i.size, i.bytes)) = some (some z, size, bytes))
    (hgd : o.guard = none) (s x : Operand) (ho : o.op = .call { callee := .builtin .append, args := #[s, x], argTypes := #[t, t] })
    {B g n M cap m : Nat} {xv : Value} {XS news : List Value} (hs : a.eval s = .slice (some ⟨g, 0, none⟩) n cap) (hx : a.eval x = xv) (hown : w.ownsRow B e size (.slice (some ⟨g, 0, none⟩) M cap) M XS) (hr : Rd w size xv m news) (hm : 0 < m) (hroom : n + m ≤ M)
    (h : ∀ w', w'.ownsRow B e size (.slice (some ⟨g, 0, none⟩) M cap) M (XS.take (n * size) ++ news ++ XS.drop ((n + m) * size)) → w.grownBy w' (some g) → wpList P ops Q rest (a.put o.dst (.slice (some ⟨g, 0, none⟩) (n + m) cap)) w') : wpList P ops Q (o :: rest) a w := by
  refine wpList_plain hgd fun K hK => ?_
  obtain ⟨w', hr, h2, h3⟩ := run_app_in (P := P) (w := w) t o.type ht hinfo hown hr hm hroom
  unfold Oper.wp execOp
  simp only [ho, resolve, invoke, builtin, Sem.run_bind, Sem.run_pure, Result.andThen_ok, List.map_toArray, List.map_cons, List.map_nil, hs, hx, hr]
  exact hK _ _ (h w' h2 h3)
theorem gives_app_in {P : Program} {r : Nat → Value} {w : World} {o : Oper} {R : Value → World → Prop} {t e : TypeId} {z : Value} {size bytes : Nat}
    (ht : P.underlying t = some (.slice e)) (hinfo : (P.info? e).map (fun i => (i.zero, i.size, i.bytes)) = some (some z, size, bytes))
    (s x : Operand) (ho : o.op = .call { callee := .builtin .append, args := #[s, x], argTypes := #[t, t] })
    {B g n M cap m : Nat} {xv : Value} {XS news : List Value} (hs : rd r s = .slice (some ⟨g, 0, none⟩) n cap) (hx : rd r x = xv) (hown : w.ownsRow B e size (.slice (some ⟨g, 0, none⟩) M cap) M XS) (hr : Rd w size xv m news) (hm : 0 < m) (hroom : n + m ≤ M)
    (h : ∀ w', w'.ownsRow B e size (.slice (some ⟨g, 0, none⟩) M cap) M (XS.take (n * size) ++ news ++ XS.drop ((n + m) * size)) → w.grownBy w' (some g) → R (.slice (some ⟨g, 0, none⟩) (n + m) cap) w') : gives P r o w R := by
  obtain ⟨w', hr, h2, h3⟩ := run_app_in (P := P) (w := w) t o.type ht hinfo hown hr hm hroom
  unfold gives execOp
  simp only [ho, resolve, invoke, builtin, Sem.run_bind, Sem.run_pure, Result.andThen_ok, List.map_toArray, List.map_cons, List.map_nil, hs, hx, hr]
  exact h w' h2 h3
theorem gives_build1p {P : Program} {r : Nat → Value} {o : Oper} {w : World} {R : Value → World → Prop} (t e : TypeId) (x : Operand) (ho : o.op = .buildSlice t 1 #[(0, x)])
    (cs : List Value) (hx : rd r x = .agg cs.toArray) (hu : P.underlying t = some (.slice e)) {z : Value} {size bytes : Nat} (hinfo : (P.info? e).map (fun i => (i.zero, i.size, i.bytes)) = some (some z, size, bytes)) (hs : cs.length = size) (h0 : 0 < size) (h24 : size ≤ 16777216)
    (h : R (.slice (some ⟨w.heap.size, 0, none⟩) 1 1) (w.alloc (.cells cs.toArray e))) : gives P r o w R := by
  obtain ⟨i, hi, hz, hsize, _⟩ := info_parts hinfo
  have hrun := run_buildSlice (P := P) w t e 1 #[(0, .agg cs.toArray)] cs.toArray i z hu hi hz (by rw [hsize]; omega) (by rw [hsize]; omega) (fill_one cs _ (by simp [hsize, hs]) _ (by rw [hsize, hs]))
  have e1 : Array.map (fun q : Nat × Operand => match q with | (i, q) => (i, rd r q)) #[(0, x)] = #[(0, Value.agg cs.toArray)] := by simp [hx]
  unfold gives execOp
  simp only [ho, Sem.run_bind, e1, hrun, Result.andThen_ok]
  exact h
/-- An operation writes block g; all others leave alone what there was. -/
def kSt (q g : Nat) (j : Nat) (w w' : World) : Prop := if j = q then w.grownBy w' (some g) else Below w.heap.size w w'
theorem kSt_refl (q g j : Nat) (w : World) : kSt q g j w w := by
  unfold kSt; split
  · exact World.grownBy.refl _ _
  · exact Below.refl _ _
theorem kSt_G {q g j : Nat} {w0 w w' : World} (h : w0.grownBy w (some g)) (k : kSt q g j w w') : w0.grownBy w' (some g) := by
  unfold kSt at k; split at k
  · exact grown_trans h k (fun _ hj => .inl hj)
  · exact grown_trans h (below_grown k none) (fun _ hj => by cases hj)
theorem kSt_below {q g j : Nat} {w w' : World} (hj : j ≠ q) (h : kSt q g j w w') : Below w.heap.size w w' := by
  unfold kSt at h; rwa [if_neg hj] at h
theorem kSt_at {q g : Nat} {w w' : World} (h : w.grownBy w' (some g)) : kSt q g q w w' := by
  unfold kSt; rwa [if_pos rfl]
theorem kSt_of {q g j : Nat} {w w' : World} (hj : (j == q) = false) (h : Below w.heap.size w w') : kSt q g j w w' := by
  unfold kSt; rwa [if_neg (by simpa using hj)]

theorem xor1_i64 (a : Nat) (ha : a < 4611686018427387904) : bits .xor .i64 (a : Int) 1 = ((a ^^^ 1 : Nat) : Int) := by
  have hx : a ^^^ 1 < 2 ^ 62 := Nat.xor_lt_two_pow (by omega) (by omega)
  have h1 : (BitVec.ofInt 64 (a : Int)).toNat = a := by
    rw [BitVec.ofInt_natCast, BitVec.toNat_ofNat]; exact Nat.mod_eq_of_lt (by omega)
  have h2 : (BitVec.ofInt 64 (1 : Int)).toNat = 1 := by decide
  show IntKind.i64.wrap ((BitVec.ofInt 64 (a : Int) ^^^ BitVec.ofInt 64 (1 : Int)).toNat : Int) = _
  rw [BitVec.toNat_xor, h1, h2]
  exact IntWalk.i64_in _ (by omega)
theorem lvl_get {α : Type} (node : α → α → α) : ∀ (l : List α) (j : Nat) (x : α), l[2 * j]? = some x → (lvl node l)[j]? = some (match l[2 * j + 1]? with | some y => node x y | none => x)
  | [], j, x, h => by simp at h
  | [a], 0, x, h => by simp at h; subst h; rfl
  | [a], j + 1, x, h => by simp at h
  | a :: b :: r, 0, x, h => by simp at h; subst h; rfl
  | a :: b :: r, j + 1, x, h => by
    have := lvl_get node r j x (by simpa [Nat.mul_add] using h)
    simp only [lvl, List.getElem?_cons_succ]
    rw [this, show 2 * (j + 1) = (2 * j + 1) + 1 by omega, List.getElem?_cons_succ]
/-- A row on whose first places the next level stands. -/
def mix {α : Type} (node : α → α → α) (row : List α) (j : Nat) : List α := (lvl node row).take j ++ row.drop j
theorem mix_length {α : Type} (node : α → α → α) (row : List α) (j : Nat) (hj : j ≤ (row.length + 1) / 2) : (mix node row j).length = row.length := by
  unfold mix; rw [List.length_append, List.length_take, List.length_drop, lvl_length]; omega
theorem mix_get {α : Type} (node : α → α → α) (row : List α) (j k : Nat) (hj : j ≤ (row.length + 1) / 2) (hk : j ≤ k) : (mix node row j)[k]? = row[k]? := by
  have hl : ((lvl node row).take j).length = j := by rw [List.length_take, lvl_length]; omega
  unfold mix; rw [List.getElem?_append_right (by omega), hl, List.getElem?_drop, show j + (k - j) = k by omega]
theorem mix_next {α : Type} (node : α → α → α) (row : List α) (j : Nat) (x : α) (_hj : j < row.length) (hx : (lvl node row)[j]? = some x) : (mix node row j).take j ++ [x] ++ (mix node row j).drop (j + 1) = mix node row (j + 1) := by
  have hjl := (List.getElem?_eq_some_iff.1 hx).1
  have hl : ((lvl node row).take j).length = j := by rw [List.length_take]; omega
  unfold mix
  rw [List.take_left' hl, List.drop_append, hl, List.drop_of_length_le (by omega), List.nil_append, List.drop_drop, show j + 1 - j = 1 by omega, List.take_add_one, hx]
  rfl
theorem mix_all {α : Type} (node : α → α → α) (row : List α) : (mix node row ((row.length + 1) / 2)).take ((row.length + 1) / 2) = lvl node row := by
  have hl : ((lvl node row).take ((row.length + 1) / 2)).length = (row.length + 1) / 2 := by rw [List.length_take, lvl_length]; omega
  unfold mix
  rw [List.take_left' hl, List.take_of_length_le (by rw [lvl_length]; omega)]
theorem lvl_32 (n : Int) : ∀ ps : List (List UInt8), (∀ p ∈ ps, p.length = 32) → ∀ p ∈ lvl (nodeH n) ps, p.length = 32
  | [], h, p, hp => h p hp
  | [a], h, p, hp => h p hp
  | a :: b :: r, h, p, hp => by
    simp only [lvl, List.mem_cons] at hp
    rcases hp with rfl | hp
    · exact nodeH_length _ _ _
    · exact lvl_32 n r (fun q hq => h q (by simp [hq])) p hp
theorem mix_32 (n : Int) (row : List (List UInt8)) (j : Nat) (h : ∀ p ∈ row, p.length = 32) : ∀ p ∈ mix (nodeH n) row j, p.length = 32 := fun p hp => by
  rcases List.mem_append.1 hp with hp | hp
  · exact lvl_32 n row h p (List.mem_of_mem_take hp)
  · exact h p (List.mem_of_mem_drop hp)
theorem prF_32 (n : Int) : ∀ (f : Nat) (row : List (List UInt8)) (i : Nat), (∀ p ∈ row, p.length = 32) → ∀ p ∈ prF (nodeH n) f row i, p.length = 32
  | 0, _, _, _, p, hp => by simp [prF] at hp
  | f + 1, row, i, h, p, hp => by
    rw [prF] at hp
    split at hp
    · simp at hp
    · rcases List.mem_append.1 hp with hp | hp
      · exact h p (List.mem_of_getElem? (Option.mem_toList.1 hp))
      · exact prF_32 n f _ _ (lvl_32 n row h) p hp
theorem prL_32 (n : Int) (row : List (List UInt8)) (i : Nat) (h : ∀ p ∈ row, p.length = 32) : ∀ p ∈ prL (nodeH n) row i, p.length = 32 := prF_32 n _ row i h
end Go.Proofs.YtfibhmgjkooemaaDoor
