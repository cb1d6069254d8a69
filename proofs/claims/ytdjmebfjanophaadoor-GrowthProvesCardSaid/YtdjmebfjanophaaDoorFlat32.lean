/- Rows of hashes as cells: plain words. -/
import Derived.Test.YtdjmebfjanophaaDoorLeaf
namespace Go.Proofs.YtdjmebfjanophaaDoor
open Go.RowKit Sha

theorem Rd.atN {w : World} {size : Nat} {v : Value} {n : Nat} {xs : List Value} (h : Rd w size v n xs) (h0 : 0 < n) (hs : 0 < size) :
    ∃ b off c, v = .slice (some ⟨b, off, none⟩) n c ∧ n ≤ c ∧ ∀ j u, xs[j]? = some u → w.cell? ⟨b, off + j, none⟩ = some u := by
  obtain ⟨hl, h1, ⟨_, h2⟩ | ⟨ad, c, hv, hc, hcell⟩⟩ := h
  · omega
  · obtain ⟨b, off, spot⟩ := ad
    have hpos : 0 < xs.length := by rw [hl]; exact Nat.mul_pos h0 hs
    have h3 := hcell 0 xs[0] (by simp)
    have hspot : spot = none := by
      have := World.cell?_spot h3
      simpa [Addr.add] using this
    subst hspot
    refine ⟨b, off, c, hv, hc, fun j u hu => ?_⟩
    have := hcell j u hu
    rwa [Addr.add_lit] at this
/-- Cells set one by one. -/
def setsL : List Value → Nat → List Value → List Value
  | xs, _, [] => xs
  | xs, o, v :: r => setsL (xs.set o v) (o + 1) r
theorem setsL_mid : ∀ (cs ys A C : List Value), cs.length = ys.length → setsL (A ++ (ys ++ C)) A.length cs = A ++ (cs ++ C)
  | [], [], A, C, _ => rfl
  | [], _ :: _, _, _, h => by simp at h
  | _ :: _, [], _, _, h => by simp at h
  | c :: cs, y :: ys, A, C, h => by
    have e : (A ++ (y :: ys ++ C)).set A.length c = (A ++ [c]) ++ (ys ++ C) := by
      rw [List.set_append_right _ _ (Nat.le_refl _), Nat.sub_self]; simp
    have := setsL_mid cs ys (A ++ [c]) C (by simpa using h)
    rw [List.length_append, List.length_singleton] at this
    show setsL ((A ++ (y :: ys ++ C)).set A.length c) (A.length + 1) cs = _
    rw [e, this]; simp
theorem setsL_flat (ps : List (List UInt8)) (k : Nat) (x : List UInt8) (hk : k < ps.length) (h32 : ∀ p ∈ ps, p.length = 32) (hx : x.length = 32) : setsL (ps.flatMap bv) (k * 32) (bv x) = (ps.set k x).flatMap bv := by
  have e : ps = ps.take k ++ (ps[k] :: ps.drop (k + 1)) := by rw [List.getElem_cons_drop, List.take_append_drop]
  have e2 : ps.set k x = ps.take k ++ (x :: ps.drop (k + 1)) := by rw [List.set_eq_take_append_cons_drop, if_pos hk]
  have hl : ((ps.take k).flatMap bv).length = k * 32 := by
    have : ∀ l : List (List UInt8), (∀ p ∈ l, p.length = 32) → (l.flatMap bv).length = l.length * 32 := by
      intro l
      induction l with
      | nil => intro _; rfl
      | cons a l ih => intro h; rw [List.flatMap_cons, List.length_append, bv_length, h a (by simp), ih (fun p hp => h p (by simp [hp])), List.length_cons]; omega
    rw [this _ (fun p hp => h32 p (List.mem_of_mem_take hp)), List.length_take]; omega
  rw [e2]
  conv => lhs; rw [e]
  rw [List.flatMap_append, List.flatMap_cons, List.flatMap_append, List.flatMap_cons, ← hl]
  exact setsL_mid _ _ _ _ (by rw [bv_length, bv_length, hx, h32 _ (List.getElem_mem hk)])
theorem flat32 (ps : List (List UInt8)) (h : ∀ p ∈ ps, p.length = 32) : (ps.flatMap bv).length = ps.length * 32 := by
  induction ps with
  | nil => rfl
  | cons a l ih => rw [List.flatMap_cons, List.length_append, bv_length, h a (by simp), ih (fun p hp => h p (by simp [hp])), List.length_cons]; omega
theorem flat_take32 : ∀ (ps : List (List UInt8)) (k : Nat), (∀ p ∈ ps, p.length = 32) → (ps.take k).flatMap bv = (ps.flatMap bv).take (k * 32)
  | [], k, _ => by simp
  | a :: l, 0, _ => by simp
  | a :: l, k + 1, h => by
    rw [List.take_succ_cons, List.flatMap_cons, List.flatMap_cons, flat_take32 l k (fun p hp => h p (by simp [hp]))]
    have ha : (bv a).length = 32 := by rw [bv_length, h a (by simp)]
    rw [show (k + 1) * 32 = (bv a).length + k * 32 by omega, List.take_length_add_append]
theorem flat_drop32 : ∀ (ps : List (List UInt8)) (k : Nat), (∀ p ∈ ps, p.length = 32) → (ps.drop k).flatMap bv = (ps.flatMap bv).drop (k * 32)
  | [], k, _ => by simp
  | a :: l, 0, _ => by simp
  | a :: l, k + 1, h => by
    rw [List.drop_succ_cons, List.flatMap_cons, flat_drop32 l k (fun p hp => h p (by simp [hp]))]
    have ha : (bv a).length = 32 := by rw [bv_length, h a (by simp)]
    rw [show (k + 1) * 32 = (bv a).length + k * 32 by omega, List.drop_length_add_append]
theorem flat_at32 : ∀ (ps : List (List UInt8)) (k j : Nat) (x : List UInt8), (∀ p ∈ ps, p.length = 32) → ps[k]? = some x → j < 32 → (ps.flatMap bv)[k * 32 + j]? = (bv x)[j]?
  | [], k, j, x, _, h, _ => by simp at h
  | a :: l, 0, j, x, h32, h, hj => by
    obtain rfl : a = x := by simpa using h
    rw [List.flatMap_cons, Nat.zero_mul, Nat.zero_add, List.getElem?_append_left (by rw [bv_length, h32 a (by simp)]; exact hj)]
  | a :: l, k + 1, j, x, h32, h, hj => by
    have ha : (bv a).length = 32 := by rw [bv_length, h32 a (by simp)]
    rw [List.flatMap_cons, List.getElem?_append_right (by omega), ha, show (k + 1) * 32 + j - 32 = k * 32 + j by omega]
    exact flat_at32 l k j x (fun p hp => h32 p (by simp [hp])) (by simpa using h) hj
theorem flat_one32 (ps : List (List UInt8)) : ∀ u ∈ ps.flatMap bv, u.oneCell' = true := by
  intro u hu
  obtain ⟨p, _, h⟩ := List.mem_flatMap.1 hu
  exact bv_one p u h

end Go.Proofs.YtdjmebfjanophaaDoor
