/- The law BinBack: its arguments opened. -/
import Derived.Test.YtpdlocdlnoibbaaBinBack
import Derived.Test.YtpdlocdlnoibbaaTb
namespace Go.Proofs.Ytpdlocdlnoibbaa
open Go.ChangeShapes Go.WideShapes Go.ChangeAt Go.RowKit

theorem flat_le (K : Nat) : ∀ ts : List (List UInt8), (∀ t ∈ ts, t.length ≤ K) → ts.flatten.length ≤ ts.length * K
  | [], _ => by simp
  | t :: ts, h => by
    have h1 := h t (by simp)
    have h2 := flat_le K ts (fun x hx => h x (by simp [hx]))
    simp only [List.flatten_cons, List.length_append, List.length_cons, Nat.add_mul]
    omega

theorem flat_one {α β : Type} (f : α → β) : ∀ l : List α, l.flatMap (fun a => [f a]) = l.map f
  | [] => rfl
  | x :: l => by rw [List.flatMap_cons, flat_one f l]; rfl

theorem binBack.law (H : Type) (enc : TypeId × Value → H) (W : World) (base : Nat)
    (v0 : Value) (d0 : DataW H) (p0 : List MemPlace) (g0 : Value.okWide Try.prog W .any base 34 v0) (h0 : DataW.Trod enc Try.prog W 0 (fun _ => true) true 34 v0 d0 p0)
    (v1 : Value) (d1 : DataW H) (p1 : List MemPlace) (g1 : Value.okWide Try.prog W .any base 35 v1) (h1 : DataW.Trod enc Try.prog W 0 (fun _ => true) true 35 v1 d1 p1)
    (hsz : Rows.uptoSmall H [d0, d1] = true) :
    Calls Try.prog 4 #[v0, v1] W fun e W' => e = .returned (.bool true) ∧ Below W.heap.size W W' := by
  obtain ⟨a, n, c, rfl⟩ := okWide_slice Try.underlying34 g0
  obtain ⟨a', n', c', rfl⟩ := okWide_slice Try.underlying35 g1
  have t0 := TB.of (P := Try.prog) hsz h0 (by simp)
  have t1 := TB.of (P := Try.prog) hsz h1 (by simp)
  obtain ⟨ns, hr0, hn0, hb0⟩ := TB.words (P := Try.prog) Try.underlying34 Try.underlying26 (by kernel_rfl) t0
  obtain ⟨l, hr1, hn1, hq⟩ := TB.elems (P := Try.prog) (size := 1) (α := Value × List UInt8) Try.underlying35 (by kernel_rfl) (fun a => [a.1]) (fun a => a.1.oneCell' = true ∧ Rd W 1 a.1 a.2.length (bv a.2) ∧ a.2.length ≤ 1048576)
    (fun ds hl htb => by
      obtain ⟨u, rfl⟩ := List.length_eq_one_iff.1 hl
      obtain ⟨a, n, c, hv, _, _⟩ := htb.slice Try.underlying22
      obtain rfl : u = .slice a n c := by simpa using hv
      obtain ⟨l, hr, hl⟩ := TB.bytes (P := Try.prog) Try.underlying22 Try.underlying5 (by kernel_rfl) htb
      exact ⟨(_, l), rfl, rfl, hr, hl⟩)
    (fun a ha u hu => by simp only [List.mem_singleton] at hu; subst hu; exact ha.1) t1
  have hfm : l.flatMap (fun a => [a.1]) = l.map (·.1) := flat_one (·.1) l
  rw [hfm] at hr1
  have hfl := flat_le 1048576 (l.map (·.2)) (fun t ht => by obtain ⟨x, hx, rfl⟩ := List.mem_map.1 ht; exact (hq x hx).1.2.2)
  have hlb := layB_length ns (l.map (·.2)) (fun n hn => hb0 n hn) (fun t ht => by obtain ⟨x, hx, rfl⟩ := List.mem_map.1 ht; have := (hq x hx).1.2.2; omega)
  rw [List.length_map] at hfl hlb
  refine binBack_walk _ _ ns (l.map (·.1)) (l.map (·.2)) W hr0 (by rw [List.length_map]; exact hr1) (by simp) (fun n hn => hb0 n hn) (fun i t u h1 h2 => ?_) (by omega) hn0 (by rw [List.length_map]; exact hn1)
  rw [List.getElem?_map] at h1 h2
  obtain ⟨x, hx, rfl⟩ := Option.map_eq_some_iff.1 h1
  rw [hx] at h2
  obtain rfl := Option.some.inj h2
  exact (hq x (List.mem_of_getElem? hx)).1.2.1
end Go.Proofs.Ytpdlocdlnoibbaa
