/- The law's head of ShaPieces. -/
import Derived.Test.YtkcnakijfmemlaaDoorShaPieces
import Derived.Test.YtkcnakijfmemlaaDoorTw
namespace Go.Proofs.YtkcnakijfmemlaaDoor
open Go.ChangeShapes Go.WideShapes Go.ChangeAt Go.RowKit Sha

theorem flat_one : ∀ ns : List Int, ns.flatMap (fun z : Int => [Value.int .i64 z]) = ns.map (Value.int .i64)
  | [] => rfl
  | z :: ns => by rw [List.flatMap_cons, flat_one ns]; rfl

theorem shaPieces.law (H : Type) (enc : TypeId × Value → H) (W : World) (base : Nat)
    (v0 : Value) (d0 : DataW H) (p0 : List MemPlace) (g0 : Value.okWide Tryd.prog W .any base 22 v0) (h0 : DataW.Trod enc Tryd.prog W 0 (fun _ => true) true 22 v0 d0 p0)
    (v1 : Value) (d1 : DataW H) (p1 : List MemPlace) (g1 : Value.okWide Tryd.prog W .any base 47 v1) (h1 : DataW.Trod enc Tryd.prog W 0 (fun _ => true) true 47 v1 d1 p1)
    {ts : List TypeId} {es : List (DataW H)} (hsz : (DataW.weightsEach Tryd.prog ([22, 47] ++ ts) ([d0, d1] ++ es)).all (· ≤ reachBytes) = true) (hG : Tabs W) :
    Calls Tryd.prog 7 #[v0, v1] W fun e W' => e = .returned (.bool true) ∧ Below W.heap.size W W' := by
  obtain ⟨l, hrl, hdl⟩ := open_bytes Tryd.underlying22 Tryd.underlying5 (by kernel_rfl) (okWide_slice Tryd.underlying22 g0) h0
  have hl := bytes_reach (l := l) (j := 0) hsz rfl Tryd.underlying22 (by kernel_rfl) (by rcases hdl with ⟨rfl, rfl⟩ | ⟨s, rfl⟩ <;> simp)
  obtain ⟨a, n, c, rfl⟩ := okWide_slice Tryd.underlying47 g1
  have htw := TW.of (j := 1) hsz h1 rfl rfl
  obtain ⟨ns, hr1, hm, hQ⟩ := TW.elems (size := 1) Tryd.underlying47 (by kernel_rfl) (fun z : Int => [Value.int .i64 z]) (fun z => -9223372036854775808 ≤ z ∧ z ≤ 9223372036854775807)
    (fun ds _ h => by
      obtain ⟨z, rfl, hz⟩ := h.i64 Tryd.underlying3
      exact ⟨z, rfl, hz⟩) (fun a _ u hu => by simp at hu; subst hu; rfl) htw
  have hb : Tryd.prog.bytesOf 3 = 8 := by kernel_rfl
  rw [hb] at hm
  rw [flat_one] at hr1
  exact shaPieces_walk l v0 _ ns W hl (by omega) hrl hr1 (fun z hz => (hQ z hz).1) hG
end Go.Proofs.YtkcnakijfmemlaaDoor
