/- The ends of a gauge; awake of law06. -/
import Derived.Test.YtdociiogddihfaaGaE
namespace Go.Proofs.Ytdociiogddihfaa
open Go.RowKit

theorem at_num (x : Nat) (hx : x < 18446744073709551616) (h : fnan x = false) : atP (rankP x) = x := by
  have h2 := of_decide_eq_false h
  rcases sgn_cases x hx with ⟨h3, h4⟩ | ⟨h3, h4⟩
  · have : rankP x = -1 - (rung x : Int) := by unfold rankP; rw [if_neg (by simp [h]), if_pos h3]
    rw [atP_neg _ (by omega)]; omega
  · have : rankP x = (rung x : Int) := by unfold rankP; rw [if_neg (by simp [h]), if_neg (by simp [h3])]
    rw [atP_pos _ (by omega) (by omega)]; omega
theorem rank_num (x : Nat) (h : fnan x = false) : -9218868437227405313 ≤ rankP x ∧ rankP x ≤ 9218868437227405312 := by
  have h2 := of_decide_eq_false h
  unfold rankP
  rw [if_neg (by simp [h])]
  split <;> omega
theorem mn_two (lo x : Nat) : mnR [lo, x] = min (rankP lo) (rankP x) := by
  show mnFrom (rankP lo) [lo, x] = _
  show min (min (rankP lo) (rankP lo)) (rankP x) = _
  omega
theorem mx_two (lo x : Nat) : mxR [lo, x] = max (rankP lo) (rankP x) := by
  show mxFrom (rankP lo) [lo, x] = _
  show max (max (rankP lo) (rankP lo)) (rankP x) = _
  omega
theorem mn_snoc (l : List Nat) (x : Nat) (h : fnan x = false) : mnR (l ++ [x]) = min (mnR l) (rankP x) := by
  cases l with
  | nil =>
    have := rank_num x h
    show min (rankP x) (rankP x) = min 9218868437227405312 (rankP x)
    omega
  | cons y l => exact mnFrom_snoc (y :: l) x (rankP y)
theorem mx_snoc (l : List Nat) (x : Nat) (h : fnan x = false) : mxR (l ++ [x]) = max (mxR l) (rankP x) := by
  cases l with
  | nil =>
    have := rank_num x h
    show max (rankP x) (rankP x) = max (-9218868437227405313) (rankP x)
    omega
  | cons y l => exact mxFrom_snoc (y :: l) x (rankP y)
/-- The ends so far. -/
def Ends (lo hi : Nat) (l : List Nat) : Prop := lo < 18446744073709551616 ∧ hi < 18446744073709551616 ∧ fnan lo = false ∧ fnan hi = false ∧ rankP lo = mnR l ∧ rankP hi = mxR l
theorem ends_nil : Ends 9218868437227405312 18442240474082181120 [] := by unfold Ends; decide
/-- One number more: the ends of both. -/
theorem Ends.snoc {lo hi x : Nat} {l : List Nat} (h : Ends lo hi l) (hx : x < 18446744073709551616) (hn : fnan x = false) :
    atP (mnR [lo, x]) = (if ordQ x lo < 0 then x else lo) ∧ atP (mxR [hi, x]) = (if ordQ x hi > 0 then x else hi) ∧ Ends (if ordQ x lo < 0 then x else lo) (if ordQ x hi > 0 then x else hi) (l ++ [x]) := by
  obtain ⟨h1, h2, h3, h4, h5, h6⟩ := h
  rw [ord_eq x lo hx h1, ord_eq x hi hx h2, mn_two, mx_two]
  have e1 : (ordP x lo < 0) ↔ rankP x < rankP lo := by unfold ordP; split <;> (try split) <;> omega
  have e2 : (ordP x hi > 0) ↔ rankP hi < rankP x := by unfold ordP; split <;> (try split) <;> omega
  have s1 := mn_snoc l x hn
  have s2 := mx_snoc l x hn
  unfold Ends
  by_cases c1 : rankP x < rankP lo
  · by_cases c2 : rankP hi < rankP x
    · rw [if_pos (e1.2 c1), if_pos (e2.2 c2), show min (rankP lo) (rankP x) = rankP x by omega, show max (rankP hi) (rankP x) = rankP x by omega, at_num x hx hn]
      exact ⟨rfl, rfl, hx, hx, hn, hn, by omega, by omega⟩
    · rw [if_pos (e1.2 c1), if_neg (fun h => c2 (e2.1 h)), show min (rankP lo) (rankP x) = rankP x by omega, show max (rankP hi) (rankP x) = rankP hi by omega, at_num x hx hn, at_num hi h2 h4]
      exact ⟨rfl, rfl, hx, h2, hn, h4, by omega, by omega⟩
  · by_cases c2 : rankP hi < rankP x
    · rw [if_neg (fun h => c1 (e1.1 h)), if_pos (e2.2 c2), show min (rankP lo) (rankP x) = rankP lo by omega, show max (rankP hi) (rankP x) = rankP x by omega, at_num x hx hn, at_num lo h1 h3]
      exact ⟨rfl, rfl, h1, hx, h3, hn, by omega, by omega⟩
    · rw [if_neg (fun h => c1 (e1.1 h)), if_neg (fun h => c2 (e2.1 h)), show min (rankP lo) (rankP x) = rankP lo by omega, show max (rankP hi) (rankP x) = rankP hi by omega, at_num lo h1 h3, at_num hi h2 h4]
      exact ⟨rfl, rfl, h1, h2, h3, h4, by omega, by omega⟩
theorem FR.val {op : BinOp} {x y r r0 : Nat} (h : FR op x y r) (h0 : floatBits op .f64 x y = some r0) : r = r0 := by
  rcases h with h | ⟨h, _⟩
  · rw [h0] at h; exact (Option.some.inj h).symm
  · rw [h0] at h; cases h
theorem SR.val {x r r0 : Nat} (h : SR x r) (h0 : FloatKind.f64.format.sqrt x = some r0) : r = r0 := by
  rcases h with h | ⟨h, _⟩
  · rw [h0] at h; exact (Option.some.inj h).symm
  · rw [h0] at h; cases h
theorem awake_second {m s : Nat} (h : AddM 1 4611686018427387904 0 4616189618054758400 m s) : m = 4613937818241073152 ∧ s = 4611686018427387904 := by
  rw [AddM, if_neg (by decide)] at h
  obtain ⟨d, q, f, p, h1, h2, h3, h4, h5, h6⟩ := h
  obtain rfl := h1.val (r0 := 4611686018427387904) (by kernel_rfl)
  obtain rfl := h2.val (r0 := 4607182418800017408) (by kernel_rfl)
  obtain rfl := h3.val (r0 := 4613937818241073152) (by kernel_rfl)
  obtain rfl := h4.val (r0 := 4607182418800017408) (by kernel_rfl)
  obtain rfl := h5.val (r0 := 4611686018427387904) (by kernel_rfl)
  obtain rfl := h6.val (r0 := 4611686018427387904) (by kernel_rfl)
  exact ⟨rfl, rfl⟩
theorem awake_spread {w w' : World} {e : Ending} (h : SpreadD 2 4611686018427387904 w w' e) : e = .returned (.float .f64 4607182418800017408) ∧ Below w.heap.size w w' := by
  obtain ⟨r, rfl, hb, _, h⟩ := h
  rw [if_neg (by decide)] at h
  obtain ⟨q, h1, h2⟩ := h
  obtain rfl := h1.val (r0 := 4607182418800017408) (by kernel_rfl)
  obtain rfl := h2.val (r0 := 4607182418800017408) (by kernel_rfl)
  exact ⟨rfl, hb⟩
theorem gv_eq : Gv 0 9221120237041090561 0 (atP (mnR [])) (atP (mxR [])) = Gv 0 9221120237041090561 0 9218868437227405312 18442240474082181120 := by rw [new_ends.1, new_ends.2]
set_option maxHeartbeats 2000000 in
theorem awake06_any (w : World) : Calls Try.prog 7 #[] w fun e w' => e = .returned (.bool true) ∧ Below w.heap.size w w' := by
  have k1 : atP (mnR [9218868437227405312, 4611686018427387904]) = 4611686018427387904 := by decide
  have k2 : atP (mxR [18442240474082181120, 4611686018427387904]) = 4611686018427387904 := by decide
  have k3 : atP (mnR [4611686018427387904, 4616189618054758400]) = 4611686018427387904 := by decide
  have k4 : atP (mxR [4611686018427387904, 4616189618054758400]) = 4616189618054758400 := by decide
  have HK := Lib.hid (And.intro k1 (And.intro k2 (And.intro k3 k4)))
  clear k1 k2 k3 k4
  go_enter Try.func7, Try.ntmps7
  go_wp2_with fail
  refine (GNew_any _).mono ?_
  rintro e w1 ⟨rfl, hb1⟩
  rw [gv_eq]
  have HB1 := Lib.hid hb1
  clear hb1
  go_wp2_with fail
  refine (GAdd_any 0 9221120237041090561 0 9218868437227405312 18442240474082181120 4611686018427387904 _ (by omega) (by omega) (by omega) (by omega) (by decide)).mono ?_
  rintro e w2 ⟨m1, s1, rfl, hm1, _, _, hb2⟩
  rw [AddM, if_pos rfl] at hm1
  obtain ⟨rfl, rfl⟩ := hm1
  rw [HK.out.1, HK.out.2.1]
  have HB2 := Lib.hid (HB1.out.trans (hb2.mono HB1.out.size))
  clear hb2
  go_wp2_with fail
  refine (GAdd_any 1 4611686018427387904 0 4611686018427387904 4611686018427387904 4616189618054758400 _ (by omega) (by omega) (by omega) (by omega) (by decide)).mono ?_
  rintro e w3 ⟨m2, s2, rfl, hm2, _, _, hb3⟩
  obtain ⟨rfl, rfl⟩ := awake_second hm2
  rw [HK.out.2.2.1, HK.out.2.2.2]
  have HB3 := Lib.hid (HB2.out.trans (hb3.mono HB2.out.size))
  clear hb3 hm2
  go_wp2_with fail
  have hrow : (w3.alloc (.cells #[.int .u64 2, .float .f64 4613937818241073152, .float .f64 4611686018427387904, .float .f64 4611686018427387904, .float .f64 4616189618054758400] 27)).heap[w3.heap.size]? = some (.cells #[.int .u64 2, .float .f64 4613937818241073152, .float .f64 4611686018427387904, .float .f64 4611686018427387904, .float .f64 4616189618054758400] 27 (0, 0)) := heap_alloc_new _ _
  have hba : Below w.heap.size w (w3.alloc (.cells #[.int .u64 2, .float .f64 4613937818241073152, .float .f64 4611686018427387904, .float .f64 4611686018427387904, .float .f64 4616189618054758400] 27)) := HB3.out.alloc HB3.out.size _
  generalize w3.alloc (.cells #[.int .u64 2, .float .f64 4613937818241073152, .float .f64 4611686018427387904, .float .f64 4611686018427387904, .float .f64 4616189618054758400] 27) = w4 at *
  refine (Spread_any 2 4613937818241073152 4611686018427387904 4611686018427387904 4616189618054758400 w4 (by omega)).mono ?_
  rintro e w5 hsp
  obtain ⟨rfl, hb5⟩ := awake_spread hsp
  have hrow5 := (hb5.block _ (Array.getElem?_eq_some_iff.1 hrow).1).trans hrow
  have c0 := cell_rowG (v := .int .u64 2) (i := 0) hrow5 rfl
  have c1 := cell_rowG (v := .float .f64 4613937818241073152) (i := 1) hrow5 rfl
  have c2 := cell_rowG (v := .float .f64 4611686018427387904) (i := 2) hrow5 rfl
  have c3 := cell_rowG (v := .float .f64 4611686018427387904) (i := 3) hrow5 rfl
  have c4 := cell_rowG (v := .float .f64 4616189618054758400) (i := 4) hrow5 rfl
  have HB5 := Lib.hid (hba.trans (hb5.mono hba.size))
  clear hrow hrow5 hba hb5 hsp HB1 HB2 HB3
  go_wp2_with fail
  refine (GPut_any 2 4613937818241073152 4611686018427387904 4611686018427387904 4616189618054758400 w5 (by omega) (by omega) (by omega) (by omega) (by omega)).mono ?_
  rintro e w6 ⟨v, rfl, hr, hb6⟩
  have hl : (gaB 2 4613937818241073152 4611686018427387904 4611686018427387904 4616189618054758400).length = 34 := by decide
  rw [hl] at hr
  obtain ⟨a, c, rfl⟩ := hr.form
  have HB6 := Lib.hid (HB5.out.trans (hb6.mono HB5.out.size))
  clear hr hb6 hl
  go_wp2_with fail
  go_ret
  exact ⟨rfl, HB6.out⟩
end Go.Proofs.Ytdociiogddihfaa
