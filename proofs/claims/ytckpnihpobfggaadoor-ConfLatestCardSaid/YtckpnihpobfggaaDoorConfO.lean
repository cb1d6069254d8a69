/- The law ConfOverlaps: majorities meet. -/
import Derived.Test.YtckpnihpobfggaaDoorConfL
import Derived.Deep.DeepCutAuto
import Derived.Deep.CutBlock
namespace Go.Proofs.YtckpnihpobfggaaDoor
open Go.RowKit Ones

theorem among_both (a b : List Nat) : ∀ l : List Nat, among a l + among b l ≤ l.length + l.countP (fun x => decide (x ∈ a ∧ x ∈ b))
  | [] => by simp [among]
  | x :: l => by
    have ih := among_both a b l
    unfold among at *
    simp only [List.countP_cons, List.length_cons]
    by_cases h1 : x ∈ a <;> by_cases h2 : x ∈ b <;> simp [h1, h2] at * <;> omega
theorem meet_one (a b l : List Nat) (h : l.length < among a l + among b l) : ∃ x ∈ l, x ∈ a ∧ x ∈ b := by
  have h1 := among_both a b l
  have h2 : 0 < l.countP (fun x => decide (x ∈ a ∧ x ∈ b)) := by omega
  obtain ⟨x, hx, hp⟩ := List.countP_pos_iff.1 h2
  exact ⟨x, hx, of_decide_eq_true hp⟩
theorem among_sub (a l r : List Nat) (hl : l.Pairwise (· < ·)) (hr : r.Pairwise (· < ·)) (h : ∀ x ∈ l, x ∈ r) : among a l ≤ among a r := by
  unfold among
  have : l.Sublist r := by
    have e : l = r.filter (fun x => decide (x ∈ l)) := sorted_ext _ _ hl (List.Pairwise.filter _ hr) fun x => by
      rw [List.mem_filter, decide_eq_true_eq]
      exact ⟨fun hx => ⟨h x hx, hx⟩, fun hx => hx.2⟩
    rw [e]; exact List.filter_sublist
  exact this.countP_le
theorem less_eq (y : Nat) (t : List Nat) (h : ∀ x ∈ t, y < x) : lessP (y :: t) y = t := by
  unfold lessP
  rw [List.filter_cons, if_neg (by simp)]
  exact List.filter_eq_self.2 fun x hx => decide_eq_true (by have := h x hx; omega)
theorem less_ne (y id : Nat) (t : List Nat) (h : y ≠ id) : lessP (y :: t) id = y :: lessP t id := by
  unfold lessP
  rw [List.filter_cons, if_pos (by simpa using h)]
theorem less_len (id : Nat) : ∀ (l : List Nat), l.Pairwise (· < ·) → id ∈ l → (lessP l id).length + 1 = l.length
  | [], _, h => by simp at h
  | y :: r, hl, h => by
    have hr := List.pairwise_cons.1 hl
    by_cases hy : y = id
    · subst hy
      rw [less_eq y r hr.1]; rfl
    · have hin : id ∈ r := by
        rcases List.mem_cons.1 h with h | h
        · exact absurd h.symm hy
        · exact h
      have := less_len id r hr.2 hin
      rw [less_ne y id r hy, List.length_cons, List.length_cons, this]
theorem among_less (q : List Nat) (id : Nat) : ∀ m : List Nat, m.Pairwise (· < ·) → among q m ≤ among q (lessP m id) + 1
  | [], _ => by simp [among]
  | y :: t, hm => by
    have hm := List.pairwise_cons.1 hm
    have := among_less q id t hm.2
    have e : ∀ s : List Nat, among q (y :: s) = among q s + (if y ∈ q then 1 else 0) := fun s => by
      unfold among
      rw [List.countP_cons]; simp
    by_cases hy : y = id
    · subst hy
      rw [less_eq y t hm.1, e]
      split <;> omega
    · rw [less_ne y id t hy, e, e]
      omega
/-- Majorities of members that may follow one another have a member in common. -/
theorem overlap (l r a b : List Nat) (h : (memB 0 l = true ∧ l = r) ∨ mayP l r = true) (ha : l.length / 2 + 1 ≤ among a l) (hb : r.length / 2 + 1 ≤ among b r) : ∃ x ∈ l, x ∈ r ∧ x ∈ a ∧ x ∈ b := by
  rcases h with ⟨_, rfl⟩ | h
  · obtain ⟨x, h1, h2, h3⟩ := meet_one a b l (by omega)
    exact ⟨x, h1, h1, h2, h3⟩
  · rw [may_alike] at h
    unfold mayR at h
    simp only [Bool.and_eq_true, List.any_eq_true] at h
    obtain ⟨hl, hr, k, hk, hs⟩ := h
    have sl := srt_of l hl
    have sr := srt_of r hr
    unfold stepP at hs
    split at hs
    · rename_i hin
      have he := of_decide_eq_true hs
      have hlen := less_len _ l sl.1 hin
      rw [he] at hlen
      have hsub : ∀ x ∈ r, x ∈ l := fun x hx => by rw [← he] at hx; exact ((lessP_mem _ _ _).1 hx).1
      have := among_sub b r l sr.1 sl.1 hsub
      have hone : among b l ≤ among b r + 1 ∧ among a l ≤ among a r + 1 := by
        have gen : ∀ q : List Nat, among q l ≤ among q (lessP l (k + 1)) + 1 := fun q => among_less q (k + 1) l sl.1
        rw [he] at gen
        exact ⟨gen b, gen a⟩
      obtain ⟨x, h1, h2, h3⟩ := meet_one a b r (by omega)
      exact ⟨x, hsub x h1, h1, h2, h3⟩
    · rename_i hin
      have he := of_decide_eq_true hs
      have hk7 := List.mem_range.1 hk
      have hmem := fun x => moreP_mem l (k + 1) x sl (by omega) (by omega)
      rw [he] at hmem
      have hless : lessP r (k + 1) = l := sorted_ext _ _ (lessP_srt r _ sr) sl.1 fun x => by
        rw [lessP_mem, hmem]
        constructor
        · rintro ⟨h1 | h1, h2⟩
          · exact absurd h1 h2
          · exact h1
        · intro h1
          exact ⟨.inr h1, fun e => hin (e ▸ h1)⟩
      have hlen := less_len (k + 1) r sr.1 ((hmem _).2 (.inl rfl))
      rw [hless] at hlen
      have hgen : among b r ≤ among b l + 1 := by
        have := among_less b (k + 1) r sr.1
        rwa [hless] at this
      obtain ⟨x, h1, h2, h3⟩ := meet_one a b l (by omega)
      exact ⟨x, h1, (hmem x).2 (.inr h1), h2, h3⟩

theorem skip_of : ∀ bm bn y q1 q2 : Bool, false = (!((bm && bn) || y) || (!q1 || !q2)) → ((bm = true ∧ bn = true) ∨ y = true) ∧ q1 = true ∧ q2 = true := by decide

set_option maxHeartbeats 8000000 in
theorem ConfOverlaps_any (v u va vb : Value) (l r a b : List Nat) (w : World) (hl : l.length ≤ 140737488355328) (hi : r.length ≤ 140737488355328) (hla : a.length ≤ 140737488355328) (hlb : b.length ≤ 140737488355328)
    (hr : Rd w 1 v l.length (uv l)) (hu : Rd w 1 u r.length (uv r)) (hra : Rd w 1 va a.length (uv a)) (hrb : Rd w 1 vb b.length (uv b)) (hT : TabD w) :
    Calls Tryd.prog 5 #[v, u, va, vb] w fun e w' => e = .returned (.bool true) ∧ Below w.heap.size w w' := by
  obtain ⟨ao, c, rfl⟩ := hr.form
  have hA := awake20_any w hT
  have h1 := fun wx (h : Below w.heap.size w wx) => Members_any _ l wx hl (hr.keep h)
  have h2 := fun wx (h : Below w.heap.size w wx) => refNums_any _ u l r wx hl hi (hr.keep h) (hu.keep h)
  have h3 := fun wx (h : Below w.heap.size w wx) => May_any _ u l r wx hl hi (hr.keep h) (hu.keep h)
  have h4 := fun wx (h : Below w.heap.size w wx) => Quorum_any _ va l a wx hl hla (hr.keep h) (hra.keep h)
  have h5 := fun wx (h : Below w.heap.size w wx) => Quorum_any u vb r b wx hi hlb (hu.keep h) (hrb.keep h)
  have h6 := fun y wx (h : Below w.heap.size w wx) => Has_any u r y wx hi (hu.keep h)
  have h7 := fun y wx (h : Below w.heap.size w wx) => Has_any va a y wx hla (hra.keep h)
  have h8 := fun y wx (h : Below w.heap.size w wx) => Has_any vb b y wx hlb (hrb.keep h)
  have hov := overlap l r a b
  have hcell : ∀ k y : Nat, l[k]? = some y → ∃ q o, ao = some ⟨q, o, none⟩ ∧ l.length ≤ c ∧ ∀ wx, Below w.heap.size w wx → wx.cell? ⟨q, o + k, none⟩ = some (.int .u64 y) := fun k y hy => by
    have hlt := (List.getElem?_eq_some_iff.1 hy).1
    obtain ⟨q, o, c', hv, hcc, hcell⟩ := hr.at (by omega)
    simp only [Value.slice.injEq, true_and] at hv
    obtain ⟨rfl, rfl⟩ := hv
    refine ⟨q, o, rfl, hcc, fun wx hb => ?_⟩
    have hc := hcell k (.int .u64 y) (by simp [uv, hy])
    exact (hb.cell (World.block_lt_of_cell? w _ hc)).trans hc
  generalize memB 0 l = bm at *
  have hbn : l = r ↔ decide (l = r) = true := by simp
  rw [hbn] at hov
  generalize decide (l = r) = bn at *
  generalize mayP l r = by_ at *
  have hq1 : l.length / 2 + 1 ≤ among a l ↔ decide (l.length / 2 + 1 ≤ among a l) = true := by simp
  have hq2 : r.length / 2 + 1 ≤ among b r ↔ decide (r.length / 2 + 1 ≤ among b r) = true := by simp
  rw [hq1, hq2] at hov
  generalize decide (l.length / 2 + 1 ≤ among a l) = q1 at *
  generalize decide (r.length / 2 + 1 ≤ among b r) = q2 at *
  have HOV := Lib.hid hov
  have HCE := Lib.hid hcell
  clear hr hu hra hrb hT hov hcell hbn hq1 hq2
  go_enter Tryd.func5, Tryd.ntmps5
  go_wp2_with fail
  refine hA.mono ?_
  rintro e w1 ⟨rfl, hb1⟩
  clear hA
  go_upto_region 3 with fail
  go_cut [9] (fun s9 wz => s9 = .bool (bm && bn) ∧ Below w.heap.size w wz)
  case first =>
    go_wp2_with fail
    refine (h1 w1 hb1).mono ?_
    rintro e w2 ⟨rfl, hb2⟩
    have hb2 := hb1.trans (hb2.mono hb1.size)
    cases bm with
    | false =>
      go_wp2_with fail
      go_meet
      exact ⟨rfl, hb2⟩
    | true =>
      go_wp2_with fail
      refine (h2 w2 hb2).mono ?_
      rintro e w3 ⟨rfl, hb3⟩
      have hb3 := hb2.trans (hb3.mono hb2.size)
      go_wp2_with fail
      go_meet
      exact ⟨rfl, hb3⟩
  case rest =>
    obtain ⟨rfl, hb4⟩ := hcut
    clear hb1 h1 h2
    obtain ⟨sm, hsm⟩ : ∃ sm, sm = (bm && bn) := ⟨_, rfl⟩
    rw [← hsm]
    have HSM := Lib.hid hsm
    clear hsm
    go_upto_region 4 with fail
    go_cut [39] (fun s39 wz => s39 = .bool (!(sm || by_) || (!q1 || !q2)) ∧ Below w.heap.size w wz)
    case first =>
      cases sm with
      | true =>
        go_wp2_with fail
        refine (h4 _ hb4).mono ?_
        rintro e w5 ⟨rfl, hb5⟩
        have hb5 := hb4.trans (hb5.mono hb4.size)
        cases q1 with
        | false =>
          go_wp2_with fail
          go_meet
          exact ⟨rfl, hb5⟩
        | true =>
          go_wp2_with fail
          refine (h5 _ hb5).mono ?_
          rintro e w6 ⟨rfl, hb6⟩
          have hb6 := hb5.trans (hb6.mono hb5.size)
          go_wp2_with fail
          go_meet
          exact ⟨rfl, hb6⟩
      | false =>
        go_wp2_with fail
        refine (h3 _ hb4).mono ?_
        rintro e w7 ⟨rfl, hb7⟩
        have hb7 := hb4.trans (hb7.mono hb4.size)
        cases by_ with
        | false =>
          go_wp2_with fail
          go_meet
          exact ⟨rfl, hb7⟩
        | true =>
          go_wp2_with fail
          refine (h4 _ hb7).mono ?_
          rintro e w5 ⟨rfl, hb5⟩
          have hb5 := hb7.trans (hb5.mono hb7.size)
          cases q1 with
          | false =>
            go_wp2_with fail
            go_meet
            exact ⟨rfl, hb5⟩
          | true =>
            go_wp2_with fail
            refine (h5 _ hb5).mono ?_
            rintro e w6 ⟨rfl, hb6⟩
            have hb6 := hb5.trans (hb6.mono hb5.size)
            go_wp2_with fail
            go_meet
            exact ⟨rfl, hb6⟩
    case rest =>
      obtain ⟨rfl, hb5⟩ := hcut
      clear hb4 h3 h4 h5
      obtain ⟨sk, hsk⟩ : ∃ sk, sk = (!(sm || by_) || (!q1 || !q2)) := ⟨_, rfl⟩
      rw [← hsk]
      have HSK := Lib.hid hsk
      clear hsk
      cases sk with
      | true =>
        go_wp2_with fail
        go_ret
        exact ⟨rfl, hb5⟩
      | false =>
        have hx : ∃ x ∈ l, x ∈ r ∧ x ∈ a ∧ x ∈ b := by
          have e := skip_of bm bn by_ q1 q2 (by rw [← HSM.out]; exact HSK.out)
          exact HOV.out e.1 e.2.1 e.2.2
        have HXX := Lib.hid hx
        clear hx
        go_wp2_with fail
        go_loopw [10] (fun s10 wr => ∃ k : Nat, k ≤ l.length ∧ s10 = .int .i64 k ∧ (∀ (j y : Nat), j < k → l[j]? = some y → ¬ (y ∈ r ∧ y ∈ a ∧ y ∈ b)) ∧ Below w.heap.size w wr) (fun i _ => l.length - (intOf i).toNat)
        case atStart => exact ⟨0, by omega, rfl, fun j y hj => absurd hj (by omega), hb5⟩
        case round =>
          obtain ⟨k, hk, rfl, hno, hbr⟩ := hrel
          have HNO := Lib.hid hno
          clear hno hb5
          by_cases hlt : k < l.length
          · have hkz : (k : Int) < (l.length : Int) := by omega
            have hk0 : (0 : Int) ≤ (k : Int) := by omega
            obtain ⟨y, hy⟩ : ∃ y, l[k]? = some y := ⟨l[k], List.getElem?_eq_getElem hlt⟩
            obtain ⟨q, o, rfl, hlc, hcl⟩ := HCE.out k y hy
            have HY := Lib.hid hy
            clear hy
            have hc := hcl _ hbr
            have go1 := h6 y wr hbr
            cases d1 : decide (y ∈ r) with
            | false =>
              rw [d1] at go1
              have n1 := Lib.hid (of_decide_eq_false d1)
              clear d1
              go_wp2_with fail
              refine go1.mono ?_
              rintro e w6 ⟨rfl, hb6⟩
              have hb6 := hbr.trans (hb6.mono hbr.size)
              clear go1 hc hbr hcl
              go_wp2_with fail
              go_roundw
              case rel =>
                refine ⟨k + 1, by omega, by go_num, fun j z hj hz hh => ?_, hb6⟩
                by_cases hjk : j < k
                · exact HNO.out j z hjk hz hh
                · obtain rfl : j = k := by omega
                  obtain rfl := Option.some.inj (hz.symm.trans HY.out)
                  exact n1.out hh.1
              case measure => simp [intOf]; omega
            | true =>
              rw [d1] at go1
              have n1 := Lib.hid (of_decide_eq_true d1)
              clear d1
              go_wp2_with fail
              refine go1.mono ?_
              rintro e w6 ⟨rfl, hb6⟩
              have hb6 := hbr.trans (hb6.mono hbr.size)
              clear go1 hc hbr
              have hc := hcl _ hb6
              have go2 := h7 y w6 hb6
              cases d2 : decide (y ∈ a) with
              | false =>
                rw [d2] at go2
                have n2 := Lib.hid (of_decide_eq_false d2)
                clear d2
                go_wp2_with fail
                refine go2.mono ?_
                rintro e w7 ⟨rfl, hb7⟩
                have hb7 := hb6.trans (hb7.mono hb6.size)
                clear go2 hc hcl hb6
                go_wp2_with fail
                go_roundw
                case rel =>
                  refine ⟨k + 1, by omega, by go_num, fun j z hj hz hh => ?_, hb7⟩
                  by_cases hjk : j < k
                  · exact HNO.out j z hjk hz hh
                  · obtain rfl : j = k := by omega
                    obtain rfl := Option.some.inj (hz.symm.trans HY.out)
                    exact n2.out hh.2.1
                case measure => simp [intOf]; omega
              | true =>
                rw [d2] at go2
                have n2 := Lib.hid (of_decide_eq_true d2)
                clear d2
                go_wp2_with fail
                refine go2.mono ?_
                rintro e w7 ⟨rfl, hb7⟩
                have hb7 := hb6.trans (hb7.mono hb6.size)
                clear go2 hc hb6
                have hc := hcl _ hb7
                have go3 := h8 y w7 hb7
                cases d3 : decide (y ∈ b) with
                | false =>
                  rw [d3] at go3
                  have n3 := Lib.hid (of_decide_eq_false d3)
                  clear d3
                  go_wp2_with fail
                  refine go3.mono ?_
                  rintro e w8 ⟨rfl, hb8⟩
                  have hb8 := hb7.trans (hb8.mono hb7.size)
                  clear go3 hc hcl hb7
                  go_wp2_with fail
                  go_roundw
                  case rel =>
                    refine ⟨k + 1, by omega, by go_num, fun j z hj hz hh => ?_, hb8⟩
                    by_cases hjk : j < k
                    · exact HNO.out j z hjk hz hh
                    · obtain rfl : j = k := by omega
                      obtain rfl := Option.some.inj (hz.symm.trans HY.out)
                      exact n3.out hh.2.2
                  case measure => simp [intOf]; omega
                | true =>
                  rw [d3] at go3
                  clear d3
                  go_wp2_with fail
                  refine go3.mono ?_
                  rintro e w8 ⟨rfl, hb8⟩
                  have hb8 := hb7.trans (hb8.mono hb7.size)
                  clear go3 hc hcl hb7
                  go_wp2_with fail
                  go_ret
                  exact ⟨rfl, hb8⟩
          · exfalso
            obtain ⟨x, hx, hxx⟩ := HXX.out
            obtain ⟨j, hj, hje⟩ := List.getElem_of_mem hx
            exact HNO.out j x (by omega) (by rw [List.getElem?_eq_getElem hj, hje]) hxx
end Go.Proofs.YtckpnihpobfggaaDoor
