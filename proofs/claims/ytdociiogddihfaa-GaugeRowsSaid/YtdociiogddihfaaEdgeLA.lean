/- Contracts of the package edge: the least and the most of floats. -/
import Derived.Test.YtdociiogddihfaaEdge
namespace Go.Proofs.Ytdociiogddihfaa
open Go.RowKit

/-- Floats as cells. -/

def fv (l : List Nat) : List Value := l.map fun n => .float .f64 n
theorem fv_one (l : List Nat) : ∀ u ∈ fv l, u.oneCell' = true := by
  intro u hu
  obtain ⟨_, _, rfl⟩ := List.mem_map.1 hu
  rfl
def Fl (l : List Nat) : Prop := ∀ x ∈ l, x < 18446744073709551616

theorem Inf_pos (w : World) : Calls Try.prog 27 #[.int .i64 1] w fun e w' => e = .returned (.float .f64 9218868437227405312) ∧ w = w' := by
  have hfrom := run_frombits
  go_enter Try.func27, Try.ntmps27
  go_wp2_with fail
  go_ret
  exact ⟨rfl, rfl⟩
theorem Inf_neg (w : World) : Calls Try.prog 27 #[.int .i64 (-1)] w fun e w' => e = .returned (.float .f64 18442240474082181120) ∧ w = w' := by
  have hfrom := run_frombits
  go_enter Try.func27, Try.ntmps27
  go_wp2_with fail
  go_ret
  exact ⟨rfl, rfl⟩

def mnFrom (n : Int) : List Nat → Int
  | [] => n
  | x :: l => mnFrom (min n (rankP x)) l
/-- The rank of the least one. -/
def mnR : List Nat → Int
  | [] => 9218868437227405312
  | x :: l => mnFrom (rankP x) (x :: l)
theorem mnFrom_bounds (l : List Nat) : ∀ n : Int, -9218868437227405313 ≤ n → n ≤ 9218868437227405313 → -9218868437227405313 ≤ mnFrom n l ∧ mnFrom n l ≤ 9218868437227405313 := by
  induction l with
  | nil => intro n h1 h2; exact ⟨h1, h2⟩
  | cons x l ih => intro n h1 h2; have := rank_bounds x; exact ih _ (by omega) (by omega)
theorem mnR_bounds (l : List Nat) : -9218868437227405313 ≤ mnR l ∧ mnR l ≤ 9218868437227405313 := by
  cases l with
  | nil => decide
  | cons x l => have := rank_bounds x; exact mnFrom_bounds _ _ (by omega) (by omega)
theorem mnFrom_snoc (l : List Nat) (y : Nat) : ∀ n, mnFrom n (l ++ [y]) = min (mnFrom n l) (rankP y) := by
  induction l with
  | nil => intro n; rfl
  | cons x l ih => intro n; exact ih _
theorem mnFrom_take (l : List Nat) (n : Int) (k y : Nat) (h : l[k]? = some y) : mnFrom n (l.take (k + 1)) = min (mnFrom n (l.take k)) (rankP y) := by
  rw [List.take_add_one, h]; exact mnFrom_snoc _ _ _

set_option maxHeartbeats 1000000 in
theorem Least_any (v : Value) (l : List Nat) (w : World) (hf : Fl l) (hl : l.length ≤ 140737488355328) (hr : Rd w 1 v l.length (fv l)) :
    Calls Try.prog 17 #[v] w fun e w' => e = .returned (.float .f64 (atP (mnR l))) ∧ w = w' := by
  obtain ⟨a, c, rfl⟩ := hr.form
  cases l with
  | nil =>
    go_enter Try.func17, Try.ntmps17
    go_wp2_with fail
    refine (Inf_pos _).mono ?_
    rintro e w' ⟨rfl, rfl⟩
    go_wp2_with fail
    go_ret
    exact ⟨rfl, rfl⟩
  | cons x l =>
    obtain ⟨q, o, c', hv, _, hcell⟩ := hr.at (by simp)
    simp only [Value.slice.injEq, true_and] at hv
    obtain ⟨rfl, rfl⟩ := hv
    have hc0 : w.cell? ⟨q, o, none⟩ = some (.float .f64 x) := by simpa using hcell 0 (.float .f64 x) (by simp [fv])
    have hx := hf x (by simp)
    have hnz : (((x :: l).length : Int) == 0) = false := by simp; omega
    have hpos : 0 < (x :: l).length := by simp
    have hmn : mnR (x :: l) = mnFrom (rankP x) (x :: l) := rfl
    rw [hmn]
    clear hmn
    generalize hL : x :: l = L at *
    have HL := Lib.hid hL
    clear hL
    go_enter Try.func17, Try.ntmps17
    go_wp2_with fail
    refine (Rank_any x _ hx).mono ?_
    rintro e w' ⟨rfl, rfl⟩
    go_wp2_with fail
    go_loop [3, 16] (fun s3 s16 => ∃ k : Nat, k ≤ L.length ∧ s16 = .int .i64 k ∧ s3 = .int .i64 (mnFrom (rankP x) (L.take k))) (fun _ i => L.length - (intOf i).toNat)
    case atStart => exact ⟨0, by omega, rfl, rfl⟩
    case round =>
      obtain ⟨k, hk, rfl, rfl⟩ := hrel
      by_cases hlt : k < L.length
      · have hkz : (k : Int) < (L.length : Int) := by omega
        have hk0 : (0 : Int) ≤ (k : Int) := by omega
        obtain ⟨y, hy⟩ : ∃ y, L[k]? = some y := ⟨L[k], List.getElem?_eq_getElem hlt⟩
        have hc := hcell k (.float .f64 y) (by simp [fv, hy])
        have hyl := hf y (List.mem_of_getElem? hy)
        have hst := mnFrom_take L (rankP x) k y hy
        have hrk : ∀ w, Calls Try.prog 32 #[.float .f64 y] w fun e w' => e = .returned (.int .i64 (rankP y)) ∧ w = w' := fun w => Rank_any y w hyl
        generalize mnFrom (rankP x) (L.take k) = m at *
        generalize rankP y = ry at *
        have HR := Lib.hid hrk
        have HS := Lib.hid hst
        clear hcell hy hst hrk hf hr hc0 hpos
        go_wp2_with fail
        refine (HR.out _).mono ?_
        rintro e w' ⟨rfl, rfl⟩
        go_wp2_with fail
        go_round
        case rel => exact ⟨k + 1, by omega, by go_num, by rw [HS.out]; go_num⟩
        case measure => simp [intOf]; omega
      · have hkz : ¬ (k : Int) < (L.length : Int) := by omega
        rw [List.take_of_length_le (by omega)]
        have hb := mnFrom_bounds L (rankP x) (by have := rank_bounds x; omega) (by have := rank_bounds x; omega)
        obtain ⟨m, hm⟩ : ∃ m, m = mnFrom (rankP x) L := ⟨_, rfl⟩
        rw [← hm] at hb ⊢
        have HM := Lib.hid hm
        clear hcell hf hr hc0 hpos hm
        go_wp2_with fail
        refine (At_any m _ (by omega) (by omega)).mono ?_
        rintro e w' ⟨rfl, rfl⟩
        go_wp2_with fail
        go_ret
        exact ⟨by rw [← HM.out]; rfl, rfl⟩

def mxFrom (n : Int) : List Nat → Int
  | [] => n
  | x :: l => mxFrom (max n (rankP x)) l
/-- The rank of the most one. -/
def mxR : List Nat → Int
  | [] => (-9218868437227405313)
  | x :: l => mxFrom (rankP x) (x :: l)
theorem mxFrom_bounds (l : List Nat) : ∀ n : Int, -9218868437227405313 ≤ n → n ≤ 9218868437227405313 → -9218868437227405313 ≤ mxFrom n l ∧ mxFrom n l ≤ 9218868437227405313 := by
  induction l with
  | nil => intro n h1 h2; exact ⟨h1, h2⟩
  | cons x l ih => intro n h1 h2; have := rank_bounds x; exact ih _ (by omega) (by omega)
theorem mxR_bounds (l : List Nat) : -9218868437227405313 ≤ mxR l ∧ mxR l ≤ 9218868437227405313 := by
  cases l with
  | nil => decide
  | cons x l => have := rank_bounds x; exact mxFrom_bounds _ _ (by omega) (by omega)
theorem mxFrom_snoc (l : List Nat) (y : Nat) : ∀ n, mxFrom n (l ++ [y]) = max (mxFrom n l) (rankP y) := by
  induction l with
  | nil => intro n; rfl
  | cons x l ih => intro n; exact ih _
theorem mxFrom_take (l : List Nat) (n : Int) (k y : Nat) (h : l[k]? = some y) : mxFrom n (l.take (k + 1)) = max (mxFrom n (l.take k)) (rankP y) := by
  rw [List.take_add_one, h]; exact mxFrom_snoc _ _ _

set_option maxHeartbeats 1000000 in
theorem Most_any (v : Value) (l : List Nat) (w : World) (hf : Fl l) (hl : l.length ≤ 140737488355328) (hr : Rd w 1 v l.length (fv l)) :
    Calls Try.prog 18 #[v] w fun e w' => e = .returned (.float .f64 (atP (mxR l))) ∧ w = w' := by
  obtain ⟨a, c, rfl⟩ := hr.form
  cases l with
  | nil =>
    go_enter Try.func18, Try.ntmps18
    go_wp2_with fail
    refine (Inf_neg _).mono ?_
    rintro e w' ⟨rfl, rfl⟩
    go_wp2_with fail
    go_ret
    exact ⟨rfl, rfl⟩
  | cons x l =>
    obtain ⟨q, o, c', hv, _, hcell⟩ := hr.at (by simp)
    simp only [Value.slice.injEq, true_and] at hv
    obtain ⟨rfl, rfl⟩ := hv
    have hc0 : w.cell? ⟨q, o, none⟩ = some (.float .f64 x) := by simpa using hcell 0 (.float .f64 x) (by simp [fv])
    have hx := hf x (by simp)
    have hnz : (((x :: l).length : Int) == 0) = false := by simp; omega
    have hpos : 0 < (x :: l).length := by simp
    have hmn : mxR (x :: l) = mxFrom (rankP x) (x :: l) := rfl
    rw [hmn]
    clear hmn
    generalize hL : x :: l = L at *
    have HL := Lib.hid hL
    clear hL
    go_enter Try.func18, Try.ntmps18
    go_wp2_with fail
    refine (Rank_any x _ hx).mono ?_
    rintro e w' ⟨rfl, rfl⟩
    go_wp2_with fail
    go_loop [3, 16] (fun s3 s16 => ∃ k : Nat, k ≤ L.length ∧ s16 = .int .i64 k ∧ s3 = .int .i64 (mxFrom (rankP x) (L.take k))) (fun _ i => L.length - (intOf i).toNat)
    case atStart => exact ⟨0, by omega, rfl, rfl⟩
    case round =>
      obtain ⟨k, hk, rfl, rfl⟩ := hrel
      by_cases hlt : k < L.length
      · have hkz : (k : Int) < (L.length : Int) := by omega
        have hk0 : (0 : Int) ≤ (k : Int) := by omega
        obtain ⟨y, hy⟩ : ∃ y, L[k]? = some y := ⟨L[k], List.getElem?_eq_getElem hlt⟩
        have hc := hcell k (.float .f64 y) (by simp [fv, hy])
        have hyl := hf y (List.mem_of_getElem? hy)
        have hst := mxFrom_take L (rankP x) k y hy
        have hrk : ∀ w, Calls Try.prog 32 #[.float .f64 y] w fun e w' => e = .returned (.int .i64 (rankP y)) ∧ w = w' := fun w => Rank_any y w hyl
        generalize mxFrom (rankP x) (L.take k) = m at *
        generalize rankP y = ry at *
        have HR := Lib.hid hrk
        have HS := Lib.hid hst
        clear hcell hy hst hrk hf hr hc0 hpos
        go_wp2_with fail
        refine (HR.out _).mono ?_
        rintro e w' ⟨rfl, rfl⟩
        go_wp2_with fail
        go_round
        case rel => exact ⟨k + 1, by omega, by go_num, by rw [HS.out]; go_num⟩
        case measure => simp [intOf]; omega
      · have hkz : ¬ (k : Int) < (L.length : Int) := by omega
        rw [List.take_of_length_le (by omega)]
        have hb := mxFrom_bounds L (rankP x) (by have := rank_bounds x; omega) (by have := rank_bounds x; omega)
        obtain ⟨m, hm⟩ : ∃ m, m = mxFrom (rankP x) L := ⟨_, rfl⟩
        rw [← hm] at hb ⊢
        have HM := Lib.hid hm
        clear hcell hf hr hc0 hpos hm
        go_wp2_with fail
        refine (At_any m _ (by omega) (by omega)).mono ?_
        rintro e w' ⟨rfl, rfl⟩
        go_wp2_with fail
        go_ret
        exact ⟨by rw [← HM.out]; rfl, rfl⟩

end Go.Proofs.Ytdociiogddihfaa
