/- BallotWins: the world between two turns. -/
import Derived.Test.YthghhjilbaiahaaWinsN
import Derived.Test.YthghhjilbaiahaaWins
import Derived.Test.YthghhjilbaiahaaTw
import Derived.Test.YthghhjilbaiahaaBallotLaw2
import Derived.Deep.MidRow
import Derived.Test.YthghhjilbaiahaaReg
import Derived.Great.BuildSlice
namespace Go.Proofs.Ythghhjilbaiahaa
open Go.RowKit

theorem fold_set : ∀ (l : List Value) (n : Nat) (init : Array Value), n + l.length ≤ init.size →
    (l.zipIdx n).foldl (fun cs x => cs.setIfInBounds (0 + x.2) x.1) init = (init.toList.take n ++ (l ++ init.toList.drop (n + l.length))).toArray
  | [], n, init, _ => by simp
  | c :: l, n, init, h => by
    simp only [List.length_cons] at h
    rw [List.zipIdx_cons, List.foldl_cons, fold_set l (n + 1) _ (by simp; omega)]
    congr 1
    simp only [Nat.zero_add, Array.toList_setIfInBounds, List.length_cons]
    rw [List.take_add_one, List.getElem?_set_self (by simp; omega), List.drop_set_of_lt (by omega), List.take_set_of_le (by omega)]
    simp [Nat.add_assoc, Nat.add_comm 1]
theorem fill_one (cs : List Value) (init : Array Value) (h : init.size = cs.length) (size : Nat) (hs : size = cs.length) :
    Instr.fill (fun i => some (i * size, size)) init [(0, .agg cs.toArray)] = some cs.toArray := by
  subst hs
  have hf := fold_set cs 0 init (by omega)
  simp only [Nat.zero_add, List.take_zero, List.nil_append] at hf
  rw [List.drop_of_length_le (by simp; omega), List.append_nil] at hf
  simp [Instr.fill, Value.cells, h, hf]
theorem wpList_build1 {P : Program} {ops : Array Oper} {rest : List Oper} {o : Oper} {a : Act} {w : World} {Q : Exit → Act → World → Prop} (hg : o.guard = none) (t e : TypeId) (x : Operand) (ho : o.op = .buildSlice t 1 #[(0, x)])
    (cs : List Value) (hx : a.eval x = .agg cs.toArray) (hu : P.underlying t = some (.slice e)) {z : Value} {bytes : Nat} (hinfo : (P.info? e).map (fun i => (i.zero, i.size, i.bytes)) = some (some z, cs.length, bytes)) (h0 : 0 < cs.length) (h24 : cs.length ≤ 16777216)
    (h : wpList P ops Q rest (a.put o.dst (.slice (some ⟨w.heap.size, 0, none⟩) 1 1)) (w.alloc (.cells cs.toArray e))) : wpList P ops Q (o :: rest) a w := by
  obtain ⟨i, hi, hz, hsize, _⟩ := info_parts hinfo
  refine wpList_buildSlice hg t e 1 _ ho cs.toArray i z hu hi hz (by rw [hsize]; omega) (by rw [hsize]; omega) ?_ h
  have e : (Array.map (fun x : Nat × Operand => match x with | (i, x) => (i, a.eval x)) #[(0, x)]).toList = [(0, a.eval x)] := by simp
  rw [e, hx]
  exact fill_one cs _ (by simp [hsize]) _ hsize
theorem own_other {w w' : World} {B : Nat} {e : TypeId} {size : Nat} {v : Value} {n : Nat} {xs : List Value} {r : Option Nat} (h : w.ownsRow B e size v n xs) (hg : w.grownBy w' r) (hv : ∀ j, v.ownBlock = some j → r ≠ some j) : w'.ownsRow B e size v n xs :=
  h.kept hg (by
    rcases hj : v.ownBlock with _ | j
    · exact .inl rfl
    · exact .inr (fun e => hv j hj e.symm))

theorem wrap_nat (n : Int) : ∃ U : Nat, IntKind.u64.wrap n = (U : Int) ∧ U < 18446744073709551616 := by
  refine ⟨(IntKind.u64.wrap n).toNat, ?_, ?_⟩ <;> rw [IntKind.wrap_u64] <;> omega
theorem mod_nat (U : Nat) (d : Nat) (e : Int) (he : e = (d : Int) + 1) : ∃ m : Nat, (U : Int) % e = (m : Int) ∧ m ≤ d := by
  subst he
  refine ⟨U % (d + 1), by rw [show (d : Int) + 1 = ((d + 1 : Nat) : Int) by omega]; exact (Int.natCast_emod U (d + 1)).symm, ?_⟩
  have := Nat.mod_lt U (show 0 < d + 1 by omega)
  omega
/-- A message. -/
structure MsgV where
  k : Int
  fr : Nat
  to_ : Nat
  x : Nat
  idx : Nat
  lt : Nat
  cm : Nat
  st : Nat
  yes : Bool
  en : Value
  me : Value
  im : Value
def MsgV.cells (m : MsgV) : List Value := [.int .i64 m.k, .int .u64 m.fr, .int .u64 m.to_, .int .u64 m.x, .int .u64 m.idx, .int .u64 m.lt, .int .u64 m.cm, .int .u64 m.st, .bool m.yes, m.en, m.me, m.im]
def MsgV.ok (m : MsgV) : Prop := m.en.oneCell' = true ∧ m.me.oneCell' = true ∧ m.im.oneCell' = true
theorem MsgV.len (m : MsgV) : m.cells.length = 12 := rfl
theorem MsgV.one {m : MsgV} (h : m.ok) : ∀ u ∈ m.cells, u.oneCell' = true := by
  intro u hu
  simp only [MsgV.cells, List.mem_cons, List.not_mem_nil, or_false] at hu
  rcases hu with rfl | rfl | rfl | rfl | rfl | rfl | rfl | rfl | rfl | rfl | rfl | rfl <;> first | rfl | exact h.1 | exact h.2.1 | exact h.2.2
/-- A turn. -/
structure TurnE where
  vt : Int
  m : MsgV
def TurnE.cells (t : TurnE) : List Value := .int .i64 t.vt :: t.m.cells
theorem TurnE.len (t : TurnE) : t.cells.length = 13 := rfl
/-- A voter's log. -/
structure LogE where
  base : Nat
  bt : Nat
  val : Value
  es : List EE
def LogE.cells (l : LogE) : List Value := [.int .u64 l.base, .int .u64 l.bt, l.val]
structure LogE.ok (w : World) (l : LogE) : Prop where
  rd : Rd w 6 l.val l.es.length (ecells l.es)
  len : l.es.length ≤ 140737488355328

theorem Rd.turn {w : World} {gt ot tc : Nat} {ts : List TurnE} (h : Rd w 13 (.slice (some ⟨gt, ot, none⟩) ts.length tc) ts.length (ts.flatMap TurnE.cells)) {i : Nat} {t : TurnE} (ht : ts[i]? = some t) :
    w.cell? ⟨gt, ot + i * 13, none⟩ = some (.int .i64 t.vt) ∧ w.cell? ⟨gt, ot + i * 13 + 1 + 1, none⟩ = some (.int .u64 t.m.fr) ∧ w.cell? ⟨gt, ot + i * 13 + 1 + 3, none⟩ = some (.int .u64 t.m.x) ∧ w.rangeAt gt (ot + i * 13 + 1) t.m.cells := by
  have hi := (List.getElem?_eq_some_iff.1 ht).1
  obtain ⟨g, o, c, hv, _, hcell⟩ := h.atN (by omega) (by omega)
  simp only [Value.slice.injEq, Option.some.injEq, Addr.mk.injEq, and_true, true_and] at hv
  obtain ⟨⟨rfl, rfl⟩, rfl⟩ := hv
  have hcl : ∀ j, j < 13 → w.cell? ⟨gt, ot + (i * 13 + j), none⟩ = t.cells[j]? := by
    intro j hj
    have e := flat_get TurnE.cells 13 ts (fun a _ => a.len) i t ht j hj
    rw [show t.cells[j]? = some (t.cells[j]'(by rw [t.len]; exact hj)) from List.getElem?_eq_getElem _] at e ⊢
    exact hcell _ _ e
  refine ⟨by have := hcl 0 (by omega); rw [← Nat.add_assoc] at this; exact this, by have := hcl 2 (by omega); rw [← Nat.add_assoc] at this; exact this, by have := hcl 4 (by omega); rw [← Nat.add_assoc] at this; exact this, fun j u hu => ?_⟩
  have hj : j < 12 := by have := (List.getElem?_eq_some_iff.1 hu).1; rwa [t.m.len] at this
  have := hcl (j + 1) (by omega)
  rw [show ot + (i * 13 + (j + 1)) = ot + i * 13 + 1 + j by omega] at this
  rw [this]; exact hu
theorem below_drewN (w : World) (n : Nat) : Below w.heap.size w (w.drewN n) := by
  induction n with
  | zero => exact Below.refl _ _
  | succ n ih => exact ih.drew
theorem msgs_len (ms : List MsgV) : (ms.flatMap MsgV.cells).length = ms.length * 12 := flat_length _ 12 ms (fun a _ => a.len)
theorem infoMsg : (Try.prog.info? 34).map (fun i => (i.zero, i.size, i.bytes)) = some (some (.agg #[.int .i64 0, .int .u64 0, .int .u64 0, .int .u64 0, .int .u64 0, .int .u64 0, .int .u64 0, .int .u64 0, .bool false, .slice none 0 0, .slice none 0 0, .slice none 0 0]), 12, 144) := by kernel_rfl
theorem infoNums : (Try.prog.info? 31).map (fun i => (i.zero, i.size, i.bytes)) = some (some (.slice none 0 0), 1, 24) := by kernel_rfl
theorem infoU64w : (Try.prog.info? 22).map (fun i => (i.zero, i.size, i.bytes)) = some (some (.int .u64 0), 1, 8) := by kernel_rfl

/-- The world between two turns: the voters' states at HB, the asks, and who granted. -/
structure BC (w wx : World) (B HB : Nat) (s8 s9 : Value) (hs : HS) (ws : List Won) (ms : List MsgV) (bs : List Value) : Prop where
  hd : ∀ q, q < 7 → wx.cell? ⟨HB, q * 2, none⟩ = some (.int .u64 (hs (q + 1)).1) ∧ wx.cell? ⟨HB, q * 2 + 1, none⟩ = some (.int .u64 (hs (q + 1)).2)
  hf : ∀ q, wx.frozen? ⟨HB, q, none⟩ = false
  ow : wx.ownsRow B 34 12 s8 ms.length (ms.flatMap MsgV.cells)
  ob : wx.ownsRow B 31 1 s9 bs.length bs
  ap : ∀ j, s8.ownBlock = some j → s9.ownBlock ≠ some j
  lb : bs.length = ws.length
  ea : ∀ (k : Nat) (b : Value) (x : Won), bs[k]? = some b → ws[k]? = some x → wx.ownsRow B 22 1 b x.by_.length (uv x.by_)
  ep : ∀ (k : Nat) (b : Value) (j : Nat), bs[k]? = some b → b.ownBlock = some j → s8.ownBlock ≠ some j ∧ s9.ownBlock ≠ some j
  ed : ∀ (i k : Nat) (b c : Value) (j : Nat), bs[i]? = some b → bs[k]? = some c → i ≠ k → b.ownBlock = some j → c.ownBlock ≠ some j
  bl : Below w.heap.size w wx
  wH : w.heap.size ≤ HB
  HB_ : HB < B
  Bl : B ≤ wx.heap.size

section
variable {w wx wy : World} {B HB g8 g9 cap : Nat} {s8 s9 : Value} {hs : HS} {ws : List Won} {ms : List MsgV} {bs : List Value}
theorem BC.keep (h : BC w wx B HB s8 s9 hs ws ms bs) (k : Below wx.heap.size wx wy) : BC w wy B HB s8 s9 hs ws ms bs := by
  have hH : HB < wx.heap.size := Nat.lt_of_lt_of_le h.HB_ h.Bl
  refine ⟨fun q hq => ?_, fun q => ?_, own_keep h.ow k, own_keep h.ob k, h.ap, h.lb, fun i b x hb hx => own_keep (h.ea i b x hb hx) k, h.ep, h.ed, h.bl.trans (k.mono h.bl.size), h.wH, h.HB_, Nat.le_trans h.Bl k.size⟩
  · rw [k.cell (p := ⟨HB, q * 2, none⟩) hH, k.cell (p := ⟨HB, q * 2 + 1, none⟩) hH]; exact h.hd q hq
  · rw [k.frozen (p := ⟨HB, q, none⟩) hH]; exact h.hf q
theorem BC.drew (h : BC w wx B HB s8 s9 hs ws ms bs) : BC w wx.drew B HB s8 s9 hs ws ms bs := h.keep (Below.refl _ _).drew
theorem BC.won (h : BC w wx B HB s8 s9 hs ws ms bs) {k : Nat} {b : Value} (hb : bs[k]? = some b) : ∃ x, ws[k]? = some x :=
  ⟨ws[k]'(by have := (List.getElem?_eq_some_iff.1 hb).1; have := h.lb; omega), List.getElem?_eq_getElem _⟩
theorem BC.lt (h : BC w wx B HB s8 s9 hs ws ms bs) {k : Nat} {b : Value} (hb : bs[k]? = some b) {j : Nat} (hj : b.ownBlock = some j) : B ≤ j ∧ j < wx.heap.size := by
  obtain ⟨x, hx⟩ := h.won hb
  exact (h.ea k b x hb hx).lt j hj

theorem BC.push8 (h : BC w wx B HB s8 s9 hs ws ms bs) {s8' : Value} {m : MsgV} (own : wy.ownsRow B 34 12 s8' (ms.length + 1) (ms.flatMap MsgV.cells ++ m.cells)) (g : Grew wx wy s8 s8') : BC w wy B HB s8' s9 hs ws (ms ++ [m]) bs := by
  have k : Below B wx wy := g.below h.Bl (own_block h.ow)
  refine ⟨fun q hq => ?_, fun q => ?_, by simpa using own, own_other h.ob g.grown (fun j hj e => h.ap j e hj), fun j hj e => ?_, h.lb, fun i b x hb hx => own_other (h.ea i b x hb hx) g.grown (fun j hj e => (h.ep i b j hb hj).1 e), fun i b j hb hj => ⟨fun e => ?_, (h.ep i b j hb hj).2⟩, h.ed, h.bl.trans (k.mono (Nat.le_trans h.wH (Nat.le_of_lt h.HB_))), h.wH, h.HB_, Nat.le_trans h.Bl g.grown.size⟩
  · rw [k.cell (p := ⟨HB, q * 2, none⟩) h.HB_, k.cell (p := ⟨HB, q * 2 + 1, none⟩) h.HB_]; exact h.hd q hq
  · rw [k.frozen (p := ⟨HB, q, none⟩) h.HB_]; exact h.hf q
  · rcases g.blk j hj with e1 | e1
    · exact h.ap j e1 e
    · have := (h.ob.lt j e).2; omega
  · rcases g.blk j e with e1 | e1
    · exact (h.ep i b j hb hj).1 e1
    · have := (h.lt hb hj).2; omega

theorem BC.push9 (h : BC w wx B HB s8 s9 hs ws ms bs) {s9' : Value} (T F : Nat) (own : wy.ownsRow B 31 1 s9' (bs.length + 1) (bs ++ [.slice none 0 0])) (g : Grew wx wy s9 s9') : BC w wy B HB s8 s9' hs (ws ++ [⟨T, F, []⟩]) ms (bs ++ [.slice none 0 0]) := by
  have k : Below B wx wy := g.below h.Bl (own_block h.ob)
  have key : ∀ (i : Nat) (b : Value), (bs ++ [.slice none 0 0])[i]? = some b → (bs[i]? = some b) ∨ (i = bs.length ∧ b = .slice none 0 0) := by
    intro i b hb
    by_cases hi : i < bs.length
    · rw [List.getElem?_append_left hi] at hb; exact .inl hb
    · rw [List.getElem?_append_right (by omega)] at hb
      right
      by_cases e : i - bs.length = 0
      · rw [e] at hb; simp at hb; exact ⟨by omega, hb.symm⟩
      · rw [List.getElem?_eq_none (by simp; omega)] at hb; cases hb
  refine ⟨fun q hq => ?_, fun q => ?_, own_other h.ow g.grown (fun j hj e => h.ap j hj e), by simpa using own, fun j hj e => ?_, by simp [h.lb], fun i b x hb hx => ?_, fun i b j hb hj => ?_, fun i k b c j hb hc hne hj e => ?_, h.bl.trans (k.mono (Nat.le_trans h.wH (Nat.le_of_lt h.HB_))), h.wH, h.HB_, Nat.le_trans h.Bl g.grown.size⟩
  · rw [k.cell (p := ⟨HB, q * 2, none⟩) h.HB_, k.cell (p := ⟨HB, q * 2 + 1, none⟩) h.HB_]; exact h.hd q hq
  · rw [k.frozen (p := ⟨HB, q, none⟩) h.HB_]; exact h.hf q
  · rcases g.blk j e with e1 | e1
    · exact h.ap j hj e1
    · have := (h.ow.lt j hj).2; omega
  · rcases key i b hb with hb | ⟨rfl, rfl⟩
    · have hi : i < ws.length := by have := (List.getElem?_eq_some_iff.1 hb).1; have := h.lb; omega
      rw [List.getElem?_append_left hi] at hx
      exact own_other (h.ea i b x hb hx) g.grown (fun j hj e => (h.ep i b j hb hj).2 e)
    · rw [h.lb, List.getElem?_append_right (Nat.le_refl _)] at hx
      simp at hx
      subst hx
      exact World.ownsRow_nil _ _ _ _
  · rcases key i b hb with hb | ⟨rfl, rfl⟩
    · refine ⟨(h.ep i b j hb hj).1, fun e => ?_⟩
      rcases g.blk j e with e1 | e1
      · exact (h.ep i b j hb hj).2 e1
      · have := (h.lt hb hj).2; omega
    · simp [Value.ownBlock] at hj
  · rcases key i b hb with hb | ⟨rfl, rfl⟩
    · rcases key k c hc with hc | ⟨rfl, rfl⟩
      · exact h.ed i k b c j hb hc hne hj e
      · simp [Value.ownBlock] at e
    · simp [Value.ownBlock] at hj

theorem BC.vote (h : BC w wx B HB s8 (.slice (some ⟨g9, 0, none⟩) bs.length cap) hs ws ms bs) {k T F x : Nat} {l : List Nat} {b b' : Value} (hb : bs[k]? = some b) (hw : ws[k]? = some ⟨T, F, l⟩)
    (own : wy.ownsRow B 22 1 b' (l.length + 1) (uv l ++ [.int .u64 x])) (g : Grew wx wy b b') :
    BC w (wy.setCell ⟨g9, k, none⟩ b') B HB s8 (.slice (some ⟨g9, 0, none⟩) bs.length cap) hs (ws.set k ⟨T, F, l ++ [x]⟩) ms (bs.set k b') := by
  have hkb := (List.getElem?_eq_some_iff.1 hb).1
  have hkw := (List.getElem?_eq_some_iff.1 hw).1
  have h9 : Value.ownBlock (.slice (some ⟨g9, 0, none⟩) bs.length cap) = some g9 := rfl
  have g9B := h.ob.lt g9 h9
  have k1 : Below B wx wy := g.below h.Bl (fun j hj => (h.lt hb hj).1)
  have ob1 : wy.ownsRow B 31 1 (.slice (some ⟨g9, 0, none⟩) bs.length cap) bs.length bs := own_other h.ob g.grown (fun j hj e => (h.ep k b j hb e).2 hj)
  obtain ⟨ob2, gr2⟩ := ob1.stored k b'
  have k2 : Below B wy (wy.setCell ⟨g9, k, none⟩ b') := (Below.refl _ _).setCell g9B.1 _
  have k3 := k1.trans k2
  have hb'9 : ∀ j, b'.ownBlock = some j → some g9 ≠ some j := by
    intro j hj e
    rcases g.blk j hj with e1 | e1
    · exact (h.ep k b j hb e1).2 (by rw [h9, e])
    · simp at e; omega
  have key : ∀ (i : Nat) (c : Value), (bs.set k b')[i]? = some c → (i ≠ k ∧ bs[i]? = some c) ∨ (i = k ∧ c = b') := by
    intro i c hc
    rw [List.getElem?_set] at hc
    by_cases e : k = i
    · subst e; rw [if_pos rfl, if_pos hkb] at hc; simp at hc; exact .inr ⟨rfl, hc.symm⟩
    · rw [if_neg e] at hc; exact .inl ⟨fun e2 => e e2.symm, hc⟩
  refine ⟨fun q hq => ?_, fun q => ?_, ?_, by simpa using ob2, fun j hj => h.ap j hj, by simp [h.lb], fun i c y hc hx => ?_, fun i c j hc hj => ?_, fun i n c d j hc hd hne hj e => ?_, h.bl.trans (k3.mono (Nat.le_trans h.wH (Nat.le_of_lt h.HB_))), h.wH, h.HB_, Nat.le_trans h.Bl k3.size⟩
  · rw [k3.cell (p := ⟨HB, q * 2, none⟩) h.HB_, k3.cell (p := ⟨HB, q * 2 + 1, none⟩) h.HB_]; exact h.hd q hq
  · rw [k3.frozen (p := ⟨HB, q, none⟩) h.HB_]; exact h.hf q
  · exact own_other (own_other h.ow g.grown (fun j hj e => (h.ep k b j hb e).1 hj)) gr2 (fun j hj e => h.ap j hj (by rw [h9, e]))
  · rcases key i c hc with ⟨hne, hc⟩ | ⟨rfl, rfl⟩
    · rw [List.getElem?_set_ne (fun e => hne e.symm)] at hx
      refine own_other (own_other (h.ea i c y hc hx) g.grown (fun j hj e => h.ed i k c b j hc hb hne hj e)) gr2 (fun j hj e => (h.ep i c j hc hj).2 (by rw [h9, e]))
    · rw [List.getElem?_set_self hkw] at hx
      simp at hx
      subst hx
      show World.ownsRow _ B _ 1 _ (l ++ [x]).length (uv (l ++ [x]))
      rw [List.length_append, List.length_singleton, show uv (l ++ [x]) = uv l ++ [Value.int .u64 x] by simp [uv]]
      exact own_other own gr2 hb'9
  · rcases key i c hc with ⟨hne, hc⟩ | ⟨rfl, rfl⟩
    · exact h.ep i c j hc hj
    · refine ⟨fun e => ?_, fun e => hb'9 j hj (by rw [← e, h9])⟩
      rcases g.blk j hj with e1 | e1
      · exact (h.ep i b j hb e1).1 e
      · have := (h.ow.lt j e).2; omega
  · rcases key i c hc with ⟨hnei, hc2⟩ | ⟨ei, ec⟩
    · rcases key n d hd with ⟨_, hd2⟩ | ⟨en, ed⟩
      · exact h.ed i n c d j hc2 hd2 hne hj e
      · subst en ed
        rcases g.blk j e with e1 | e1
        · exact h.ed i n c b j hc2 hb hne hj e1
        · have := (h.lt hc2 hj).2; omega
    · rcases key n d hd with ⟨_, hd2⟩ | ⟨en, ed⟩
      · subst ei ec
        rcases g.blk j hj with e1 | e1
        · exact h.ed i n b d j hb hd2 hne e1 e
        · have := (h.lt hd2 e).2; omega
      · exact hne (ei.trans en.symm)

theorem BC.hard (h : BC w wx B HB s8 s9 hs ws ms bs) {q t v : Nat} (hq : q < 7) : BC w (wx.setCells HB (q * 2) [.int .u64 t, .int .u64 v]) B HB s8 s9 (fun u => if u = q + 1 then (t, v) else hs u) ws ms bs := by
  have hth : wx.there HB (q * 2) 2 := by
    intro j hj
    refine ⟨?_, h.hf _⟩
    rcases (show j = 0 ∨ j = 1 by omega) with rfl | rfl
    · rw [Nat.add_zero, (h.hd q hq).1]; rfl
    · rw [(h.hd q hq).2]; rfl
  have hown : ∀ {e size x n xs}, wx.ownsRow B e size x n xs → (wx.setCells HB (q * 2) [.int .u64 t, .int .u64 v]).ownsRow B e size x n xs := fun ho =>
    ownsRow_setCell_below (ownsRow_setCell_below ho h.HB_ _) h.HB_ _
  refine ⟨fun p hp => ?_, fun p => by rw [World.frozen?_setCells]; exact h.hf p, hown h.ow, hown h.ob, h.ap, h.lb, fun i b x hb hx => hown (h.ea i b x hb hx), h.ep, h.ed, ?_, h.wH, h.HB_, ?_⟩
  · by_cases e : p = q
    · subst e
      simp only [if_true]
      have hr := World.rangeAt_setCells_same wx HB (p * 2) [.int .u64 t, .int .u64 v] hth
      exact ⟨hr 0 _ rfl, hr 1 _ rfl⟩
    · simp only [if_neg (show ¬ p + 1 = q + 1 by omega)]
      rw [World.cell?_setCells_out _ _ _ _ _ (fun _ _ => by show p * 2 < q * 2 ∨ q * 2 + 2 ≤ p * 2; omega), World.cell?_setCells_out _ _ _ _ _ (fun _ _ => by show p * 2 + 1 < q * 2 ∨ q * 2 + 2 ≤ p * 2 + 1; omega)]
      exact h.hd p hp
  · exact (h.bl.setCell h.wH _).setCell h.wH _
  · show B ≤ ((wx.setCell _ _).setCell _ _).heap.size
    simp only [World.size_setCell]; exact h.Bl
theorem BC.there (h : BC w wx B HB s8 s9 hs ws ms bs) {q : Nat} (hq : q < 7) : wx.there HB (q * 2) 2 := by
  intro j hj
  refine ⟨?_, h.hf _⟩
  rcases (show j = 0 ∨ j = 1 by omega) with rfl | rfl
  · rw [Nat.add_zero, (h.hd q hq).1]; rfl
  · rw [(h.hd q hq).2]; rfl
theorem BC.range (h : BC w wx B HB s8 s9 hs ws ms bs) {q : Nat} (hq : q < 7) : wx.rangeAt HB (q * 2) [.int .u64 (hs (q + 1)).1, .int .u64 (hs (q + 1)).2] := by
  intro j v hv
  have hj : j < 2 := (List.getElem?_eq_some_iff.1 hv).1
  rcases (show j = 0 ∨ j = 1 by omega) with rfl | rfl
  · rw [Nat.add_zero, (h.hd q hq).1]; exact hv
  · rw [(h.hd q hq).2]; exact hv
theorem BC.ask (h : BC w wx B HB (.slice (some ⟨g8, 0, none⟩) ms.length cap) s9 hs ws ms bs) {k : Nat} {m : MsgV} (hm : ms[k]? = some m) : wx.cell? ⟨g8, k * 12 + 1, none⟩ = some (.int .u64 m.fr) ∧ wx.cell? ⟨g8, k * 12 + 3, none⟩ = some (.int .u64 m.x) := by
  have hk := (List.getElem?_eq_some_iff.1 hm).1
  have e := fun j (hj : j < 12) => flat_get MsgV.cells 12 ms (fun a _ => a.len) k m hm j hj
  exact ⟨by rw [h.ow.cellAt _ (by omega), e 1 (by omega)]; rfl, by rw [h.ow.cellAt _ (by omega), e 3 (by omega)]; rfl⟩
theorem BC.who (h : BC w wx B HB s8 (.slice (some ⟨g9, 0, none⟩) bs.length cap) hs ws ms bs) {k : Nat} {b : Value} (hb : bs[k]? = some b) : wx.cell? ⟨g9, k, none⟩ = some b := by
  have hk := (List.getElem?_eq_some_iff.1 hb).1
  rw [h.ob.cellAt _ (by omega)]; exact hb
theorem BC.vote_at (h : BC w wx B HB s8 (.slice (some ⟨g9, 0, none⟩) bs.length cap) hs ws ms bs) {k : Nat} {b b' : Value} (hb : bs[k]? = some b) (g : Grew wx wy b b') : wy.cell? ⟨g9, k, none⟩ = some b ∧ wy.frozen? ⟨g9, k, none⟩ = false := by
  have hk := (List.getElem?_eq_some_iff.1 hb).1
  have ob1 : wy.ownsRow B 31 1 (.slice (some ⟨g9, 0, none⟩) bs.length cap) bs.length bs := own_other h.ob g.grown (fun j hj e => (h.ep k b j hb e).2 hj)
  exact ⟨by rw [ob1.cellAt _ (by omega)]; exact hb, ob1.frozenAt k⟩
/-- A voter's state in a block of its own. -/
def HRow (w : World) (R a b : Nat) : Prop := w.cell? ⟨R, 0, none⟩ = some (.int .u64 a) ∧ w.cell? ⟨R, 1, none⟩ = some (.int .u64 b) ∧ w.frozen? ⟨R, 0, none⟩ = false ∧ w.frozen? ⟨R, 1, none⟩ = false
theorem HRow.keep {R a b : Nat} (h : HRow wx R a b) (k : Below wx.heap.size wx wy) : HRow wy R a b := by
  have hR : R < wx.heap.size := World.block_lt_of_cell? _ _ h.1
  exact ⟨(k.cell (p := ⟨R, 0, none⟩) hR).trans h.1, (k.cell (p := ⟨R, 1, none⟩) hR).trans h.2.1, (k.frozen (p := ⟨R, 0, none⟩) hR).trans h.2.2.1, (k.frozen (p := ⟨R, 1, none⟩) hR).trans h.2.2.2⟩
theorem HRow.set {R a b : Nat} (h : HRow wx R a b) (x y : Nat) : HRow ((wx.setCell ⟨R, 0, none⟩ (.int .u64 x)).setCell ⟨R, 1, none⟩ (.int .u64 y)) R x y :=
  ⟨(set2 h.1 h.2.1).1, (set2 h.1 h.2.1).2, by rw [World.frozen?_setCell, World.frozen?_setCell]; exact h.2.2.1, by rw [World.frozen?_setCell, World.frozen?_setCell]; exact h.2.2.2⟩
theorem HRow.new (w : World) (t : TypeId) : HRow (w.alloc (.cells #[.int .u64 0, .int .u64 0] t)) w.heap.size 0 0 := ⟨by simp [go_sem], by simp [go_sem], by simp [go_sem], by simp [go_sem]⟩
theorem gives_load_mid {P : Program} {r : Nat → Value} {o : Oper} {w : World} {R : Value → World → Prop} (ty : TypeId) (x : Operand) (ho : o.op = .load ty x)
    (g off : Nat) (hx : rd r x = .pointer (some ⟨g, off, none⟩)) (cs : List Value) (d : TypeDesc) (hc : w.rangeAt g off cs)
    (hu : P.underlying ty = some d) (hd : d.isRow = true) (hi : (P.info? ty).map (·.size) = some cs.length)
    (h : R (.agg cs.toArray) w) : gives P r o w R := by
  unfold gives execOp
  simp only [ho, hx, Instr.loadAt, Instr.sureAddr, Sem.run_bind, Sem.run_pure, Result.andThen_ok, run_loadVar_mid w g off ty cs d hc hu hd hi]
  exact h
end

/-- The lists between two turns; n turns so far. -/
structure BL (n : Nat) (hs : HS) (ws : List Won) (ms : List MsgV) : Prop where
  inv : WInv hs ws
  lm : ms.length = ws.length
  mt : ∀ (k : Nat) (m : MsgV) (x : Won), ms[k]? = some m → ws[k]? = some x → m.x = x.term ∧ m.fr = x.who
  nn : ws.length ≤ n
  nb : ∀ x ∈ ws, x.by_.length ≤ n

theorem BL.nil (hs : HS) : BL 0 hs [] [] := ⟨WInv.nil hs, rfl, by simp, by simp, by simp⟩
theorem BL.skip {n : Nat} {hs : HS} {ws : List Won} {ms : List MsgV} (h : BL n hs ws ms) {q fr x : Nat} {b : Bool} :
    BL (n + 1) (fun u => if u = q then ((grantS (hs q).1 (hs q).2 fr x b).1.1, (grantS (hs q).1 (hs q).2 fr x b).1.2) else hs u) ws ms := by
  have hi := grantS_inv (hs q).1 (hs q).2 fr x b
  refine ⟨h.inv.keep q _ (by rcases hi with hi | hi <;> simp <;> omega) (fun e1 e2 => ?_), h.lm, h.mt, by have := h.nn; omega, fun y hy => by have := h.nb y hy; omega⟩
  rcases hi with hi | ⟨_, hi | hi⟩
  · simp at e1; omega
  · exact absurd hi e2
  · exact hi
theorem BL.push {n : Nat} {hs : HS} {ws : List Won} {ms : List MsgV} (h : BL n hs ws ms) (m : MsgV) (hF : m.fr ≠ 0) (hnew : ∀ (k : Nat) (y : MsgV), ms[k]? = some y → ¬ (y.x = m.x ∧ y.fr = m.fr)) : BL (n + 1) hs (ws ++ [⟨m.x, m.fr, []⟩]) (ms ++ [m]) := by
  refine ⟨h.inv.push m.x m.fr hF ?_, by simp [h.lm], ?_, by simp; exact h.nn, ?_⟩
  · intro x hx e
    obtain ⟨k, hk⟩ := List.getElem?_of_mem hx
    have hkl : k < ms.length := by rw [h.lm]; exact (List.getElem?_eq_some_iff.1 hk).1
    have hmk := List.getElem?_eq_getElem hkl
    have := h.mt k _ x hmk hk
    exact hnew k _ hmk ⟨this.1.trans e.1, this.2.trans e.2⟩
  · intro k y x hy hx
    by_cases hk : k < ms.length
    · rw [List.getElem?_append_left hk] at hy
      rw [List.getElem?_append_left (by rw [← h.lm]; exact hk)] at hx
      exact h.mt k y x hy hx
    · have e : k = ms.length := by
        have := (List.getElem?_eq_some_iff.1 hy).1
        simp at this; omega
      subst e
      rw [List.getElem?_append_right (Nat.le_refl _)] at hy
      rw [h.lm, List.getElem?_append_right (Nat.le_refl _)] at hx
      simp at hy hx
      subst hy hx
      exact ⟨rfl, rfl⟩
  · intro x hx
    rcases List.mem_append.1 hx with hx | hx
    · have := h.nb x hx; omega
    · simp at hx; subst hx; simp
theorem BL.vote {n : Nat} {hs : HS} {ws : List Won} {ms : List MsgV} (hi : WInv hs ws) (lm : ms.length = ws.length) (mt : ∀ (k : Nat) (m : MsgV) (x : Won), ms[k]? = some m → ws[k]? = some x → m.x = x.term ∧ m.fr = x.who) (nn : ws.length ≤ n + 1)
    (nb : ∀ x ∈ ws, x.by_.length ≤ n) {k q T F : Nat} {l : List Nat} {b : Bool} (hk : ws[k]? = some ⟨T, F, l⟩) (hg : (grantS (hs q).1 (hs q).2 F T b).2 = true) :
    BL (n + 1) (fun u => if u = q then ((grantS (hs q).1 (hs q).2 F T b).1.1, (grantS (hs q).1 (hs q).2 F T b).1.2) else hs u) (ws.set k ⟨T, F, l ++ [q]⟩) ms := by
  have hkl := (List.getElem?_eq_some_iff.1 hk).1
  have ho := grantS_ok _ _ _ _ _ hg
  have hv := grantS_inv (hs q).1 (hs q).2 F T b
  rw [ho.1, ho.2] at hv ⊢
  have key : ∀ (i : Nat) (x : Won), (ws.set k ⟨T, F, l ++ [q]⟩)[i]? = some x → (ws[i]? = some x) ∨ (i = k ∧ x = ⟨T, F, l ++ [q]⟩) := by
    intro i x hx
    rw [List.getElem?_set] at hx
    by_cases e : k = i
    · subst e; rw [if_pos rfl, if_pos hkl] at hx; simp at hx; exact .inr ⟨rfl, hx.symm⟩
    · rw [if_neg e] at hx; exact .inl hx
  refine ⟨hi.vote k q T F l hk (by rcases hv with hv | hv <;> omega) (fun e => ?_), by simp [lm], fun i m x hm hx => ?_, by simpa using nn, fun x hx => ?_⟩
  · rcases hv with hv | ⟨_, hv | hv⟩
    · omega
    · exact .inl hv
    · exact .inr hv.symm
  · rcases key i x hx with hx | ⟨rfl, rfl⟩
    · exact mt i m x hm hx
    · exact mt i m ⟨T, F, l⟩ hm hk
  · obtain ⟨i, hix⟩ := List.getElem?_of_mem hx
    rcases key i x hix with hx | ⟨rfl, rfl⟩
    · have := nb x (List.mem_of_getElem? hx); omega
    · have := nb _ (List.mem_of_getElem? hk); simp at this ⊢; omega
end Go.Proofs.Ythghhjilbaiahaa
