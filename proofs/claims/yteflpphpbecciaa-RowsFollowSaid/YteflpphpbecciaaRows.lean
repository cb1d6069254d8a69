/-
  No cell of these rows narrows 'for every input' (looked for: loops, veiled, ifaces, maps, wideKeys, modest, calm, conditions, laid).
  DERIVED. THE GIVEN ROWS OF THIS SEAT. 4 by the template 'for every input the law returns true; each argument reads behind the call as it read before'; 0 by the template 'total and deterministic' (their statements: YteflpphpbecciaaTotals.lean).
  GIVEN WITH THE SEED: the statements are not yours to turn. If you find one false, say at which input.
  Laid BY PROGRAM, IN A SANDBOX (cutbox-rows.mjs): the forced cells as the released guide's own fill.sh prints them over the translation 9a9dd88b939c9396… (all of the seat's roots in one cut). By AI agents, Wed Nov 11 2026. No macro, syntax, notation, axiom, sorry.
-/
import Derived.Test.YteflpphpbecciaaChecked
import GoSem.Claim
import GoSem.ClaimJoined
import GoSem.ClaimMapViews
import Derived.JoinedTies
import Derived.KernelRfl
namespace Go.Proofs.Yteflpphpbecciaa
/- THE CELL 'sum', in the pinned program and in every row, IS THE sha256 OF THE DUMP (.gsa) THAT YteflpphpbecciaaProg.lean LOADS. Nothing in Lean hashes anything: it is a label: what it is worth is what the hold of that sum in a sandbox is worth. -/
noncomputable def Try.pinned : Pinned := { name := "yteflpphpbecciaa", sum := "9a9dd88b939c93962f86236cb7edee68cc866df13ff729d2537ecba5dfd23910", checked := Try.checked }
namespace Rows
def none {H : Type} : Left H := { results := [], args := [] }

/-- 'tabellionlaw21.RowsMerges': WHATEVER THE INPUT: true; the input reads as it did. -/
def rowsMergesSpec : ChangeSpec := { name := "rowsMerges", fn := fun _ => fun
  | [d1, d2, d3, d4] => { results := [.lit (.bool true)], args := [d1, d2, d3, d4] }
  | _ => none }
def rowsMergesRow : OpenClaim := { program := "yteflpphpbecciaa", sum := "9a9dd88b939c93962f86236cb7edee68cc866df13ff729d2537ecba5dfd23910", func := "tabellion/tabellionlaw21.RowsMerges", spec := "rowsMerges", apart := false }
def RowsMergesSaid : Prop := rowsMergesRow.holds Try.pinned (OpenSpec.ofChange rowsMergesSpec)

/-- ITS FALSE NEIGHBOUR: 'it returns false'. Refute it at one input. -/
def rowsMergesWrong : ChangeSpec := { name := "rowsMerges", fn := fun _ => fun
  | [d1, d2, d3, d4] => { results := [.lit (.bool false)], args := [d1, d2, d3, d4] }
  | _ => none }
def RowsMergesWrongFalsely : Prop := rowsMergesRow.holds Try.pinned (OpenSpec.ofChange rowsMergesWrong)

/-- 'tabellionlaw21.RowsFollow': WHATEVER THE INPUT: true; the input reads as it did. -/
def rowsFollowSpec : ChangeSpec := { name := "rowsFollow", fn := fun _ => fun
  | [d1, d2, d3, d4, d5] => { results := [.lit (.bool true)], args := [d1, d2, d3, d4, d5] }
  | _ => none }
def rowsFollowRow : OpenClaim := { program := "yteflpphpbecciaa", sum := "9a9dd88b939c93962f86236cb7edee68cc866df13ff729d2537ecba5dfd23910", func := "tabellion/tabellionlaw21.RowsFollow", spec := "rowsFollow", apart := false }
def RowsFollowSaid : Prop := rowsFollowRow.holds Try.pinned (OpenSpec.ofChange rowsFollowSpec)

/-- ITS FALSE NEIGHBOUR: 'it returns false'. Refute it at one input. -/
def rowsFollowWrong : ChangeSpec := { name := "rowsFollow", fn := fun _ => fun
  | [d1, d2, d3, d4, d5] => { results := [.lit (.bool false)], args := [d1, d2, d3, d4, d5] }
  | _ => none }
def RowsFollowWrongFalsely : Prop := rowsFollowRow.holds Try.pinned (OpenSpec.ofChange rowsFollowWrong)

/-- 'tabellionlaw21.RowsOrder': WHATEVER THE INPUT: true; the input reads as it did. -/
def rowsOrderSpec : ChangeSpec := { name := "rowsOrder", fn := fun _ => fun
  | [d1, d2, d3] => { results := [.lit (.bool true)], args := [d1, d2, d3] }
  | _ => none }
def rowsOrderRow : OpenClaim := { program := "yteflpphpbecciaa", sum := "9a9dd88b939c93962f86236cb7edee68cc866df13ff729d2537ecba5dfd23910", func := "tabellion/tabellionlaw21.RowsOrder", spec := "rowsOrder", apart := false }
def RowsOrderSaid : Prop := rowsOrderRow.holds Try.pinned (OpenSpec.ofChange rowsOrderSpec)

/-- ITS FALSE NEIGHBOUR: 'it returns false'. Refute it at one input. -/
def rowsOrderWrong : ChangeSpec := { name := "rowsOrder", fn := fun _ => fun
  | [d1, d2, d3] => { results := [.lit (.bool false)], args := [d1, d2, d3] }
  | _ => none }
def RowsOrderWrongFalsely : Prop := rowsOrderRow.holds Try.pinned (OpenSpec.ofChange rowsOrderWrong)

/-- 'tabellionlaw21.RowsAsks': WHATEVER THE INPUT: true; the input reads as it did. -/
def rowsAsksSpec : ChangeSpec := { name := "rowsAsks", fn := fun _ => fun
  | [d1, d2, d3, d4] => { results := [.lit (.bool true)], args := [d1, d2, d3, d4] }
  | _ => none }
def rowsAsksRow : OpenClaim := { program := "yteflpphpbecciaa", sum := "9a9dd88b939c93962f86236cb7edee68cc866df13ff729d2537ecba5dfd23910", func := "tabellion/tabellionlaw21.RowsAsks", spec := "rowsAsks", apart := false }
def RowsAsksSaid : Prop := rowsAsksRow.holds Try.pinned (OpenSpec.ofChange rowsAsksSpec)

/-- ITS FALSE NEIGHBOUR: 'it returns false'. Refute it at one input. -/
def rowsAsksWrong : ChangeSpec := { name := "rowsAsks", fn := fun _ => fun
  | [d1, d2, d3, d4] => { results := [.lit (.bool false)], args := [d1, d2, d3, d4] }
  | _ => none }
def RowsAsksWrongFalsely : Prop := rowsAsksRow.holds Try.pinned (OpenSpec.ofChange rowsAsksWrong)

/- THE SECOND FORM. 'bulk': how many values and letters a reading holds, each counted each time it is reached (what is shared counts as often as it is met; a slice's spare places count too). A statement '..UptoSaid' is the law's where the arguments, and the package variables that the reading takes, are together of bulk at most 1048576: NARROWER than '..Said'. Prove '..Said' where nothing that the law and all that it calls make is longer than what came in: it says more and counts as full. Else prove '..UptoSaid'. A law counts once. -/
mutual
def uptoBulk {H : Type} : DataW H → Nat
  | .lit (.string bytes) => bytes.length + 1
  | .lit _ => 1
  | .nil => 1
  | .ptr d => uptoBulk d + 1
  | .slice elems spare => uptoBulkAll elems + uptoBulkAll spare + 1
  | .agg parts => uptoBulkAll parts + 1
  | .iface _ d => uptoBulk d + 1
  | .map entries => uptoBulkEntries entries + 1
  | .held _ => 1
def uptoBulkAll {H : Type} : List (DataW H) → Nat
  | [] => 0
  | d :: r => uptoBulk d + uptoBulkAll r
def uptoBulkEntries {H : Type} : List (Lit × DataW H) → Nat
  | [] => 0
  | x :: r => uptoBulkEntry x + uptoBulkEntries r
def uptoBulkEntry {H : Type} : Lit × DataW H → Nat
  | (.string bytes, d) => bytes.length + uptoBulk d + 1
  | (_, d) => uptoBulk d + 1
 end
def uptoSmall : (H : Type) → List (DataW H) → Bool := fun _ ds => decide (uptoBulkAll ds ≤ 1048576)
def OpenSpec.upto (s : _root_.Go.ChangeSpec) : _root_.Go.OpenSpec := { _root_.Go.OpenSpec.ofChange s with cond := some uptoSmall }

/-- 'tabellionlaw21.RowsMerges', WHERE WHAT IT READS IS OF BULK AT MOST 1048576: true; the input reads as it did. -/
def rowsMergesUptoRow : OpenClaim := { program := "yteflpphpbecciaa", sum := "9a9dd88b939c93962f86236cb7edee68cc866df13ff729d2537ecba5dfd23910", func := "tabellion/tabellionlaw21.RowsMerges", spec := "rowsMerges", apart := false, narrowed := true }
def RowsMergesUptoSaid : Prop := rowsMergesUptoRow.holds Try.pinned (OpenSpec.upto rowsMergesSpec)

/-- 'tabellionlaw21.RowsFollow', WHERE WHAT IT READS IS OF BULK AT MOST 1048576: true; the input reads as it did. -/
def rowsFollowUptoRow : OpenClaim := { program := "yteflpphpbecciaa", sum := "9a9dd88b939c93962f86236cb7edee68cc866df13ff729d2537ecba5dfd23910", func := "tabellion/tabellionlaw21.RowsFollow", spec := "rowsFollow", apart := false, narrowed := true }
def RowsFollowUptoSaid : Prop := rowsFollowUptoRow.holds Try.pinned (OpenSpec.upto rowsFollowSpec)

/-- 'tabellionlaw21.RowsOrder', WHERE WHAT IT READS IS OF BULK AT MOST 1048576: true; the input reads as it did. -/
def rowsOrderUptoRow : OpenClaim := { program := "yteflpphpbecciaa", sum := "9a9dd88b939c93962f86236cb7edee68cc866df13ff729d2537ecba5dfd23910", func := "tabellion/tabellionlaw21.RowsOrder", spec := "rowsOrder", apart := false, narrowed := true }
def RowsOrderUptoSaid : Prop := rowsOrderUptoRow.holds Try.pinned (OpenSpec.upto rowsOrderSpec)

/-- 'tabellionlaw21.RowsAsks', WHERE WHAT IT READS IS OF BULK AT MOST 1048576: true; the input reads as it did. -/
def rowsAsksUptoRow : OpenClaim := { program := "yteflpphpbecciaa", sum := "9a9dd88b939c93962f86236cb7edee68cc866df13ff729d2537ecba5dfd23910", func := "tabellion/tabellionlaw21.RowsAsks", spec := "rowsAsks", apart := false, narrowed := true }
def RowsAsksUptoSaid : Prop := rowsAsksUptoRow.holds Try.pinned (OpenSpec.upto rowsAsksSpec)

end Rows
end Go.Proofs.Yteflpphpbecciaa
