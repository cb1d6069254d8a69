/-
  No cell of these rows narrows 'for every input' (looked for: loops, veiled, ifaces, maps, wideKeys, modest, calm, conditions, laid).
  DERIVED. THE GIVEN ROWS OF THIS SEAT. 4 by the template 'for every input the law returns true; each argument reads behind the call as it read before'; 0 by the template 'total and deterministic' (their statements: YtdociiogddihfaaTotals.lean).
  GIVEN WITH THE SEED: the statements are not yours to turn. If you find one false, say at which input.
  Laid BY PROGRAM, IN A SANDBOX (cutbox-rows.mjs): the forced cells as the released guide's own fill.sh prints them over the translation 5e4fb8fc0ae9b0a1… (all of the seat's roots in one cut). By AI agents, Wed Nov 11 2026. No macro, syntax, notation, axiom, sorry.
-/
import Derived.Test.YtdociiogddihfaaChecked
import GoSem.Claim
import GoSem.ClaimJoined
import GoSem.ClaimMapViews
import Derived.JoinedTies
import Derived.KernelRfl
namespace Go.Proofs.Ytdociiogddihfaa
/- THE CELL 'sum', in the pinned program and in every row, IS THE sha256 OF THE DUMP (.gsa) THAT YtdociiogddihfaaProg.lean LOADS. Nothing in Lean hashes anything: it is a label: what it is worth is what the hold of that sum in a sandbox is worth. -/
noncomputable def Try.pinned : Pinned := { name := "ytdociiogddihfaa", sum := "5e4fb8fc0ae9b0a107a669e8ecdda8189b6f80c4638703e8976c149662e9a395", checked := Try.checked }
namespace Rows
def none {H : Type} : Left H := { results := [], args := [] }

/-- 'tabellionlaw06.GaugeRuns': WHATEVER THE INPUT: true; the input reads as it did. -/
def gaugeRunsSpec : ChangeSpec := { name := "gaugeRuns", fn := fun _ => fun
  | [d] => { results := [.lit (.bool true)], args := [d] }
  | _ => none }
def gaugeRunsRow : OpenClaim := { program := "ytdociiogddihfaa", sum := "5e4fb8fc0ae9b0a107a669e8ecdda8189b6f80c4638703e8976c149662e9a395", func := "tabellion/tabellionlaw06.GaugeRuns", spec := "gaugeRuns", inPlace := ["math.Float64frombits", "math.Float64bits", "math.sqrt"], apart := false }
def GaugeRunsSaid : Prop := gaugeRunsRow.holds Try.pinned (OpenSpec.ofChange gaugeRunsSpec)

/-- ITS FALSE NEIGHBOUR: 'it returns false'. Refute it at one input. -/
def gaugeRunsWrong : ChangeSpec := { name := "gaugeRuns", fn := fun _ => fun
  | [d] => { results := [.lit (.bool false)], args := [d] }
  | _ => none }
def GaugeRunsWrongFalsely : Prop := gaugeRunsRow.holds Try.pinned (OpenSpec.ofChange gaugeRunsWrong)

/-- 'tabellionlaw06.GaugeAlike': WHATEVER THE INPUT: true; the input reads as it did. -/
def gaugeAlikeSpec : ChangeSpec := { name := "gaugeAlike", fn := fun _ => fun
  | [d1, d2, d3] => { results := [.lit (.bool true)], args := [d1, d2, d3] }
  | _ => none }
def gaugeAlikeRow : OpenClaim := { program := "ytdociiogddihfaa", sum := "5e4fb8fc0ae9b0a107a669e8ecdda8189b6f80c4638703e8976c149662e9a395", func := "tabellion/tabellionlaw06.GaugeAlike", spec := "gaugeAlike", inPlace := ["math.Float64frombits", "math.Float64bits", "math.sqrt"], apart := false }
def GaugeAlikeSaid : Prop := gaugeAlikeRow.holds Try.pinned (OpenSpec.ofChange gaugeAlikeSpec)

/-- ITS FALSE NEIGHBOUR: 'it returns false'. Refute it at one input. -/
def gaugeAlikeWrong : ChangeSpec := { name := "gaugeAlike", fn := fun _ => fun
  | [d1, d2, d3] => { results := [.lit (.bool false)], args := [d1, d2, d3] }
  | _ => none }
def GaugeAlikeWrongFalsely : Prop := gaugeAlikeRow.holds Try.pinned (OpenSpec.ofChange gaugeAlikeWrong)

/-- 'tabellionlaw06.GaugeBytes': WHATEVER THE INPUT: true; the input reads as it did. -/
def gaugeBytesSpec : ChangeSpec := { name := "gaugeBytes", fn := fun _ => fun
  | [d1, d2] => { results := [.lit (.bool true)], args := [d1, d2] }
  | _ => none }
def gaugeBytesRow : OpenClaim := { program := "ytdociiogddihfaa", sum := "5e4fb8fc0ae9b0a107a669e8ecdda8189b6f80c4638703e8976c149662e9a395", func := "tabellion/tabellionlaw06.GaugeBytes", spec := "gaugeBytes", inPlace := ["math.Float64frombits", "math.Float64bits", "math.sqrt"], unfollowed := true, recurses := true, apart := false }
def GaugeBytesSaid : Prop := gaugeBytesRow.holds Try.pinned (OpenSpec.ofChange gaugeBytesSpec)

/-- ITS FALSE NEIGHBOUR: 'it returns false'. Refute it at one input. -/
def gaugeBytesWrong : ChangeSpec := { name := "gaugeBytes", fn := fun _ => fun
  | [d1, d2] => { results := [.lit (.bool false)], args := [d1, d2] }
  | _ => none }
def GaugeBytesWrongFalsely : Prop := gaugeBytesRow.holds Try.pinned (OpenSpec.ofChange gaugeBytesWrong)

/-- 'tabellionlaw06.GaugeRows': WHATEVER THE INPUT: true; the input reads as it did. -/
def gaugeRowsSpec : ChangeSpec := { name := "gaugeRows", fn := fun _ => fun
  | [d] => { results := [.lit (.bool true)], args := [d] }
  | _ => none }
def gaugeRowsRow : OpenClaim := { program := "ytdociiogddihfaa", sum := "5e4fb8fc0ae9b0a107a669e8ecdda8189b6f80c4638703e8976c149662e9a395", func := "tabellion/tabellionlaw06.GaugeRows", spec := "gaugeRows", inPlace := ["math.Float64frombits", "math.Float64bits", "math.sqrt"], unfollowed := true, recurses := true, apart := false }
def GaugeRowsSaid : Prop := gaugeRowsRow.holds Try.pinned (OpenSpec.ofChange gaugeRowsSpec)

/-- ITS FALSE NEIGHBOUR: 'it returns false'. Refute it at one input. -/
def gaugeRowsWrong : ChangeSpec := { name := "gaugeRows", fn := fun _ => fun
  | [d] => { results := [.lit (.bool false)], args := [d] }
  | _ => none }
def GaugeRowsWrongFalsely : Prop := gaugeRowsRow.holds Try.pinned (OpenSpec.ofChange gaugeRowsWrong)

/- THE SECOND FORM. 'bulk': how many values and letters a reading holds, each counted each time it is reached (what is shared counts as often as it is met; a slice's spare places count too). A statement '..UptoSaid' is the law's where the arguments, and the package variables that the reading takes, are together of bulk at most 1048576: NARROWER than '..Said'. Prove '..Said' where nothing that the law and all that it calls make is longer than what came in: it says more and counts as full. Else prove '..UptoSaid'. A law counts once. -/
mutual
def uptoBulk {H : Type} : DataW H → Nat
  | .lit (.string bytes) => bytes.length + 1
  | .lit _ => 1
  | .nil => 1
  | .ptr d => uptoBulk d + 1
  | .slice elems spare => uptoBulkAll elems + uptoBulkAll spare + 1
  | .agg parts => uptoBulkAll parts + 1
  | .iface _ d => uptoBulk d + 1
  | .map entries => uptoBulkEntries entries + 1
  | .held _ => 1
def uptoBulkAll {H : Type} : List (DataW H) → Nat
  | [] => 0
  | d :: r => uptoBulk d + uptoBulkAll r
def uptoBulkEntries {H : Type} : List (Lit × DataW H) → Nat
  | [] => 0
  | x :: r => uptoBulkEntry x + uptoBulkEntries r
def uptoBulkEntry {H : Type} : Lit × DataW H → Nat
  | (.string bytes, d) => bytes.length + uptoBulk d + 1
  | (_, d) => uptoBulk d + 1
 end
def uptoSmall : (H : Type) → List (DataW H) → Bool := fun _ ds => decide (uptoBulkAll ds ≤ 1048576)
def OpenSpec.upto (s : _root_.Go.ChangeSpec) : _root_.Go.OpenSpec := { _root_.Go.OpenSpec.ofChange s with cond := some uptoSmall }

/-- 'tabellionlaw06.GaugeRuns', WHERE WHAT IT READS IS OF BULK AT MOST 1048576: true; the input reads as it did. -/
def gaugeRunsUptoRow : OpenClaim := { program := "ytdociiogddihfaa", sum := "5e4fb8fc0ae9b0a107a669e8ecdda8189b6f80c4638703e8976c149662e9a395", func := "tabellion/tabellionlaw06.GaugeRuns", spec := "gaugeRuns", inPlace := ["math.Float64frombits", "math.Float64bits", "math.sqrt"], apart := false, narrowed := true }
def GaugeRunsUptoSaid : Prop := gaugeRunsUptoRow.holds Try.pinned (OpenSpec.upto gaugeRunsSpec)

/-- 'tabellionlaw06.GaugeAlike', WHERE WHAT IT READS IS OF BULK AT MOST 1048576: true; the input reads as it did. -/
def gaugeAlikeUptoRow : OpenClaim := { program := "ytdociiogddihfaa", sum := "5e4fb8fc0ae9b0a107a669e8ecdda8189b6f80c4638703e8976c149662e9a395", func := "tabellion/tabellionlaw06.GaugeAlike", spec := "gaugeAlike", inPlace := ["math.Float64frombits", "math.Float64bits", "math.sqrt"], apart := false, narrowed := true }
def GaugeAlikeUptoSaid : Prop := gaugeAlikeUptoRow.holds Try.pinned (OpenSpec.upto gaugeAlikeSpec)

/-- 'tabellionlaw06.GaugeBytes', WHERE WHAT IT READS IS OF BULK AT MOST 1048576: true; the input reads as it did. -/
def gaugeBytesUptoRow : OpenClaim := { program := "ytdociiogddihfaa", sum := "5e4fb8fc0ae9b0a107a669e8ecdda8189b6f80c4638703e8976c149662e9a395", func := "tabellion/tabellionlaw06.GaugeBytes", spec := "gaugeBytes", inPlace := ["math.Float64frombits", "math.Float64bits", "math.sqrt"], unfollowed := true, recurses := true, apart := false, narrowed := true }
def GaugeBytesUptoSaid : Prop := gaugeBytesUptoRow.holds Try.pinned (OpenSpec.upto gaugeBytesSpec)

/-- 'tabellionlaw06.GaugeRows', WHERE WHAT IT READS IS OF BULK AT MOST 1048576: true; the input reads as it did. -/
def gaugeRowsUptoRow : OpenClaim := { program := "ytdociiogddihfaa", sum := "5e4fb8fc0ae9b0a107a669e8ecdda8189b6f80c4638703e8976c149662e9a395", func := "tabellion/tabellionlaw06.GaugeRows", spec := "gaugeRows", inPlace := ["math.Float64frombits", "math.Float64bits", "math.sqrt"], unfollowed := true, recurses := true, apart := false, narrowed := true }
def GaugeRowsUptoSaid : Prop := gaugeRowsUptoRow.holds Try.pinned (OpenSpec.upto gaugeRowsSpec)

end Rows
end Go.Proofs.Ytdociiogddihfaa
