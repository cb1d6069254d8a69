/-
  NARROWER THAN 'FOR EVERY INPUT', by the rows' own cells (each row's printed sentence says how): ShaHashes: laid · ShaNarrows: laid · ShaRooted: laid · ShaStates: laid · ShaPieces: laid · MacMarkers: laid · MacKeys: laid · MacNests: laid · MacMarks: laid.
  DERIVED. THE GIVEN ROWS OF THIS SEAT. 9 by the template 'for every input the law returns true; each argument reads behind the call as it read before'; 0 by the template 'total and deterministic' (their statements: YtkcnakijfmemlaaDoorTotals.lean).
  GIVEN WITH THE SEED: the statements are not yours to turn. If you find one false, say at which input.
  Laid BY PROGRAM, IN A SANDBOX (cutbox-rows.mjs): the forced cells as the released guide's own fill.sh prints them over the translation 3191b9c2107e6699… (all of the seat's roots in one cut). By AI agents, Wed Nov 11 2026. No macro, syntax, notation, axiom, sorry.
-/
import Derived.Test.YtkcnakijfmemlaaDoorChecked
import GoSem.Claim
import GoSem.ClaimJoined
import GoSem.ClaimMapViews
import Derived.JoinedTies
import Derived.KernelRfl
namespace Go.Proofs.YtkcnakijfmemlaaDoor
/- THE CELL 'sum', in the pinned program and in every row, IS THE sha256 OF THE DUMP (.gsa) THAT YtkcnakijfmemlaaDoorProg.lean LOADS. Nothing in Lean hashes anything: it is a label: what it is worth is what the hold of that sum in a sandbox is worth. -/
noncomputable def Tryd.pinned : Pinned := { name := "ytkcnakijfmemlaadoor", sum := "3191b9c2107e66998849dab68ffcbddc2067f230cbeebf649e6dc88813d485b8", checked := Tryd.checked }
namespace Rows
def none {H : Type} : Left H := { results := [], args := [] }

/- WHAT THE LISTED PACKAGE-LEVEL VARIABLES READ AS WHEN THE CALL BEGINS. Each datum BY PROGRAM (the guide's laid-datum.mjs) off the statement by which the dump's own 'gosem.cut.vars' lays the variable. In a bare row this is a premise. The card (YtkcnakijfmemlaaDoorCards.lean) ties it to the program's text. -/
def laid_tabellion_sha_round {H : Type} : DataW H := .agg [.lit (.int .u32 1116352408), .lit (.int .u32 1899447441), .lit (.int .u32 3049323471), .lit (.int .u32 3921009573), .lit (.int .u32 961987163), .lit (.int .u32 1508970993), .lit (.int .u32 2453635748), .lit (.int .u32 2870763221), .lit (.int .u32 3624381080), .lit (.int .u32 310598401), .lit (.int .u32 607225278), .lit (.int .u32 1426881987), .lit (.int .u32 1925078388), .lit (.int .u32 2162078206), .lit (.int .u32 2614888103), .lit (.int .u32 3248222580), .lit (.int .u32 3835390401), .lit (.int .u32 4022224774), .lit (.int .u32 264347078), .lit (.int .u32 604807628), .lit (.int .u32 770255983), .lit (.int .u32 1249150122), .lit (.int .u32 1555081692), .lit (.int .u32 1996064986), .lit (.int .u32 2554220882), .lit (.int .u32 2821834349), .lit (.int .u32 2952996808), .lit (.int .u32 3210313671), .lit (.int .u32 3336571891), .lit (.int .u32 3584528711), .lit (.int .u32 113926993), .lit (.int .u32 338241895), .lit (.int .u32 666307205), .lit (.int .u32 773529912), .lit (.int .u32 1294757372), .lit (.int .u32 1396182291), .lit (.int .u32 1695183700), .lit (.int .u32 1986661051), .lit (.int .u32 2177026350), .lit (.int .u32 2456956037), .lit (.int .u32 2730485921), .lit (.int .u32 2820302411), .lit (.int .u32 3259730800), .lit (.int .u32 3345764771), .lit (.int .u32 3516065817), .lit (.int .u32 3600352804), .lit (.int .u32 4094571909), .lit (.int .u32 275423344), .lit (.int .u32 430227734), .lit (.int .u32 506948616), .lit (.int .u32 659060556), .lit (.int .u32 883997877), .lit (.int .u32 958139571), .lit (.int .u32 1322822218), .lit (.int .u32 1537002063), .lit (.int .u32 1747873779), .lit (.int .u32 1955562222), .lit (.int .u32 2024104815), .lit (.int .u32 2227730452), .lit (.int .u32 2361852424), .lit (.int .u32 2428436474), .lit (.int .u32 2756734187), .lit (.int .u32 3204031479), .lit (.int .u32 3329325298)]
def laid_tabellion_sha_begin {H : Type} : DataW H := .agg [.lit (.int .u32 1779033703), .lit (.int .u32 3144134277), .lit (.int .u32 1013904242), .lit (.int .u32 2773480762), .lit (.int .u32 1359893119), .lit (.int .u32 2600822924), .lit (.int .u32 528734635), .lit (.int .u32 1541459225)]
def laid_tabellion_tabellionref03_constants {H : Type} : DataW H := .agg [.lit (.int .u32 1116352408), .lit (.int .u32 1899447441), .lit (.int .u32 3049323471), .lit (.int .u32 3921009573), .lit (.int .u32 961987163), .lit (.int .u32 1508970993), .lit (.int .u32 2453635748), .lit (.int .u32 2870763221), .lit (.int .u32 3624381080), .lit (.int .u32 310598401), .lit (.int .u32 607225278), .lit (.int .u32 1426881987), .lit (.int .u32 1925078388), .lit (.int .u32 2162078206), .lit (.int .u32 2614888103), .lit (.int .u32 3248222580), .lit (.int .u32 3835390401), .lit (.int .u32 4022224774), .lit (.int .u32 264347078), .lit (.int .u32 604807628), .lit (.int .u32 770255983), .lit (.int .u32 1249150122), .lit (.int .u32 1555081692), .lit (.int .u32 1996064986), .lit (.int .u32 2554220882), .lit (.int .u32 2821834349), .lit (.int .u32 2952996808), .lit (.int .u32 3210313671), .lit (.int .u32 3336571891), .lit (.int .u32 3584528711), .lit (.int .u32 113926993), .lit (.int .u32 338241895), .lit (.int .u32 666307205), .lit (.int .u32 773529912), .lit (.int .u32 1294757372), .lit (.int .u32 1396182291), .lit (.int .u32 1695183700), .lit (.int .u32 1986661051), .lit (.int .u32 2177026350), .lit (.int .u32 2456956037), .lit (.int .u32 2730485921), .lit (.int .u32 2820302411), .lit (.int .u32 3259730800), .lit (.int .u32 3345764771), .lit (.int .u32 3516065817), .lit (.int .u32 3600352804), .lit (.int .u32 4094571909), .lit (.int .u32 275423344), .lit (.int .u32 430227734), .lit (.int .u32 506948616), .lit (.int .u32 659060556), .lit (.int .u32 883997877), .lit (.int .u32 958139571), .lit (.int .u32 1322822218), .lit (.int .u32 1537002063), .lit (.int .u32 1747873779), .lit (.int .u32 1955562222), .lit (.int .u32 2024104815), .lit (.int .u32 2227730452), .lit (.int .u32 2361852424), .lit (.int .u32 2428436474), .lit (.int .u32 2756734187), .lit (.int .u32 3204031479), .lit (.int .u32 3329325298)]

/-- 'tabellionlaw03.ShaHashes': WHATEVER THE INPUT: true; the input reads as it did. -/
def shaHashesSpec : ChangeSpec := { name := "shaHashes", fn := fun _ => fun
  | [d] => { results := [.lit (.bool true)], args := [d] }
  | _ => none }
def shaHashesRow : OpenClaim := { program := "ytkcnakijfmemlaadoor", sum := "3191b9c2107e66998849dab68ffcbddc2067f230cbeebf649e6dc88813d485b8", func := "tabellion/tabellionlaw03.ShaHashes", spec := "shaHashes", named := ["tabellion/sha.begin", "tabellion/sha.round", "tabellion/tabellionref03.constants"], apart := false, laid := [("tabellion/sha.round", laid_tabellion_sha_round), ("tabellion/sha.begin", laid_tabellion_sha_begin), ("tabellion/tabellionref03.constants", laid_tabellion_tabellionref03_constants)] }
def ShaHashesSaid : Prop := shaHashesRow.holds Tryd.pinned (OpenSpec.ofChange shaHashesSpec)

/-- ITS FALSE NEIGHBOUR: 'it returns false'. Refute it at one input. -/
def shaHashesWrong : ChangeSpec := { name := "shaHashes", fn := fun _ => fun
  | [d] => { results := [.lit (.bool false)], args := [d] }
  | _ => none }
def ShaHashesWrongFalsely : Prop := shaHashesRow.holds Tryd.pinned (OpenSpec.ofChange shaHashesWrong)

/-- 'tabellionlaw03.ShaNarrows': WHATEVER THE INPUT: true; the input reads as it did. -/
def shaNarrowsSpec : ChangeSpec := { name := "shaNarrows", fn := fun _ => fun
  | [d1, d2, d3] => { results := [.lit (.bool true)], args := [d1, d2, d3] }
  | _ => none }
def shaNarrowsRow : OpenClaim := { program := "ytkcnakijfmemlaadoor", sum := "3191b9c2107e66998849dab68ffcbddc2067f230cbeebf649e6dc88813d485b8", func := "tabellion/tabellionlaw03.ShaNarrows", spec := "shaNarrows", named := ["tabellion/sha.begin", "tabellion/sha.round"], apart := false, laid := [("tabellion/sha.round", laid_tabellion_sha_round), ("tabellion/sha.begin", laid_tabellion_sha_begin)] }
def ShaNarrowsSaid : Prop := shaNarrowsRow.holds Tryd.pinned (OpenSpec.ofChange shaNarrowsSpec)

/-- ITS FALSE NEIGHBOUR: 'it returns false'. Refute it at one input. -/
def shaNarrowsWrong : ChangeSpec := { name := "shaNarrows", fn := fun _ => fun
  | [d1, d2, d3] => { results := [.lit (.bool false)], args := [d1, d2, d3] }
  | _ => none }
def ShaNarrowsWrongFalsely : Prop := shaNarrowsRow.holds Tryd.pinned (OpenSpec.ofChange shaNarrowsWrong)

/-- 'tabellionlaw03.ShaRooted': WHATEVER THE INPUT: true; the input reads as it did. -/
def shaRootedSpec : ChangeSpec := { name := "shaRooted", fn := fun _ => fun
  | [d1, d2, d3] => { results := [.lit (.bool true)], args := [d1, d2, d3] }
  | _ => none }
def shaRootedRow : OpenClaim := { program := "ytkcnakijfmemlaadoor", sum := "3191b9c2107e66998849dab68ffcbddc2067f230cbeebf649e6dc88813d485b8", func := "tabellion/tabellionlaw03.ShaRooted", spec := "shaRooted", named := ["tabellion/sha.begin", "tabellion/sha.round", "tabellion/tabellionref03.constants"], apart := false, laid := [("tabellion/sha.round", laid_tabellion_sha_round), ("tabellion/sha.begin", laid_tabellion_sha_begin), ("tabellion/tabellionref03.constants", laid_tabellion_tabellionref03_constants)] }
def ShaRootedSaid : Prop := shaRootedRow.holds Tryd.pinned (OpenSpec.ofChange shaRootedSpec)

/-- ITS FALSE NEIGHBOUR: 'it returns false'. Refute it at one input. -/
def shaRootedWrong : ChangeSpec := { name := "shaRooted", fn := fun _ => fun
  | [d1, d2, d3] => { results := [.lit (.bool false)], args := [d1, d2, d3] }
  | _ => none }
def ShaRootedWrongFalsely : Prop := shaRootedRow.holds Tryd.pinned (OpenSpec.ofChange shaRootedWrong)

/-- 'tabellionlaw03.ShaStates': WHATEVER THE INPUT: true; the input reads as it did. -/
def shaStatesSpec : ChangeSpec := { name := "shaStates", fn := fun _ => fun
  | [d] => { results := [.lit (.bool true)], args := [d] }
  | _ => none }
def shaStatesRow : OpenClaim := { program := "ytkcnakijfmemlaadoor", sum := "3191b9c2107e66998849dab68ffcbddc2067f230cbeebf649e6dc88813d485b8", func := "tabellion/tabellionlaw03.ShaStates", spec := "shaStates", named := ["tabellion/sha.begin", "tabellion/sha.round", "tabellion/tabellionref03.constants"], apart := false, laid := [("tabellion/sha.round", laid_tabellion_sha_round), ("tabellion/sha.begin", laid_tabellion_sha_begin), ("tabellion/tabellionref03.constants", laid_tabellion_tabellionref03_constants)] }
def ShaStatesSaid : Prop := shaStatesRow.holds Tryd.pinned (OpenSpec.ofChange shaStatesSpec)

/-- ITS FALSE NEIGHBOUR: 'it returns false'. Refute it at one input. -/
def shaStatesWrong : ChangeSpec := { name := "shaStates", fn := fun _ => fun
  | [d] => { results := [.lit (.bool false)], args := [d] }
  | _ => none }
def ShaStatesWrongFalsely : Prop := shaStatesRow.holds Tryd.pinned (OpenSpec.ofChange shaStatesWrong)

/-- 'tabellionlaw03.ShaPieces': WHATEVER THE INPUT: true; the input reads as it did. -/
def shaPiecesSpec : ChangeSpec := { name := "shaPieces", fn := fun _ => fun
  | [d1, d2] => { results := [.lit (.bool true)], args := [d1, d2] }
  | _ => none }
def shaPiecesRow : OpenClaim := { program := "ytkcnakijfmemlaadoor", sum := "3191b9c2107e66998849dab68ffcbddc2067f230cbeebf649e6dc88813d485b8", func := "tabellion/tabellionlaw03.ShaPieces", spec := "shaPieces", named := ["tabellion/sha.begin", "tabellion/sha.round"], apart := false, laid := [("tabellion/sha.round", laid_tabellion_sha_round), ("tabellion/sha.begin", laid_tabellion_sha_begin)] }
def ShaPiecesSaid : Prop := shaPiecesRow.holds Tryd.pinned (OpenSpec.ofChange shaPiecesSpec)

/-- ITS FALSE NEIGHBOUR: 'it returns false'. Refute it at one input. -/
def shaPiecesWrong : ChangeSpec := { name := "shaPieces", fn := fun _ => fun
  | [d1, d2] => { results := [.lit (.bool false)], args := [d1, d2] }
  | _ => none }
def ShaPiecesWrongFalsely : Prop := shaPiecesRow.holds Tryd.pinned (OpenSpec.ofChange shaPiecesWrong)

/-- 'tabellionlaw04.MacMarkers': WHATEVER THE INPUT: true; the input reads as it did. -/
def macMarkersSpec : ChangeSpec := { name := "macMarkers", fn := fun _ => fun
  | [d1, d2] => { results := [.lit (.bool true)], args := [d1, d2] }
  | _ => none }
def macMarkersRow : OpenClaim := { program := "ytkcnakijfmemlaadoor", sum := "3191b9c2107e66998849dab68ffcbddc2067f230cbeebf649e6dc88813d485b8", func := "tabellion/tabellionlaw04.MacMarkers", spec := "macMarkers", named := ["tabellion/sha.begin", "tabellion/sha.round", "tabellion/tabellionref03.constants"], apart := false, laid := [("tabellion/sha.round", laid_tabellion_sha_round), ("tabellion/sha.begin", laid_tabellion_sha_begin), ("tabellion/tabellionref03.constants", laid_tabellion_tabellionref03_constants)] }
def MacMarkersSaid : Prop := macMarkersRow.holds Tryd.pinned (OpenSpec.ofChange macMarkersSpec)

/-- ITS FALSE NEIGHBOUR: 'it returns false'. Refute it at one input. -/
def macMarkersWrong : ChangeSpec := { name := "macMarkers", fn := fun _ => fun
  | [d1, d2] => { results := [.lit (.bool false)], args := [d1, d2] }
  | _ => none }
def MacMarkersWrongFalsely : Prop := macMarkersRow.holds Tryd.pinned (OpenSpec.ofChange macMarkersWrong)

/-- 'tabellionlaw04.MacKeys': WHATEVER THE INPUT: true; the input reads as it did. -/
def macKeysSpec : ChangeSpec := { name := "macKeys", fn := fun _ => fun
  | [d1, d2, d3] => { results := [.lit (.bool true)], args := [d1, d2, d3] }
  | _ => none }
def macKeysRow : OpenClaim := { program := "ytkcnakijfmemlaadoor", sum := "3191b9c2107e66998849dab68ffcbddc2067f230cbeebf649e6dc88813d485b8", func := "tabellion/tabellionlaw04.MacKeys", spec := "macKeys", named := ["tabellion/sha.begin", "tabellion/sha.round"], apart := false, laid := [("tabellion/sha.round", laid_tabellion_sha_round), ("tabellion/sha.begin", laid_tabellion_sha_begin)] }
def MacKeysSaid : Prop := macKeysRow.holds Tryd.pinned (OpenSpec.ofChange macKeysSpec)

/-- ITS FALSE NEIGHBOUR: 'it returns false'. Refute it at one input. -/
def macKeysWrong : ChangeSpec := { name := "macKeys", fn := fun _ => fun
  | [d1, d2, d3] => { results := [.lit (.bool false)], args := [d1, d2, d3] }
  | _ => none }
def MacKeysWrongFalsely : Prop := macKeysRow.holds Tryd.pinned (OpenSpec.ofChange macKeysWrong)

/-- 'tabellionlaw04.MacNests': WHATEVER THE INPUT: true; the input reads as it did. -/
def macNestsSpec : ChangeSpec := { name := "macNests", fn := fun _ => fun
  | [d1, d2] => { results := [.lit (.bool true)], args := [d1, d2] }
  | _ => none }
def macNestsRow : OpenClaim := { program := "ytkcnakijfmemlaadoor", sum := "3191b9c2107e66998849dab68ffcbddc2067f230cbeebf649e6dc88813d485b8", func := "tabellion/tabellionlaw04.MacNests", spec := "macNests", named := ["tabellion/sha.begin", "tabellion/sha.round"], apart := false, laid := [("tabellion/sha.round", laid_tabellion_sha_round), ("tabellion/sha.begin", laid_tabellion_sha_begin)] }
def MacNestsSaid : Prop := macNestsRow.holds Tryd.pinned (OpenSpec.ofChange macNestsSpec)

/-- ITS FALSE NEIGHBOUR: 'it returns false'. Refute it at one input. -/
def macNestsWrong : ChangeSpec := { name := "macNests", fn := fun _ => fun
  | [d1, d2] => { results := [.lit (.bool false)], args := [d1, d2] }
  | _ => none }
def MacNestsWrongFalsely : Prop := macNestsRow.holds Tryd.pinned (OpenSpec.ofChange macNestsWrong)

/-- 'tabellionlaw04.MacMarks': WHATEVER THE INPUT: true; the input reads as it did. -/
def macMarksSpec : ChangeSpec := { name := "macMarks", fn := fun _ => fun
  | [d1, d2, d3] => { results := [.lit (.bool true)], args := [d1, d2, d3] }
  | _ => none }
def macMarksRow : OpenClaim := { program := "ytkcnakijfmemlaadoor", sum := "3191b9c2107e66998849dab68ffcbddc2067f230cbeebf649e6dc88813d485b8", func := "tabellion/tabellionlaw04.MacMarks", spec := "macMarks", named := ["tabellion/sha.begin", "tabellion/sha.round", "tabellion/tabellionref03.constants"], apart := false, laid := [("tabellion/sha.round", laid_tabellion_sha_round), ("tabellion/sha.begin", laid_tabellion_sha_begin), ("tabellion/tabellionref03.constants", laid_tabellion_tabellionref03_constants)] }
def MacMarksSaid : Prop := macMarksRow.holds Tryd.pinned (OpenSpec.ofChange macMarksSpec)

/-- ITS FALSE NEIGHBOUR: 'it returns false'. Refute it at one input. -/
def macMarksWrong : ChangeSpec := { name := "macMarks", fn := fun _ => fun
  | [d1, d2, d3] => { results := [.lit (.bool false)], args := [d1, d2, d3] }
  | _ => none }
def MacMarksWrongFalsely : Prop := macMarksRow.holds Tryd.pinned (OpenSpec.ofChange macMarksWrong)

/- THE SECOND FORM. 'bulk': how many values and letters a reading holds, each counted each time it is reached (what is shared counts as often as it is met; a slice's spare places count too). A statement '..UptoSaid' is the law's where the arguments, and the package variables that the reading takes, are together of bulk at most 1048576: NARROWER than '..Said'. Prove '..Said' where nothing that the law and all that it calls make is longer than what came in: it says more and counts as full. Else prove '..UptoSaid'. A law counts once. -/
mutual
def uptoBulk {H : Type} : DataW H → Nat
  | .lit (.string bytes) => bytes.length + 1
  | .lit _ => 1
  | .nil => 1
  | .ptr d => uptoBulk d + 1
  | .slice elems spare => uptoBulkAll elems + uptoBulkAll spare + 1
  | .agg parts => uptoBulkAll parts + 1
  | .iface _ d => uptoBulk d + 1
  | .map entries => uptoBulkEntries entries + 1
  | .held _ => 1
def uptoBulkAll {H : Type} : List (DataW H) → Nat
  | [] => 0
  | d :: r => uptoBulk d + uptoBulkAll r
def uptoBulkEntries {H : Type} : List (Lit × DataW H) → Nat
  | [] => 0
  | x :: r => uptoBulkEntry x + uptoBulkEntries r
def uptoBulkEntry {H : Type} : Lit × DataW H → Nat
  | (.string bytes, d) => bytes.length + uptoBulk d + 1
  | (_, d) => uptoBulk d + 1
 end
def uptoSmall : (H : Type) → List (DataW H) → Bool := fun _ ds => decide (uptoBulkAll ds ≤ 1048576)
def OpenSpec.upto (s : _root_.Go.ChangeSpec) : _root_.Go.OpenSpec := { _root_.Go.OpenSpec.ofChange s with cond := some uptoSmall }

/-- 'tabellionlaw03.ShaHashes', WHERE WHAT IT READS IS OF BULK AT MOST 1048576: true; the input reads as it did. -/
def shaHashesUptoRow : OpenClaim := { program := "ytkcnakijfmemlaadoor", sum := "3191b9c2107e66998849dab68ffcbddc2067f230cbeebf649e6dc88813d485b8", func := "tabellion/tabellionlaw03.ShaHashes", spec := "shaHashes", named := ["tabellion/sha.begin", "tabellion/sha.round", "tabellion/tabellionref03.constants"], apart := false, laid := [("tabellion/sha.round", laid_tabellion_sha_round), ("tabellion/sha.begin", laid_tabellion_sha_begin), ("tabellion/tabellionref03.constants", laid_tabellion_tabellionref03_constants)], narrowed := true }
def ShaHashesUptoSaid : Prop := shaHashesUptoRow.holds Tryd.pinned (OpenSpec.upto shaHashesSpec)

/-- 'tabellionlaw03.ShaNarrows', WHERE WHAT IT READS IS OF BULK AT MOST 1048576: true; the input reads as it did. -/
def shaNarrowsUptoRow : OpenClaim := { program := "ytkcnakijfmemlaadoor", sum := "3191b9c2107e66998849dab68ffcbddc2067f230cbeebf649e6dc88813d485b8", func := "tabellion/tabellionlaw03.ShaNarrows", spec := "shaNarrows", named := ["tabellion/sha.begin", "tabellion/sha.round"], apart := false, laid := [("tabellion/sha.round", laid_tabellion_sha_round), ("tabellion/sha.begin", laid_tabellion_sha_begin)], narrowed := true }
def ShaNarrowsUptoSaid : Prop := shaNarrowsUptoRow.holds Tryd.pinned (OpenSpec.upto shaNarrowsSpec)

/-- 'tabellionlaw03.ShaRooted', WHERE WHAT IT READS IS OF BULK AT MOST 1048576: true; the input reads as it did. -/
def shaRootedUptoRow : OpenClaim := { program := "ytkcnakijfmemlaadoor", sum := "3191b9c2107e66998849dab68ffcbddc2067f230cbeebf649e6dc88813d485b8", func := "tabellion/tabellionlaw03.ShaRooted", spec := "shaRooted", named := ["tabellion/sha.begin", "tabellion/sha.round", "tabellion/tabellionref03.constants"], apart := false, laid := [("tabellion/sha.round", laid_tabellion_sha_round), ("tabellion/sha.begin", laid_tabellion_sha_begin), ("tabellion/tabellionref03.constants", laid_tabellion_tabellionref03_constants)], narrowed := true }
def ShaRootedUptoSaid : Prop := shaRootedUptoRow.holds Tryd.pinned (OpenSpec.upto shaRootedSpec)

/-- 'tabellionlaw03.ShaStates', WHERE WHAT IT READS IS OF BULK AT MOST 1048576: true; the input reads as it did. -/
def shaStatesUptoRow : OpenClaim := { program := "ytkcnakijfmemlaadoor", sum := "3191b9c2107e66998849dab68ffcbddc2067f230cbeebf649e6dc88813d485b8", func := "tabellion/tabellionlaw03.ShaStates", spec := "shaStates", named := ["tabellion/sha.begin", "tabellion/sha.round", "tabellion/tabellionref03.constants"], apart := false, laid := [("tabellion/sha.round", laid_tabellion_sha_round), ("tabellion/sha.begin", laid_tabellion_sha_begin), ("tabellion/tabellionref03.constants", laid_tabellion_tabellionref03_constants)], narrowed := true }
def ShaStatesUptoSaid : Prop := shaStatesUptoRow.holds Tryd.pinned (OpenSpec.upto shaStatesSpec)

/-- 'tabellionlaw03.ShaPieces', WHERE WHAT IT READS IS OF BULK AT MOST 1048576: true; the input reads as it did. -/
def shaPiecesUptoRow : OpenClaim := { program := "ytkcnakijfmemlaadoor", sum := "3191b9c2107e66998849dab68ffcbddc2067f230cbeebf649e6dc88813d485b8", func := "tabellion/tabellionlaw03.ShaPieces", spec := "shaPieces", named := ["tabellion/sha.begin", "tabellion/sha.round"], apart := false, laid := [("tabellion/sha.round", laid_tabellion_sha_round), ("tabellion/sha.begin", laid_tabellion_sha_begin)], narrowed := true }
def ShaPiecesUptoSaid : Prop := shaPiecesUptoRow.holds Tryd.pinned (OpenSpec.upto shaPiecesSpec)

/-- 'tabellionlaw04.MacMarkers', WHERE WHAT IT READS IS OF BULK AT MOST 1048576: true; the input reads as it did. -/
def macMarkersUptoRow : OpenClaim := { program := "ytkcnakijfmemlaadoor", sum := "3191b9c2107e66998849dab68ffcbddc2067f230cbeebf649e6dc88813d485b8", func := "tabellion/tabellionlaw04.MacMarkers", spec := "macMarkers", named := ["tabellion/sha.begin", "tabellion/sha.round", "tabellion/tabellionref03.constants"], apart := false, laid := [("tabellion/sha.round", laid_tabellion_sha_round), ("tabellion/sha.begin", laid_tabellion_sha_begin), ("tabellion/tabellionref03.constants", laid_tabellion_tabellionref03_constants)], narrowed := true }
def MacMarkersUptoSaid : Prop := macMarkersUptoRow.holds Tryd.pinned (OpenSpec.upto macMarkersSpec)

/-- 'tabellionlaw04.MacKeys', WHERE WHAT IT READS IS OF BULK AT MOST 1048576: true; the input reads as it did. -/
def macKeysUptoRow : OpenClaim := { program := "ytkcnakijfmemlaadoor", sum := "3191b9c2107e66998849dab68ffcbddc2067f230cbeebf649e6dc88813d485b8", func := "tabellion/tabellionlaw04.MacKeys", spec := "macKeys", named := ["tabellion/sha.begin", "tabellion/sha.round"], apart := false, laid := [("tabellion/sha.round", laid_tabellion_sha_round), ("tabellion/sha.begin", laid_tabellion_sha_begin)], narrowed := true }
def MacKeysUptoSaid : Prop := macKeysUptoRow.holds Tryd.pinned (OpenSpec.upto macKeysSpec)

/-- 'tabellionlaw04.MacNests', WHERE WHAT IT READS IS OF BULK AT MOST 1048576: true; the input reads as it did. -/
def macNestsUptoRow : OpenClaim := { program := "ytkcnakijfmemlaadoor", sum := "3191b9c2107e66998849dab68ffcbddc2067f230cbeebf649e6dc88813d485b8", func := "tabellion/tabellionlaw04.MacNests", spec := "macNests", named := ["tabellion/sha.begin", "tabellion/sha.round"], apart := false, laid := [("tabellion/sha.round", laid_tabellion_sha_round), ("tabellion/sha.begin", laid_tabellion_sha_begin)], narrowed := true }
def MacNestsUptoSaid : Prop := macNestsUptoRow.holds Tryd.pinned (OpenSpec.upto macNestsSpec)

/-- 'tabellionlaw04.MacMarks', WHERE WHAT IT READS IS OF BULK AT MOST 1048576: true; the input reads as it did. -/
def macMarksUptoRow : OpenClaim := { program := "ytkcnakijfmemlaadoor", sum := "3191b9c2107e66998849dab68ffcbddc2067f230cbeebf649e6dc88813d485b8", func := "tabellion/tabellionlaw04.MacMarks", spec := "macMarks", named := ["tabellion/sha.begin", "tabellion/sha.round", "tabellion/tabellionref03.constants"], apart := false, laid := [("tabellion/sha.round", laid_tabellion_sha_round), ("tabellion/sha.begin", laid_tabellion_sha_begin), ("tabellion/tabellionref03.constants", laid_tabellion_tabellionref03_constants)], narrowed := true }
def MacMarksUptoSaid : Prop := macMarksUptoRow.holds Tryd.pinned (OpenSpec.upto macMarksSpec)

end Rows
end Go.Proofs.YtkcnakijfmemlaaDoor
