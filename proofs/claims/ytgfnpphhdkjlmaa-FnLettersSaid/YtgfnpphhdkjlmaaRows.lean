/-
  No cell of these rows narrows 'for every input' (looked for: loops, veiled, ifaces, maps, wideKeys, modest, calm, conditions, laid).
  DERIVED. THE GIVEN ROWS OF THIS SEAT. 11 by the template 'for every input the law returns true; each argument reads behind the call as it read before'; 0 by the template 'total and deterministic' (their statements: YtgfnpphhdkjlmaaTotals.lean).
  GIVEN WITH THE SEED: the statements are not yours to turn. If you find one false, say at which input.
  Laid BY PROGRAM, IN A SANDBOX (cutbox-rows.mjs): the forced cells as the released guide's own fill.sh prints them over the translation 0e02a9250a12fd2a… (all of the seat's roots in one cut). By AI agents, Wed Nov 11 2026. No macro, syntax, notation, axiom, sorry.
-/
import Derived.Test.YtgfnpphhdkjlmaaChecked
import GoSem.Claim
import GoSem.ClaimJoined
import GoSem.ClaimMapViews
import Derived.JoinedTies
import Derived.KernelRfl
namespace Go.Proofs.Ytgfnpphhdkjlmaa
/- THE CELL 'sum', in the pinned program and in every row, IS THE sha256 OF THE DUMP (.gsa) THAT YtgfnpphhdkjlmaaProg.lean LOADS. Nothing in Lean hashes anything: it is a label: what it is worth is what the hold of that sum in a sandbox is worth. -/
noncomputable def Try.pinned : Pinned := { name := "ytgfnpphhdkjlmaa", sum := "0e02a9250a12fd2ad8bbac0b579f7a080ca99d68a30492437df4748723b4b8b7", checked := Try.checked }
namespace Rows
def none {H : Type} : Left H := { results := [], args := [] }

/-- 'laws.FnExactTailOf': WHATEVER THE INPUT: true; the input reads as it did. -/
def fnExactTailOfSpec : ChangeSpec := { name := "fnExactTailOf", fn := fun _ => fun
  | [d1, d2] => { results := [.lit (.bool true)], args := [d1, d2] }
  | _ => none }
def fnExactTailOfRow : OpenClaim := { program := "ytgfnpphhdkjlmaa", sum := "0e02a9250a12fd2ad8bbac0b579f7a080ca99d68a30492437df4748723b4b8b7", func := "loop.example/g00869/laws.FnExactTailOf", spec := "fnExactTailOf", unfollowed := true, recurses := true, apart := false }
def FnExactTailOfSaid : Prop := fnExactTailOfRow.holds Try.pinned (OpenSpec.ofChange fnExactTailOfSpec)

/-- ITS FALSE NEIGHBOUR: 'it returns false'. Refute it at one input. -/
def fnExactTailOfWrong : ChangeSpec := { name := "fnExactTailOf", fn := fun _ => fun
  | [d1, d2] => { results := [.lit (.bool false)], args := [d1, d2] }
  | _ => none }
def FnExactTailOfWrongFalsely : Prop := fnExactTailOfRow.holds Try.pinned (OpenSpec.ofChange fnExactTailOfWrong)

/-- 'laws.FnExactLeastWord': WHATEVER THE INPUT: true; the input reads as it did. -/
def fnExactLeastWordSpec : ChangeSpec := { name := "fnExactLeastWord", fn := fun _ => fun
  | [d] => { results := [.lit (.bool true)], args := [d] }
  | _ => none }
def fnExactLeastWordRow : OpenClaim := { program := "ytgfnpphhdkjlmaa", sum := "0e02a9250a12fd2ad8bbac0b579f7a080ca99d68a30492437df4748723b4b8b7", func := "loop.example/g00869/laws.FnExactLeastWord", spec := "fnExactLeastWord", unfollowed := true, recurses := true, apart := false }
def FnExactLeastWordSaid : Prop := fnExactLeastWordRow.holds Try.pinned (OpenSpec.ofChange fnExactLeastWordSpec)

/-- ITS FALSE NEIGHBOUR: 'it returns false'. Refute it at one input. -/
def fnExactLeastWordWrong : ChangeSpec := { name := "fnExactLeastWord", fn := fun _ => fun
  | [d] => { results := [.lit (.bool false)], args := [d] }
  | _ => none }
def FnExactLeastWordWrongFalsely : Prop := fnExactLeastWordRow.holds Try.pinned (OpenSpec.ofChange fnExactLeastWordWrong)

/-- 'laws.FnLetters': WHATEVER THE INPUT: true; the input reads as it did. -/
def fnLettersSpec : ChangeSpec := { name := "fnLetters", fn := fun _ => fun
  | [d] => { results := [.lit (.bool true)], args := [d] }
  | _ => none }
def fnLettersRow : OpenClaim := { program := "ytgfnpphhdkjlmaa", sum := "0e02a9250a12fd2ad8bbac0b579f7a080ca99d68a30492437df4748723b4b8b7", func := "loop.example/g00869/laws.FnLetters", spec := "fnLetters", apart := false }
def FnLettersSaid : Prop := fnLettersRow.holds Try.pinned (OpenSpec.ofChange fnLettersSpec)

/-- ITS FALSE NEIGHBOUR: 'it returns false'. Refute it at one input. -/
def fnLettersWrong : ChangeSpec := { name := "fnLetters", fn := fun _ => fun
  | [d] => { results := [.lit (.bool false)], args := [d] }
  | _ => none }
def FnLettersWrongFalsely : Prop := fnLettersRow.holds Try.pinned (OpenSpec.ofChange fnLettersWrong)

/-- 'laws.FnExactMonitorOf': WHATEVER THE INPUT: true; the input reads as it did. -/
def fnExactMonitorOfSpec : ChangeSpec := { name := "fnExactMonitorOf", fn := fun _ => fun
  | [d1, d2] => { results := [.lit (.bool true)], args := [d1, d2] }
  | _ => none }
def fnExactMonitorOfRow : OpenClaim := { program := "ytgfnpphhdkjlmaa", sum := "0e02a9250a12fd2ad8bbac0b579f7a080ca99d68a30492437df4748723b4b8b7", func := "loop.example/g00869/laws.FnExactMonitorOf", spec := "fnExactMonitorOf", apart := false }
def FnExactMonitorOfSaid : Prop := fnExactMonitorOfRow.holds Try.pinned (OpenSpec.ofChange fnExactMonitorOfSpec)

/-- ITS FALSE NEIGHBOUR: 'it returns false'. Refute it at one input. -/
def fnExactMonitorOfWrong : ChangeSpec := { name := "fnExactMonitorOf", fn := fun _ => fun
  | [d1, d2] => { results := [.lit (.bool false)], args := [d1, d2] }
  | _ => none }
def FnExactMonitorOfWrongFalsely : Prop := fnExactMonitorOfRow.holds Try.pinned (OpenSpec.ofChange fnExactMonitorOfWrong)

/-- 'laws.FnExactJoinedDet': WHATEVER THE INPUT: true; the input reads as it did. -/
def fnExactJoinedDetSpec : ChangeSpec := { name := "fnExactJoinedDet", fn := fun _ => fun
  | [d1, d2, d3] => { results := [.lit (.bool true)], args := [d1, d2, d3] }
  | _ => none }
def fnExactJoinedDetRow : OpenClaim := { program := "ytgfnpphhdkjlmaa", sum := "0e02a9250a12fd2ad8bbac0b579f7a080ca99d68a30492437df4748723b4b8b7", func := "loop.example/g00869/laws.FnExactJoinedDet", spec := "fnExactJoinedDet", unfollowed := true, recurses := true, apart := false }
def FnExactJoinedDetSaid : Prop := fnExactJoinedDetRow.holds Try.pinned (OpenSpec.ofChange fnExactJoinedDetSpec)

/-- ITS FALSE NEIGHBOUR: 'it returns false'. Refute it at one input. -/
def fnExactJoinedDetWrong : ChangeSpec := { name := "fnExactJoinedDet", fn := fun _ => fun
  | [d1, d2, d3] => { results := [.lit (.bool false)], args := [d1, d2, d3] }
  | _ => none }
def FnExactJoinedDetWrongFalsely : Prop := fnExactJoinedDetRow.holds Try.pinned (OpenSpec.ofChange fnExactJoinedDetWrong)

/-- 'laws.FnExactProductOf': WHATEVER THE INPUT: true; the input reads as it did. -/
def fnExactProductOfSpec : ChangeSpec := { name := "fnExactProductOf", fn := fun _ => fun
  | [d1, d2] => { results := [.lit (.bool true)], args := [d1, d2] }
  | _ => none }
def fnExactProductOfRow : OpenClaim := { program := "ytgfnpphhdkjlmaa", sum := "0e02a9250a12fd2ad8bbac0b579f7a080ca99d68a30492437df4748723b4b8b7", func := "loop.example/g00869/laws.FnExactProductOf", spec := "fnExactProductOf", unfollowed := true, recurses := true, apart := false }
def FnExactProductOfSaid : Prop := fnExactProductOfRow.holds Try.pinned (OpenSpec.ofChange fnExactProductOfSpec)

/-- ITS FALSE NEIGHBOUR: 'it returns false'. Refute it at one input. -/
def fnExactProductOfWrong : ChangeSpec := { name := "fnExactProductOf", fn := fun _ => fun
  | [d1, d2] => { results := [.lit (.bool false)], args := [d1, d2] }
  | _ => none }
def FnExactProductOfWrongFalsely : Prop := fnExactProductOfRow.holds Try.pinned (OpenSpec.ofChange fnExactProductOfWrong)

/-- 'laws.FnExactMetOf': WHATEVER THE INPUT: true; the input reads as it did. -/
def fnExactMetOfSpec : ChangeSpec := { name := "fnExactMetOf", fn := fun _ => fun
  | [d1, d2, d3] => { results := [.lit (.bool true)], args := [d1, d2, d3] }
  | _ => none }
def fnExactMetOfRow : OpenClaim := { program := "ytgfnpphhdkjlmaa", sum := "0e02a9250a12fd2ad8bbac0b579f7a080ca99d68a30492437df4748723b4b8b7", func := "loop.example/g00869/laws.FnExactMetOf", spec := "fnExactMetOf", unfollowed := true, recurses := true, apart := false }
def FnExactMetOfSaid : Prop := fnExactMetOfRow.holds Try.pinned (OpenSpec.ofChange fnExactMetOfSpec)

/-- ITS FALSE NEIGHBOUR: 'it returns false'. Refute it at one input. -/
def fnExactMetOfWrong : ChangeSpec := { name := "fnExactMetOf", fn := fun _ => fun
  | [d1, d2, d3] => { results := [.lit (.bool false)], args := [d1, d2, d3] }
  | _ => none }
def FnExactMetOfWrongFalsely : Prop := fnExactMetOfRow.holds Try.pinned (OpenSpec.ofChange fnExactMetOfWrong)

/-- 'laws.FnExactTakesIn': WHATEVER THE INPUT: true; the input reads as it did. -/
def fnExactTakesInSpec : ChangeSpec := { name := "fnExactTakesIn", fn := fun _ => fun
  | [d1, d2, d3] => { results := [.lit (.bool true)], args := [d1, d2, d3] }
  | _ => none }
def fnExactTakesInRow : OpenClaim := { program := "ytgfnpphhdkjlmaa", sum := "0e02a9250a12fd2ad8bbac0b579f7a080ca99d68a30492437df4748723b4b8b7", func := "loop.example/g00869/laws.FnExactTakesIn", spec := "fnExactTakesIn", unfollowed := true, recurses := true, apart := false }
def FnExactTakesInSaid : Prop := fnExactTakesInRow.holds Try.pinned (OpenSpec.ofChange fnExactTakesInSpec)

/-- ITS FALSE NEIGHBOUR: 'it returns false'. Refute it at one input. -/
def fnExactTakesInWrong : ChangeSpec := { name := "fnExactTakesIn", fn := fun _ => fun
  | [d1, d2, d3] => { results := [.lit (.bool false)], args := [d1, d2, d3] }
  | _ => none }
def FnExactTakesInWrongFalsely : Prop := fnExactTakesInRow.holds Try.pinned (OpenSpec.ofChange fnExactTakesInWrong)

/-- 'laws.FnMet': WHATEVER THE INPUT: true; the input reads as it did. -/
def fnMetSpec : ChangeSpec := { name := "fnMet", fn := fun _ => fun
  | [d] => { results := [.lit (.bool true)], args := [d] }
  | _ => none }
def fnMetRow : OpenClaim := { program := "ytgfnpphhdkjlmaa", sum := "0e02a9250a12fd2ad8bbac0b579f7a080ca99d68a30492437df4748723b4b8b7", func := "loop.example/g00869/laws.FnMet", spec := "fnMet", unfollowed := true, recurses := true, apart := false }
def FnMetSaid : Prop := fnMetRow.holds Try.pinned (OpenSpec.ofChange fnMetSpec)

/-- ITS FALSE NEIGHBOUR: 'it returns false'. Refute it at one input. -/
def fnMetWrong : ChangeSpec := { name := "fnMet", fn := fun _ => fun
  | [d] => { results := [.lit (.bool false)], args := [d] }
  | _ => none }
def FnMetWrongFalsely : Prop := fnMetRow.holds Try.pinned (OpenSpec.ofChange fnMetWrong)

/-- 'laws.FnExactAlikeIn': WHATEVER THE INPUT: true; the input reads as it did. -/
def fnExactAlikeInSpec : ChangeSpec := { name := "fnExactAlikeIn", fn := fun _ => fun
  | [d1, d2] => { results := [.lit (.bool true)], args := [d1, d2] }
  | _ => none }
def fnExactAlikeInRow : OpenClaim := { program := "ytgfnpphhdkjlmaa", sum := "0e02a9250a12fd2ad8bbac0b579f7a080ca99d68a30492437df4748723b4b8b7", func := "loop.example/g00869/laws.FnExactAlikeIn", spec := "fnExactAlikeIn", unfollowed := true, recurses := true, apart := false }
def FnExactAlikeInSaid : Prop := fnExactAlikeInRow.holds Try.pinned (OpenSpec.ofChange fnExactAlikeInSpec)

/-- ITS FALSE NEIGHBOUR: 'it returns false'. Refute it at one input. -/
def fnExactAlikeInWrong : ChangeSpec := { name := "fnExactAlikeIn", fn := fun _ => fun
  | [d1, d2] => { results := [.lit (.bool false)], args := [d1, d2] }
  | _ => none }
def FnExactAlikeInWrongFalsely : Prop := fnExactAlikeInRow.holds Try.pinned (OpenSpec.ofChange fnExactAlikeInWrong)

/-- 'laws.FnExactPressedDet': WHATEVER THE INPUT: true; the input reads as it did. -/
def fnExactPressedDetSpec : ChangeSpec := { name := "fnExactPressedDet", fn := fun _ => fun
  | [d1, d2] => { results := [.lit (.bool true)], args := [d1, d2] }
  | _ => none }
def fnExactPressedDetRow : OpenClaim := { program := "ytgfnpphhdkjlmaa", sum := "0e02a9250a12fd2ad8bbac0b579f7a080ca99d68a30492437df4748723b4b8b7", func := "loop.example/g00869/laws.FnExactPressedDet", spec := "fnExactPressedDet", unfollowed := true, recurses := true, apart := false }
def FnExactPressedDetSaid : Prop := fnExactPressedDetRow.holds Try.pinned (OpenSpec.ofChange fnExactPressedDetSpec)

/-- ITS FALSE NEIGHBOUR: 'it returns false'. Refute it at one input. -/
def fnExactPressedDetWrong : ChangeSpec := { name := "fnExactPressedDet", fn := fun _ => fun
  | [d1, d2] => { results := [.lit (.bool false)], args := [d1, d2] }
  | _ => none }
def FnExactPressedDetWrongFalsely : Prop := fnExactPressedDetRow.holds Try.pinned (OpenSpec.ofChange fnExactPressedDetWrong)

/- THE SECOND FORM. 'bulk': how many values and letters a reading holds, each counted each time it is reached (what is shared counts as often as it is met; a slice's spare places count too). A statement '..UptoSaid' is the law's where the arguments, and the package variables that the reading takes, are together of bulk at most 1048576: NARROWER than '..Said'. Prove '..Said' where nothing that the law and all that it calls make is longer than what came in: it says more and counts as full. Else prove '..UptoSaid'. A law counts once. -/
mutual
def uptoBulk {H : Type} : DataW H → Nat
  | .lit (.string bytes) => bytes.length + 1
  | .lit _ => 1
  | .nil => 1
  | .ptr d => uptoBulk d + 1
  | .slice elems spare => uptoBulkAll elems + uptoBulkAll spare + 1
  | .agg parts => uptoBulkAll parts + 1
  | .iface _ d => uptoBulk d + 1
  | .map entries => uptoBulkEntries entries + 1
  | .held _ => 1
def uptoBulkAll {H : Type} : List (DataW H) → Nat
  | [] => 0
  | d :: r => uptoBulk d + uptoBulkAll r
def uptoBulkEntries {H : Type} : List (Lit × DataW H) → Nat
  | [] => 0
  | x :: r => uptoBulkEntry x + uptoBulkEntries r
def uptoBulkEntry {H : Type} : Lit × DataW H → Nat
  | (.string bytes, d) => bytes.length + uptoBulk d + 1
  | (_, d) => uptoBulk d + 1
 end
def uptoSmall : (H : Type) → List (DataW H) → Bool := fun _ ds => decide (uptoBulkAll ds ≤ 1048576)
def OpenSpec.upto (s : _root_.Go.ChangeSpec) : _root_.Go.OpenSpec := { _root_.Go.OpenSpec.ofChange s with cond := some uptoSmall }

/-- 'laws.FnExactTailOf', WHERE WHAT IT READS IS OF BULK AT MOST 1048576: true; the input reads as it did. -/
def fnExactTailOfUptoRow : OpenClaim := { program := "ytgfnpphhdkjlmaa", sum := "0e02a9250a12fd2ad8bbac0b579f7a080ca99d68a30492437df4748723b4b8b7", func := "loop.example/g00869/laws.FnExactTailOf", spec := "fnExactTailOf", unfollowed := true, recurses := true, apart := false, narrowed := true }
def FnExactTailOfUptoSaid : Prop := fnExactTailOfUptoRow.holds Try.pinned (OpenSpec.upto fnExactTailOfSpec)

/-- 'laws.FnExactLeastWord', WHERE WHAT IT READS IS OF BULK AT MOST 1048576: true; the input reads as it did. -/
def fnExactLeastWordUptoRow : OpenClaim := { program := "ytgfnpphhdkjlmaa", sum := "0e02a9250a12fd2ad8bbac0b579f7a080ca99d68a30492437df4748723b4b8b7", func := "loop.example/g00869/laws.FnExactLeastWord", spec := "fnExactLeastWord", unfollowed := true, recurses := true, apart := false, narrowed := true }
def FnExactLeastWordUptoSaid : Prop := fnExactLeastWordUptoRow.holds Try.pinned (OpenSpec.upto fnExactLeastWordSpec)

/-- 'laws.FnLetters', WHERE WHAT IT READS IS OF BULK AT MOST 1048576: true; the input reads as it did. -/
def fnLettersUptoRow : OpenClaim := { program := "ytgfnpphhdkjlmaa", sum := "0e02a9250a12fd2ad8bbac0b579f7a080ca99d68a30492437df4748723b4b8b7", func := "loop.example/g00869/laws.FnLetters", spec := "fnLetters", apart := false, narrowed := true }
def FnLettersUptoSaid : Prop := fnLettersUptoRow.holds Try.pinned (OpenSpec.upto fnLettersSpec)

/-- 'laws.FnExactMonitorOf', WHERE WHAT IT READS IS OF BULK AT MOST 1048576: true; the input reads as it did. -/
def fnExactMonitorOfUptoRow : OpenClaim := { program := "ytgfnpphhdkjlmaa", sum := "0e02a9250a12fd2ad8bbac0b579f7a080ca99d68a30492437df4748723b4b8b7", func := "loop.example/g00869/laws.FnExactMonitorOf", spec := "fnExactMonitorOf", apart := false, narrowed := true }
def FnExactMonitorOfUptoSaid : Prop := fnExactMonitorOfUptoRow.holds Try.pinned (OpenSpec.upto fnExactMonitorOfSpec)

/-- 'laws.FnExactJoinedDet', WHERE WHAT IT READS IS OF BULK AT MOST 1048576: true; the input reads as it did. -/
def fnExactJoinedDetUptoRow : OpenClaim := { program := "ytgfnpphhdkjlmaa", sum := "0e02a9250a12fd2ad8bbac0b579f7a080ca99d68a30492437df4748723b4b8b7", func := "loop.example/g00869/laws.FnExactJoinedDet", spec := "fnExactJoinedDet", unfollowed := true, recurses := true, apart := false, narrowed := true }
def FnExactJoinedDetUptoSaid : Prop := fnExactJoinedDetUptoRow.holds Try.pinned (OpenSpec.upto fnExactJoinedDetSpec)

/-- 'laws.FnExactProductOf', WHERE WHAT IT READS IS OF BULK AT MOST 1048576: true; the input reads as it did. -/
def fnExactProductOfUptoRow : OpenClaim := { program := "ytgfnpphhdkjlmaa", sum := "0e02a9250a12fd2ad8bbac0b579f7a080ca99d68a30492437df4748723b4b8b7", func := "loop.example/g00869/laws.FnExactProductOf", spec := "fnExactProductOf", unfollowed := true, recurses := true, apart := false, narrowed := true }
def FnExactProductOfUptoSaid : Prop := fnExactProductOfUptoRow.holds Try.pinned (OpenSpec.upto fnExactProductOfSpec)

/-- 'laws.FnExactMetOf', WHERE WHAT IT READS IS OF BULK AT MOST 1048576: true; the input reads as it did. -/
def fnExactMetOfUptoRow : OpenClaim := { program := "ytgfnpphhdkjlmaa", sum := "0e02a9250a12fd2ad8bbac0b579f7a080ca99d68a30492437df4748723b4b8b7", func := "loop.example/g00869/laws.FnExactMetOf", spec := "fnExactMetOf", unfollowed := true, recurses := true, apart := false, narrowed := true }
def FnExactMetOfUptoSaid : Prop := fnExactMetOfUptoRow.holds Try.pinned (OpenSpec.upto fnExactMetOfSpec)

/-- 'laws.FnExactTakesIn', WHERE WHAT IT READS IS OF BULK AT MOST 1048576: true; the input reads as it did. -/
def fnExactTakesInUptoRow : OpenClaim := { program := "ytgfnpphhdkjlmaa", sum := "0e02a9250a12fd2ad8bbac0b579f7a080ca99d68a30492437df4748723b4b8b7", func := "loop.example/g00869/laws.FnExactTakesIn", spec := "fnExactTakesIn", unfollowed := true, recurses := true, apart := false, narrowed := true }
def FnExactTakesInUptoSaid : Prop := fnExactTakesInUptoRow.holds Try.pinned (OpenSpec.upto fnExactTakesInSpec)

/-- 'laws.FnMet', WHERE WHAT IT READS IS OF BULK AT MOST 1048576: true; the input reads as it did. -/
def fnMetUptoRow : OpenClaim := { program := "ytgfnpphhdkjlmaa", sum := "0e02a9250a12fd2ad8bbac0b579f7a080ca99d68a30492437df4748723b4b8b7", func := "loop.example/g00869/laws.FnMet", spec := "fnMet", unfollowed := true, recurses := true, apart := false, narrowed := true }
def FnMetUptoSaid : Prop := fnMetUptoRow.holds Try.pinned (OpenSpec.upto fnMetSpec)

/-- 'laws.FnExactAlikeIn', WHERE WHAT IT READS IS OF BULK AT MOST 1048576: true; the input reads as it did. -/
def fnExactAlikeInUptoRow : OpenClaim := { program := "ytgfnpphhdkjlmaa", sum := "0e02a9250a12fd2ad8bbac0b579f7a080ca99d68a30492437df4748723b4b8b7", func := "loop.example/g00869/laws.FnExactAlikeIn", spec := "fnExactAlikeIn", unfollowed := true, recurses := true, apart := false, narrowed := true }
def FnExactAlikeInUptoSaid : Prop := fnExactAlikeInUptoRow.holds Try.pinned (OpenSpec.upto fnExactAlikeInSpec)

/-- 'laws.FnExactPressedDet', WHERE WHAT IT READS IS OF BULK AT MOST 1048576: true; the input reads as it did. -/
def fnExactPressedDetUptoRow : OpenClaim := { program := "ytgfnpphhdkjlmaa", sum := "0e02a9250a12fd2ad8bbac0b579f7a080ca99d68a30492437df4748723b4b8b7", func := "loop.example/g00869/laws.FnExactPressedDet", spec := "fnExactPressedDet", unfollowed := true, recurses := true, apart := false, narrowed := true }
def FnExactPressedDetUptoSaid : Prop := fnExactPressedDetUptoRow.holds Try.pinned (OpenSpec.upto fnExactPressedDetSpec)

end Rows
end Go.Proofs.Ytgfnpphhdkjlmaa
