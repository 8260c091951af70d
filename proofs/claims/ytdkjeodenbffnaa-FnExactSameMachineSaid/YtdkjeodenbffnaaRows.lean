/-
  No cell of these rows narrows 'for every input' (looked for: loops, veiled, ifaces, maps, wideKeys, modest, calm, conditions, laid).
  DERIVED. THE GIVEN ROWS OF THIS SEAT. 18 by the template 'for every input the law returns true; each argument reads behind the call as it read before'; 0 by the template 'total and deterministic' (their statements: YtdkjeodenbffnaaTotals.lean).
  GIVEN WITH THE SEED: the statements are not yours to turn. If you find one false, say at which input.
  Laid BY PROGRAM, IN A SANDBOX (cutbox-rows.mjs): the forced cells as the released guide's own fill.sh prints them over the translation f225c548a72a878d… (all of the seat's roots in one cut). By AI agents, Wed Nov 11 2026. No macro, syntax, notation, axiom, sorry.
-/
import Derived.Test.YtdkjeodenbffnaaChecked
import GoSem.Claim
import GoSem.ClaimJoined
import GoSem.ClaimMapViews
import Derived.JoinedTies
import Derived.KernelRfl
namespace Go.Proofs.Ytdkjeodenbffnaa
/- THE CELL 'sum', in the pinned program and in every row, IS THE sha256 OF THE DUMP (.gsa) THAT YtdkjeodenbffnaaProg.lean LOADS. Nothing in Lean hashes anything: it is a label: what it is worth is what the hold of that sum in a sandbox is worth. -/
noncomputable def Try.pinned : Pinned := { name := "ytdkjeodenbffnaa", sum := "f225c548a72a878d64cd93341640562fcabd225c35015e52038211d09d0c84d0", checked := Try.checked }
namespace Rows
def none {H : Type} : Left H := { results := [], args := [] }

/-- 'laws.FnExactMachineOk': WHATEVER THE INPUT: true; the input reads as it did. -/
def fnExactMachineOkSpec : ChangeSpec := { name := "fnExactMachineOk", fn := fun _ => fun
  | [d1, d2] => { results := [.lit (.bool true)], args := [d1, d2] }
  | _ => none }
def fnExactMachineOkRow : OpenClaim := { program := "ytdkjeodenbffnaa", sum := "f225c548a72a878d64cd93341640562fcabd225c35015e52038211d09d0c84d0", func := "loop.example/g00869/laws.FnExactMachineOk", spec := "fnExactMachineOk", unfollowed := true, recurses := true, apart := false }
def FnExactMachineOkSaid : Prop := fnExactMachineOkRow.holds Try.pinned (OpenSpec.ofChange fnExactMachineOkSpec)

/-- ITS FALSE NEIGHBOUR: 'it returns false'. Refute it at one input. -/
def fnExactMachineOkWrong : ChangeSpec := { name := "fnExactMachineOk", fn := fun _ => fun
  | [d1, d2] => { results := [.lit (.bool false)], args := [d1, d2] }
  | _ => none }
def FnExactMachineOkWrongFalsely : Prop := fnExactMachineOkRow.holds Try.pinned (OpenSpec.ofChange fnExactMachineOkWrong)

/-- 'laws.FnExactGuessOk': WHATEVER THE INPUT: true; the input reads as it did. -/
def fnExactGuessOkSpec : ChangeSpec := { name := "fnExactGuessOk", fn := fun _ => fun
  | [d] => { results := [.lit (.bool true)], args := [d] }
  | _ => none }
def fnExactGuessOkRow : OpenClaim := { program := "ytdkjeodenbffnaa", sum := "f225c548a72a878d64cd93341640562fcabd225c35015e52038211d09d0c84d0", func := "loop.example/g00869/laws.FnExactGuessOk", spec := "fnExactGuessOk", apart := false }
def FnExactGuessOkSaid : Prop := fnExactGuessOkRow.holds Try.pinned (OpenSpec.ofChange fnExactGuessOkSpec)

/-- ITS FALSE NEIGHBOUR: 'it returns false'. Refute it at one input. -/
def fnExactGuessOkWrong : ChangeSpec := { name := "fnExactGuessOk", fn := fun _ => fun
  | [d] => { results := [.lit (.bool false)], args := [d] }
  | _ => none }
def FnExactGuessOkWrongFalsely : Prop := fnExactGuessOkRow.holds Try.pinned (OpenSpec.ofChange fnExactGuessOkWrong)

/-- 'laws.FnExactClausesOk': WHATEVER THE INPUT: true; the input reads as it did. -/
def fnExactClausesOkSpec : ChangeSpec := { name := "fnExactClausesOk", fn := fun _ => fun
  | [d1, d2] => { results := [.lit (.bool true)], args := [d1, d2] }
  | _ => none }
def fnExactClausesOkRow : OpenClaim := { program := "ytdkjeodenbffnaa", sum := "f225c548a72a878d64cd93341640562fcabd225c35015e52038211d09d0c84d0", func := "loop.example/g00869/laws.FnExactClausesOk", spec := "fnExactClausesOk", unfollowed := true, recurses := true, apart := false }
def FnExactClausesOkSaid : Prop := fnExactClausesOkRow.holds Try.pinned (OpenSpec.ofChange fnExactClausesOkSpec)

/-- ITS FALSE NEIGHBOUR: 'it returns false'. Refute it at one input. -/
def fnExactClausesOkWrong : ChangeSpec := { name := "fnExactClausesOk", fn := fun _ => fun
  | [d1, d2] => { results := [.lit (.bool false)], args := [d1, d2] }
  | _ => none }
def FnExactClausesOkWrongFalsely : Prop := fnExactClausesOkRow.holds Try.pinned (OpenSpec.ofChange fnExactClausesOkWrong)

/-- 'laws.FnExactStateBehind': WHATEVER THE INPUT: true; the input reads as it did. -/
def fnExactStateBehindSpec : ChangeSpec := { name := "fnExactStateBehind", fn := fun _ => fun
  | [d1, d2, d3] => { results := [.lit (.bool true)], args := [d1, d2, d3] }
  | _ => none }
def fnExactStateBehindRow : OpenClaim := { program := "ytdkjeodenbffnaa", sum := "f225c548a72a878d64cd93341640562fcabd225c35015e52038211d09d0c84d0", func := "loop.example/g00869/laws.FnExactStateBehind", spec := "fnExactStateBehind", unfollowed := true, recurses := true, apart := false }
def FnExactStateBehindSaid : Prop := fnExactStateBehindRow.holds Try.pinned (OpenSpec.ofChange fnExactStateBehindSpec)

/-- ITS FALSE NEIGHBOUR: 'it returns false'. Refute it at one input. -/
def fnExactStateBehindWrong : ChangeSpec := { name := "fnExactStateBehind", fn := fun _ => fun
  | [d1, d2, d3] => { results := [.lit (.bool false)], args := [d1, d2, d3] }
  | _ => none }
def FnExactStateBehindWrongFalsely : Prop := fnExactStateBehindRow.holds Try.pinned (OpenSpec.ofChange fnExactStateBehindWrong)

/-- 'laws.FnExactOutputsFor': WHATEVER THE INPUT: true; the input reads as it did. -/
def fnExactOutputsForSpec : ChangeSpec := { name := "fnExactOutputsFor", fn := fun _ => fun
  | [d1, d2, d3] => { results := [.lit (.bool true)], args := [d1, d2, d3] }
  | _ => none }
def fnExactOutputsForRow : OpenClaim := { program := "ytdkjeodenbffnaa", sum := "f225c548a72a878d64cd93341640562fcabd225c35015e52038211d09d0c84d0", func := "loop.example/g00869/laws.FnExactOutputsFor", spec := "fnExactOutputsFor", unfollowed := true, recurses := true, apart := false }
def FnExactOutputsForSaid : Prop := fnExactOutputsForRow.holds Try.pinned (OpenSpec.ofChange fnExactOutputsForSpec)

/-- ITS FALSE NEIGHBOUR: 'it returns false'. Refute it at one input. -/
def fnExactOutputsForWrong : ChangeSpec := { name := "fnExactOutputsFor", fn := fun _ => fun
  | [d1, d2, d3] => { results := [.lit (.bool false)], args := [d1, d2, d3] }
  | _ => none }
def FnExactOutputsForWrongFalsely : Prop := fnExactOutputsForRow.holds Try.pinned (OpenSpec.ofChange fnExactOutputsForWrong)

/-- 'laws.FnExactFoundStates': WHATEVER THE INPUT: true; the input reads as it did. -/
def fnExactFoundStatesSpec : ChangeSpec := { name := "fnExactFoundStates", fn := fun _ => fun
  | [d1, d2] => { results := [.lit (.bool true)], args := [d1, d2] }
  | _ => none }
def fnExactFoundStatesRow : OpenClaim := { program := "ytdkjeodenbffnaa", sum := "f225c548a72a878d64cd93341640562fcabd225c35015e52038211d09d0c84d0", func := "loop.example/g00869/laws.FnExactFoundStates", spec := "fnExactFoundStates", unfollowed := true, recurses := true, apart := false }
def FnExactFoundStatesSaid : Prop := fnExactFoundStatesRow.holds Try.pinned (OpenSpec.ofChange fnExactFoundStatesSpec)

/-- ITS FALSE NEIGHBOUR: 'it returns false'. Refute it at one input. -/
def fnExactFoundStatesWrong : ChangeSpec := { name := "fnExactFoundStates", fn := fun _ => fun
  | [d1, d2] => { results := [.lit (.bool false)], args := [d1, d2] }
  | _ => none }
def FnExactFoundStatesWrongFalsely : Prop := fnExactFoundStatesRow.holds Try.pinned (OpenSpec.ofChange fnExactFoundStatesWrong)

/-- 'laws.FnExactDetOk': WHATEVER THE INPUT: true; the input reads as it did. -/
def fnExactDetOkSpec : ChangeSpec := { name := "fnExactDetOk", fn := fun _ => fun
  | [d1, d2] => { results := [.lit (.bool true)], args := [d1, d2] }
  | _ => none }
def fnExactDetOkRow : OpenClaim := { program := "ytdkjeodenbffnaa", sum := "f225c548a72a878d64cd93341640562fcabd225c35015e52038211d09d0c84d0", func := "loop.example/g00869/laws.FnExactDetOk", spec := "fnExactDetOk", unfollowed := true, recurses := true, apart := false }
def FnExactDetOkSaid : Prop := fnExactDetOkRow.holds Try.pinned (OpenSpec.ofChange fnExactDetOkSpec)

/-- ITS FALSE NEIGHBOUR: 'it returns false'. Refute it at one input. -/
def fnExactDetOkWrong : ChangeSpec := { name := "fnExactDetOk", fn := fun _ => fun
  | [d1, d2] => { results := [.lit (.bool false)], args := [d1, d2] }
  | _ => none }
def FnExactDetOkWrongFalsely : Prop := fnExactDetOkRow.holds Try.pinned (OpenSpec.ofChange fnExactDetOkWrong)

/-- 'laws.FnExactStartTree': WHATEVER THE INPUT: true; the input reads as it did. -/
def fnExactStartTreeSpec : ChangeSpec := { name := "fnExactStartTree", fn := fun _ => fun
  | [d] => { results := [.lit (.bool true)], args := [d] }
  | _ => none }
def fnExactStartTreeRow : OpenClaim := { program := "ytdkjeodenbffnaa", sum := "f225c548a72a878d64cd93341640562fcabd225c35015e52038211d09d0c84d0", func := "loop.example/g00869/laws.FnExactStartTree", spec := "fnExactStartTree", apart := false }
def FnExactStartTreeSaid : Prop := fnExactStartTreeRow.holds Try.pinned (OpenSpec.ofChange fnExactStartTreeSpec)

/-- ITS FALSE NEIGHBOUR: 'it returns false'. Refute it at one input. -/
def fnExactStartTreeWrong : ChangeSpec := { name := "fnExactStartTree", fn := fun _ => fun
  | [d] => { results := [.lit (.bool false)], args := [d] }
  | _ => none }
def FnExactStartTreeWrongFalsely : Prop := fnExactStartTreeRow.holds Try.pinned (OpenSpec.ofChange fnExactStartTreeWrong)

/-- 'laws.FnExactAlikeStates': WHATEVER THE INPUT: true; the input reads as it did. -/
def fnExactAlikeStatesSpec : ChangeSpec := { name := "fnExactAlikeStates", fn := fun _ => fun
  | [d1, d2] => { results := [.lit (.bool true)], args := [d1, d2] }
  | _ => none }
def fnExactAlikeStatesRow : OpenClaim := { program := "ytdkjeodenbffnaa", sum := "f225c548a72a878d64cd93341640562fcabd225c35015e52038211d09d0c84d0", func := "loop.example/g00869/laws.FnExactAlikeStates", spec := "fnExactAlikeStates", unfollowed := true, recurses := true, apart := false }
def FnExactAlikeStatesSaid : Prop := fnExactAlikeStatesRow.holds Try.pinned (OpenSpec.ofChange fnExactAlikeStatesSpec)

/-- ITS FALSE NEIGHBOUR: 'it returns false'. Refute it at one input. -/
def fnExactAlikeStatesWrong : ChangeSpec := { name := "fnExactAlikeStates", fn := fun _ => fun
  | [d1, d2] => { results := [.lit (.bool false)], args := [d1, d2] }
  | _ => none }
def FnExactAlikeStatesWrongFalsely : Prop := fnExactAlikeStatesRow.holds Try.pinned (OpenSpec.ofChange fnExactAlikeStatesWrong)

/-- 'laws.FnExactVertexOf': WHATEVER THE INPUT: true; the input reads as it did. -/
def fnExactVertexOfSpec : ChangeSpec := { name := "fnExactVertexOf", fn := fun _ => fun
  | [d1, d2, d3, d4] => { results := [.lit (.bool true)], args := [d1, d2, d3, d4] }
  | _ => none }
def fnExactVertexOfRow : OpenClaim := { program := "ytdkjeodenbffnaa", sum := "f225c548a72a878d64cd93341640562fcabd225c35015e52038211d09d0c84d0", func := "loop.example/g00869/laws.FnExactVertexOf", spec := "fnExactVertexOf", unfollowed := true, recurses := true, apart := false }
def FnExactVertexOfSaid : Prop := fnExactVertexOfRow.holds Try.pinned (OpenSpec.ofChange fnExactVertexOfSpec)

/-- ITS FALSE NEIGHBOUR: 'it returns false'. Refute it at one input. -/
def fnExactVertexOfWrong : ChangeSpec := { name := "fnExactVertexOf", fn := fun _ => fun
  | [d1, d2, d3, d4] => { results := [.lit (.bool false)], args := [d1, d2, d3, d4] }
  | _ => none }
def FnExactVertexOfWrongFalsely : Prop := fnExactVertexOfRow.holds Try.pinned (OpenSpec.ofChange fnExactVertexOfWrong)

/-- 'laws.FnExactSameMachine': WHATEVER THE INPUT: true; the input reads as it did. -/
def fnExactSameMachineSpec : ChangeSpec := { name := "fnExactSameMachine", fn := fun _ => fun
  | [d1, d2, d3] => { results := [.lit (.bool true)], args := [d1, d2, d3] }
  | _ => none }
def fnExactSameMachineRow : OpenClaim := { program := "ytdkjeodenbffnaa", sum := "f225c548a72a878d64cd93341640562fcabd225c35015e52038211d09d0c84d0", func := "loop.example/g00869/laws.FnExactSameMachine", spec := "fnExactSameMachine", unfollowed := true, recurses := true, apart := false }
def FnExactSameMachineSaid : Prop := fnExactSameMachineRow.holds Try.pinned (OpenSpec.ofChange fnExactSameMachineSpec)

/-- ITS FALSE NEIGHBOUR: 'it returns false'. Refute it at one input. -/
def fnExactSameMachineWrong : ChangeSpec := { name := "fnExactSameMachine", fn := fun _ => fun
  | [d1, d2, d3] => { results := [.lit (.bool false)], args := [d1, d2, d3] }
  | _ => none }
def FnExactSameMachineWrongFalsely : Prop := fnExactSameMachineRow.holds Try.pinned (OpenSpec.ofChange fnExactSameMachineWrong)

/-- 'laws.FnExactStateAt': WHATEVER THE INPUT: true; the input reads as it did. -/
def fnExactStateAtSpec : ChangeSpec := { name := "fnExactStateAt", fn := fun _ => fun
  | [d1, d2, d3] => { results := [.lit (.bool true)], args := [d1, d2, d3] }
  | _ => none }
def fnExactStateAtRow : OpenClaim := { program := "ytdkjeodenbffnaa", sum := "f225c548a72a878d64cd93341640562fcabd225c35015e52038211d09d0c84d0", func := "loop.example/g00869/laws.FnExactStateAt", spec := "fnExactStateAt", unfollowed := true, recurses := true, apart := false }
def FnExactStateAtSaid : Prop := fnExactStateAtRow.holds Try.pinned (OpenSpec.ofChange fnExactStateAtSpec)

/-- ITS FALSE NEIGHBOUR: 'it returns false'. Refute it at one input. -/
def fnExactStateAtWrong : ChangeSpec := { name := "fnExactStateAt", fn := fun _ => fun
  | [d1, d2, d3] => { results := [.lit (.bool false)], args := [d1, d2, d3] }
  | _ => none }
def FnExactStateAtWrongFalsely : Prop := fnExactStateAtRow.holds Try.pinned (OpenSpec.ofChange fnExactStateAtWrong)

/-- 'laws.FnExactHoldsOn': WHATEVER THE INPUT: true; the input reads as it did. -/
def fnExactHoldsOnSpec : ChangeSpec := { name := "fnExactHoldsOn", fn := fun _ => fun
  | [d1, d2, d3] => { results := [.lit (.bool true)], args := [d1, d2, d3] }
  | _ => none }
def fnExactHoldsOnRow : OpenClaim := { program := "ytdkjeodenbffnaa", sum := "f225c548a72a878d64cd93341640562fcabd225c35015e52038211d09d0c84d0", func := "loop.example/g00869/laws.FnExactHoldsOn", spec := "fnExactHoldsOn", unfollowed := true, recurses := true, apart := false }
def FnExactHoldsOnSaid : Prop := fnExactHoldsOnRow.holds Try.pinned (OpenSpec.ofChange fnExactHoldsOnSpec)

/-- ITS FALSE NEIGHBOUR: 'it returns false'. Refute it at one input. -/
def fnExactHoldsOnWrong : ChangeSpec := { name := "fnExactHoldsOn", fn := fun _ => fun
  | [d1, d2, d3] => { results := [.lit (.bool false)], args := [d1, d2, d3] }
  | _ => none }
def FnExactHoldsOnWrongFalsely : Prop := fnExactHoldsOnRow.holds Try.pinned (OpenSpec.ofChange fnExactHoldsOnWrong)

/-- 'laws.FnExactSameDet': WHATEVER THE INPUT: true; the input reads as it did. -/
def fnExactSameDetSpec : ChangeSpec := { name := "fnExactSameDet", fn := fun _ => fun
  | [d1, d2, d3] => { results := [.lit (.bool true)], args := [d1, d2, d3] }
  | _ => none }
def fnExactSameDetRow : OpenClaim := { program := "ytdkjeodenbffnaa", sum := "f225c548a72a878d64cd93341640562fcabd225c35015e52038211d09d0c84d0", func := "loop.example/g00869/laws.FnExactSameDet", spec := "fnExactSameDet", unfollowed := true, recurses := true, apart := false }
def FnExactSameDetSaid : Prop := fnExactSameDetRow.holds Try.pinned (OpenSpec.ofChange fnExactSameDetSpec)

/-- ITS FALSE NEIGHBOUR: 'it returns false'. Refute it at one input. -/
def fnExactSameDetWrong : ChangeSpec := { name := "fnExactSameDet", fn := fun _ => fun
  | [d1, d2, d3] => { results := [.lit (.bool false)], args := [d1, d2, d3] }
  | _ => none }
def FnExactSameDetWrongFalsely : Prop := fnExactSameDetRow.holds Try.pinned (OpenSpec.ofChange fnExactSameDetWrong)

/-- 'laws.FnExactOutputsTo': WHATEVER THE INPUT: true; the input reads as it did. -/
def fnExactOutputsToSpec : ChangeSpec := { name := "fnExactOutputsTo", fn := fun _ => fun
  | [d1, d2, d3, d4, d5] => { results := [.lit (.bool true)], args := [d1, d2, d3, d4, d5] }
  | _ => none }
def fnExactOutputsToRow : OpenClaim := { program := "ytdkjeodenbffnaa", sum := "f225c548a72a878d64cd93341640562fcabd225c35015e52038211d09d0c84d0", func := "loop.example/g00869/laws.FnExactOutputsTo", spec := "fnExactOutputsTo", unfollowed := true, recurses := true, apart := false }
def FnExactOutputsToSaid : Prop := fnExactOutputsToRow.holds Try.pinned (OpenSpec.ofChange fnExactOutputsToSpec)

/-- ITS FALSE NEIGHBOUR: 'it returns false'. Refute it at one input. -/
def fnExactOutputsToWrong : ChangeSpec := { name := "fnExactOutputsTo", fn := fun _ => fun
  | [d1, d2, d3, d4, d5] => { results := [.lit (.bool false)], args := [d1, d2, d3, d4, d5] }
  | _ => none }
def FnExactOutputsToWrongFalsely : Prop := fnExactOutputsToRow.holds Try.pinned (OpenSpec.ofChange fnExactOutputsToWrong)

/-- 'laws.FnExactFirstBroken': WHATEVER THE INPUT: true; the input reads as it did. -/
def fnExactFirstBrokenSpec : ChangeSpec := { name := "fnExactFirstBroken", fn := fun _ => fun
  | [d1, d2, d3] => { results := [.lit (.bool true)], args := [d1, d2, d3] }
  | _ => none }
def fnExactFirstBrokenRow : OpenClaim := { program := "ytdkjeodenbffnaa", sum := "f225c548a72a878d64cd93341640562fcabd225c35015e52038211d09d0c84d0", func := "loop.example/g00869/laws.FnExactFirstBroken", spec := "fnExactFirstBroken", unfollowed := true, recurses := true, apart := false }
def FnExactFirstBrokenSaid : Prop := fnExactFirstBrokenRow.holds Try.pinned (OpenSpec.ofChange fnExactFirstBrokenSpec)

/-- ITS FALSE NEIGHBOUR: 'it returns false'. Refute it at one input. -/
def fnExactFirstBrokenWrong : ChangeSpec := { name := "fnExactFirstBroken", fn := fun _ => fun
  | [d1, d2, d3] => { results := [.lit (.bool false)], args := [d1, d2, d3] }
  | _ => none }
def FnExactFirstBrokenWrongFalsely : Prop := fnExactFirstBrokenRow.holds Try.pinned (OpenSpec.ofChange fnExactFirstBrokenWrong)

/-- 'laws.FnExactAllHold': WHATEVER THE INPUT: true; the input reads as it did. -/
def fnExactAllHoldSpec : ChangeSpec := { name := "fnExactAllHold", fn := fun _ => fun
  | [d1, d2, d3] => { results := [.lit (.bool true)], args := [d1, d2, d3] }
  | _ => none }
def fnExactAllHoldRow : OpenClaim := { program := "ytdkjeodenbffnaa", sum := "f225c548a72a878d64cd93341640562fcabd225c35015e52038211d09d0c84d0", func := "loop.example/g00869/laws.FnExactAllHold", spec := "fnExactAllHold", unfollowed := true, recurses := true, apart := false }
def FnExactAllHoldSaid : Prop := fnExactAllHoldRow.holds Try.pinned (OpenSpec.ofChange fnExactAllHoldSpec)

/-- ITS FALSE NEIGHBOUR: 'it returns false'. Refute it at one input. -/
def fnExactAllHoldWrong : ChangeSpec := { name := "fnExactAllHold", fn := fun _ => fun
  | [d1, d2, d3] => { results := [.lit (.bool false)], args := [d1, d2, d3] }
  | _ => none }
def FnExactAllHoldWrongFalsely : Prop := fnExactAllHoldRow.holds Try.pinned (OpenSpec.ofChange fnExactAllHoldWrong)

/-- 'laws.FnExactMonitorOf': WHATEVER THE INPUT: true; the input reads as it did. -/
def fnExactMonitorOfSpec : ChangeSpec := { name := "fnExactMonitorOf", fn := fun _ => fun
  | [d1, d2] => { results := [.lit (.bool true)], args := [d1, d2] }
  | _ => none }
def fnExactMonitorOfRow : OpenClaim := { program := "ytdkjeodenbffnaa", sum := "f225c548a72a878d64cd93341640562fcabd225c35015e52038211d09d0c84d0", func := "loop.example/g00869/laws.FnExactMonitorOf", spec := "fnExactMonitorOf", apart := false }
def FnExactMonitorOfSaid : Prop := fnExactMonitorOfRow.holds Try.pinned (OpenSpec.ofChange fnExactMonitorOfSpec)

/-- ITS FALSE NEIGHBOUR: 'it returns false'. Refute it at one input. -/
def fnExactMonitorOfWrong : ChangeSpec := { name := "fnExactMonitorOf", fn := fun _ => fun
  | [d1, d2] => { results := [.lit (.bool false)], args := [d1, d2] }
  | _ => none }
def FnExactMonitorOfWrongFalsely : Prop := fnExactMonitorOfRow.holds Try.pinned (OpenSpec.ofChange fnExactMonitorOfWrong)

/- THE SECOND FORM. 'bulk': how many values and letters a reading holds, each counted each time it is reached (what is shared counts as often as it is met; a slice's spare places count too). A statement '..UptoSaid' is the law's where the arguments, and the package variables that the reading takes, are together of bulk at most 1048576: NARROWER than '..Said'. Prove '..Said' where nothing that the law and all that it calls make is longer than what came in: it says more and counts as full. Else prove '..UptoSaid'. A law counts once. -/
mutual
def uptoBulk {H : Type} : DataW H → Nat
  | .lit (.string bytes) => bytes.length + 1
  | .lit _ => 1
  | .nil => 1
  | .ptr d => uptoBulk d + 1
  | .slice elems spare => uptoBulkAll elems + uptoBulkAll spare + 1
  | .agg parts => uptoBulkAll parts + 1
  | .iface _ d => uptoBulk d + 1
  | .map entries => uptoBulkEntries entries + 1
  | .held _ => 1
def uptoBulkAll {H : Type} : List (DataW H) → Nat
  | [] => 0
  | d :: r => uptoBulk d + uptoBulkAll r
def uptoBulkEntries {H : Type} : List (Lit × DataW H) → Nat
  | [] => 0
  | x :: r => uptoBulkEntry x + uptoBulkEntries r
def uptoBulkEntry {H : Type} : Lit × DataW H → Nat
  | (.string bytes, d) => bytes.length + uptoBulk d + 1
  | (_, d) => uptoBulk d + 1
 end
def uptoSmall : (H : Type) → List (DataW H) → Bool := fun _ ds => decide (uptoBulkAll ds ≤ 1048576)
def OpenSpec.upto (s : _root_.Go.ChangeSpec) : _root_.Go.OpenSpec := { _root_.Go.OpenSpec.ofChange s with cond := some uptoSmall }

/-- 'laws.FnExactMachineOk', WHERE WHAT IT READS IS OF BULK AT MOST 1048576: true; the input reads as it did. -/
def fnExactMachineOkUptoRow : OpenClaim := { program := "ytdkjeodenbffnaa", sum := "f225c548a72a878d64cd93341640562fcabd225c35015e52038211d09d0c84d0", func := "loop.example/g00869/laws.FnExactMachineOk", spec := "fnExactMachineOk", unfollowed := true, recurses := true, apart := false, narrowed := true }
def FnExactMachineOkUptoSaid : Prop := fnExactMachineOkUptoRow.holds Try.pinned (OpenSpec.upto fnExactMachineOkSpec)

/-- 'laws.FnExactGuessOk', WHERE WHAT IT READS IS OF BULK AT MOST 1048576: true; the input reads as it did. -/
def fnExactGuessOkUptoRow : OpenClaim := { program := "ytdkjeodenbffnaa", sum := "f225c548a72a878d64cd93341640562fcabd225c35015e52038211d09d0c84d0", func := "loop.example/g00869/laws.FnExactGuessOk", spec := "fnExactGuessOk", apart := false, narrowed := true }
def FnExactGuessOkUptoSaid : Prop := fnExactGuessOkUptoRow.holds Try.pinned (OpenSpec.upto fnExactGuessOkSpec)

/-- 'laws.FnExactClausesOk', WHERE WHAT IT READS IS OF BULK AT MOST 1048576: true; the input reads as it did. -/
def fnExactClausesOkUptoRow : OpenClaim := { program := "ytdkjeodenbffnaa", sum := "f225c548a72a878d64cd93341640562fcabd225c35015e52038211d09d0c84d0", func := "loop.example/g00869/laws.FnExactClausesOk", spec := "fnExactClausesOk", unfollowed := true, recurses := true, apart := false, narrowed := true }
def FnExactClausesOkUptoSaid : Prop := fnExactClausesOkUptoRow.holds Try.pinned (OpenSpec.upto fnExactClausesOkSpec)

/-- 'laws.FnExactStateBehind', WHERE WHAT IT READS IS OF BULK AT MOST 1048576: true; the input reads as it did. -/
def fnExactStateBehindUptoRow : OpenClaim := { program := "ytdkjeodenbffnaa", sum := "f225c548a72a878d64cd93341640562fcabd225c35015e52038211d09d0c84d0", func := "loop.example/g00869/laws.FnExactStateBehind", spec := "fnExactStateBehind", unfollowed := true, recurses := true, apart := false, narrowed := true }
def FnExactStateBehindUptoSaid : Prop := fnExactStateBehindUptoRow.holds Try.pinned (OpenSpec.upto fnExactStateBehindSpec)

/-- 'laws.FnExactOutputsFor', WHERE WHAT IT READS IS OF BULK AT MOST 1048576: true; the input reads as it did. -/
def fnExactOutputsForUptoRow : OpenClaim := { program := "ytdkjeodenbffnaa", sum := "f225c548a72a878d64cd93341640562fcabd225c35015e52038211d09d0c84d0", func := "loop.example/g00869/laws.FnExactOutputsFor", spec := "fnExactOutputsFor", unfollowed := true, recurses := true, apart := false, narrowed := true }
def FnExactOutputsForUptoSaid : Prop := fnExactOutputsForUptoRow.holds Try.pinned (OpenSpec.upto fnExactOutputsForSpec)

/-- 'laws.FnExactFoundStates', WHERE WHAT IT READS IS OF BULK AT MOST 1048576: true; the input reads as it did. -/
def fnExactFoundStatesUptoRow : OpenClaim := { program := "ytdkjeodenbffnaa", sum := "f225c548a72a878d64cd93341640562fcabd225c35015e52038211d09d0c84d0", func := "loop.example/g00869/laws.FnExactFoundStates", spec := "fnExactFoundStates", unfollowed := true, recurses := true, apart := false, narrowed := true }
def FnExactFoundStatesUptoSaid : Prop := fnExactFoundStatesUptoRow.holds Try.pinned (OpenSpec.upto fnExactFoundStatesSpec)

/-- 'laws.FnExactDetOk', WHERE WHAT IT READS IS OF BULK AT MOST 1048576: true; the input reads as it did. -/
def fnExactDetOkUptoRow : OpenClaim := { program := "ytdkjeodenbffnaa", sum := "f225c548a72a878d64cd93341640562fcabd225c35015e52038211d09d0c84d0", func := "loop.example/g00869/laws.FnExactDetOk", spec := "fnExactDetOk", unfollowed := true, recurses := true, apart := false, narrowed := true }
def FnExactDetOkUptoSaid : Prop := fnExactDetOkUptoRow.holds Try.pinned (OpenSpec.upto fnExactDetOkSpec)

/-- 'laws.FnExactStartTree', WHERE WHAT IT READS IS OF BULK AT MOST 1048576: true; the input reads as it did. -/
def fnExactStartTreeUptoRow : OpenClaim := { program := "ytdkjeodenbffnaa", sum := "f225c548a72a878d64cd93341640562fcabd225c35015e52038211d09d0c84d0", func := "loop.example/g00869/laws.FnExactStartTree", spec := "fnExactStartTree", apart := false, narrowed := true }
def FnExactStartTreeUptoSaid : Prop := fnExactStartTreeUptoRow.holds Try.pinned (OpenSpec.upto fnExactStartTreeSpec)

/-- 'laws.FnExactAlikeStates', WHERE WHAT IT READS IS OF BULK AT MOST 1048576: true; the input reads as it did. -/
def fnExactAlikeStatesUptoRow : OpenClaim := { program := "ytdkjeodenbffnaa", sum := "f225c548a72a878d64cd93341640562fcabd225c35015e52038211d09d0c84d0", func := "loop.example/g00869/laws.FnExactAlikeStates", spec := "fnExactAlikeStates", unfollowed := true, recurses := true, apart := false, narrowed := true }
def FnExactAlikeStatesUptoSaid : Prop := fnExactAlikeStatesUptoRow.holds Try.pinned (OpenSpec.upto fnExactAlikeStatesSpec)

/-- 'laws.FnExactVertexOf', WHERE WHAT IT READS IS OF BULK AT MOST 1048576: true; the input reads as it did. -/
def fnExactVertexOfUptoRow : OpenClaim := { program := "ytdkjeodenbffnaa", sum := "f225c548a72a878d64cd93341640562fcabd225c35015e52038211d09d0c84d0", func := "loop.example/g00869/laws.FnExactVertexOf", spec := "fnExactVertexOf", unfollowed := true, recurses := true, apart := false, narrowed := true }
def FnExactVertexOfUptoSaid : Prop := fnExactVertexOfUptoRow.holds Try.pinned (OpenSpec.upto fnExactVertexOfSpec)

/-- 'laws.FnExactSameMachine', WHERE WHAT IT READS IS OF BULK AT MOST 1048576: true; the input reads as it did. -/
def fnExactSameMachineUptoRow : OpenClaim := { program := "ytdkjeodenbffnaa", sum := "f225c548a72a878d64cd93341640562fcabd225c35015e52038211d09d0c84d0", func := "loop.example/g00869/laws.FnExactSameMachine", spec := "fnExactSameMachine", unfollowed := true, recurses := true, apart := false, narrowed := true }
def FnExactSameMachineUptoSaid : Prop := fnExactSameMachineUptoRow.holds Try.pinned (OpenSpec.upto fnExactSameMachineSpec)

/-- 'laws.FnExactStateAt', WHERE WHAT IT READS IS OF BULK AT MOST 1048576: true; the input reads as it did. -/
def fnExactStateAtUptoRow : OpenClaim := { program := "ytdkjeodenbffnaa", sum := "f225c548a72a878d64cd93341640562fcabd225c35015e52038211d09d0c84d0", func := "loop.example/g00869/laws.FnExactStateAt", spec := "fnExactStateAt", unfollowed := true, recurses := true, apart := false, narrowed := true }
def FnExactStateAtUptoSaid : Prop := fnExactStateAtUptoRow.holds Try.pinned (OpenSpec.upto fnExactStateAtSpec)

/-- 'laws.FnExactHoldsOn', WHERE WHAT IT READS IS OF BULK AT MOST 1048576: true; the input reads as it did. -/
def fnExactHoldsOnUptoRow : OpenClaim := { program := "ytdkjeodenbffnaa", sum := "f225c548a72a878d64cd93341640562fcabd225c35015e52038211d09d0c84d0", func := "loop.example/g00869/laws.FnExactHoldsOn", spec := "fnExactHoldsOn", unfollowed := true, recurses := true, apart := false, narrowed := true }
def FnExactHoldsOnUptoSaid : Prop := fnExactHoldsOnUptoRow.holds Try.pinned (OpenSpec.upto fnExactHoldsOnSpec)

/-- 'laws.FnExactSameDet', WHERE WHAT IT READS IS OF BULK AT MOST 1048576: true; the input reads as it did. -/
def fnExactSameDetUptoRow : OpenClaim := { program := "ytdkjeodenbffnaa", sum := "f225c548a72a878d64cd93341640562fcabd225c35015e52038211d09d0c84d0", func := "loop.example/g00869/laws.FnExactSameDet", spec := "fnExactSameDet", unfollowed := true, recurses := true, apart := false, narrowed := true }
def FnExactSameDetUptoSaid : Prop := fnExactSameDetUptoRow.holds Try.pinned (OpenSpec.upto fnExactSameDetSpec)

/-- 'laws.FnExactOutputsTo', WHERE WHAT IT READS IS OF BULK AT MOST 1048576: true; the input reads as it did. -/
def fnExactOutputsToUptoRow : OpenClaim := { program := "ytdkjeodenbffnaa", sum := "f225c548a72a878d64cd93341640562fcabd225c35015e52038211d09d0c84d0", func := "loop.example/g00869/laws.FnExactOutputsTo", spec := "fnExactOutputsTo", unfollowed := true, recurses := true, apart := false, narrowed := true }
def FnExactOutputsToUptoSaid : Prop := fnExactOutputsToUptoRow.holds Try.pinned (OpenSpec.upto fnExactOutputsToSpec)

/-- 'laws.FnExactFirstBroken', WHERE WHAT IT READS IS OF BULK AT MOST 1048576: true; the input reads as it did. -/
def fnExactFirstBrokenUptoRow : OpenClaim := { program := "ytdkjeodenbffnaa", sum := "f225c548a72a878d64cd93341640562fcabd225c35015e52038211d09d0c84d0", func := "loop.example/g00869/laws.FnExactFirstBroken", spec := "fnExactFirstBroken", unfollowed := true, recurses := true, apart := false, narrowed := true }
def FnExactFirstBrokenUptoSaid : Prop := fnExactFirstBrokenUptoRow.holds Try.pinned (OpenSpec.upto fnExactFirstBrokenSpec)

/-- 'laws.FnExactAllHold', WHERE WHAT IT READS IS OF BULK AT MOST 1048576: true; the input reads as it did. -/
def fnExactAllHoldUptoRow : OpenClaim := { program := "ytdkjeodenbffnaa", sum := "f225c548a72a878d64cd93341640562fcabd225c35015e52038211d09d0c84d0", func := "loop.example/g00869/laws.FnExactAllHold", spec := "fnExactAllHold", unfollowed := true, recurses := true, apart := false, narrowed := true }
def FnExactAllHoldUptoSaid : Prop := fnExactAllHoldUptoRow.holds Try.pinned (OpenSpec.upto fnExactAllHoldSpec)

/-- 'laws.FnExactMonitorOf', WHERE WHAT IT READS IS OF BULK AT MOST 1048576: true; the input reads as it did. -/
def fnExactMonitorOfUptoRow : OpenClaim := { program := "ytdkjeodenbffnaa", sum := "f225c548a72a878d64cd93341640562fcabd225c35015e52038211d09d0c84d0", func := "loop.example/g00869/laws.FnExactMonitorOf", spec := "fnExactMonitorOf", apart := false, narrowed := true }
def FnExactMonitorOfUptoSaid : Prop := fnExactMonitorOfUptoRow.holds Try.pinned (OpenSpec.upto fnExactMonitorOfSpec)

end Rows
end Go.Proofs.Ytdkjeodenbffnaa
