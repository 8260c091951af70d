/-
  No cell of these rows narrows 'for every input' (looked for: loops, veiled, ifaces, maps, wideKeys, modest, calm, conditions, laid).
  DERIVED. THE GIVEN ROWS OF THIS SEAT. 8 by the template 'for every input the law returns true; each argument reads behind the call as it read before'; 0 by the template 'total and deterministic' (their statements: YtbjonekgeidoiaaTotals.lean).
  GIVEN WITH THE SEED: the statements are not yours to turn. If you find one false, say at which input.
  Laid BY PROGRAM, IN A SANDBOX (cutbox-rows.mjs): the forced cells as the released guide's own fill.sh prints them over the translation ff10eb36f2c7f77a… (all of the seat's roots in one cut). By AI agents, Wed Nov 11 2026. No macro, syntax, notation, axiom, sorry.
-/
import Derived.Test.YtbjonekgeidoiaaChecked
import GoSem.Claim
import GoSem.ClaimJoined
import GoSem.ClaimMapViews
import Derived.JoinedTies
import Derived.KernelRfl
namespace Go.Proofs.Ytbjonekgeidoiaa
/- THE CELL 'sum', in the pinned program and in every row, IS THE sha256 OF THE DUMP (.gsa) THAT YtbjonekgeidoiaaProg.lean LOADS. Nothing in Lean hashes anything: it is a label: what it is worth is what the hold of that sum in a sandbox is worth. -/
noncomputable def Try.pinned : Pinned := { name := "ytbjonekgeidoiaa", sum := "ff10eb36f2c7f77ad157fd32b378d43e89468d7935435962106463ef242578bd", checked := Try.checked }
namespace Rows
def none {H : Type} : Left H := { results := [], args := [] }

/-- 'laws.FnExactContestOf': WHATEVER THE INPUT: true; the input reads as it did. -/
def fnExactContestOfSpec : ChangeSpec := { name := "fnExactContestOf", fn := fun _ => fun
  | [d1, d2] => { results := [.lit (.bool true)], args := [d1, d2] }
  | _ => none }
def fnExactContestOfRow : OpenClaim := { program := "ytbjonekgeidoiaa", sum := "ff10eb36f2c7f77ad157fd32b378d43e89468d7935435962106463ef242578bd", func := "loop.example/g00869/laws.FnExactContestOf", spec := "fnExactContestOf", unfollowed := true, recurses := true, apart := false }
def FnExactContestOfSaid : Prop := fnExactContestOfRow.holds Try.pinned (OpenSpec.ofChange fnExactContestOfSpec)

/-- ITS FALSE NEIGHBOUR: 'it returns false'. Refute it at one input. -/
def fnExactContestOfWrong : ChangeSpec := { name := "fnExactContestOf", fn := fun _ => fun
  | [d1, d2] => { results := [.lit (.bool false)], args := [d1, d2] }
  | _ => none }
def FnExactContestOfWrongFalsely : Prop := fnExactContestOfRow.holds Try.pinned (OpenSpec.ofChange fnExactContestOfWrong)

/-- 'laws.FnExactSureTakes': WHATEVER THE INPUT: true; the input reads as it did. -/
def fnExactSureTakesSpec : ChangeSpec := { name := "fnExactSureTakes", fn := fun _ => fun
  | [d1, d2] => { results := [.lit (.bool true)], args := [d1, d2] }
  | _ => none }
def fnExactSureTakesRow : OpenClaim := { program := "ytbjonekgeidoiaa", sum := "ff10eb36f2c7f77ad157fd32b378d43e89468d7935435962106463ef242578bd", func := "loop.example/g00869/laws.FnExactSureTakes", spec := "fnExactSureTakes", unfollowed := true, recurses := true, apart := false }
def FnExactSureTakesSaid : Prop := fnExactSureTakesRow.holds Try.pinned (OpenSpec.ofChange fnExactSureTakesSpec)

/-- ITS FALSE NEIGHBOUR: 'it returns false'. Refute it at one input. -/
def fnExactSureTakesWrong : ChangeSpec := { name := "fnExactSureTakes", fn := fun _ => fun
  | [d1, d2] => { results := [.lit (.bool false)], args := [d1, d2] }
  | _ => none }
def FnExactSureTakesWrongFalsely : Prop := fnExactSureTakesRow.holds Try.pinned (OpenSpec.ofChange fnExactSureTakesWrong)

/-- 'laws.FnExactTreeOk': WHATEVER THE INPUT: true; the input reads as it did. -/
def fnExactTreeOkSpec : ChangeSpec := { name := "fnExactTreeOk", fn := fun _ => fun
  | [d1, d2] => { results := [.lit (.bool true)], args := [d1, d2] }
  | _ => none }
def fnExactTreeOkRow : OpenClaim := { program := "ytbjonekgeidoiaa", sum := "ff10eb36f2c7f77ad157fd32b378d43e89468d7935435962106463ef242578bd", func := "loop.example/g00869/laws.FnExactTreeOk", spec := "fnExactTreeOk", recurses := true, apart := false }
def FnExactTreeOkSaid : Prop := fnExactTreeOkRow.holds Try.pinned (OpenSpec.ofChange fnExactTreeOkSpec)

/-- ITS FALSE NEIGHBOUR: 'it returns false'. Refute it at one input. -/
def fnExactTreeOkWrong : ChangeSpec := { name := "fnExactTreeOk", fn := fun _ => fun
  | [d1, d2] => { results := [.lit (.bool false)], args := [d1, d2] }
  | _ => none }
def FnExactTreeOkWrongFalsely : Prop := fnExactTreeOkRow.holds Try.pinned (OpenSpec.ofChange fnExactTreeOkWrong)

/-- 'laws.FnWords': WHATEVER THE INPUT: true; the input reads as it did. -/
def fnWordsSpec : ChangeSpec := { name := "fnWords", fn := fun _ => fun
  | [d] => { results := [.lit (.bool true)], args := [d] }
  | _ => none }
def fnWordsRow : OpenClaim := { program := "ytbjonekgeidoiaa", sum := "ff10eb36f2c7f77ad157fd32b378d43e89468d7935435962106463ef242578bd", func := "loop.example/g00869/laws.FnWords", spec := "fnWords", unfollowed := true, recurses := true, apart := false }
def FnWordsSaid : Prop := fnWordsRow.holds Try.pinned (OpenSpec.ofChange fnWordsSpec)

/-- ITS FALSE NEIGHBOUR: 'it returns false'. Refute it at one input. -/
def fnWordsWrong : ChangeSpec := { name := "fnWords", fn := fun _ => fun
  | [d] => { results := [.lit (.bool false)], args := [d] }
  | _ => none }
def FnWordsWrongFalsely : Prop := fnWordsRow.holds Try.pinned (OpenSpec.ofChange fnWordsWrong)

/-- 'laws.FnClauses': WHATEVER THE INPUT: true; the input reads as it did. -/
def fnClausesSpec : ChangeSpec := { name := "fnClauses", fn := fun _ => fun
  | [d] => { results := [.lit (.bool true)], args := [d] }
  | _ => none }
def fnClausesRow : OpenClaim := { program := "ytbjonekgeidoiaa", sum := "ff10eb36f2c7f77ad157fd32b378d43e89468d7935435962106463ef242578bd", func := "loop.example/g00869/laws.FnClauses", spec := "fnClauses", unfollowed := true, recurses := true, apart := false }
def FnClausesSaid : Prop := fnClausesRow.holds Try.pinned (OpenSpec.ofChange fnClausesSpec)

/-- ITS FALSE NEIGHBOUR: 'it returns false'. Refute it at one input. -/
def fnClausesWrong : ChangeSpec := { name := "fnClauses", fn := fun _ => fun
  | [d] => { results := [.lit (.bool false)], args := [d] }
  | _ => none }
def FnClausesWrongFalsely : Prop := fnClausesRow.holds Try.pinned (OpenSpec.ofChange fnClausesWrong)

/-- 'laws.FnAlikeStates': WHATEVER THE INPUT: true; the input reads as it did. -/
def fnAlikeStatesSpec : ChangeSpec := { name := "fnAlikeStates", fn := fun _ => fun
  | [d] => { results := [.lit (.bool true)], args := [d] }
  | _ => none }
def fnAlikeStatesRow : OpenClaim := { program := "ytbjonekgeidoiaa", sum := "ff10eb36f2c7f77ad157fd32b378d43e89468d7935435962106463ef242578bd", func := "loop.example/g00869/laws.FnAlikeStates", spec := "fnAlikeStates", unfollowed := true, recurses := true, apart := false }
def FnAlikeStatesSaid : Prop := fnAlikeStatesRow.holds Try.pinned (OpenSpec.ofChange fnAlikeStatesSpec)

/-- ITS FALSE NEIGHBOUR: 'it returns false'. Refute it at one input. -/
def fnAlikeStatesWrong : ChangeSpec := { name := "fnAlikeStates", fn := fun _ => fun
  | [d] => { results := [.lit (.bool false)], args := [d] }
  | _ => none }
def FnAlikeStatesWrongFalsely : Prop := fnAlikeStatesRow.holds Try.pinned (OpenSpec.ofChange fnAlikeStatesWrong)

/-- 'laws.FnRuns': WHATEVER THE INPUT: true; the input reads as it did. -/
def fnRunsSpec : ChangeSpec := { name := "fnRuns", fn := fun _ => fun
  | [d] => { results := [.lit (.bool true)], args := [d] }
  | _ => none }
def fnRunsRow : OpenClaim := { program := "ytbjonekgeidoiaa", sum := "ff10eb36f2c7f77ad157fd32b378d43e89468d7935435962106463ef242578bd", func := "loop.example/g00869/laws.FnRuns", spec := "fnRuns", unfollowed := true, recurses := true, apart := false }
def FnRunsSaid : Prop := fnRunsRow.holds Try.pinned (OpenSpec.ofChange fnRunsSpec)

/-- ITS FALSE NEIGHBOUR: 'it returns false'. Refute it at one input. -/
def fnRunsWrong : ChangeSpec := { name := "fnRuns", fn := fun _ => fun
  | [d] => { results := [.lit (.bool false)], args := [d] }
  | _ => none }
def FnRunsWrongFalsely : Prop := fnRunsRow.holds Try.pinned (OpenSpec.ofChange fnRunsWrong)

/-- 'laws.FnMonitors': WHATEVER THE INPUT: true; the input reads as it did. -/
def fnMonitorsSpec : ChangeSpec := { name := "fnMonitors", fn := fun _ => fun
  | [d] => { results := [.lit (.bool true)], args := [d] }
  | _ => none }
def fnMonitorsRow : OpenClaim := { program := "ytbjonekgeidoiaa", sum := "ff10eb36f2c7f77ad157fd32b378d43e89468d7935435962106463ef242578bd", func := "loop.example/g00869/laws.FnMonitors", spec := "fnMonitors", unfollowed := true, recurses := true, apart := false }
def FnMonitorsSaid : Prop := fnMonitorsRow.holds Try.pinned (OpenSpec.ofChange fnMonitorsSpec)

/-- ITS FALSE NEIGHBOUR: 'it returns false'. Refute it at one input. -/
def fnMonitorsWrong : ChangeSpec := { name := "fnMonitors", fn := fun _ => fun
  | [d] => { results := [.lit (.bool false)], args := [d] }
  | _ => none }
def FnMonitorsWrongFalsely : Prop := fnMonitorsRow.holds Try.pinned (OpenSpec.ofChange fnMonitorsWrong)

/- THE SECOND FORM. 'bulk': how many values and letters a reading holds, each counted each time it is reached (what is shared counts as often as it is met; a slice's spare places count too). A statement '..UptoSaid' is the law's where the arguments, and the package variables that the reading takes, are together of bulk at most 1048576: NARROWER than '..Said'. Prove '..Said' where nothing that the law and all that it calls make is longer than what came in: it says more and counts as full. Else prove '..UptoSaid'. A law counts once. -/
mutual
def uptoBulk {H : Type} : DataW H → Nat
  | .lit (.string bytes) => bytes.length + 1
  | .lit _ => 1
  | .nil => 1
  | .ptr d => uptoBulk d + 1
  | .slice elems spare => uptoBulkAll elems + uptoBulkAll spare + 1
  | .agg parts => uptoBulkAll parts + 1
  | .iface _ d => uptoBulk d + 1
  | .map entries => uptoBulkEntries entries + 1
  | .held _ => 1
def uptoBulkAll {H : Type} : List (DataW H) → Nat
  | [] => 0
  | d :: r => uptoBulk d + uptoBulkAll r
def uptoBulkEntries {H : Type} : List (Lit × DataW H) → Nat
  | [] => 0
  | x :: r => uptoBulkEntry x + uptoBulkEntries r
def uptoBulkEntry {H : Type} : Lit × DataW H → Nat
  | (.string bytes, d) => bytes.length + uptoBulk d + 1
  | (_, d) => uptoBulk d + 1
 end
def uptoSmall : (H : Type) → List (DataW H) → Bool := fun _ ds => decide (uptoBulkAll ds ≤ 1048576)
def OpenSpec.upto (s : _root_.Go.ChangeSpec) : _root_.Go.OpenSpec := { _root_.Go.OpenSpec.ofChange s with cond := some uptoSmall }

/-- 'laws.FnExactContestOf', WHERE WHAT IT READS IS OF BULK AT MOST 1048576: true; the input reads as it did. -/
def fnExactContestOfUptoRow : OpenClaim := { program := "ytbjonekgeidoiaa", sum := "ff10eb36f2c7f77ad157fd32b378d43e89468d7935435962106463ef242578bd", func := "loop.example/g00869/laws.FnExactContestOf", spec := "fnExactContestOf", unfollowed := true, recurses := true, apart := false, narrowed := true }
def FnExactContestOfUptoSaid : Prop := fnExactContestOfUptoRow.holds Try.pinned (OpenSpec.upto fnExactContestOfSpec)

/-- 'laws.FnExactSureTakes', WHERE WHAT IT READS IS OF BULK AT MOST 1048576: true; the input reads as it did. -/
def fnExactSureTakesUptoRow : OpenClaim := { program := "ytbjonekgeidoiaa", sum := "ff10eb36f2c7f77ad157fd32b378d43e89468d7935435962106463ef242578bd", func := "loop.example/g00869/laws.FnExactSureTakes", spec := "fnExactSureTakes", unfollowed := true, recurses := true, apart := false, narrowed := true }
def FnExactSureTakesUptoSaid : Prop := fnExactSureTakesUptoRow.holds Try.pinned (OpenSpec.upto fnExactSureTakesSpec)

/-- 'laws.FnExactTreeOk', WHERE WHAT IT READS IS OF BULK AT MOST 1048576: true; the input reads as it did. -/
def fnExactTreeOkUptoRow : OpenClaim := { program := "ytbjonekgeidoiaa", sum := "ff10eb36f2c7f77ad157fd32b378d43e89468d7935435962106463ef242578bd", func := "loop.example/g00869/laws.FnExactTreeOk", spec := "fnExactTreeOk", recurses := true, apart := false, narrowed := true }
def FnExactTreeOkUptoSaid : Prop := fnExactTreeOkUptoRow.holds Try.pinned (OpenSpec.upto fnExactTreeOkSpec)

/-- 'laws.FnWords', WHERE WHAT IT READS IS OF BULK AT MOST 1048576: true; the input reads as it did. -/
def fnWordsUptoRow : OpenClaim := { program := "ytbjonekgeidoiaa", sum := "ff10eb36f2c7f77ad157fd32b378d43e89468d7935435962106463ef242578bd", func := "loop.example/g00869/laws.FnWords", spec := "fnWords", unfollowed := true, recurses := true, apart := false, narrowed := true }
def FnWordsUptoSaid : Prop := fnWordsUptoRow.holds Try.pinned (OpenSpec.upto fnWordsSpec)

/-- 'laws.FnClauses', WHERE WHAT IT READS IS OF BULK AT MOST 1048576: true; the input reads as it did. -/
def fnClausesUptoRow : OpenClaim := { program := "ytbjonekgeidoiaa", sum := "ff10eb36f2c7f77ad157fd32b378d43e89468d7935435962106463ef242578bd", func := "loop.example/g00869/laws.FnClauses", spec := "fnClauses", unfollowed := true, recurses := true, apart := false, narrowed := true }
def FnClausesUptoSaid : Prop := fnClausesUptoRow.holds Try.pinned (OpenSpec.upto fnClausesSpec)

/-- 'laws.FnAlikeStates', WHERE WHAT IT READS IS OF BULK AT MOST 1048576: true; the input reads as it did. -/
def fnAlikeStatesUptoRow : OpenClaim := { program := "ytbjonekgeidoiaa", sum := "ff10eb36f2c7f77ad157fd32b378d43e89468d7935435962106463ef242578bd", func := "loop.example/g00869/laws.FnAlikeStates", spec := "fnAlikeStates", unfollowed := true, recurses := true, apart := false, narrowed := true }
def FnAlikeStatesUptoSaid : Prop := fnAlikeStatesUptoRow.holds Try.pinned (OpenSpec.upto fnAlikeStatesSpec)

/-- 'laws.FnRuns', WHERE WHAT IT READS IS OF BULK AT MOST 1048576: true; the input reads as it did. -/
def fnRunsUptoRow : OpenClaim := { program := "ytbjonekgeidoiaa", sum := "ff10eb36f2c7f77ad157fd32b378d43e89468d7935435962106463ef242578bd", func := "loop.example/g00869/laws.FnRuns", spec := "fnRuns", unfollowed := true, recurses := true, apart := false, narrowed := true }
def FnRunsUptoSaid : Prop := fnRunsUptoRow.holds Try.pinned (OpenSpec.upto fnRunsSpec)

/-- 'laws.FnMonitors', WHERE WHAT IT READS IS OF BULK AT MOST 1048576: true; the input reads as it did. -/
def fnMonitorsUptoRow : OpenClaim := { program := "ytbjonekgeidoiaa", sum := "ff10eb36f2c7f77ad157fd32b378d43e89468d7935435962106463ef242578bd", func := "loop.example/g00869/laws.FnMonitors", spec := "fnMonitors", unfollowed := true, recurses := true, apart := false, narrowed := true }
def FnMonitorsUptoSaid : Prop := fnMonitorsUptoRow.holds Try.pinned (OpenSpec.upto fnMonitorsSpec)

end Rows
end Go.Proofs.Ytbjonekgeidoiaa
