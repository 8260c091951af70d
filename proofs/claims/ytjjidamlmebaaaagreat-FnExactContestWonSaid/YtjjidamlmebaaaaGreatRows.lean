/-
  No cell of these rows narrows 'for every input' (looked for: loops, veiled, ifaces, maps, wideKeys, modest, calm, conditions, laid).
  DERIVED. THE GIVEN ROWS OF THIS SEAT. 3 by the template 'for every input the law returns true; each argument reads behind the call as it read before'; 0 by the template 'total and deterministic' (their statements: YtjjidamlmebaaaaGreatTotals.lean).
  GIVEN WITH THE SEED: the statements are not yours to turn. If you find one false, say at which input.
  Laid BY PROGRAM, IN A SANDBOX (cutbox-rows.mjs): the forced cells as the released guide's own fill.sh prints them over the translation 2cc39abf9fa960de… (all of the seat's roots in one cut). By AI agents, Wed Nov 11 2026. No macro, syntax, notation, axiom, sorry.
-/
import Derived.Test.YtjjidamlmebaaaaGreatChecked
import GoSem.Claim
import GoSem.ClaimJoined
import GoSem.ClaimMapViews
import Derived.JoinedTies
import Derived.KernelRfl
namespace Go.Proofs.YtjjidamlmebaaaaGreat
/- THE CELL 'sum', in the pinned program and in every row, IS THE sha256 OF THE DUMP (.gsa) THAT YtjjidamlmebaaaaGreatProg.lean LOADS. Nothing in Lean hashes anything: it is a label: what it is worth is what the hold of that sum in a sandbox is worth. -/
noncomputable def Tryz.pinned : Pinned := { name := "ytjjidamlmebaaaagreat", sum := "2cc39abf9fa960de2aa2cd492715dd0046dfdefb143547a2dddd0c9ac4601e81", checked := Tryz.checked }
namespace Rows
def none {H : Type} : Left H := { results := [], args := [] }

/-- 'laws.FnExactMachineWins': WHATEVER THE INPUT: true; the input reads as it did. -/
def fnExactMachineWinsSpec : ChangeSpec := { name := "fnExactMachineWins", fn := fun _ => fun
  | [d1, d2] => { results := [.lit (.bool true)], args := [d1, d2] }
  | _ => none }
def fnExactMachineWinsRow : OpenClaim := { program := "ytjjidamlmebaaaagreat", sum := "2cc39abf9fa960de2aa2cd492715dd0046dfdefb143547a2dddd0c9ac4601e81", func := "loop.example/g00869/laws.FnExactMachineWins", spec := "fnExactMachineWins", unfollowed := true, recurses := true, apart := false }
def FnExactMachineWinsSaid : Prop := fnExactMachineWinsRow.holds Tryz.pinned (OpenSpec.ofChange fnExactMachineWinsSpec)

/-- ITS FALSE NEIGHBOUR: 'it returns false'. Refute it at one input. -/
def fnExactMachineWinsWrong : ChangeSpec := { name := "fnExactMachineWins", fn := fun _ => fun
  | [d1, d2] => { results := [.lit (.bool false)], args := [d1, d2] }
  | _ => none }
def FnExactMachineWinsWrongFalsely : Prop := fnExactMachineWinsRow.holds Tryz.pinned (OpenSpec.ofChange fnExactMachineWinsWrong)

/-- 'laws.FnExactContestWon': WHATEVER THE INPUT: true; the input reads as it did. -/
def fnExactContestWonSpec : ChangeSpec := { name := "fnExactContestWon", fn := fun _ => fun
  | [d1, d2] => { results := [.lit (.bool true)], args := [d1, d2] }
  | _ => none }
def fnExactContestWonRow : OpenClaim := { program := "ytjjidamlmebaaaagreat", sum := "2cc39abf9fa960de2aa2cd492715dd0046dfdefb143547a2dddd0c9ac4601e81", func := "loop.example/g00869/laws.FnExactContestWon", spec := "fnExactContestWon", unfollowed := true, recurses := true, apart := false }
def FnExactContestWonSaid : Prop := fnExactContestWonRow.holds Tryz.pinned (OpenSpec.ofChange fnExactContestWonSpec)

/-- ITS FALSE NEIGHBOUR: 'it returns false'. Refute it at one input. -/
def fnExactContestWonWrong : ChangeSpec := { name := "fnExactContestWon", fn := fun _ => fun
  | [d1, d2] => { results := [.lit (.bool false)], args := [d1, d2] }
  | _ => none }
def FnExactContestWonWrongFalsely : Prop := fnExactContestWonRow.holds Tryz.pinned (OpenSpec.ofChange fnExactContestWonWrong)

/-- 'laws.FnExactWinningIn': WHATEVER THE INPUT: true; the input reads as it did. -/
def fnExactWinningInSpec : ChangeSpec := { name := "fnExactWinningIn", fn := fun _ => fun
  | [d1, d2] => { results := [.lit (.bool true)], args := [d1, d2] }
  | _ => none }
def fnExactWinningInRow : OpenClaim := { program := "ytjjidamlmebaaaagreat", sum := "2cc39abf9fa960de2aa2cd492715dd0046dfdefb143547a2dddd0c9ac4601e81", func := "loop.example/g00869/laws.FnExactWinningIn", spec := "fnExactWinningIn", unfollowed := true, recurses := true, apart := false }
def FnExactWinningInSaid : Prop := fnExactWinningInRow.holds Tryz.pinned (OpenSpec.ofChange fnExactWinningInSpec)

/-- ITS FALSE NEIGHBOUR: 'it returns false'. Refute it at one input. -/
def fnExactWinningInWrong : ChangeSpec := { name := "fnExactWinningIn", fn := fun _ => fun
  | [d1, d2] => { results := [.lit (.bool false)], args := [d1, d2] }
  | _ => none }
def FnExactWinningInWrongFalsely : Prop := fnExactWinningInRow.holds Tryz.pinned (OpenSpec.ofChange fnExactWinningInWrong)

/- THE SECOND FORM. 'bulk': how many values and letters a reading holds, each counted each time it is reached (what is shared counts as often as it is met; a slice's spare places count too). A statement '..UptoSaid' is the law's where the arguments, and the package variables that the reading takes, are together of bulk at most 1048576: NARROWER than '..Said'. Prove '..Said' where nothing that the law and all that it calls make is longer than what came in: it says more and counts as full. Else prove '..UptoSaid'. A law counts once. -/
mutual
def uptoBulk {H : Type} : DataW H → Nat
  | .lit (.string bytes) => bytes.length + 1
  | .lit _ => 1
  | .nil => 1
  | .ptr d => uptoBulk d + 1
  | .slice elems spare => uptoBulkAll elems + uptoBulkAll spare + 1
  | .agg parts => uptoBulkAll parts + 1
  | .iface _ d => uptoBulk d + 1
  | .map entries => uptoBulkEntries entries + 1
  | .held _ => 1
def uptoBulkAll {H : Type} : List (DataW H) → Nat
  | [] => 0
  | d :: r => uptoBulk d + uptoBulkAll r
def uptoBulkEntries {H : Type} : List (Lit × DataW H) → Nat
  | [] => 0
  | x :: r => uptoBulkEntry x + uptoBulkEntries r
def uptoBulkEntry {H : Type} : Lit × DataW H → Nat
  | (.string bytes, d) => bytes.length + uptoBulk d + 1
  | (_, d) => uptoBulk d + 1
 end
def uptoSmall : (H : Type) → List (DataW H) → Bool := fun _ ds => decide (uptoBulkAll ds ≤ 1048576)
def OpenSpec.upto (s : _root_.Go.ChangeSpec) : _root_.Go.OpenSpec := { _root_.Go.OpenSpec.ofChange s with cond := some uptoSmall }

/-- 'laws.FnExactMachineWins', WHERE WHAT IT READS IS OF BULK AT MOST 1048576: true; the input reads as it did. -/
def fnExactMachineWinsUptoRow : OpenClaim := { program := "ytjjidamlmebaaaagreat", sum := "2cc39abf9fa960de2aa2cd492715dd0046dfdefb143547a2dddd0c9ac4601e81", func := "loop.example/g00869/laws.FnExactMachineWins", spec := "fnExactMachineWins", unfollowed := true, recurses := true, apart := false, narrowed := true }
def FnExactMachineWinsUptoSaid : Prop := fnExactMachineWinsUptoRow.holds Tryz.pinned (OpenSpec.upto fnExactMachineWinsSpec)

/-- 'laws.FnExactContestWon', WHERE WHAT IT READS IS OF BULK AT MOST 1048576: true; the input reads as it did. -/
def fnExactContestWonUptoRow : OpenClaim := { program := "ytjjidamlmebaaaagreat", sum := "2cc39abf9fa960de2aa2cd492715dd0046dfdefb143547a2dddd0c9ac4601e81", func := "loop.example/g00869/laws.FnExactContestWon", spec := "fnExactContestWon", unfollowed := true, recurses := true, apart := false, narrowed := true }
def FnExactContestWonUptoSaid : Prop := fnExactContestWonUptoRow.holds Tryz.pinned (OpenSpec.upto fnExactContestWonSpec)

/-- 'laws.FnExactWinningIn', WHERE WHAT IT READS IS OF BULK AT MOST 1048576: true; the input reads as it did. -/
def fnExactWinningInUptoRow : OpenClaim := { program := "ytjjidamlmebaaaagreat", sum := "2cc39abf9fa960de2aa2cd492715dd0046dfdefb143547a2dddd0c9ac4601e81", func := "loop.example/g00869/laws.FnExactWinningIn", spec := "fnExactWinningIn", unfollowed := true, recurses := true, apart := false, narrowed := true }
def FnExactWinningInUptoSaid : Prop := fnExactWinningInUptoRow.holds Tryz.pinned (OpenSpec.upto fnExactWinningInSpec)

end Rows
end Go.Proofs.YtjjidamlmebaaaaGreat
