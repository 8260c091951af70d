/-
  No cell of these rows narrows 'for every input' (looked for: loops, veiled, ifaces, maps, wideKeys, modest, calm, conditions, laid).
  DERIVED. THE GIVEN ROWS OF THIS SEAT. 12 by the template 'for every input the law returns true; each argument reads behind the call as it read before'; 0 by the template 'total and deterministic' (their statements: YtknkdgacdeeemaaTotals.lean).
  GIVEN WITH THE SEED: the statements are not yours to turn. If you find one false, say at which input.
  Laid BY PROGRAM, IN A SANDBOX (cutbox-rows.mjs): the forced cells as the released guide's own fill.sh prints them over the translation b66d4fd8ff639ed7… (all of the seat's roots in one cut). By AI agents, Wed Nov 11 2026. No macro, syntax, notation, axiom, sorry.
-/
import Derived.Test.YtknkdgacdeeemaaChecked
import GoSem.Claim
import GoSem.ClaimJoined
import GoSem.ClaimMapViews
import Derived.JoinedTies
import Derived.KernelRfl
namespace Go.Proofs.Ytknkdgacdeeemaa
/- THE CELL 'sum', in the pinned program and in every row, IS THE sha256 OF THE DUMP (.gsa) THAT YtknkdgacdeeemaaProg.lean LOADS. Nothing in Lean hashes anything: it is a label: what it is worth is what the hold of that sum in a sandbox is worth. -/
noncomputable def Try.pinned : Pinned := { name := "ytknkdgacdeeemaa", sum := "b66d4fd8ff639ed7dd0ceddec01c4e171aa0cf244550b41b8b9cb5f788460b3a", checked := Try.checked }
namespace Rows
def none {H : Type} : Left H := { results := [], args := [] }

/-- 'laws.FnExactLetterOf': WHATEVER THE INPUT: true; the input reads as it did. -/
def fnExactLetterOfSpec : ChangeSpec := { name := "fnExactLetterOf", fn := fun _ => fun
  | [d1, d2, d3] => { results := [.lit (.bool true)], args := [d1, d2, d3] }
  | _ => none }
def fnExactLetterOfRow : OpenClaim := { program := "ytknkdgacdeeemaa", sum := "b66d4fd8ff639ed7dd0ceddec01c4e171aa0cf244550b41b8b9cb5f788460b3a", func := "loop.example/g00869/laws.FnExactLetterOf", spec := "fnExactLetterOf", apart := false }
def FnExactLetterOfSaid : Prop := fnExactLetterOfRow.holds Try.pinned (OpenSpec.ofChange fnExactLetterOfSpec)

/-- ITS FALSE NEIGHBOUR: 'it returns false'. Refute it at one input. -/
def fnExactLetterOfWrong : ChangeSpec := { name := "fnExactLetterOf", fn := fun _ => fun
  | [d1, d2, d3] => { results := [.lit (.bool false)], args := [d1, d2, d3] }
  | _ => none }
def FnExactLetterOfWrongFalsely : Prop := fnExactLetterOfRow.holds Try.pinned (OpenSpec.ofChange fnExactLetterOfWrong)

/-- 'laws.FnExactLettersOf': WHATEVER THE INPUT: true; the input reads as it did. -/
def fnExactLettersOfSpec : ChangeSpec := { name := "fnExactLettersOf", fn := fun _ => fun
  | [d] => { results := [.lit (.bool true)], args := [d] }
  | _ => none }
def fnExactLettersOfRow : OpenClaim := { program := "ytknkdgacdeeemaa", sum := "b66d4fd8ff639ed7dd0ceddec01c4e171aa0cf244550b41b8b9cb5f788460b3a", func := "loop.example/g00869/laws.FnExactLettersOf", spec := "fnExactLettersOf", apart := false }
def FnExactLettersOfSaid : Prop := fnExactLettersOfRow.holds Try.pinned (OpenSpec.ofChange fnExactLettersOfSpec)

/-- ITS FALSE NEIGHBOUR: 'it returns false'. Refute it at one input. -/
def fnExactLettersOfWrong : ChangeSpec := { name := "fnExactLettersOf", fn := fun _ => fun
  | [d] => { results := [.lit (.bool false)], args := [d] }
  | _ => none }
def FnExactLettersOfWrongFalsely : Prop := fnExactLettersOfRow.holds Try.pinned (OpenSpec.ofChange fnExactLettersOfWrong)

/-- 'laws.FnExactInOf': WHATEVER THE INPUT: true; the input reads as it did. -/
def fnExactInOfSpec : ChangeSpec := { name := "fnExactInOf", fn := fun _ => fun
  | [d1, d2] => { results := [.lit (.bool true)], args := [d1, d2] }
  | _ => none }
def fnExactInOfRow : OpenClaim := { program := "ytknkdgacdeeemaa", sum := "b66d4fd8ff639ed7dd0ceddec01c4e171aa0cf244550b41b8b9cb5f788460b3a", func := "loop.example/g00869/laws.FnExactInOf", spec := "fnExactInOf", apart := false }
def FnExactInOfSaid : Prop := fnExactInOfRow.holds Try.pinned (OpenSpec.ofChange fnExactInOfSpec)

/-- ITS FALSE NEIGHBOUR: 'it returns false'. Refute it at one input. -/
def fnExactInOfWrong : ChangeSpec := { name := "fnExactInOf", fn := fun _ => fun
  | [d1, d2] => { results := [.lit (.bool false)], args := [d1, d2] }
  | _ => none }
def FnExactInOfWrongFalsely : Prop := fnExactInOfRow.holds Try.pinned (OpenSpec.ofChange fnExactInOfWrong)

/-- 'laws.FnExactOutOf': WHATEVER THE INPUT: true; the input reads as it did. -/
def fnExactOutOfSpec : ChangeSpec := { name := "fnExactOutOf", fn := fun _ => fun
  | [d1, d2] => { results := [.lit (.bool true)], args := [d1, d2] }
  | _ => none }
def fnExactOutOfRow : OpenClaim := { program := "ytknkdgacdeeemaa", sum := "b66d4fd8ff639ed7dd0ceddec01c4e171aa0cf244550b41b8b9cb5f788460b3a", func := "loop.example/g00869/laws.FnExactOutOf", spec := "fnExactOutOf", apart := false }
def FnExactOutOfSaid : Prop := fnExactOutOfRow.holds Try.pinned (OpenSpec.ofChange fnExactOutOfSpec)

/-- ITS FALSE NEIGHBOUR: 'it returns false'. Refute it at one input. -/
def fnExactOutOfWrong : ChangeSpec := { name := "fnExactOutOf", fn := fun _ => fun
  | [d1, d2] => { results := [.lit (.bool false)], args := [d1, d2] }
  | _ => none }
def FnExactOutOfWrongFalsely : Prop := fnExactOutOfRow.holds Try.pinned (OpenSpec.ofChange fnExactOutOfWrong)

/-- 'laws.FnExactSafeIn': WHATEVER THE INPUT: true; the input reads as it did. -/
def fnExactSafeInSpec : ChangeSpec := { name := "fnExactSafeIn", fn := fun _ => fun
  | [d] => { results := [.lit (.bool true)], args := [d] }
  | _ => none }
def fnExactSafeInRow : OpenClaim := { program := "ytknkdgacdeeemaa", sum := "b66d4fd8ff639ed7dd0ceddec01c4e171aa0cf244550b41b8b9cb5f788460b3a", func := "loop.example/g00869/laws.FnExactSafeIn", spec := "fnExactSafeIn", apart := false }
def FnExactSafeInSaid : Prop := fnExactSafeInRow.holds Try.pinned (OpenSpec.ofChange fnExactSafeInSpec)

/-- ITS FALSE NEIGHBOUR: 'it returns false'. Refute it at one input. -/
def fnExactSafeInWrong : ChangeSpec := { name := "fnExactSafeIn", fn := fun _ => fun
  | [d] => { results := [.lit (.bool false)], args := [d] }
  | _ => none }
def FnExactSafeInWrongFalsely : Prop := fnExactSafeInRow.holds Try.pinned (OpenSpec.ofChange fnExactSafeInWrong)

/-- 'laws.FnLetters': WHATEVER THE INPUT: true; the input reads as it did. -/
def fnLettersSpec : ChangeSpec := { name := "fnLetters", fn := fun _ => fun
  | [d] => { results := [.lit (.bool true)], args := [d] }
  | _ => none }
def fnLettersRow : OpenClaim := { program := "ytknkdgacdeeemaa", sum := "b66d4fd8ff639ed7dd0ceddec01c4e171aa0cf244550b41b8b9cb5f788460b3a", func := "loop.example/g00869/laws.FnLetters", spec := "fnLetters", apart := false }
def FnLettersSaid : Prop := fnLettersRow.holds Try.pinned (OpenSpec.ofChange fnLettersSpec)

/-- ITS FALSE NEIGHBOUR: 'it returns false'. Refute it at one input. -/
def fnLettersWrong : ChangeSpec := { name := "fnLetters", fn := fun _ => fun
  | [d] => { results := [.lit (.bool false)], args := [d] }
  | _ => none }
def FnLettersWrongFalsely : Prop := fnLettersRow.holds Try.pinned (OpenSpec.ofChange fnLettersWrong)

/-- 'laws.FnExactWordOk': WHATEVER THE INPUT: true; the input reads as it did. -/
def fnExactWordOkSpec : ChangeSpec := { name := "fnExactWordOk", fn := fun _ => fun
  | [d1, d2] => { results := [.lit (.bool true)], args := [d1, d2] }
  | _ => none }
def fnExactWordOkRow : OpenClaim := { program := "ytknkdgacdeeemaa", sum := "b66d4fd8ff639ed7dd0ceddec01c4e171aa0cf244550b41b8b9cb5f788460b3a", func := "loop.example/g00869/laws.FnExactWordOk", spec := "fnExactWordOk", unfollowed := true, recurses := true, apart := false }
def FnExactWordOkSaid : Prop := fnExactWordOkRow.holds Try.pinned (OpenSpec.ofChange fnExactWordOkSpec)

/-- ITS FALSE NEIGHBOUR: 'it returns false'. Refute it at one input. -/
def fnExactWordOkWrong : ChangeSpec := { name := "fnExactWordOk", fn := fun _ => fun
  | [d1, d2] => { results := [.lit (.bool false)], args := [d1, d2] }
  | _ => none }
def FnExactWordOkWrongFalsely : Prop := fnExactWordOkRow.holds Try.pinned (OpenSpec.ofChange fnExactWordOkWrong)

/-- 'laws.FnExactLetterAt': WHATEVER THE INPUT: true; the input reads as it did. -/
def fnExactLetterAtSpec : ChangeSpec := { name := "fnExactLetterAt", fn := fun _ => fun
  | [d1, d2] => { results := [.lit (.bool true)], args := [d1, d2] }
  | _ => none }
def fnExactLetterAtRow : OpenClaim := { program := "ytknkdgacdeeemaa", sum := "b66d4fd8ff639ed7dd0ceddec01c4e171aa0cf244550b41b8b9cb5f788460b3a", func := "loop.example/g00869/laws.FnExactLetterAt", spec := "fnExactLetterAt", unfollowed := true, recurses := true, apart := false }
def FnExactLetterAtSaid : Prop := fnExactLetterAtRow.holds Try.pinned (OpenSpec.ofChange fnExactLetterAtSpec)

/-- ITS FALSE NEIGHBOUR: 'it returns false'. Refute it at one input. -/
def fnExactLetterAtWrong : ChangeSpec := { name := "fnExactLetterAt", fn := fun _ => fun
  | [d1, d2] => { results := [.lit (.bool false)], args := [d1, d2] }
  | _ => none }
def FnExactLetterAtWrongFalsely : Prop := fnExactLetterAtRow.holds Try.pinned (OpenSpec.ofChange fnExactLetterAtWrong)

/-- 'laws.FnExactClauseOk': WHATEVER THE INPUT: true; the input reads as it did. -/
def fnExactClauseOkSpec : ChangeSpec := { name := "fnExactClauseOk", fn := fun _ => fun
  | [d1, d2] => { results := [.lit (.bool true)], args := [d1, d2] }
  | _ => none }
def fnExactClauseOkRow : OpenClaim := { program := "ytknkdgacdeeemaa", sum := "b66d4fd8ff639ed7dd0ceddec01c4e171aa0cf244550b41b8b9cb5f788460b3a", func := "loop.example/g00869/laws.FnExactClauseOk", spec := "fnExactClauseOk", apart := false }
def FnExactClauseOkSaid : Prop := fnExactClauseOkRow.holds Try.pinned (OpenSpec.ofChange fnExactClauseOkSpec)

/-- ITS FALSE NEIGHBOUR: 'it returns false'. Refute it at one input. -/
def fnExactClauseOkWrong : ChangeSpec := { name := "fnExactClauseOk", fn := fun _ => fun
  | [d1, d2] => { results := [.lit (.bool false)], args := [d1, d2] }
  | _ => none }
def FnExactClauseOkWrongFalsely : Prop := fnExactClauseOkRow.holds Try.pinned (OpenSpec.ofChange fnExactClauseOkWrong)

/-- 'laws.FnExactSameWord': WHATEVER THE INPUT: true; the input reads as it did. -/
def fnExactSameWordSpec : ChangeSpec := { name := "fnExactSameWord", fn := fun _ => fun
  | [d1, d2] => { results := [.lit (.bool true)], args := [d1, d2] }
  | _ => none }
def fnExactSameWordRow : OpenClaim := { program := "ytknkdgacdeeemaa", sum := "b66d4fd8ff639ed7dd0ceddec01c4e171aa0cf244550b41b8b9cb5f788460b3a", func := "loop.example/g00869/laws.FnExactSameWord", spec := "fnExactSameWord", unfollowed := true, recurses := true, apart := false }
def FnExactSameWordSaid : Prop := fnExactSameWordRow.holds Try.pinned (OpenSpec.ofChange fnExactSameWordSpec)

/-- ITS FALSE NEIGHBOUR: 'it returns false'. Refute it at one input. -/
def fnExactSameWordWrong : ChangeSpec := { name := "fnExactSameWord", fn := fun _ => fun
  | [d1, d2] => { results := [.lit (.bool false)], args := [d1, d2] }
  | _ => none }
def FnExactSameWordWrongFalsely : Prop := fnExactSameWordRow.holds Try.pinned (OpenSpec.ofChange fnExactSameWordWrong)

/-- 'laws.FnExactTailOf': WHATEVER THE INPUT: true; the input reads as it did. -/
def fnExactTailOfSpec : ChangeSpec := { name := "fnExactTailOf", fn := fun _ => fun
  | [d1, d2] => { results := [.lit (.bool true)], args := [d1, d2] }
  | _ => none }
def fnExactTailOfRow : OpenClaim := { program := "ytknkdgacdeeemaa", sum := "b66d4fd8ff639ed7dd0ceddec01c4e171aa0cf244550b41b8b9cb5f788460b3a", func := "loop.example/g00869/laws.FnExactTailOf", spec := "fnExactTailOf", unfollowed := true, recurses := true, apart := false }
def FnExactTailOfSaid : Prop := fnExactTailOfRow.holds Try.pinned (OpenSpec.ofChange fnExactTailOfSpec)

/-- ITS FALSE NEIGHBOUR: 'it returns false'. Refute it at one input. -/
def fnExactTailOfWrong : ChangeSpec := { name := "fnExactTailOf", fn := fun _ => fun
  | [d1, d2] => { results := [.lit (.bool false)], args := [d1, d2] }
  | _ => none }
def FnExactTailOfWrongFalsely : Prop := fnExactTailOfRow.holds Try.pinned (OpenSpec.ofChange fnExactTailOfWrong)

/-- 'laws.FnExactLeastWord': WHATEVER THE INPUT: true; the input reads as it did. -/
def fnExactLeastWordSpec : ChangeSpec := { name := "fnExactLeastWord", fn := fun _ => fun
  | [d] => { results := [.lit (.bool true)], args := [d] }
  | _ => none }
def fnExactLeastWordRow : OpenClaim := { program := "ytknkdgacdeeemaa", sum := "b66d4fd8ff639ed7dd0ceddec01c4e171aa0cf244550b41b8b9cb5f788460b3a", func := "loop.example/g00869/laws.FnExactLeastWord", spec := "fnExactLeastWord", unfollowed := true, recurses := true, apart := false }
def FnExactLeastWordSaid : Prop := fnExactLeastWordRow.holds Try.pinned (OpenSpec.ofChange fnExactLeastWordSpec)

/-- ITS FALSE NEIGHBOUR: 'it returns false'. Refute it at one input. -/
def fnExactLeastWordWrong : ChangeSpec := { name := "fnExactLeastWord", fn := fun _ => fun
  | [d] => { results := [.lit (.bool false)], args := [d] }
  | _ => none }
def FnExactLeastWordWrongFalsely : Prop := fnExactLeastWordRow.holds Try.pinned (OpenSpec.ofChange fnExactLeastWordWrong)

/- THE SECOND FORM. 'bulk': how many values and letters a reading holds, each counted each time it is reached (what is shared counts as often as it is met; a slice's spare places count too). A statement '..UptoSaid' is the law's where the arguments, and the package variables that the reading takes, are together of bulk at most 1048576: NARROWER than '..Said'. Prove '..Said' where nothing that the law and all that it calls make is longer than what came in: it says more and counts as full. Else prove '..UptoSaid'. A law counts once. -/
mutual
def uptoBulk {H : Type} : DataW H → Nat
  | .lit (.string bytes) => bytes.length + 1
  | .lit _ => 1
  | .nil => 1
  | .ptr d => uptoBulk d + 1
  | .slice elems spare => uptoBulkAll elems + uptoBulkAll spare + 1
  | .agg parts => uptoBulkAll parts + 1
  | .iface _ d => uptoBulk d + 1
  | .map entries => uptoBulkEntries entries + 1
  | .held _ => 1
def uptoBulkAll {H : Type} : List (DataW H) → Nat
  | [] => 0
  | d :: r => uptoBulk d + uptoBulkAll r
def uptoBulkEntries {H : Type} : List (Lit × DataW H) → Nat
  | [] => 0
  | x :: r => uptoBulkEntry x + uptoBulkEntries r
def uptoBulkEntry {H : Type} : Lit × DataW H → Nat
  | (.string bytes, d) => bytes.length + uptoBulk d + 1
  | (_, d) => uptoBulk d + 1
 end
def uptoSmall : (H : Type) → List (DataW H) → Bool := fun _ ds => decide (uptoBulkAll ds ≤ 1048576)
def OpenSpec.upto (s : _root_.Go.ChangeSpec) : _root_.Go.OpenSpec := { _root_.Go.OpenSpec.ofChange s with cond := some uptoSmall }

/-- 'laws.FnExactLetterOf', WHERE WHAT IT READS IS OF BULK AT MOST 1048576: true; the input reads as it did. -/
def fnExactLetterOfUptoRow : OpenClaim := { program := "ytknkdgacdeeemaa", sum := "b66d4fd8ff639ed7dd0ceddec01c4e171aa0cf244550b41b8b9cb5f788460b3a", func := "loop.example/g00869/laws.FnExactLetterOf", spec := "fnExactLetterOf", apart := false, narrowed := true }
def FnExactLetterOfUptoSaid : Prop := fnExactLetterOfUptoRow.holds Try.pinned (OpenSpec.upto fnExactLetterOfSpec)

/-- 'laws.FnExactLettersOf', WHERE WHAT IT READS IS OF BULK AT MOST 1048576: true; the input reads as it did. -/
def fnExactLettersOfUptoRow : OpenClaim := { program := "ytknkdgacdeeemaa", sum := "b66d4fd8ff639ed7dd0ceddec01c4e171aa0cf244550b41b8b9cb5f788460b3a", func := "loop.example/g00869/laws.FnExactLettersOf", spec := "fnExactLettersOf", apart := false, narrowed := true }
def FnExactLettersOfUptoSaid : Prop := fnExactLettersOfUptoRow.holds Try.pinned (OpenSpec.upto fnExactLettersOfSpec)

/-- 'laws.FnExactInOf', WHERE WHAT IT READS IS OF BULK AT MOST 1048576: true; the input reads as it did. -/
def fnExactInOfUptoRow : OpenClaim := { program := "ytknkdgacdeeemaa", sum := "b66d4fd8ff639ed7dd0ceddec01c4e171aa0cf244550b41b8b9cb5f788460b3a", func := "loop.example/g00869/laws.FnExactInOf", spec := "fnExactInOf", apart := false, narrowed := true }
def FnExactInOfUptoSaid : Prop := fnExactInOfUptoRow.holds Try.pinned (OpenSpec.upto fnExactInOfSpec)

/-- 'laws.FnExactOutOf', WHERE WHAT IT READS IS OF BULK AT MOST 1048576: true; the input reads as it did. -/
def fnExactOutOfUptoRow : OpenClaim := { program := "ytknkdgacdeeemaa", sum := "b66d4fd8ff639ed7dd0ceddec01c4e171aa0cf244550b41b8b9cb5f788460b3a", func := "loop.example/g00869/laws.FnExactOutOf", spec := "fnExactOutOf", apart := false, narrowed := true }
def FnExactOutOfUptoSaid : Prop := fnExactOutOfUptoRow.holds Try.pinned (OpenSpec.upto fnExactOutOfSpec)

/-- 'laws.FnExactSafeIn', WHERE WHAT IT READS IS OF BULK AT MOST 1048576: true; the input reads as it did. -/
def fnExactSafeInUptoRow : OpenClaim := { program := "ytknkdgacdeeemaa", sum := "b66d4fd8ff639ed7dd0ceddec01c4e171aa0cf244550b41b8b9cb5f788460b3a", func := "loop.example/g00869/laws.FnExactSafeIn", spec := "fnExactSafeIn", apart := false, narrowed := true }
def FnExactSafeInUptoSaid : Prop := fnExactSafeInUptoRow.holds Try.pinned (OpenSpec.upto fnExactSafeInSpec)

/-- 'laws.FnLetters', WHERE WHAT IT READS IS OF BULK AT MOST 1048576: true; the input reads as it did. -/
def fnLettersUptoRow : OpenClaim := { program := "ytknkdgacdeeemaa", sum := "b66d4fd8ff639ed7dd0ceddec01c4e171aa0cf244550b41b8b9cb5f788460b3a", func := "loop.example/g00869/laws.FnLetters", spec := "fnLetters", apart := false, narrowed := true }
def FnLettersUptoSaid : Prop := fnLettersUptoRow.holds Try.pinned (OpenSpec.upto fnLettersSpec)

/-- 'laws.FnExactWordOk', WHERE WHAT IT READS IS OF BULK AT MOST 1048576: true; the input reads as it did. -/
def fnExactWordOkUptoRow : OpenClaim := { program := "ytknkdgacdeeemaa", sum := "b66d4fd8ff639ed7dd0ceddec01c4e171aa0cf244550b41b8b9cb5f788460b3a", func := "loop.example/g00869/laws.FnExactWordOk", spec := "fnExactWordOk", unfollowed := true, recurses := true, apart := false, narrowed := true }
def FnExactWordOkUptoSaid : Prop := fnExactWordOkUptoRow.holds Try.pinned (OpenSpec.upto fnExactWordOkSpec)

/-- 'laws.FnExactLetterAt', WHERE WHAT IT READS IS OF BULK AT MOST 1048576: true; the input reads as it did. -/
def fnExactLetterAtUptoRow : OpenClaim := { program := "ytknkdgacdeeemaa", sum := "b66d4fd8ff639ed7dd0ceddec01c4e171aa0cf244550b41b8b9cb5f788460b3a", func := "loop.example/g00869/laws.FnExactLetterAt", spec := "fnExactLetterAt", unfollowed := true, recurses := true, apart := false, narrowed := true }
def FnExactLetterAtUptoSaid : Prop := fnExactLetterAtUptoRow.holds Try.pinned (OpenSpec.upto fnExactLetterAtSpec)

/-- 'laws.FnExactClauseOk', WHERE WHAT IT READS IS OF BULK AT MOST 1048576: true; the input reads as it did. -/
def fnExactClauseOkUptoRow : OpenClaim := { program := "ytknkdgacdeeemaa", sum := "b66d4fd8ff639ed7dd0ceddec01c4e171aa0cf244550b41b8b9cb5f788460b3a", func := "loop.example/g00869/laws.FnExactClauseOk", spec := "fnExactClauseOk", apart := false, narrowed := true }
def FnExactClauseOkUptoSaid : Prop := fnExactClauseOkUptoRow.holds Try.pinned (OpenSpec.upto fnExactClauseOkSpec)

/-- 'laws.FnExactSameWord', WHERE WHAT IT READS IS OF BULK AT MOST 1048576: true; the input reads as it did. -/
def fnExactSameWordUptoRow : OpenClaim := { program := "ytknkdgacdeeemaa", sum := "b66d4fd8ff639ed7dd0ceddec01c4e171aa0cf244550b41b8b9cb5f788460b3a", func := "loop.example/g00869/laws.FnExactSameWord", spec := "fnExactSameWord", unfollowed := true, recurses := true, apart := false, narrowed := true }
def FnExactSameWordUptoSaid : Prop := fnExactSameWordUptoRow.holds Try.pinned (OpenSpec.upto fnExactSameWordSpec)

/-- 'laws.FnExactTailOf', WHERE WHAT IT READS IS OF BULK AT MOST 1048576: true; the input reads as it did. -/
def fnExactTailOfUptoRow : OpenClaim := { program := "ytknkdgacdeeemaa", sum := "b66d4fd8ff639ed7dd0ceddec01c4e171aa0cf244550b41b8b9cb5f788460b3a", func := "loop.example/g00869/laws.FnExactTailOf", spec := "fnExactTailOf", unfollowed := true, recurses := true, apart := false, narrowed := true }
def FnExactTailOfUptoSaid : Prop := fnExactTailOfUptoRow.holds Try.pinned (OpenSpec.upto fnExactTailOfSpec)

/-- 'laws.FnExactLeastWord', WHERE WHAT IT READS IS OF BULK AT MOST 1048576: true; the input reads as it did. -/
def fnExactLeastWordUptoRow : OpenClaim := { program := "ytknkdgacdeeemaa", sum := "b66d4fd8ff639ed7dd0ceddec01c4e171aa0cf244550b41b8b9cb5f788460b3a", func := "loop.example/g00869/laws.FnExactLeastWord", spec := "fnExactLeastWord", unfollowed := true, recurses := true, apart := false, narrowed := true }
def FnExactLeastWordUptoSaid : Prop := fnExactLeastWordUptoRow.holds Try.pinned (OpenSpec.upto fnExactLeastWordSpec)

end Rows
end Go.Proofs.Ytknkdgacdeeemaa
