/-
  DERIVED. GIVEN WITH THE SEED: THE CARDS: each row of YtachnjinfdagjaaDoorRows.lean that lists a variable, with what it lists TIED to the program's text (the seventh form; the later family's looks); each row that meets fmt, with fmt's text TOLD by the authors' own Lean function (tested against real Go, not proved from fmt's source: count such statements apart). THE CARD IS WHAT COUNTS. Prove the row's statement (the work); the ties are given (YtachnjinfdagjaaDoorTie.lean); close each card by the builder's one call (the guide's Derived/Test/ToyasCard.lean, 'card_holds'). Laid BY PROGRAM, IN A SANDBOX (cutbox-door.mjs). By AI agents, Wed Nov 11 2026. No macro, syntax, notation, axiom, sorry.
-/
import Derived.Test.YtachnjinfdagjaaDoorRows
import GoSem.ClaimSeven
namespace Go.Proofs.YtachnjinfdagjaaDoor
namespace Rows

/-- THE TIED CARD OF 'laws.FnExactClauseText'. -/
def fnExactClauseTextCard : Claim7 := { stood := { row := fnExactClauseTextRow, standIns := [], harness := (true, "89522ecf98aa8b80d5f5f16c14350a1e47d18f61716455d536ef96b87a4ccbbd"), looks := false }, kinds := [], alts := [], laidByText := true, laidKinds := [.data, .data, .data, .data], laidTests := true, laidLooks := .later }
def FnExactClauseTextCardSaid : Prop := Claim7.holds Tryd.pinned (.plain (OpenSpec.ofChange fnExactClauseTextSpec)) fnExactClauseTextCard

/-- THE TIED CARD OF 'laws.FnExactTextClause'. -/
def fnExactTextClauseCard : Claim7 := { stood := { row := fnExactTextClauseRow, standIns := [], harness := (true, "89522ecf98aa8b80d5f5f16c14350a1e47d18f61716455d536ef96b87a4ccbbd"), looks := false }, kinds := [], alts := [], laidByText := true, laidKinds := [.data, .data, .pinned], laidTests := true, laidLooks := .later }
def FnExactTextClauseCardSaid : Prop := Claim7.holds Tryd.pinned (.plain (OpenSpec.ofChange fnExactTextClauseSpec)) fnExactTextClauseCard

/-- THE TIED CARD OF 'laws.FnClauseTexts'. -/
def fnClauseTextsCard : Claim7 := { stood := { row := fnClauseTextsRow, standIns := [], harness := (true, "89522ecf98aa8b80d5f5f16c14350a1e47d18f61716455d536ef96b87a4ccbbd"), looks := false }, kinds := [], alts := [], laidByText := true, laidKinds := [.data, .data, .data, .data, .data, .pinned], laidTests := true, laidLooks := .later }
def FnClauseTextsCardSaid : Prop := Claim7.holds Tryd.pinned (.plain (OpenSpec.ofChange fnClauseTextsSpec)) fnClauseTextsCard

/-- THE SECOND FORM's CARD OF 'laws.FnExactClauseText'. -/
def fnExactClauseTextUptoCard : Claim7 := { stood := { row := fnExactClauseTextUptoRow, standIns := [], harness := (true, "89522ecf98aa8b80d5f5f16c14350a1e47d18f61716455d536ef96b87a4ccbbd"), looks := false }, kinds := [], alts := [], laidByText := true, laidKinds := [.data, .data, .data, .data], laidTests := true, laidLooks := .later }
def FnExactClauseTextUptoCardSaid : Prop := Claim7.holds Tryd.pinned (.plain (OpenSpec.upto fnExactClauseTextSpec)) fnExactClauseTextUptoCard

/-- THE SECOND FORM's CARD OF 'laws.FnExactTextClause'. -/
def fnExactTextClauseUptoCard : Claim7 := { stood := { row := fnExactTextClauseUptoRow, standIns := [], harness := (true, "89522ecf98aa8b80d5f5f16c14350a1e47d18f61716455d536ef96b87a4ccbbd"), looks := false }, kinds := [], alts := [], laidByText := true, laidKinds := [.data, .data, .pinned], laidTests := true, laidLooks := .later }
def FnExactTextClauseUptoCardSaid : Prop := Claim7.holds Tryd.pinned (.plain (OpenSpec.upto fnExactTextClauseSpec)) fnExactTextClauseUptoCard

/-- THE SECOND FORM's CARD OF 'laws.FnClauseTexts'. -/
def fnClauseTextsUptoCard : Claim7 := { stood := { row := fnClauseTextsUptoRow, standIns := [], harness := (true, "89522ecf98aa8b80d5f5f16c14350a1e47d18f61716455d536ef96b87a4ccbbd"), looks := false }, kinds := [], alts := [], laidByText := true, laidKinds := [.data, .data, .data, .data, .data, .pinned], laidTests := true, laidLooks := .later }
def FnClauseTextsUptoCardSaid : Prop := Claim7.holds Tryd.pinned (.plain (OpenSpec.upto fnClauseTextsSpec)) fnClauseTextsUptoCard
end Rows
end Go.Proofs.YtachnjinfdagjaaDoor
