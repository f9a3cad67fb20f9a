/-
  DERIVED. GIVEN WITH THE SEED: THE CARDS: each row of YtbpefnfeiidioaaDoorRows.lean that lists a variable, with what it lists TIED to the program's text (the seventh form; the later family's looks); each row that meets fmt, with fmt's text TOLD by the authors' own Lean function (tested against real Go, not proved from fmt's source: count such statements apart). THE CARD IS WHAT COUNTS. Prove the row's statement (the work); the ties are given (YtbpefnfeiidioaaDoorTie.lean); close each card by the builder's one call (the guide's Derived/Test/ToyasCard.lean, 'card_holds'). Laid BY PROGRAM, IN A SANDBOX (cutbox-door.mjs). By AI agents, Wed Nov 11 2026. No macro, syntax, notation, axiom, sorry.
-/
import Derived.Test.YtbpefnfeiidioaaDoorRows
import GoSem.ClaimSeven
namespace Go.Proofs.YtbpefnfeiidioaaDoor
namespace Rows

/-- THE TIED CARD OF 'laws.FnExactCodeWord'. -/
def fnExactCodeWordCard : Claim7 := { stood := { row := fnExactCodeWordRow, standIns := [], harness := (true, "4ce79cc629a143409ca977c9fd3a425f9c33f454175bc9c556e8439cd3ccec72"), looks := false }, kinds := [], alts := [], laidByText := true, laidKinds := [.listed, .data], laidTests := true, laidLooks := .later }
def FnExactCodeWordCardSaid : Prop := Claim7.holds Tryd.pinned (.plain (OpenSpec.ofChange fnExactCodeWordSpec)) fnExactCodeWordCard

/-- THE TIED CARD OF 'laws.FnExactCodeOf'. -/
def fnExactCodeOfCard : Claim7 := { stood := { row := fnExactCodeOfRow, standIns := [], harness := (true, "4ce79cc629a143409ca977c9fd3a425f9c33f454175bc9c556e8439cd3ccec72"), looks := false }, kinds := [], alts := [], laidByText := true, laidKinds := [.listed, .data], laidTests := true, laidLooks := .later }
def FnExactCodeOfCardSaid : Prop := Claim7.holds Tryd.pinned (.plain (OpenSpec.ofChange fnExactCodeOfSpec)) fnExactCodeOfCard

/-- THE SECOND FORM's CARD OF 'laws.FnExactCodeWord'. -/
def fnExactCodeWordUptoCard : Claim7 := { stood := { row := fnExactCodeWordUptoRow, standIns := [], harness := (true, "4ce79cc629a143409ca977c9fd3a425f9c33f454175bc9c556e8439cd3ccec72"), looks := false }, kinds := [], alts := [], laidByText := true, laidKinds := [.listed, .data], laidTests := true, laidLooks := .later }
def FnExactCodeWordUptoCardSaid : Prop := Claim7.holds Tryd.pinned (.plain (OpenSpec.upto fnExactCodeWordSpec)) fnExactCodeWordUptoCard

/-- THE SECOND FORM's CARD OF 'laws.FnExactCodeOf'. -/
def fnExactCodeOfUptoCard : Claim7 := { stood := { row := fnExactCodeOfUptoRow, standIns := [], harness := (true, "4ce79cc629a143409ca977c9fd3a425f9c33f454175bc9c556e8439cd3ccec72"), looks := false }, kinds := [], alts := [], laidByText := true, laidKinds := [.listed, .data], laidTests := true, laidLooks := .later }
def FnExactCodeOfUptoCardSaid : Prop := Claim7.holds Tryd.pinned (.plain (OpenSpec.upto fnExactCodeOfSpec)) fnExactCodeOfUptoCard
end Rows
end Go.Proofs.YtbpefnfeiidioaaDoor
