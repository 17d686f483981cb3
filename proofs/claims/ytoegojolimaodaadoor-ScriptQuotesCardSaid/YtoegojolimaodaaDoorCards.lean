/-
  DERIVED. GIVEN WITH THE SEED: THE CARDS: each row of YtoegojolimaodaaDoorRows.lean that lists a variable, with what it lists TIED to the program's text (the seventh form; the later family's looks); each row that meets fmt, with fmt's text TOLD by the authors' own Lean function (tested against real Go, not proved from fmt's source: count such statements apart). THE CARD IS WHAT COUNTS. Prove the row's statement (the work); the ties are given (YtoegojolimaodaaDoorTie.lean); close each card by the builder's one call (the guide's Derived/Test/ToyasCard.lean, 'card_holds'). Laid BY PROGRAM, IN A SANDBOX (cutbox-door.mjs). By AI agents, Wed Nov 11 2026. No macro, syntax, notation, axiom, sorry.
-/
import Derived.Test.YtoegojolimaodaaDoorRows
import GoSem.ClaimSeven
namespace Go.Proofs.YtoegojolimaodaaDoor
namespace Rows

/-- THE TIED CARD OF 'abutmentlaw18.LengthOf'. -/
def lengthOfCard : Claim7 := { stood := { row := lengthOfRow, standIns := [], harness := (true, "7bd89077a582e08290ed7c7cbe55e1e831a12c4e1126c75068d07d5b19b37fc2"), looks := true }, kinds := [], alts := [], laidByText := true, laidKinds := [.data, .pinned], laidTests := true, laidLooks := .later }
def LengthOfCardSaid : Prop := Claim7.holds Tryd.pinned (.plain (OpenSpec.ofChange lengthOfSpec)) lengthOfCard

/-- THE TIED CARD OF 'abutmentlaw18.LengthSet'. -/
def lengthSetCard : Claim7 := { stood := { row := lengthSetRow, standIns := [], harness := (true, "7bd89077a582e08290ed7c7cbe55e1e831a12c4e1126c75068d07d5b19b37fc2"), looks := true }, kinds := [], alts := [], laidByText := true, laidKinds := [.data, .pinned], laidTests := true, laidLooks := .later }
def LengthSetCardSaid : Prop := Claim7.holds Tryd.pinned (.plain (OpenSpec.ofChange lengthSetSpec)) lengthSetCard

/-- THE TIED CARD OF 'abutmentlaw45.ScriptQuotes'. -/
def scriptQuotesCard : Claim7 := { stood := { row := scriptQuotesRow, standIns := [], harness := (true, "7bd89077a582e08290ed7c7cbe55e1e831a12c4e1126c75068d07d5b19b37fc2"), looks := true }, kinds := [], alts := [], laidByText := true, laidKinds := [.data, .pinned], laidTests := true, laidLooks := .later }
def ScriptQuotesCardSaid : Prop := Claim7.holds Tryd.pinned (.plain (OpenSpec.ofChange scriptQuotesSpec)) scriptQuotesCard

/-- THE SECOND FORM's CARD OF 'abutmentlaw18.LengthOf'. -/
def lengthOfUptoCard : Claim7 := { stood := { row := lengthOfUptoRow, standIns := [], harness := (true, "7bd89077a582e08290ed7c7cbe55e1e831a12c4e1126c75068d07d5b19b37fc2"), looks := true }, kinds := [], alts := [], laidByText := true, laidKinds := [.data, .pinned], laidTests := true, laidLooks := .later }
def LengthOfUptoCardSaid : Prop := Claim7.holds Tryd.pinned (.plain (OpenSpec.upto lengthOfSpec)) lengthOfUptoCard

/-- THE SECOND FORM's CARD OF 'abutmentlaw18.LengthSet'. -/
def lengthSetUptoCard : Claim7 := { stood := { row := lengthSetUptoRow, standIns := [], harness := (true, "7bd89077a582e08290ed7c7cbe55e1e831a12c4e1126c75068d07d5b19b37fc2"), looks := true }, kinds := [], alts := [], laidByText := true, laidKinds := [.data, .pinned], laidTests := true, laidLooks := .later }
def LengthSetUptoCardSaid : Prop := Claim7.holds Tryd.pinned (.plain (OpenSpec.upto lengthSetSpec)) lengthSetUptoCard

/-- THE SECOND FORM's CARD OF 'abutmentlaw45.ScriptQuotes'. -/
def scriptQuotesUptoCard : Claim7 := { stood := { row := scriptQuotesUptoRow, standIns := [], harness := (true, "7bd89077a582e08290ed7c7cbe55e1e831a12c4e1126c75068d07d5b19b37fc2"), looks := true }, kinds := [], alts := [], laidByText := true, laidKinds := [.data, .pinned], laidTests := true, laidLooks := .later }
def ScriptQuotesUptoCardSaid : Prop := Claim7.holds Tryd.pinned (.plain (OpenSpec.upto scriptQuotesSpec)) scriptQuotesUptoCard
end Rows
end Go.Proofs.YtoegojolimaodaaDoor
