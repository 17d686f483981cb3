/-
  DERIVED. GIVEN WITH THE SEED: THE CARDS: each row of YtlkfjkimnkhelaaDoorRows.lean that lists a variable, with what it lists TIED to the program's text (the seventh form; the later family's looks); each row that meets fmt, with fmt's text TOLD by the authors' own Lean function (tested against real Go, not proved from fmt's source: count such statements apart). THE CARD IS WHAT COUNTS. Prove the row's statement (the work); the ties are given (YtlkfjkimnkhelaaDoorTie.lean); close each card by the builder's one call (the guide's Derived/Test/ToyasCard.lean, 'card_holds'). Laid BY PROGRAM, IN A SANDBOX (cutbox-door.mjs). By AI agents, Wed Nov 11 2026. No macro, syntax, notation, axiom, sorry.
-/
import Derived.Test.YtlkfjkimnkhelaaDoorRows
import GoSem.ClaimSeven
namespace Go.Proofs.YtlkfjkimnkhelaaDoor
namespace Rows

/-- THE TIED CARD OF 'abutmentlaw13.ConfigParses'. -/
def configParsesCard : Claim7 := { stood := { row := configParsesRow, standIns := [], harness := (true, "6d7b3cd9a245d54087b72e1f32da3fe62cb8842ada9baaac9ee6a95ba40feab4"), looks := false }, kinds := [], alts := [], laidByText := true, laidKinds := [.data, .pinned], laidTests := true, laidLooks := .later }
def ConfigParsesCardSaid : Prop := Claim7.holds Tryd.pinned (.plain (OpenSpec.ofChange configParsesSpec)) configParsesCard

/-- THE TIED CARD OF 'abutmentlaw12.TargetParses'. -/
def targetParsesCard : Claim7 := { stood := { row := targetParsesRow, standIns := [], harness := (true, "6d7b3cd9a245d54087b72e1f32da3fe62cb8842ada9baaac9ee6a95ba40feab4"), looks := false }, kinds := [], alts := [], laidByText := true, laidKinds := [.data, .pinned], laidTests := true, laidLooks := .later }
def TargetParsesCardSaid : Prop := Claim7.holds Tryd.pinned (.plain (OpenSpec.ofChange targetParsesSpec)) targetParsesCard

/-- THE TIED CARD OF 'abutmentlaw12.TargetOut'. -/
def targetOutCard : Claim7 := { stood := { row := targetOutRow, standIns := [], harness := (true, "6d7b3cd9a245d54087b72e1f32da3fe62cb8842ada9baaac9ee6a95ba40feab4"), looks := false }, kinds := [], alts := [], laidByText := true, laidKinds := [.data, .pinned], laidTests := true, laidLooks := .later }
def TargetOutCardSaid : Prop := Claim7.holds Tryd.pinned (.plain (OpenSpec.ofChange targetOutSpec)) targetOutCard

/-- THE TIED CARD OF 'abutmentlaw12.TargetBack'. -/
def targetBackCard : Claim7 := { stood := { row := targetBackRow, standIns := [], harness := (true, "6d7b3cd9a245d54087b72e1f32da3fe62cb8842ada9baaac9ee6a95ba40feab4"), looks := false }, kinds := [], alts := [], laidByText := true, laidKinds := [.data, .pinned], laidTests := true, laidLooks := .later }
def TargetBackCardSaid : Prop := Claim7.holds Tryd.pinned (.plain (OpenSpec.ofChange targetBackSpec)) targetBackCard

/-- THE SECOND FORM's CARD OF 'abutmentlaw13.ConfigParses'. -/
def configParsesUptoCard : Claim7 := { stood := { row := configParsesUptoRow, standIns := [], harness := (true, "6d7b3cd9a245d54087b72e1f32da3fe62cb8842ada9baaac9ee6a95ba40feab4"), looks := false }, kinds := [], alts := [], laidByText := true, laidKinds := [.data, .pinned], laidTests := true, laidLooks := .later }
def ConfigParsesUptoCardSaid : Prop := Claim7.holds Tryd.pinned (.plain (OpenSpec.upto configParsesSpec)) configParsesUptoCard

/-- THE SECOND FORM's CARD OF 'abutmentlaw12.TargetParses'. -/
def targetParsesUptoCard : Claim7 := { stood := { row := targetParsesUptoRow, standIns := [], harness := (true, "6d7b3cd9a245d54087b72e1f32da3fe62cb8842ada9baaac9ee6a95ba40feab4"), looks := false }, kinds := [], alts := [], laidByText := true, laidKinds := [.data, .pinned], laidTests := true, laidLooks := .later }
def TargetParsesUptoCardSaid : Prop := Claim7.holds Tryd.pinned (.plain (OpenSpec.upto targetParsesSpec)) targetParsesUptoCard

/-- THE SECOND FORM's CARD OF 'abutmentlaw12.TargetOut'. -/
def targetOutUptoCard : Claim7 := { stood := { row := targetOutUptoRow, standIns := [], harness := (true, "6d7b3cd9a245d54087b72e1f32da3fe62cb8842ada9baaac9ee6a95ba40feab4"), looks := false }, kinds := [], alts := [], laidByText := true, laidKinds := [.data, .pinned], laidTests := true, laidLooks := .later }
def TargetOutUptoCardSaid : Prop := Claim7.holds Tryd.pinned (.plain (OpenSpec.upto targetOutSpec)) targetOutUptoCard

/-- THE SECOND FORM's CARD OF 'abutmentlaw12.TargetBack'. -/
def targetBackUptoCard : Claim7 := { stood := { row := targetBackUptoRow, standIns := [], harness := (true, "6d7b3cd9a245d54087b72e1f32da3fe62cb8842ada9baaac9ee6a95ba40feab4"), looks := false }, kinds := [], alts := [], laidByText := true, laidKinds := [.data, .pinned], laidTests := true, laidLooks := .later }
def TargetBackUptoCardSaid : Prop := Claim7.holds Tryd.pinned (.plain (OpenSpec.upto targetBackSpec)) targetBackUptoCard
end Rows
end Go.Proofs.YtlkfjkimnkhelaaDoor
