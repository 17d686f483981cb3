/-
  DERIVED. GIVEN WITH THE SEED: THE CARDS: each row of YtnfidlgiaaeleaaDoorRows.lean that lists a variable, with what it lists TIED to the program's text (the seventh form; the later family's looks); each row that meets fmt, with fmt's text TOLD by the authors' own Lean function (tested against real Go, not proved from fmt's source: count such statements apart). THE CARD IS WHAT COUNTS. Prove the row's statement (the work); the ties are given (YtnfidlgiaaeleaaDoorTie.lean); close each card by the builder's one call (the guide's Derived/Test/ToyasCard.lean, 'card_holds'). Laid BY PROGRAM, IN A SANDBOX (cutbox-door.mjs). By AI agents, Wed Nov 11 2026. No macro, syntax, notation, axiom, sorry.
-/
import Derived.Test.YtnfidlgiaaeleaaDoorRows
import GoSem.ClaimSeven
namespace Go.Proofs.YtnfidlgiaaeleaaDoor
namespace Rows

/-- THE TIED CARD OF 'abutmentlaw18.LengthOf'. -/
def lengthOfCard : Claim7 := { stood := { row := lengthOfRow, standIns := [], harness := (true, "ca526bee6bb910a904c7a8d83e9c72ef310738ab996af4206b2eedce59c1467b"), looks := false }, kinds := [], alts := [], laidByText := true, laidKinds := [.data, .pinned], laidTests := true, laidLooks := .later }
def LengthOfCardSaid : Prop := Claim7.holds Tryd.pinned (.plain (OpenSpec.ofChange lengthOfSpec)) lengthOfCard

/-- THE TIED CARD OF 'abutmentlaw18.LengthSet'. -/
def lengthSetCard : Claim7 := { stood := { row := lengthSetRow, standIns := [], harness := (true, "ca526bee6bb910a904c7a8d83e9c72ef310738ab996af4206b2eedce59c1467b"), looks := false }, kinds := [], alts := [], laidByText := true, laidKinds := [.data, .pinned], laidTests := true, laidLooks := .later }
def LengthSetCardSaid : Prop := Claim7.holds Tryd.pinned (.plain (OpenSpec.ofChange lengthSetSpec)) lengthSetCard

/-- THE TIED CARD OF 'abutmentlaw09.FieldBack'. -/
def fieldBackCard : Claim7 := { stood := { row := fieldBackRow, standIns := [], harness := (true, "ca526bee6bb910a904c7a8d83e9c72ef310738ab996af4206b2eedce59c1467b"), looks := false }, kinds := [], alts := [], laidByText := true, laidKinds := [.data, .pinned], laidTests := true, laidLooks := .later }
def FieldBackCardSaid : Prop := Claim7.holds Tryd.pinned (.plain (OpenSpec.ofChange fieldBackSpec)) fieldBackCard

/-- THE TIED CARD OF 'abutmentlaw09.FieldUnfolds'. -/
def fieldUnfoldsCard : Claim7 := { stood := { row := fieldUnfoldsRow, standIns := [], harness := (true, "ca526bee6bb910a904c7a8d83e9c72ef310738ab996af4206b2eedce59c1467b"), looks := false }, kinds := [], alts := [], laidByText := true, laidKinds := [.data, .pinned], laidTests := true, laidLooks := .later }
def FieldUnfoldsCardSaid : Prop := Claim7.holds Tryd.pinned (.plain (OpenSpec.ofChange fieldUnfoldsSpec)) fieldUnfoldsCard

/-- THE SECOND FORM's CARD OF 'abutmentlaw18.LengthOf'. -/
def lengthOfUptoCard : Claim7 := { stood := { row := lengthOfUptoRow, standIns := [], harness := (true, "ca526bee6bb910a904c7a8d83e9c72ef310738ab996af4206b2eedce59c1467b"), looks := false }, kinds := [], alts := [], laidByText := true, laidKinds := [.data, .pinned], laidTests := true, laidLooks := .later }
def LengthOfUptoCardSaid : Prop := Claim7.holds Tryd.pinned (.plain (OpenSpec.upto lengthOfSpec)) lengthOfUptoCard

/-- THE SECOND FORM's CARD OF 'abutmentlaw18.LengthSet'. -/
def lengthSetUptoCard : Claim7 := { stood := { row := lengthSetUptoRow, standIns := [], harness := (true, "ca526bee6bb910a904c7a8d83e9c72ef310738ab996af4206b2eedce59c1467b"), looks := false }, kinds := [], alts := [], laidByText := true, laidKinds := [.data, .pinned], laidTests := true, laidLooks := .later }
def LengthSetUptoCardSaid : Prop := Claim7.holds Tryd.pinned (.plain (OpenSpec.upto lengthSetSpec)) lengthSetUptoCard

/-- THE SECOND FORM's CARD OF 'abutmentlaw09.FieldBack'. -/
def fieldBackUptoCard : Claim7 := { stood := { row := fieldBackUptoRow, standIns := [], harness := (true, "ca526bee6bb910a904c7a8d83e9c72ef310738ab996af4206b2eedce59c1467b"), looks := false }, kinds := [], alts := [], laidByText := true, laidKinds := [.data, .pinned], laidTests := true, laidLooks := .later }
def FieldBackUptoCardSaid : Prop := Claim7.holds Tryd.pinned (.plain (OpenSpec.upto fieldBackSpec)) fieldBackUptoCard

/-- THE SECOND FORM's CARD OF 'abutmentlaw09.FieldUnfolds'. -/
def fieldUnfoldsUptoCard : Claim7 := { stood := { row := fieldUnfoldsUptoRow, standIns := [], harness := (true, "ca526bee6bb910a904c7a8d83e9c72ef310738ab996af4206b2eedce59c1467b"), looks := false }, kinds := [], alts := [], laidByText := true, laidKinds := [.data, .pinned], laidTests := true, laidLooks := .later }
def FieldUnfoldsUptoCardSaid : Prop := Claim7.holds Tryd.pinned (.plain (OpenSpec.upto fieldUnfoldsSpec)) fieldUnfoldsUptoCard
end Rows
end Go.Proofs.YtnfidlgiaaeleaaDoor
