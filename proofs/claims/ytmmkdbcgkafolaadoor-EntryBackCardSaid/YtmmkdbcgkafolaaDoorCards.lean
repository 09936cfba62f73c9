/-
  DERIVED. GIVEN WITH THE SEED: THE CARDS: each row of YtmmkdbcgkafolaaDoorRows.lean that lists a variable, with what it lists TIED to the program's text (the seventh form; the later family's looks); each row that meets fmt, with fmt's text TOLD by the authors' own Lean function (tested against real Go, not proved from fmt's source: count such statements apart). THE CARD IS WHAT COUNTS. Prove the row's statement (the work); the ties are given (YtmmkdbcgkafolaaDoorTie.lean); close each card by the builder's one call (the guide's Derived/Test/ToyasCard.lean, 'card_holds'). Laid BY PROGRAM, IN A SANDBOX (cutbox-door.mjs). By AI agents, Wed Nov 11 2026. No macro, syntax, notation, axiom, sorry.
-/
import Derived.Test.YtmmkdbcgkafolaaDoorRows
import GoSem.ClaimSeven
namespace Go.Proofs.YtmmkdbcgkafolaaDoor
namespace Rows

/-- THE TIED CARD OF 'staithelaw12.EntryChecks'. -/
def entryChecksCard : Claim7 := { stood := { row := entryChecksRow, standIns := [], harness := (true, "465611ef25b38027140c6f1f5f97bfeefe99e09409701cd980ec8b4805dc0411"), looks := false }, kinds := [], alts := [], laidByText := true, laidKinds := [.data, .data, .data], laidTests := true, laidLooks := .later }
def EntryChecksCardSaid : Prop := Claim7.holds Tryd.pinned (.plain (OpenSpec.ofChange entryChecksSpec)) entryChecksCard

/-- THE TIED CARD OF 'staithelaw12.EntryDecodes'. -/
def entryDecodesCard : Claim7 := { stood := { row := entryDecodesRow, standIns := [], harness := (true, "465611ef25b38027140c6f1f5f97bfeefe99e09409701cd980ec8b4805dc0411"), looks := false }, kinds := [], alts := [], laidByText := true, laidKinds := [.data, .data, .data], laidTests := true, laidLooks := .later }
def EntryDecodesCardSaid : Prop := Claim7.holds Tryd.pinned (.plain (OpenSpec.ofChange entryDecodesSpec)) entryDecodesCard

/-- THE TIED CARD OF 'staithelaw12.EntryBare'. -/
def entryBareCard : Claim7 := { stood := { row := entryBareRow, standIns := [], harness := (true, "465611ef25b38027140c6f1f5f97bfeefe99e09409701cd980ec8b4805dc0411"), looks := false }, kinds := [], alts := [], laidByText := true, laidKinds := [.data, .data, .data], laidTests := true, laidLooks := .later }
def EntryBareCardSaid : Prop := Claim7.holds Tryd.pinned (.plain (OpenSpec.ofChange entryBareSpec)) entryBareCard

/-- THE TIED CARD OF 'staithelaw12.EntryApart'. -/
def entryApartCard : Claim7 := { stood := { row := entryApartRow, standIns := [], harness := (true, "465611ef25b38027140c6f1f5f97bfeefe99e09409701cd980ec8b4805dc0411"), looks := false }, kinds := [], alts := [], laidByText := true, laidKinds := [.data, .data, .data], laidTests := true, laidLooks := .later }
def EntryApartCardSaid : Prop := Claim7.holds Tryd.pinned (.plain (OpenSpec.ofChange entryApartSpec)) entryApartCard

/-- THE TIED CARD OF 'staithelaw12.EntryAll'. -/
def entryAllCard : Claim7 := { stood := { row := entryAllRow, standIns := [], harness := (true, "465611ef25b38027140c6f1f5f97bfeefe99e09409701cd980ec8b4805dc0411"), looks := false }, kinds := [], alts := [], laidByText := true, laidKinds := [.data, .data, .data], laidTests := true, laidLooks := .later }
def EntryAllCardSaid : Prop := Claim7.holds Tryd.pinned (.plain (OpenSpec.ofChange entryAllSpec)) entryAllCard

/-- THE TIED CARD OF 'staithelaw12.EntryBack'. -/
def entryBackCard : Claim7 := { stood := { row := entryBackRow, standIns := [], harness := (true, "465611ef25b38027140c6f1f5f97bfeefe99e09409701cd980ec8b4805dc0411"), looks := false }, kinds := [], alts := [], laidByText := true, laidKinds := [.data, .data, .data], laidTests := true, laidLooks := .later }
def EntryBackCardSaid : Prop := Claim7.holds Tryd.pinned (.plain (OpenSpec.ofChange entryBackSpec)) entryBackCard

/-- THE SECOND FORM's CARD OF 'staithelaw12.EntryChecks'. -/
def entryChecksUptoCard : Claim7 := { stood := { row := entryChecksUptoRow, standIns := [], harness := (true, "465611ef25b38027140c6f1f5f97bfeefe99e09409701cd980ec8b4805dc0411"), looks := false }, kinds := [], alts := [], laidByText := true, laidKinds := [.data, .data, .data], laidTests := true, laidLooks := .later }
def EntryChecksUptoCardSaid : Prop := Claim7.holds Tryd.pinned (.plain (OpenSpec.upto entryChecksSpec)) entryChecksUptoCard

/-- THE SECOND FORM's CARD OF 'staithelaw12.EntryDecodes'. -/
def entryDecodesUptoCard : Claim7 := { stood := { row := entryDecodesUptoRow, standIns := [], harness := (true, "465611ef25b38027140c6f1f5f97bfeefe99e09409701cd980ec8b4805dc0411"), looks := false }, kinds := [], alts := [], laidByText := true, laidKinds := [.data, .data, .data], laidTests := true, laidLooks := .later }
def EntryDecodesUptoCardSaid : Prop := Claim7.holds Tryd.pinned (.plain (OpenSpec.upto entryDecodesSpec)) entryDecodesUptoCard

/-- THE SECOND FORM's CARD OF 'staithelaw12.EntryBare'. -/
def entryBareUptoCard : Claim7 := { stood := { row := entryBareUptoRow, standIns := [], harness := (true, "465611ef25b38027140c6f1f5f97bfeefe99e09409701cd980ec8b4805dc0411"), looks := false }, kinds := [], alts := [], laidByText := true, laidKinds := [.data, .data, .data], laidTests := true, laidLooks := .later }
def EntryBareUptoCardSaid : Prop := Claim7.holds Tryd.pinned (.plain (OpenSpec.upto entryBareSpec)) entryBareUptoCard

/-- THE SECOND FORM's CARD OF 'staithelaw12.EntryApart'. -/
def entryApartUptoCard : Claim7 := { stood := { row := entryApartUptoRow, standIns := [], harness := (true, "465611ef25b38027140c6f1f5f97bfeefe99e09409701cd980ec8b4805dc0411"), looks := false }, kinds := [], alts := [], laidByText := true, laidKinds := [.data, .data, .data], laidTests := true, laidLooks := .later }
def EntryApartUptoCardSaid : Prop := Claim7.holds Tryd.pinned (.plain (OpenSpec.upto entryApartSpec)) entryApartUptoCard

/-- THE SECOND FORM's CARD OF 'staithelaw12.EntryAll'. -/
def entryAllUptoCard : Claim7 := { stood := { row := entryAllUptoRow, standIns := [], harness := (true, "465611ef25b38027140c6f1f5f97bfeefe99e09409701cd980ec8b4805dc0411"), looks := false }, kinds := [], alts := [], laidByText := true, laidKinds := [.data, .data, .data], laidTests := true, laidLooks := .later }
def EntryAllUptoCardSaid : Prop := Claim7.holds Tryd.pinned (.plain (OpenSpec.upto entryAllSpec)) entryAllUptoCard

/-- THE SECOND FORM's CARD OF 'staithelaw12.EntryBack'. -/
def entryBackUptoCard : Claim7 := { stood := { row := entryBackUptoRow, standIns := [], harness := (true, "465611ef25b38027140c6f1f5f97bfeefe99e09409701cd980ec8b4805dc0411"), looks := false }, kinds := [], alts := [], laidByText := true, laidKinds := [.data, .data, .data], laidTests := true, laidLooks := .later }
def EntryBackUptoCardSaid : Prop := Claim7.holds Tryd.pinned (.plain (OpenSpec.upto entryBackSpec)) entryBackUptoCard
end Rows
end Go.Proofs.YtmmkdbcgkafolaaDoor
