/-
  DERIVED. GIVEN WITH THE SEED: THE CARDS: each row of YtfgaiopkclogmaaGreatDoorRows.lean that lists a variable, with what it lists TIED to the program's text (the seventh form; the later family's looks); each row that meets fmt, with fmt's text TOLD by the authors' own Lean function (tested against real Go, not proved from fmt's source: count such statements apart). THE CARD IS WHAT COUNTS. Prove the row's statement (the work); the ties are given (YtfgaiopkclogmaaGreatDoorTie.lean); close each card by the builder's one call (the guide's Derived/Test/ToyasCard.lean, 'card_holds'). Laid BY PROGRAM, IN A SANDBOX (cutbox-door.mjs). By AI agents, Wed Nov 11 2026. No macro, syntax, notation, axiom, sorry.
-/
import Derived.Test.YtfgaiopkclogmaaGreatDoorRows
import GoSem.ClaimSeven
namespace Go.Proofs.YtfgaiopkclogmaaGreatDoor
namespace Rows

/-- THE TIED CARD OF 'turnpikelaw28.LedgerTwo'. -/
def ledgerTwoCard : Claim7 := { stood := { row := ledgerTwoRow, standIns := [], harness := (true, "a0c3789368f27d876207f52c0472df02f09372baebf06e2f42020172991009a1"), looks := false }, kinds := [], alts := [], laidByText := true, laidKinds := [.data, .data, .data, .data], laidTests := true, laidLooks := .later }
def LedgerTwoCardSaid : Prop := Claim7.holds Tryz.pinned (.plain (OpenSpec.ofChange ledgerTwoSpec)) ledgerTwoCard

/-- THE TIED CARD OF 'turnpikelaw28.LedgerLoads'. -/
def ledgerLoadsCard : Claim7 := { stood := { row := ledgerLoadsRow, standIns := [], harness := (true, "a0c3789368f27d876207f52c0472df02f09372baebf06e2f42020172991009a1"), looks := false }, kinds := [], alts := [], laidByText := true, laidKinds := [.data, .data, .data, .data], laidTests := true, laidLooks := .later }
def LedgerLoadsCardSaid : Prop := Claim7.holds Tryz.pinned (.plain (OpenSpec.ofChange ledgerLoadsSpec)) ledgerLoadsCard

/-- THE TIED CARD OF 'turnpikelaw28.LedgerMemory'. -/
def ledgerMemoryCard : Claim7 := { stood := { row := ledgerMemoryRow, standIns := [], harness := (true, "a0c3789368f27d876207f52c0472df02f09372baebf06e2f42020172991009a1"), looks := false }, kinds := [], alts := [], laidByText := true, laidKinds := [.data, .data, .data, .data], laidTests := true, laidLooks := .later }
def LedgerMemoryCardSaid : Prop := Claim7.holds Tryz.pinned (.plain (OpenSpec.ofChange ledgerMemorySpec)) ledgerMemoryCard

/-- THE TIED CARD OF 'turnpikelaw28.LedgerSums'. -/
def ledgerSumsCard : Claim7 := { stood := { row := ledgerSumsRow, standIns := [], harness := (true, "a0c3789368f27d876207f52c0472df02f09372baebf06e2f42020172991009a1"), looks := false }, kinds := [], alts := [], laidByText := true, laidKinds := [.data, .data, .data, .data], laidTests := true, laidLooks := .later }
def LedgerSumsCardSaid : Prop := Claim7.holds Tryz.pinned (.plain (OpenSpec.ofChange ledgerSumsSpec)) ledgerSumsCard

/-- THE TIED CARD OF 'turnpikelaw28.LedgerNil'. -/
def ledgerNilCard : Claim7 := { stood := { row := ledgerNilRow, standIns := [], harness := (true, "a0c3789368f27d876207f52c0472df02f09372baebf06e2f42020172991009a1"), looks := false }, kinds := [], alts := [], laidByText := true, laidKinds := [.data, .data, .data, .data], laidTests := true, laidLooks := .later }
def LedgerNilCardSaid : Prop := Claim7.holds Tryz.pinned (.plain (OpenSpec.ofChange ledgerNilSpec)) ledgerNilCard

/-- THE TIED CARD OF 'turnpikelaw28.LedgerPlays'. -/
def ledgerPlaysCard : Claim7 := { stood := { row := ledgerPlaysRow, standIns := [], harness := (true, "a0c3789368f27d876207f52c0472df02f09372baebf06e2f42020172991009a1"), looks := false }, kinds := [], alts := [], laidByText := true, laidKinds := [.data, .data, .data, .data], laidTests := true, laidLooks := .later }
def LedgerPlaysCardSaid : Prop := Claim7.holds Tryz.pinned (.plain (OpenSpec.ofChange ledgerPlaysSpec)) ledgerPlaysCard

/-- THE SECOND FORM's CARD OF 'turnpikelaw28.LedgerTwo'. -/
def ledgerTwoUptoCard : Claim7 := { stood := { row := ledgerTwoUptoRow, standIns := [], harness := (true, "a0c3789368f27d876207f52c0472df02f09372baebf06e2f42020172991009a1"), looks := false }, kinds := [], alts := [], laidByText := true, laidKinds := [.data, .data, .data, .data], laidTests := true, laidLooks := .later }
def LedgerTwoUptoCardSaid : Prop := Claim7.holds Tryz.pinned (.plain (OpenSpec.upto ledgerTwoSpec)) ledgerTwoUptoCard

/-- THE SECOND FORM's CARD OF 'turnpikelaw28.LedgerLoads'. -/
def ledgerLoadsUptoCard : Claim7 := { stood := { row := ledgerLoadsUptoRow, standIns := [], harness := (true, "a0c3789368f27d876207f52c0472df02f09372baebf06e2f42020172991009a1"), looks := false }, kinds := [], alts := [], laidByText := true, laidKinds := [.data, .data, .data, .data], laidTests := true, laidLooks := .later }
def LedgerLoadsUptoCardSaid : Prop := Claim7.holds Tryz.pinned (.plain (OpenSpec.upto ledgerLoadsSpec)) ledgerLoadsUptoCard

/-- THE SECOND FORM's CARD OF 'turnpikelaw28.LedgerMemory'. -/
def ledgerMemoryUptoCard : Claim7 := { stood := { row := ledgerMemoryUptoRow, standIns := [], harness := (true, "a0c3789368f27d876207f52c0472df02f09372baebf06e2f42020172991009a1"), looks := false }, kinds := [], alts := [], laidByText := true, laidKinds := [.data, .data, .data, .data], laidTests := true, laidLooks := .later }
def LedgerMemoryUptoCardSaid : Prop := Claim7.holds Tryz.pinned (.plain (OpenSpec.upto ledgerMemorySpec)) ledgerMemoryUptoCard

/-- THE SECOND FORM's CARD OF 'turnpikelaw28.LedgerSums'. -/
def ledgerSumsUptoCard : Claim7 := { stood := { row := ledgerSumsUptoRow, standIns := [], harness := (true, "a0c3789368f27d876207f52c0472df02f09372baebf06e2f42020172991009a1"), looks := false }, kinds := [], alts := [], laidByText := true, laidKinds := [.data, .data, .data, .data], laidTests := true, laidLooks := .later }
def LedgerSumsUptoCardSaid : Prop := Claim7.holds Tryz.pinned (.plain (OpenSpec.upto ledgerSumsSpec)) ledgerSumsUptoCard

/-- THE SECOND FORM's CARD OF 'turnpikelaw28.LedgerNil'. -/
def ledgerNilUptoCard : Claim7 := { stood := { row := ledgerNilUptoRow, standIns := [], harness := (true, "a0c3789368f27d876207f52c0472df02f09372baebf06e2f42020172991009a1"), looks := false }, kinds := [], alts := [], laidByText := true, laidKinds := [.data, .data, .data, .data], laidTests := true, laidLooks := .later }
def LedgerNilUptoCardSaid : Prop := Claim7.holds Tryz.pinned (.plain (OpenSpec.upto ledgerNilSpec)) ledgerNilUptoCard

/-- THE SECOND FORM's CARD OF 'turnpikelaw28.LedgerPlays'. -/
def ledgerPlaysUptoCard : Claim7 := { stood := { row := ledgerPlaysUptoRow, standIns := [], harness := (true, "a0c3789368f27d876207f52c0472df02f09372baebf06e2f42020172991009a1"), looks := false }, kinds := [], alts := [], laidByText := true, laidKinds := [.data, .data, .data, .data], laidTests := true, laidLooks := .later }
def LedgerPlaysUptoCardSaid : Prop := Claim7.holds Tryz.pinned (.plain (OpenSpec.upto ledgerPlaysSpec)) ledgerPlaysUptoCard
end Rows
end Go.Proofs.YtfgaiopkclogmaaGreatDoor
