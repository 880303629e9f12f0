/-
  DERIVED. GIVEN WITH THE SEED: THE CARDS: each row of YtfgaiopkclogmaaDoorRows.lean that lists a variable, with what it lists TIED to the program's text (the seventh form; the later family's looks); each row that meets fmt, with fmt's text TOLD by the authors' own Lean function (tested against real Go, not proved from fmt's source: count such statements apart). THE CARD IS WHAT COUNTS. Prove the row's statement (the work); the ties are given (YtfgaiopkclogmaaDoorTie.lean); close each card by the builder's one call (the guide's Derived/Test/ToyasCard.lean, 'card_holds'). Laid BY PROGRAM, IN A SANDBOX (cutbox-door.mjs). By AI agents, Wed Nov 11 2026. No macro, syntax, notation, axiom, sorry.
-/
import Derived.Test.YtfgaiopkclogmaaDoorRows
import GoSem.ClaimSeven
namespace Go.Proofs.YtfgaiopkclogmaaDoor
namespace Rows

/-- THE TIED CARD OF 'turnpikelaw28.LedgerPrints'. -/
def ledgerPrintsCard : Claim7 := { stood := { row := ledgerPrintsRow, standIns := [], harness := (true, "fe4170c4b212264a684fd4fa1fa6c87f4489e3c59267796b30d5bc062e2b8203"), looks := false }, kinds := [], alts := [], laidByText := true, laidKinds := [.data, .data, .data, .data], laidTests := true, laidLooks := .later }
def LedgerPrintsCardSaid : Prop := Claim7.holds Tryd.pinned (.plain (OpenSpec.ofChange ledgerPrintsSpec)) ledgerPrintsCard

/-- THE TIED CARD OF 'turnpikelaw28.LedgerParses'. -/
def ledgerParsesCard : Claim7 := { stood := { row := ledgerParsesRow, standIns := [], harness := (true, "fe4170c4b212264a684fd4fa1fa6c87f4489e3c59267796b30d5bc062e2b8203"), looks := false }, kinds := [], alts := [], laidByText := true, laidKinds := [.data, .data, .data, .data], laidTests := true, laidLooks := .later }
def LedgerParsesCardSaid : Prop := Claim7.holds Tryd.pinned (.plain (OpenSpec.ofChange ledgerParsesSpec)) ledgerParsesCard

/-- THE TIED CARD OF 'turnpikelaw28.LedgerOnce'. -/
def ledgerOnceCard : Claim7 := { stood := { row := ledgerOnceRow, standIns := [], harness := (true, "fe4170c4b212264a684fd4fa1fa6c87f4489e3c59267796b30d5bc062e2b8203"), looks := false }, kinds := [], alts := [], laidByText := true, laidKinds := [.data, .data, .data, .data], laidTests := true, laidLooks := .later }
def LedgerOnceCardSaid : Prop := Claim7.holds Tryd.pinned (.plain (OpenSpec.ofChange ledgerOnceSpec)) ledgerOnceCard

/-- THE SECOND FORM's CARD OF 'turnpikelaw28.LedgerPrints'. -/
def ledgerPrintsUptoCard : Claim7 := { stood := { row := ledgerPrintsUptoRow, standIns := [], harness := (true, "fe4170c4b212264a684fd4fa1fa6c87f4489e3c59267796b30d5bc062e2b8203"), looks := false }, kinds := [], alts := [], laidByText := true, laidKinds := [.data, .data, .data, .data], laidTests := true, laidLooks := .later }
def LedgerPrintsUptoCardSaid : Prop := Claim7.holds Tryd.pinned (.plain (OpenSpec.upto ledgerPrintsSpec)) ledgerPrintsUptoCard

/-- THE SECOND FORM's CARD OF 'turnpikelaw28.LedgerParses'. -/
def ledgerParsesUptoCard : Claim7 := { stood := { row := ledgerParsesUptoRow, standIns := [], harness := (true, "fe4170c4b212264a684fd4fa1fa6c87f4489e3c59267796b30d5bc062e2b8203"), looks := false }, kinds := [], alts := [], laidByText := true, laidKinds := [.data, .data, .data, .data], laidTests := true, laidLooks := .later }
def LedgerParsesUptoCardSaid : Prop := Claim7.holds Tryd.pinned (.plain (OpenSpec.upto ledgerParsesSpec)) ledgerParsesUptoCard

/-- THE SECOND FORM's CARD OF 'turnpikelaw28.LedgerOnce'. -/
def ledgerOnceUptoCard : Claim7 := { stood := { row := ledgerOnceUptoRow, standIns := [], harness := (true, "fe4170c4b212264a684fd4fa1fa6c87f4489e3c59267796b30d5bc062e2b8203"), looks := false }, kinds := [], alts := [], laidByText := true, laidKinds := [.data, .data, .data, .data], laidTests := true, laidLooks := .later }
def LedgerOnceUptoCardSaid : Prop := Claim7.holds Tryd.pinned (.plain (OpenSpec.upto ledgerOnceSpec)) ledgerOnceUptoCard
end Rows
end Go.Proofs.YtfgaiopkclogmaaDoor
