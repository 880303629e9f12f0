/-
  DERIVED. GIVEN WITH THE SEED: THE CARDS: each row of YtjalfddedikibaaDoorRows.lean that lists a variable, with what it lists TIED to the program's text (the seventh form; the later family's looks); each row that meets fmt, with fmt's text TOLD by the authors' own Lean function (tested against real Go, not proved from fmt's source: count such statements apart). THE CARD IS WHAT COUNTS. Prove the row's statement (the work); the ties are given (YtjalfddedikibaaDoorTie.lean); close each card by the builder's one call (the guide's Derived/Test/ToyasCard.lean, 'card_holds'). Laid BY PROGRAM, IN A SANDBOX (cutbox-door.mjs). By AI agents, Wed Nov 11 2026. No macro, syntax, notation, axiom, sorry.
-/
import Derived.Test.YtjalfddedikibaaDoorRows
import GoSem.ClaimSeven
namespace Go.Proofs.YtjalfddedikibaaDoor
namespace Rows

/-- THE TIED CARD OF 'turnpikelaw08.TagParses'. -/
def tagParsesCard : Claim7 := { stood := { row := tagParsesRow, standIns := [], harness := (true, "4d5ed9b9c16c84397cc1f52b4a830c8d13cc86384f1754f7a4d8a640af523b89"), looks := false }, kinds := [], alts := [], laidByText := true, laidKinds := [.data, .widerDeep, .widerDeep, .pinned], laidTests := true, laidLooks := .later }
def TagParsesCardSaid : Prop := Claim7.holds Tryd.pinned (.plain (OpenSpec.ofChange tagParsesSpec)) tagParsesCard

/-- THE TIED CARD OF 'turnpikelaw08.TagLists'. -/
def tagListsCard : Claim7 := { stood := { row := tagListsRow, standIns := [], harness := (true, "4d5ed9b9c16c84397cc1f52b4a830c8d13cc86384f1754f7a4d8a640af523b89"), looks := false }, kinds := [], alts := [], laidByText := true, laidKinds := [.data, .widerDeep, .widerDeep, .pinned], laidTests := true, laidLooks := .later }
def TagListsCardSaid : Prop := Claim7.holds Tryd.pinned (.plain (OpenSpec.ofChange tagListsSpec)) tagListsCard

/-- THE TIED CARD OF 'turnpikelaw08.TagApart'. -/
def tagApartCard : Claim7 := { stood := { row := tagApartRow, standIns := [], harness := (true, "4d5ed9b9c16c84397cc1f52b4a830c8d13cc86384f1754f7a4d8a640af523b89"), looks := false }, kinds := [], alts := [], laidByText := true, laidKinds := [.data, .widerDeep, .widerDeep, .pinned], laidTests := true, laidLooks := .later }
def TagApartCardSaid : Prop := Claim7.holds Tryd.pinned (.plain (OpenSpec.ofChange tagApartSpec)) tagApartCard

/-- THE TIED CARD OF 'turnpikelaw08.TagPrints'. -/
def tagPrintsCard : Claim7 := { stood := { row := tagPrintsRow, standIns := [], harness := (true, "4d5ed9b9c16c84397cc1f52b4a830c8d13cc86384f1754f7a4d8a640af523b89"), looks := false }, kinds := [], alts := [], laidByText := true, laidKinds := [.data, .widerDeep, .widerDeep, .pinned], laidTests := true, laidLooks := .later }
def TagPrintsCardSaid : Prop := Claim7.holds Tryd.pinned (.plain (OpenSpec.ofChange tagPrintsSpec)) tagPrintsCard

/-- THE TIED CARD OF 'turnpikelaw08.TagBack'. -/
def tagBackCard : Claim7 := { stood := { row := tagBackRow, standIns := [], harness := (true, "4d5ed9b9c16c84397cc1f52b4a830c8d13cc86384f1754f7a4d8a640af523b89"), looks := false }, kinds := [], alts := [], laidByText := true, laidKinds := [.data, .widerDeep, .widerDeep, .pinned], laidTests := true, laidLooks := .later }
def TagBackCardSaid : Prop := Claim7.holds Tryd.pinned (.plain (OpenSpec.ofChange tagBackSpec)) tagBackCard

/-- THE SECOND FORM's CARD OF 'turnpikelaw08.TagParses'. -/
def tagParsesUptoCard : Claim7 := { stood := { row := tagParsesUptoRow, standIns := [], harness := (true, "4d5ed9b9c16c84397cc1f52b4a830c8d13cc86384f1754f7a4d8a640af523b89"), looks := false }, kinds := [], alts := [], laidByText := true, laidKinds := [.data, .widerDeep, .widerDeep, .pinned], laidTests := true, laidLooks := .later }
def TagParsesUptoCardSaid : Prop := Claim7.holds Tryd.pinned (.plain (OpenSpec.upto tagParsesSpec)) tagParsesUptoCard

/-- THE SECOND FORM's CARD OF 'turnpikelaw08.TagLists'. -/
def tagListsUptoCard : Claim7 := { stood := { row := tagListsUptoRow, standIns := [], harness := (true, "4d5ed9b9c16c84397cc1f52b4a830c8d13cc86384f1754f7a4d8a640af523b89"), looks := false }, kinds := [], alts := [], laidByText := true, laidKinds := [.data, .widerDeep, .widerDeep, .pinned], laidTests := true, laidLooks := .later }
def TagListsUptoCardSaid : Prop := Claim7.holds Tryd.pinned (.plain (OpenSpec.upto tagListsSpec)) tagListsUptoCard

/-- THE SECOND FORM's CARD OF 'turnpikelaw08.TagApart'. -/
def tagApartUptoCard : Claim7 := { stood := { row := tagApartUptoRow, standIns := [], harness := (true, "4d5ed9b9c16c84397cc1f52b4a830c8d13cc86384f1754f7a4d8a640af523b89"), looks := false }, kinds := [], alts := [], laidByText := true, laidKinds := [.data, .widerDeep, .widerDeep, .pinned], laidTests := true, laidLooks := .later }
def TagApartUptoCardSaid : Prop := Claim7.holds Tryd.pinned (.plain (OpenSpec.upto tagApartSpec)) tagApartUptoCard

/-- THE SECOND FORM's CARD OF 'turnpikelaw08.TagPrints'. -/
def tagPrintsUptoCard : Claim7 := { stood := { row := tagPrintsUptoRow, standIns := [], harness := (true, "4d5ed9b9c16c84397cc1f52b4a830c8d13cc86384f1754f7a4d8a640af523b89"), looks := false }, kinds := [], alts := [], laidByText := true, laidKinds := [.data, .widerDeep, .widerDeep, .pinned], laidTests := true, laidLooks := .later }
def TagPrintsUptoCardSaid : Prop := Claim7.holds Tryd.pinned (.plain (OpenSpec.upto tagPrintsSpec)) tagPrintsUptoCard

/-- THE SECOND FORM's CARD OF 'turnpikelaw08.TagBack'. -/
def tagBackUptoCard : Claim7 := { stood := { row := tagBackUptoRow, standIns := [], harness := (true, "4d5ed9b9c16c84397cc1f52b4a830c8d13cc86384f1754f7a4d8a640af523b89"), looks := false }, kinds := [], alts := [], laidByText := true, laidKinds := [.data, .widerDeep, .widerDeep, .pinned], laidTests := true, laidLooks := .later }
def TagBackUptoCardSaid : Prop := Claim7.holds Tryd.pinned (.plain (OpenSpec.upto tagBackSpec)) tagBackUptoCard
end Rows
end Go.Proofs.YtjalfddedikibaaDoor
