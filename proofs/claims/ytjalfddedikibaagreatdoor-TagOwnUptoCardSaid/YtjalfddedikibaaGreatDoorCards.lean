/-
  DERIVED. GIVEN WITH THE SEED: THE CARDS: each row of YtjalfddedikibaaGreatDoorRows.lean that lists a variable, with what it lists TIED to the program's text (the seventh form; the later family's looks); each row that meets fmt, with fmt's text TOLD by the authors' own Lean function (tested against real Go, not proved from fmt's source: count such statements apart). THE CARD IS WHAT COUNTS. Prove the row's statement (the work); the ties are given (YtjalfddedikibaaGreatDoorTie.lean); close each card by the builder's one call (the guide's Derived/Test/ToyasCard.lean, 'card_holds'). Laid BY PROGRAM, IN A SANDBOX (cutbox-door.mjs). By AI agents, Wed Nov 11 2026. No macro, syntax, notation, axiom, sorry.
-/
import Derived.Test.YtjalfddedikibaaGreatDoorRows
import GoSem.ClaimSeven
namespace Go.Proofs.YtjalfddedikibaaGreatDoor
namespace Rows

/-- THE TIED CARD OF 'turnpikelaw08.TagDecides'. -/
def tagDecidesCard : Claim7 := { stood := { row := tagDecidesRow, standIns := [], harness := (true, "15c26b2b6f9f854907dfc22c01419599589886a653882b724f35f104d07eb07b"), looks := false }, kinds := [], alts := [], laidByText := true, laidKinds := [.data, .widerDeep, .widerDeep, .pinned], laidTests := true, laidLooks := .later }
def TagDecidesCardSaid : Prop := Claim7.holds Tryz.pinned (.plain (OpenSpec.ofChange tagDecidesSpec)) tagDecidesCard

/-- THE TIED CARD OF 'turnpikelaw08.TagRanges'. -/
def tagRangesCard : Claim7 := { stood := { row := tagRangesRow, standIns := [], harness := (true, "15c26b2b6f9f854907dfc22c01419599589886a653882b724f35f104d07eb07b"), looks := false }, kinds := [], alts := [], laidByText := true, laidKinds := [.data, .widerDeep, .widerDeep, .pinned], laidTests := true, laidLooks := .later }
def TagRangesCardSaid : Prop := Claim7.holds Tryz.pinned (.plain (OpenSpec.ofChange tagRangesSpec)) tagRangesCard

/-- THE TIED CARD OF 'turnpikelaw08.TagMakes'. -/
def tagMakesCard : Claim7 := { stood := { row := tagMakesRow, standIns := [], harness := (true, "15c26b2b6f9f854907dfc22c01419599589886a653882b724f35f104d07eb07b"), looks := false }, kinds := [], alts := [], laidByText := true, laidKinds := [.data, .data, .data, .data, .widerDeep, .widerDeep, .pinned], laidTests := true, laidLooks := .later }
def TagMakesCardSaid : Prop := Claim7.holds Tryz.pinned (.plain (OpenSpec.ofChange tagMakesSpec)) tagMakesCard

/-- THE TIED CARD OF 'turnpikelaw08.TagOwn'. -/
def tagOwnCard : Claim7 := { stood := { row := tagOwnRow, standIns := [], harness := (true, "15c26b2b6f9f854907dfc22c01419599589886a653882b724f35f104d07eb07b"), looks := false }, kinds := [], alts := [], laidByText := true, laidKinds := [.data, .data, .data, .data, .widerDeep, .widerDeep, .pinned], laidTests := true, laidLooks := .later }
def TagOwnCardSaid : Prop := Claim7.holds Tryz.pinned (.plain (OpenSpec.ofChange tagOwnSpec)) tagOwnCard

/-- THE SECOND FORM's CARD OF 'turnpikelaw08.TagDecides'. -/
def tagDecidesUptoCard : Claim7 := { stood := { row := tagDecidesUptoRow, standIns := [], harness := (true, "15c26b2b6f9f854907dfc22c01419599589886a653882b724f35f104d07eb07b"), looks := false }, kinds := [], alts := [], laidByText := true, laidKinds := [.data, .widerDeep, .widerDeep, .pinned], laidTests := true, laidLooks := .later }
def TagDecidesUptoCardSaid : Prop := Claim7.holds Tryz.pinned (.plain (OpenSpec.upto tagDecidesSpec)) tagDecidesUptoCard

/-- THE SECOND FORM's CARD OF 'turnpikelaw08.TagRanges'. -/
def tagRangesUptoCard : Claim7 := { stood := { row := tagRangesUptoRow, standIns := [], harness := (true, "15c26b2b6f9f854907dfc22c01419599589886a653882b724f35f104d07eb07b"), looks := false }, kinds := [], alts := [], laidByText := true, laidKinds := [.data, .widerDeep, .widerDeep, .pinned], laidTests := true, laidLooks := .later }
def TagRangesUptoCardSaid : Prop := Claim7.holds Tryz.pinned (.plain (OpenSpec.upto tagRangesSpec)) tagRangesUptoCard

/-- THE SECOND FORM's CARD OF 'turnpikelaw08.TagMakes'. -/
def tagMakesUptoCard : Claim7 := { stood := { row := tagMakesUptoRow, standIns := [], harness := (true, "15c26b2b6f9f854907dfc22c01419599589886a653882b724f35f104d07eb07b"), looks := false }, kinds := [], alts := [], laidByText := true, laidKinds := [.data, .data, .data, .data, .widerDeep, .widerDeep, .pinned], laidTests := true, laidLooks := .later }
def TagMakesUptoCardSaid : Prop := Claim7.holds Tryz.pinned (.plain (OpenSpec.upto tagMakesSpec)) tagMakesUptoCard

/-- THE SECOND FORM's CARD OF 'turnpikelaw08.TagOwn'. -/
def tagOwnUptoCard : Claim7 := { stood := { row := tagOwnUptoRow, standIns := [], harness := (true, "15c26b2b6f9f854907dfc22c01419599589886a653882b724f35f104d07eb07b"), looks := false }, kinds := [], alts := [], laidByText := true, laidKinds := [.data, .data, .data, .data, .widerDeep, .widerDeep, .pinned], laidTests := true, laidLooks := .later }
def TagOwnUptoCardSaid : Prop := Claim7.holds Tryz.pinned (.plain (OpenSpec.upto tagOwnSpec)) tagOwnUptoCard
end Rows
end Go.Proofs.YtjalfddedikibaaGreatDoor
