/-
  DERIVED. GIVEN WITH THE SEED: THE CARDS: each row of YtnodboggemggmaaDoorRows.lean that lists a variable, with what it lists TIED to the program's text (the seventh form; the later family's looks); each row that meets fmt, with fmt's text TOLD by the authors' own Lean function (tested against real Go, not proved from fmt's source: count such statements apart). THE CARD IS WHAT COUNTS. Prove the row's statement (the work); the ties are given (YtnodboggemggmaaDoorTie.lean); close each card by the builder's one call (the guide's Derived/Test/ToyasCard.lean, 'card_holds'). Laid BY PROGRAM, IN A SANDBOX (cutbox-door.mjs). By AI agents, Wed Nov 11 2026. No macro, syntax, notation, axiom, sorry.
-/
import Derived.Test.YtnodboggemggmaaDoorRows
import GoSem.ClaimSeven
namespace Go.Proofs.YtnodboggemggmaaDoor
namespace Rows

/-- THE TIED CARD OF 'turnpikelaw09.SpanParses'. -/
def spanParsesCard : Claim7 := { stood := { row := spanParsesRow, standIns := [], harness := (true, "c86b03d3b936e1a4d09f1f400060ed3eea4d1d04925ca25d6807c88daad0ebfc"), looks := false }, kinds := [], alts := [], laidByText := true, laidKinds := [.data, .pinned], laidTests := true, laidLooks := .later }
def SpanParsesCardSaid : Prop := Claim7.holds Tryd.pinned (.plain (OpenSpec.ofChange spanParsesSpec)) spanParsesCard

/-- THE TIED CARD OF 'turnpikelaw09.SpanCuts'. -/
def spanCutsCard : Claim7 := { stood := { row := spanCutsRow, standIns := [], harness := (true, "c86b03d3b936e1a4d09f1f400060ed3eea4d1d04925ca25d6807c88daad0ebfc"), looks := false }, kinds := [], alts := [], laidByText := true, laidKinds := [.data, .data, .data, .data, .pinned], laidTests := true, laidLooks := .later }
def SpanCutsCardSaid : Prop := Claim7.holds Tryd.pinned (.plain (OpenSpec.ofChange spanCutsSpec)) spanCutsCard

/-- THE TIED CARD OF 'turnpikelaw09.SpanMarks'. -/
def spanMarksCard : Claim7 := { stood := { row := spanMarksRow, standIns := [], harness := (true, "c86b03d3b936e1a4d09f1f400060ed3eea4d1d04925ca25d6807c88daad0ebfc"), looks := false }, kinds := [], alts := [], laidByText := true, laidKinds := [.data, .data, .data, .data, .pinned], laidTests := true, laidLooks := .later }
def SpanMarksCardSaid : Prop := Claim7.holds Tryd.pinned (.plain (OpenSpec.ofChange spanMarksSpec)) spanMarksCard

/-- THE TIED CARD OF 'turnpikelaw09.SpanTold'. -/
def spanToldCard : Claim7 := { stood := { row := spanToldRow, standIns := [], harness := (true, "c86b03d3b936e1a4d09f1f400060ed3eea4d1d04925ca25d6807c88daad0ebfc"), looks := false }, kinds := [], alts := [], laidByText := true, laidKinds := [.data, .data, .data, .data, .pinned], laidTests := true, laidLooks := .later }
def SpanToldCardSaid : Prop := Claim7.holds Tryd.pinned (.plain (OpenSpec.ofChange spanToldSpec)) spanToldCard

/-- THE TIED CARD OF 'turnpikelaw09.SpanTells'. -/
def spanTellsCard : Claim7 := { stood := { row := spanTellsRow, standIns := [], harness := (true, "c86b03d3b936e1a4d09f1f400060ed3eea4d1d04925ca25d6807c88daad0ebfc"), looks := false }, kinds := [], alts := [], laidByText := true, laidKinds := [.data, .data, .data, .data, .pinned], laidTests := true, laidLooks := .later }
def SpanTellsCardSaid : Prop := Claim7.holds Tryd.pinned (.plain (OpenSpec.ofChange spanTellsSpec)) spanTellsCard

/-- THE TIED CARD OF 'turnpikelaw09.SpanParts'. -/
def spanPartsCard : Claim7 := { stood := { row := spanPartsRow, standIns := [], harness := (true, "c86b03d3b936e1a4d09f1f400060ed3eea4d1d04925ca25d6807c88daad0ebfc"), looks := false }, kinds := [], alts := [], laidByText := true, laidKinds := [.data, .data, .data, .data, .pinned], laidTests := true, laidLooks := .later }
def SpanPartsCardSaid : Prop := Claim7.holds Tryd.pinned (.plain (OpenSpec.ofChange spanPartsSpec)) spanPartsCard

/-- THE TIED CARD OF 'turnpikelaw09.SpanPrints'. -/
def spanPrintsCard : Claim7 := { stood := { row := spanPrintsRow, standIns := [], harness := (true, "c86b03d3b936e1a4d09f1f400060ed3eea4d1d04925ca25d6807c88daad0ebfc"), looks := false }, kinds := [], alts := [], laidByText := true, laidKinds := [.data, .data, .data, .data, .pinned], laidTests := true, laidLooks := .later }
def SpanPrintsCardSaid : Prop := Claim7.holds Tryd.pinned (.plain (OpenSpec.ofChange spanPrintsSpec)) spanPrintsCard

/-- THE TIED CARD OF 'turnpikelaw09.SpanPieces'. -/
def spanPiecesCard : Claim7 := { stood := { row := spanPiecesRow, standIns := [], harness := (true, "c86b03d3b936e1a4d09f1f400060ed3eea4d1d04925ca25d6807c88daad0ebfc"), looks := false }, kinds := [], alts := [], laidByText := true, laidKinds := [.data, .data, .data, .data, .pinned], laidTests := true, laidLooks := .later }
def SpanPiecesCardSaid : Prop := Claim7.holds Tryd.pinned (.plain (OpenSpec.ofChange spanPiecesSpec)) spanPiecesCard

/-- THE TIED CARD OF 'turnpikelaw09.SpanLeast'. -/
def spanLeastCard : Claim7 := { stood := { row := spanLeastRow, standIns := [], harness := (true, "c86b03d3b936e1a4d09f1f400060ed3eea4d1d04925ca25d6807c88daad0ebfc"), looks := false }, kinds := [], alts := [], laidByText := true, laidKinds := [.data, .pinned], laidTests := true, laidLooks := .later }
def SpanLeastCardSaid : Prop := Claim7.holds Tryd.pinned (.plain (OpenSpec.ofChange spanLeastSpec)) spanLeastCard

/-- THE TIED CARD OF 'turnpikelaw09.SpanMemory'. -/
def spanMemoryCard : Claim7 := { stood := { row := spanMemoryRow, standIns := [], harness := (true, "c86b03d3b936e1a4d09f1f400060ed3eea4d1d04925ca25d6807c88daad0ebfc"), looks := false }, kinds := [], alts := [], laidByText := true, laidKinds := [.data, .pinned], laidTests := true, laidLooks := .later }
def SpanMemoryCardSaid : Prop := Claim7.holds Tryd.pinned (.plain (OpenSpec.ofChange spanMemorySpec)) spanMemoryCard

/-- THE TIED CARD OF 'turnpikelaw09.SpanMerges'. -/
def spanMergesCard : Claim7 := { stood := { row := spanMergesRow, standIns := [], harness := (true, "c86b03d3b936e1a4d09f1f400060ed3eea4d1d04925ca25d6807c88daad0ebfc"), looks := false }, kinds := [], alts := [], laidByText := true, laidKinds := [.data, .pinned], laidTests := true, laidLooks := .later }
def SpanMergesCardSaid : Prop := Claim7.holds Tryd.pinned (.plain (OpenSpec.ofChange spanMergesSpec)) spanMergesCard

/-- THE SECOND FORM's CARD OF 'turnpikelaw09.SpanParses'. -/
def spanParsesUptoCard : Claim7 := { stood := { row := spanParsesUptoRow, standIns := [], harness := (true, "c86b03d3b936e1a4d09f1f400060ed3eea4d1d04925ca25d6807c88daad0ebfc"), looks := false }, kinds := [], alts := [], laidByText := true, laidKinds := [.data, .pinned], laidTests := true, laidLooks := .later }
def SpanParsesUptoCardSaid : Prop := Claim7.holds Tryd.pinned (.plain (OpenSpec.upto spanParsesSpec)) spanParsesUptoCard

/-- THE SECOND FORM's CARD OF 'turnpikelaw09.SpanCuts'. -/
def spanCutsUptoCard : Claim7 := { stood := { row := spanCutsUptoRow, standIns := [], harness := (true, "c86b03d3b936e1a4d09f1f400060ed3eea4d1d04925ca25d6807c88daad0ebfc"), looks := false }, kinds := [], alts := [], laidByText := true, laidKinds := [.data, .data, .data, .data, .pinned], laidTests := true, laidLooks := .later }
def SpanCutsUptoCardSaid : Prop := Claim7.holds Tryd.pinned (.plain (OpenSpec.upto spanCutsSpec)) spanCutsUptoCard

/-- THE SECOND FORM's CARD OF 'turnpikelaw09.SpanMarks'. -/
def spanMarksUptoCard : Claim7 := { stood := { row := spanMarksUptoRow, standIns := [], harness := (true, "c86b03d3b936e1a4d09f1f400060ed3eea4d1d04925ca25d6807c88daad0ebfc"), looks := false }, kinds := [], alts := [], laidByText := true, laidKinds := [.data, .data, .data, .data, .pinned], laidTests := true, laidLooks := .later }
def SpanMarksUptoCardSaid : Prop := Claim7.holds Tryd.pinned (.plain (OpenSpec.upto spanMarksSpec)) spanMarksUptoCard

/-- THE SECOND FORM's CARD OF 'turnpikelaw09.SpanTold'. -/
def spanToldUptoCard : Claim7 := { stood := { row := spanToldUptoRow, standIns := [], harness := (true, "c86b03d3b936e1a4d09f1f400060ed3eea4d1d04925ca25d6807c88daad0ebfc"), looks := false }, kinds := [], alts := [], laidByText := true, laidKinds := [.data, .data, .data, .data, .pinned], laidTests := true, laidLooks := .later }
def SpanToldUptoCardSaid : Prop := Claim7.holds Tryd.pinned (.plain (OpenSpec.upto spanToldSpec)) spanToldUptoCard

/-- THE SECOND FORM's CARD OF 'turnpikelaw09.SpanTells'. -/
def spanTellsUptoCard : Claim7 := { stood := { row := spanTellsUptoRow, standIns := [], harness := (true, "c86b03d3b936e1a4d09f1f400060ed3eea4d1d04925ca25d6807c88daad0ebfc"), looks := false }, kinds := [], alts := [], laidByText := true, laidKinds := [.data, .data, .data, .data, .pinned], laidTests := true, laidLooks := .later }
def SpanTellsUptoCardSaid : Prop := Claim7.holds Tryd.pinned (.plain (OpenSpec.upto spanTellsSpec)) spanTellsUptoCard

/-- THE SECOND FORM's CARD OF 'turnpikelaw09.SpanParts'. -/
def spanPartsUptoCard : Claim7 := { stood := { row := spanPartsUptoRow, standIns := [], harness := (true, "c86b03d3b936e1a4d09f1f400060ed3eea4d1d04925ca25d6807c88daad0ebfc"), looks := false }, kinds := [], alts := [], laidByText := true, laidKinds := [.data, .data, .data, .data, .pinned], laidTests := true, laidLooks := .later }
def SpanPartsUptoCardSaid : Prop := Claim7.holds Tryd.pinned (.plain (OpenSpec.upto spanPartsSpec)) spanPartsUptoCard

/-- THE SECOND FORM's CARD OF 'turnpikelaw09.SpanPrints'. -/
def spanPrintsUptoCard : Claim7 := { stood := { row := spanPrintsUptoRow, standIns := [], harness := (true, "c86b03d3b936e1a4d09f1f400060ed3eea4d1d04925ca25d6807c88daad0ebfc"), looks := false }, kinds := [], alts := [], laidByText := true, laidKinds := [.data, .data, .data, .data, .pinned], laidTests := true, laidLooks := .later }
def SpanPrintsUptoCardSaid : Prop := Claim7.holds Tryd.pinned (.plain (OpenSpec.upto spanPrintsSpec)) spanPrintsUptoCard

/-- THE SECOND FORM's CARD OF 'turnpikelaw09.SpanPieces'. -/
def spanPiecesUptoCard : Claim7 := { stood := { row := spanPiecesUptoRow, standIns := [], harness := (true, "c86b03d3b936e1a4d09f1f400060ed3eea4d1d04925ca25d6807c88daad0ebfc"), looks := false }, kinds := [], alts := [], laidByText := true, laidKinds := [.data, .data, .data, .data, .pinned], laidTests := true, laidLooks := .later }
def SpanPiecesUptoCardSaid : Prop := Claim7.holds Tryd.pinned (.plain (OpenSpec.upto spanPiecesSpec)) spanPiecesUptoCard

/-- THE SECOND FORM's CARD OF 'turnpikelaw09.SpanLeast'. -/
def spanLeastUptoCard : Claim7 := { stood := { row := spanLeastUptoRow, standIns := [], harness := (true, "c86b03d3b936e1a4d09f1f400060ed3eea4d1d04925ca25d6807c88daad0ebfc"), looks := false }, kinds := [], alts := [], laidByText := true, laidKinds := [.data, .pinned], laidTests := true, laidLooks := .later }
def SpanLeastUptoCardSaid : Prop := Claim7.holds Tryd.pinned (.plain (OpenSpec.upto spanLeastSpec)) spanLeastUptoCard

/-- THE SECOND FORM's CARD OF 'turnpikelaw09.SpanMemory'. -/
def spanMemoryUptoCard : Claim7 := { stood := { row := spanMemoryUptoRow, standIns := [], harness := (true, "c86b03d3b936e1a4d09f1f400060ed3eea4d1d04925ca25d6807c88daad0ebfc"), looks := false }, kinds := [], alts := [], laidByText := true, laidKinds := [.data, .pinned], laidTests := true, laidLooks := .later }
def SpanMemoryUptoCardSaid : Prop := Claim7.holds Tryd.pinned (.plain (OpenSpec.upto spanMemorySpec)) spanMemoryUptoCard

/-- THE SECOND FORM's CARD OF 'turnpikelaw09.SpanMerges'. -/
def spanMergesUptoCard : Claim7 := { stood := { row := spanMergesUptoRow, standIns := [], harness := (true, "c86b03d3b936e1a4d09f1f400060ed3eea4d1d04925ca25d6807c88daad0ebfc"), looks := false }, kinds := [], alts := [], laidByText := true, laidKinds := [.data, .pinned], laidTests := true, laidLooks := .later }
def SpanMergesUptoCardSaid : Prop := Claim7.holds Tryd.pinned (.plain (OpenSpec.upto spanMergesSpec)) spanMergesUptoCard
end Rows
end Go.Proofs.YtnodboggemggmaaDoor
