/-
  DERIVED. GIVEN WITH THE SEED: THE CARDS: each row of YtmfnofpphnlbnaaDoorRows.lean that lists a variable, with what it lists TIED to the program's text (the seventh form; the later family's looks); each row that meets fmt, with fmt's text TOLD by the authors' own Lean function (tested against real Go, not proved from fmt's source: count such statements apart). THE CARD IS WHAT COUNTS. Prove the row's statement (the work); the ties are given (YtmfnofpphnlbnaaDoorTie.lean); close each card by the builder's one call (the guide's Derived/Test/ToyasCard.lean, 'card_holds'). Laid BY PROGRAM, IN A SANDBOX (cutbox-door.mjs). By AI agents, Wed Nov 11 2026. No macro, syntax, notation, axiom, sorry.
-/
import Derived.Test.YtmfnofpphnlbnaaDoorRows
import GoSem.ClaimSeven
namespace Go.Proofs.YtmfnofpphnlbnaaDoor
namespace Rows

/-- THE TIED CARD OF 'turnpikelaw04.StampCalendar'. -/
def stampCalendarCard : Claim7 := { stood := { row := stampCalendarRow, standIns := [], harness := (true, "cb47b72f2643f86bf5c6818d9d98a7b1946ee8e58cf7963d9a893a5e1fd03dc7"), looks := false }, kinds := [], alts := [], laidByText := true, laidKinds := [.data, .data, .data, .widerDeep, .widerDeep], laidTests := true, laidLooks := .later }
def StampCalendarCardSaid : Prop := Claim7.holds Tryd.pinned (.plain (OpenSpec.ofChange stampCalendarSpec)) stampCalendarCard

/-- THE TIED CARD OF 'turnpikelaw04.StampSplits'. -/
def stampSplitsCard : Claim7 := { stood := { row := stampSplitsRow, standIns := [], harness := (true, "cb47b72f2643f86bf5c6818d9d98a7b1946ee8e58cf7963d9a893a5e1fd03dc7"), looks := false }, kinds := [], alts := [], laidByText := true, laidKinds := [.data, .data, .data, .widerDeep, .widerDeep], laidTests := true, laidLooks := .later }
def StampSplitsCardSaid : Prop := Claim7.holds Tryd.pinned (.plain (OpenSpec.ofChange stampSplitsSpec)) stampSplitsCard

/-- THE TIED CARD OF 'turnpikelaw04.StampWrites'. -/
def stampWritesCard : Claim7 := { stood := { row := stampWritesRow, standIns := [], harness := (true, "cb47b72f2643f86bf5c6818d9d98a7b1946ee8e58cf7963d9a893a5e1fd03dc7"), looks := false }, kinds := [], alts := [], laidByText := true, laidKinds := [.data, .data, .data, .widerDeep, .widerDeep], laidTests := true, laidLooks := .later }
def StampWritesCardSaid : Prop := Claim7.holds Tryd.pinned (.plain (OpenSpec.ofChange stampWritesSpec)) stampWritesCard

/-- THE TIED CARD OF 'turnpikelaw04.StampParses'. -/
def stampParsesCard : Claim7 := { stood := { row := stampParsesRow, standIns := [], harness := (true, "cb47b72f2643f86bf5c6818d9d98a7b1946ee8e58cf7963d9a893a5e1fd03dc7"), looks := false }, kinds := [], alts := [], laidByText := true, laidKinds := [.data, .data, .data, .widerDeep, .widerDeep], laidTests := true, laidLooks := .later }
def StampParsesCardSaid : Prop := Claim7.holds Tryd.pinned (.plain (OpenSpec.ofChange stampParsesSpec)) stampParsesCard

/-- THE TIED CARD OF 'turnpikelaw04.StampDays'. -/
def stampDaysCard : Claim7 := { stood := { row := stampDaysRow, standIns := [], harness := (true, "cb47b72f2643f86bf5c6818d9d98a7b1946ee8e58cf7963d9a893a5e1fd03dc7"), looks := false }, kinds := [], alts := [], laidByText := true, laidKinds := [.data, .data, .data, .widerDeep, .widerDeep], laidTests := true, laidLooks := .later }
def StampDaysCardSaid : Prop := Claim7.holds Tryd.pinned (.plain (OpenSpec.ofChange stampDaysSpec)) stampDaysCard

/-- THE TIED CARD OF 'turnpikelaw04.StampCycle'. -/
def stampCycleCard : Claim7 := { stood := { row := stampCycleRow, standIns := [], harness := (true, "cb47b72f2643f86bf5c6818d9d98a7b1946ee8e58cf7963d9a893a5e1fd03dc7"), looks := false }, kinds := [], alts := [], laidByText := true, laidKinds := [.data, .data, .data, .widerDeep, .widerDeep], laidTests := true, laidLooks := .later }
def StampCycleCardSaid : Prop := Claim7.holds Tryd.pinned (.plain (OpenSpec.ofChange stampCycleSpec)) stampCycleCard

/-- THE TIED CARD OF 'turnpikelaw04.StampOrder'. -/
def stampOrderCard : Claim7 := { stood := { row := stampOrderRow, standIns := [], harness := (true, "cb47b72f2643f86bf5c6818d9d98a7b1946ee8e58cf7963d9a893a5e1fd03dc7"), looks := false }, kinds := [], alts := [], laidByText := true, laidKinds := [.data, .data, .data, .widerDeep, .widerDeep], laidTests := true, laidLooks := .later }
def StampOrderCardSaid : Prop := Claim7.holds Tryd.pinned (.plain (OpenSpec.ofChange stampOrderSpec)) stampOrderCard

/-- THE TIED CARD OF 'turnpikelaw04.StampOne'. -/
def stampOneCard : Claim7 := { stood := { row := stampOneRow, standIns := [], harness := (true, "cb47b72f2643f86bf5c6818d9d98a7b1946ee8e58cf7963d9a893a5e1fd03dc7"), looks := false }, kinds := [], alts := [], laidByText := true, laidKinds := [.data, .data, .data, .widerDeep, .widerDeep], laidTests := true, laidLooks := .later }
def StampOneCardSaid : Prop := Claim7.holds Tryd.pinned (.plain (OpenSpec.ofChange stampOneSpec)) stampOneCard

/-- THE TIED CARD OF 'turnpikelaw04.StampJoins'. -/
def stampJoinsCard : Claim7 := { stood := { row := stampJoinsRow, standIns := [], harness := (true, "cb47b72f2643f86bf5c6818d9d98a7b1946ee8e58cf7963d9a893a5e1fd03dc7"), looks := false }, kinds := [], alts := [], laidByText := true, laidKinds := [.data, .data, .data, .widerDeep, .widerDeep], laidTests := true, laidLooks := .later }
def StampJoinsCardSaid : Prop := Claim7.holds Tryd.pinned (.plain (OpenSpec.ofChange stampJoinsSpec)) stampJoinsCard

/-- THE TIED CARD OF 'turnpikelaw04.StampBack'. -/
def stampBackCard : Claim7 := { stood := { row := stampBackRow, standIns := [], harness := (true, "cb47b72f2643f86bf5c6818d9d98a7b1946ee8e58cf7963d9a893a5e1fd03dc7"), looks := false }, kinds := [], alts := [], laidByText := true, laidKinds := [.data, .data, .data, .widerDeep, .widerDeep], laidTests := true, laidLooks := .later }
def StampBackCardSaid : Prop := Claim7.holds Tryd.pinned (.plain (OpenSpec.ofChange stampBackSpec)) stampBackCard

/-- THE SECOND FORM's CARD OF 'turnpikelaw04.StampCalendar'. -/
def stampCalendarUptoCard : Claim7 := { stood := { row := stampCalendarUptoRow, standIns := [], harness := (true, "cb47b72f2643f86bf5c6818d9d98a7b1946ee8e58cf7963d9a893a5e1fd03dc7"), looks := false }, kinds := [], alts := [], laidByText := true, laidKinds := [.data, .data, .data, .widerDeep, .widerDeep], laidTests := true, laidLooks := .later }
def StampCalendarUptoCardSaid : Prop := Claim7.holds Tryd.pinned (.plain (OpenSpec.upto stampCalendarSpec)) stampCalendarUptoCard

/-- THE SECOND FORM's CARD OF 'turnpikelaw04.StampSplits'. -/
def stampSplitsUptoCard : Claim7 := { stood := { row := stampSplitsUptoRow, standIns := [], harness := (true, "cb47b72f2643f86bf5c6818d9d98a7b1946ee8e58cf7963d9a893a5e1fd03dc7"), looks := false }, kinds := [], alts := [], laidByText := true, laidKinds := [.data, .data, .data, .widerDeep, .widerDeep], laidTests := true, laidLooks := .later }
def StampSplitsUptoCardSaid : Prop := Claim7.holds Tryd.pinned (.plain (OpenSpec.upto stampSplitsSpec)) stampSplitsUptoCard

/-- THE SECOND FORM's CARD OF 'turnpikelaw04.StampWrites'. -/
def stampWritesUptoCard : Claim7 := { stood := { row := stampWritesUptoRow, standIns := [], harness := (true, "cb47b72f2643f86bf5c6818d9d98a7b1946ee8e58cf7963d9a893a5e1fd03dc7"), looks := false }, kinds := [], alts := [], laidByText := true, laidKinds := [.data, .data, .data, .widerDeep, .widerDeep], laidTests := true, laidLooks := .later }
def StampWritesUptoCardSaid : Prop := Claim7.holds Tryd.pinned (.plain (OpenSpec.upto stampWritesSpec)) stampWritesUptoCard

/-- THE SECOND FORM's CARD OF 'turnpikelaw04.StampParses'. -/
def stampParsesUptoCard : Claim7 := { stood := { row := stampParsesUptoRow, standIns := [], harness := (true, "cb47b72f2643f86bf5c6818d9d98a7b1946ee8e58cf7963d9a893a5e1fd03dc7"), looks := false }, kinds := [], alts := [], laidByText := true, laidKinds := [.data, .data, .data, .widerDeep, .widerDeep], laidTests := true, laidLooks := .later }
def StampParsesUptoCardSaid : Prop := Claim7.holds Tryd.pinned (.plain (OpenSpec.upto stampParsesSpec)) stampParsesUptoCard

/-- THE SECOND FORM's CARD OF 'turnpikelaw04.StampDays'. -/
def stampDaysUptoCard : Claim7 := { stood := { row := stampDaysUptoRow, standIns := [], harness := (true, "cb47b72f2643f86bf5c6818d9d98a7b1946ee8e58cf7963d9a893a5e1fd03dc7"), looks := false }, kinds := [], alts := [], laidByText := true, laidKinds := [.data, .data, .data, .widerDeep, .widerDeep], laidTests := true, laidLooks := .later }
def StampDaysUptoCardSaid : Prop := Claim7.holds Tryd.pinned (.plain (OpenSpec.upto stampDaysSpec)) stampDaysUptoCard

/-- THE SECOND FORM's CARD OF 'turnpikelaw04.StampCycle'. -/
def stampCycleUptoCard : Claim7 := { stood := { row := stampCycleUptoRow, standIns := [], harness := (true, "cb47b72f2643f86bf5c6818d9d98a7b1946ee8e58cf7963d9a893a5e1fd03dc7"), looks := false }, kinds := [], alts := [], laidByText := true, laidKinds := [.data, .data, .data, .widerDeep, .widerDeep], laidTests := true, laidLooks := .later }
def StampCycleUptoCardSaid : Prop := Claim7.holds Tryd.pinned (.plain (OpenSpec.upto stampCycleSpec)) stampCycleUptoCard

/-- THE SECOND FORM's CARD OF 'turnpikelaw04.StampOrder'. -/
def stampOrderUptoCard : Claim7 := { stood := { row := stampOrderUptoRow, standIns := [], harness := (true, "cb47b72f2643f86bf5c6818d9d98a7b1946ee8e58cf7963d9a893a5e1fd03dc7"), looks := false }, kinds := [], alts := [], laidByText := true, laidKinds := [.data, .data, .data, .widerDeep, .widerDeep], laidTests := true, laidLooks := .later }
def StampOrderUptoCardSaid : Prop := Claim7.holds Tryd.pinned (.plain (OpenSpec.upto stampOrderSpec)) stampOrderUptoCard

/-- THE SECOND FORM's CARD OF 'turnpikelaw04.StampOne'. -/
def stampOneUptoCard : Claim7 := { stood := { row := stampOneUptoRow, standIns := [], harness := (true, "cb47b72f2643f86bf5c6818d9d98a7b1946ee8e58cf7963d9a893a5e1fd03dc7"), looks := false }, kinds := [], alts := [], laidByText := true, laidKinds := [.data, .data, .data, .widerDeep, .widerDeep], laidTests := true, laidLooks := .later }
def StampOneUptoCardSaid : Prop := Claim7.holds Tryd.pinned (.plain (OpenSpec.upto stampOneSpec)) stampOneUptoCard

/-- THE SECOND FORM's CARD OF 'turnpikelaw04.StampJoins'. -/
def stampJoinsUptoCard : Claim7 := { stood := { row := stampJoinsUptoRow, standIns := [], harness := (true, "cb47b72f2643f86bf5c6818d9d98a7b1946ee8e58cf7963d9a893a5e1fd03dc7"), looks := false }, kinds := [], alts := [], laidByText := true, laidKinds := [.data, .data, .data, .widerDeep, .widerDeep], laidTests := true, laidLooks := .later }
def StampJoinsUptoCardSaid : Prop := Claim7.holds Tryd.pinned (.plain (OpenSpec.upto stampJoinsSpec)) stampJoinsUptoCard

/-- THE SECOND FORM's CARD OF 'turnpikelaw04.StampBack'. -/
def stampBackUptoCard : Claim7 := { stood := { row := stampBackUptoRow, standIns := [], harness := (true, "cb47b72f2643f86bf5c6818d9d98a7b1946ee8e58cf7963d9a893a5e1fd03dc7"), looks := false }, kinds := [], alts := [], laidByText := true, laidKinds := [.data, .data, .data, .widerDeep, .widerDeep], laidTests := true, laidLooks := .later }
def StampBackUptoCardSaid : Prop := Claim7.holds Tryd.pinned (.plain (OpenSpec.upto stampBackSpec)) stampBackUptoCard
end Rows
end Go.Proofs.YtmfnofpphnlbnaaDoor
