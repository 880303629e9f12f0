/-
  NARROWER THAN 'FOR EVERY INPUT', by the rows' own cells (each row's printed sentence says how): TagParses: laid · TagLists: laid · TagApart: laid · TagPrints: laid · TagBack: laid.
  DERIVED. THE GIVEN ROWS OF THIS SEAT. 5 by the template 'for every input the law returns true; each argument reads behind the call as it read before'; 0 by the template 'total and deterministic' (their statements: YtjalfddedikibaaDoorTotals.lean).
  GIVEN WITH THE SEED: the statements are not yours to turn. If you find one false, say at which input.
  Laid BY PROGRAM, IN A SANDBOX (cutbox-rows.mjs): the forced cells as the released guide's own fill.sh prints them over the translation 19199fa73deabdcb… (all of the seat's roots in one cut). By AI agents, Wed Nov 11 2026. No macro, syntax, notation, axiom, sorry.
-/
import Derived.Test.YtjalfddedikibaaDoorChecked
import GoSem.PinnedTables
import GoSem.Claim
import GoSem.ClaimJoined
import GoSem.ClaimMapViews
import Derived.JoinedTies
import Derived.KernelRfl
namespace Go.Proofs.YtjalfddedikibaaDoor
/- THE CELL 'sum', in the pinned program and in every row, IS THE sha256 OF THE DUMP (.gsa) THAT YtjalfddedikibaaDoorProg.lean LOADS. Nothing in Lean hashes anything: it is a label: what it is worth is what the hold of that sum in a sandbox is worth. -/
noncomputable def Tryd.pinned : Pinned := { name := "ytjalfddedikibaadoor", sum := "19199fa73deabdcb63d918462ff26eb3b7e8e741a38c30efccf4a862d1c308dc", checked := Tryd.checked }
namespace Rows
def none {H : Type} : Left H := { results := [], args := [] }

/- WHAT THE LISTED PACKAGE-LEVEL VARIABLES READ AS WHEN THE CALL BEGINS. Each datum BY PROGRAM (the guide's laid-datum.mjs) off the statement by which the dump's own 'gosem.cut.vars' lays the variable. In a bare row this is a premise. The card (YtjalfddedikibaaDoorCards.lean) ties it to the program's text. -/
def laid_unicode_utf8_acceptRanges {H : Type} : DataW H := .agg [.agg [.lit (.int .u8 128), .lit (.int .u8 191)], .agg [.lit (.int .u8 160), .lit (.int .u8 191)], .agg [.lit (.int .u8 128), .lit (.int .u8 159)], .agg [.lit (.int .u8 144), .lit (.int .u8 191)], .agg [.lit (.int .u8 128), .lit (.int .u8 143)], .agg [.lit (.int .u8 0), .lit (.int .u8 0)], .agg [.lit (.int .u8 0), .lit (.int .u8 0)], .agg [.lit (.int .u8 0), .lit (.int .u8 0)], .agg [.lit (.int .u8 0), .lit (.int .u8 0)], .agg [.lit (.int .u8 0), .lit (.int .u8 0)], .agg [.lit (.int .u8 0), .lit (.int .u8 0)], .agg [.lit (.int .u8 0), .lit (.int .u8 0)], .agg [.lit (.int .u8 0), .lit (.int .u8 0)], .agg [.lit (.int .u8 0), .lit (.int .u8 0)], .agg [.lit (.int .u8 0), .lit (.int .u8 0)], .agg [.lit (.int .u8 0), .lit (.int .u8 0)]]
def laid_turnpike_stamp_weekdays {H : Type} : DataW H := .agg [.lit (.string [77, 111, 110, 100, 97, 121]), .lit (.string [84, 117, 101, 115, 100, 97, 121]), .lit (.string [87, 101, 100, 110, 101, 115, 100, 97, 121]), .lit (.string [84, 104, 117, 114, 115, 100, 97, 121]), .lit (.string [70, 114, 105, 100, 97, 121]), .lit (.string [83, 97, 116, 117, 114, 100, 97, 121]), .lit (.string [83, 117, 110, 100, 97, 121])]
def laid_turnpike_stamp_months {H : Type} : DataW H := .agg [.lit (.string [74, 97, 110]), .lit (.string [70, 101, 98]), .lit (.string [77, 97, 114]), .lit (.string [65, 112, 114]), .lit (.string [77, 97, 121]), .lit (.string [74, 117, 110]), .lit (.string [74, 117, 108]), .lit (.string [65, 117, 103]), .lit (.string [83, 101, 112]), .lit (.string [79, 99, 116]), .lit (.string [78, 111, 118]), .lit (.string [68, 101, 99])]
/-- One of Go's own tables, pinned by name: the form's constant. -/
def laid_unicode_utf8_first : DataW Unit := Go.Pinned.utf8First

/-- 'turnpikelaw08.TagParses': WHATEVER THE INPUT: true; the input reads as it did. -/
def tagParsesSpec : ChangeSpec := { name := "tagParses", fn := fun _ => fun
  | [d] => { results := [.lit (.bool true)], args := [d] }
  | _ => none }
def tagParsesRow : OpenClaim := { program := "ytjalfddedikibaadoor", sum := "19199fa73deabdcb63d918462ff26eb3b7e8e741a38c30efccf4a862d1c308dc", func := "turnpike/turnpikelaw08.TagParses", spec := "tagParses", inPlace := ["internal/abi.NoEscape", "internal/bytealg.MakeNoZero", "internal/bytealg.IndexByteString", "internal/bytealg.IndexString"], unfollowed := true, recurses := true, named := ["unicode/utf8.first", "unicode/utf8.acceptRanges", "turnpike/stamp.weekdays", "turnpike/stamp.months", "internal/bytealg.MaxLen"], apart := false, laid := [("unicode/utf8.acceptRanges", laid_unicode_utf8_acceptRanges), ("turnpike/stamp.weekdays", laid_turnpike_stamp_weekdays), ("turnpike/stamp.months", laid_turnpike_stamp_months), ("unicode/utf8.first", laid_unicode_utf8_first)] }
def TagParsesSaid : Prop := tagParsesRow.holds Tryd.pinned (OpenSpec.ofChange tagParsesSpec)

/-- ITS FALSE NEIGHBOUR: 'it returns false'. Refute it at one input. -/
def tagParsesWrong : ChangeSpec := { name := "tagParses", fn := fun _ => fun
  | [d] => { results := [.lit (.bool false)], args := [d] }
  | _ => none }
def TagParsesWrongFalsely : Prop := tagParsesRow.holds Tryd.pinned (OpenSpec.ofChange tagParsesWrong)

/-- 'turnpikelaw08.TagLists': WHATEVER THE INPUT: true; the input reads as it did. -/
def tagListsSpec : ChangeSpec := { name := "tagLists", fn := fun _ => fun
  | [d] => { results := [.lit (.bool true)], args := [d] }
  | _ => none }
def tagListsRow : OpenClaim := { program := "ytjalfddedikibaadoor", sum := "19199fa73deabdcb63d918462ff26eb3b7e8e741a38c30efccf4a862d1c308dc", func := "turnpike/turnpikelaw08.TagLists", spec := "tagLists", inPlace := ["internal/abi.NoEscape", "internal/bytealg.MakeNoZero", "internal/bytealg.IndexByteString", "internal/bytealg.IndexString"], unfollowed := true, recurses := true, named := ["unicode/utf8.first", "unicode/utf8.acceptRanges", "turnpike/stamp.weekdays", "turnpike/stamp.months", "internal/bytealg.MaxLen"], apart := false, laid := [("unicode/utf8.acceptRanges", laid_unicode_utf8_acceptRanges), ("turnpike/stamp.weekdays", laid_turnpike_stamp_weekdays), ("turnpike/stamp.months", laid_turnpike_stamp_months), ("unicode/utf8.first", laid_unicode_utf8_first)] }
def TagListsSaid : Prop := tagListsRow.holds Tryd.pinned (OpenSpec.ofChange tagListsSpec)

/-- ITS FALSE NEIGHBOUR: 'it returns false'. Refute it at one input. -/
def tagListsWrong : ChangeSpec := { name := "tagLists", fn := fun _ => fun
  | [d] => { results := [.lit (.bool false)], args := [d] }
  | _ => none }
def TagListsWrongFalsely : Prop := tagListsRow.holds Tryd.pinned (OpenSpec.ofChange tagListsWrong)

/-- 'turnpikelaw08.TagApart': WHATEVER THE INPUT: true; the input reads as it did. -/
def tagApartSpec : ChangeSpec := { name := "tagApart", fn := fun _ => fun
  | [d1, d2] => { results := [.lit (.bool true)], args := [d1, d2] }
  | _ => none }
def tagApartRow : OpenClaim := { program := "ytjalfddedikibaadoor", sum := "19199fa73deabdcb63d918462ff26eb3b7e8e741a38c30efccf4a862d1c308dc", func := "turnpike/turnpikelaw08.TagApart", spec := "tagApart", inPlace := ["internal/abi.NoEscape", "internal/bytealg.MakeNoZero", "internal/bytealg.IndexByteString", "internal/bytealg.IndexString"], unfollowed := true, recurses := true, named := ["unicode/utf8.first", "unicode/utf8.acceptRanges", "turnpike/stamp.weekdays", "turnpike/stamp.months", "internal/bytealg.MaxLen"], apart := false, laid := [("unicode/utf8.acceptRanges", laid_unicode_utf8_acceptRanges), ("turnpike/stamp.weekdays", laid_turnpike_stamp_weekdays), ("turnpike/stamp.months", laid_turnpike_stamp_months), ("unicode/utf8.first", laid_unicode_utf8_first)] }
def TagApartSaid : Prop := tagApartRow.holds Tryd.pinned (OpenSpec.ofChange tagApartSpec)

/-- ITS FALSE NEIGHBOUR: 'it returns false'. Refute it at one input. -/
def tagApartWrong : ChangeSpec := { name := "tagApart", fn := fun _ => fun
  | [d1, d2] => { results := [.lit (.bool false)], args := [d1, d2] }
  | _ => none }
def TagApartWrongFalsely : Prop := tagApartRow.holds Tryd.pinned (OpenSpec.ofChange tagApartWrong)

/-- 'turnpikelaw08.TagPrints': WHATEVER THE INPUT: true; the input reads as it did. -/
def tagPrintsSpec : ChangeSpec := { name := "tagPrints", fn := fun _ => fun
  | [d1, d2] => { results := [.lit (.bool true)], args := [d1, d2] }
  | _ => none }
def tagPrintsRow : OpenClaim := { program := "ytjalfddedikibaadoor", sum := "19199fa73deabdcb63d918462ff26eb3b7e8e741a38c30efccf4a862d1c308dc", func := "turnpike/turnpikelaw08.TagPrints", spec := "tagPrints", inPlace := ["internal/abi.NoEscape", "internal/bytealg.MakeNoZero", "internal/bytealg.IndexByteString", "internal/bytealg.IndexString"], unfollowed := true, recurses := true, named := ["unicode/utf8.first", "unicode/utf8.acceptRanges", "turnpike/stamp.weekdays", "turnpike/stamp.months", "internal/bytealg.MaxLen"], apart := false, laid := [("unicode/utf8.acceptRanges", laid_unicode_utf8_acceptRanges), ("turnpike/stamp.weekdays", laid_turnpike_stamp_weekdays), ("turnpike/stamp.months", laid_turnpike_stamp_months), ("unicode/utf8.first", laid_unicode_utf8_first)] }
def TagPrintsSaid : Prop := tagPrintsRow.holds Tryd.pinned (OpenSpec.ofChange tagPrintsSpec)

/-- ITS FALSE NEIGHBOUR: 'it returns false'. Refute it at one input. -/
def tagPrintsWrong : ChangeSpec := { name := "tagPrints", fn := fun _ => fun
  | [d1, d2] => { results := [.lit (.bool false)], args := [d1, d2] }
  | _ => none }
def TagPrintsWrongFalsely : Prop := tagPrintsRow.holds Tryd.pinned (OpenSpec.ofChange tagPrintsWrong)

/-- 'turnpikelaw08.TagBack': WHATEVER THE INPUT: true; the input reads as it did. -/
def tagBackSpec : ChangeSpec := { name := "tagBack", fn := fun _ => fun
  | [d1, d2] => { results := [.lit (.bool true)], args := [d1, d2] }
  | _ => none }
def tagBackRow : OpenClaim := { program := "ytjalfddedikibaadoor", sum := "19199fa73deabdcb63d918462ff26eb3b7e8e741a38c30efccf4a862d1c308dc", func := "turnpike/turnpikelaw08.TagBack", spec := "tagBack", inPlace := ["internal/abi.NoEscape", "internal/bytealg.MakeNoZero", "internal/bytealg.IndexByteString", "internal/bytealg.IndexString"], unfollowed := true, recurses := true, named := ["unicode/utf8.first", "unicode/utf8.acceptRanges", "turnpike/stamp.weekdays", "turnpike/stamp.months", "internal/bytealg.MaxLen"], apart := false, laid := [("unicode/utf8.acceptRanges", laid_unicode_utf8_acceptRanges), ("turnpike/stamp.weekdays", laid_turnpike_stamp_weekdays), ("turnpike/stamp.months", laid_turnpike_stamp_months), ("unicode/utf8.first", laid_unicode_utf8_first)] }
def TagBackSaid : Prop := tagBackRow.holds Tryd.pinned (OpenSpec.ofChange tagBackSpec)

/-- ITS FALSE NEIGHBOUR: 'it returns false'. Refute it at one input. -/
def tagBackWrong : ChangeSpec := { name := "tagBack", fn := fun _ => fun
  | [d1, d2] => { results := [.lit (.bool false)], args := [d1, d2] }
  | _ => none }
def TagBackWrongFalsely : Prop := tagBackRow.holds Tryd.pinned (OpenSpec.ofChange tagBackWrong)

/- THE SECOND FORM. 'bulk': how many values and letters a reading holds, each counted each time it is reached (what is shared counts as often as it is met; a slice's spare places count too). A statement '..UptoSaid' is the law's where the arguments, and the package variables that the reading takes, are together of bulk at most 1048576: NARROWER than '..Said'. Prove '..Said' where nothing that the law and all that it calls make is longer than what came in: it says more and counts as full. Else prove '..UptoSaid'. A law counts once. -/
mutual
def uptoBulk {H : Type} : DataW H → Nat
  | .lit (.string bytes) => bytes.length + 1
  | .lit _ => 1
  | .nil => 1
  | .ptr d => uptoBulk d + 1
  | .slice elems spare => uptoBulkAll elems + uptoBulkAll spare + 1
  | .agg parts => uptoBulkAll parts + 1
  | .iface _ d => uptoBulk d + 1
  | .map entries => uptoBulkEntries entries + 1
  | .held _ => 1
def uptoBulkAll {H : Type} : List (DataW H) → Nat
  | [] => 0
  | d :: r => uptoBulk d + uptoBulkAll r
def uptoBulkEntries {H : Type} : List (Lit × DataW H) → Nat
  | [] => 0
  | x :: r => uptoBulkEntry x + uptoBulkEntries r
def uptoBulkEntry {H : Type} : Lit × DataW H → Nat
  | (.string bytes, d) => bytes.length + uptoBulk d + 1
  | (_, d) => uptoBulk d + 1
 end
def uptoSmall : (H : Type) → List (DataW H) → Bool := fun _ ds => decide (uptoBulkAll ds ≤ 1048576)
def OpenSpec.upto (s : _root_.Go.ChangeSpec) : _root_.Go.OpenSpec := { _root_.Go.OpenSpec.ofChange s with cond := some uptoSmall }

/-- 'turnpikelaw08.TagParses', WHERE WHAT IT READS IS OF BULK AT MOST 1048576: true; the input reads as it did. -/
def tagParsesUptoRow : OpenClaim := { program := "ytjalfddedikibaadoor", sum := "19199fa73deabdcb63d918462ff26eb3b7e8e741a38c30efccf4a862d1c308dc", func := "turnpike/turnpikelaw08.TagParses", spec := "tagParses", inPlace := ["internal/abi.NoEscape", "internal/bytealg.MakeNoZero", "internal/bytealg.IndexByteString", "internal/bytealg.IndexString"], unfollowed := true, recurses := true, named := ["unicode/utf8.first", "unicode/utf8.acceptRanges", "turnpike/stamp.weekdays", "turnpike/stamp.months", "internal/bytealg.MaxLen"], apart := false, laid := [("unicode/utf8.acceptRanges", laid_unicode_utf8_acceptRanges), ("turnpike/stamp.weekdays", laid_turnpike_stamp_weekdays), ("turnpike/stamp.months", laid_turnpike_stamp_months), ("unicode/utf8.first", laid_unicode_utf8_first)], narrowed := true }
def TagParsesUptoSaid : Prop := tagParsesUptoRow.holds Tryd.pinned (OpenSpec.upto tagParsesSpec)

/-- 'turnpikelaw08.TagLists', WHERE WHAT IT READS IS OF BULK AT MOST 1048576: true; the input reads as it did. -/
def tagListsUptoRow : OpenClaim := { program := "ytjalfddedikibaadoor", sum := "19199fa73deabdcb63d918462ff26eb3b7e8e741a38c30efccf4a862d1c308dc", func := "turnpike/turnpikelaw08.TagLists", spec := "tagLists", inPlace := ["internal/abi.NoEscape", "internal/bytealg.MakeNoZero", "internal/bytealg.IndexByteString", "internal/bytealg.IndexString"], unfollowed := true, recurses := true, named := ["unicode/utf8.first", "unicode/utf8.acceptRanges", "turnpike/stamp.weekdays", "turnpike/stamp.months", "internal/bytealg.MaxLen"], apart := false, laid := [("unicode/utf8.acceptRanges", laid_unicode_utf8_acceptRanges), ("turnpike/stamp.weekdays", laid_turnpike_stamp_weekdays), ("turnpike/stamp.months", laid_turnpike_stamp_months), ("unicode/utf8.first", laid_unicode_utf8_first)], narrowed := true }
def TagListsUptoSaid : Prop := tagListsUptoRow.holds Tryd.pinned (OpenSpec.upto tagListsSpec)

/-- 'turnpikelaw08.TagApart', WHERE WHAT IT READS IS OF BULK AT MOST 1048576: true; the input reads as it did. -/
def tagApartUptoRow : OpenClaim := { program := "ytjalfddedikibaadoor", sum := "19199fa73deabdcb63d918462ff26eb3b7e8e741a38c30efccf4a862d1c308dc", func := "turnpike/turnpikelaw08.TagApart", spec := "tagApart", inPlace := ["internal/abi.NoEscape", "internal/bytealg.MakeNoZero", "internal/bytealg.IndexByteString", "internal/bytealg.IndexString"], unfollowed := true, recurses := true, named := ["unicode/utf8.first", "unicode/utf8.acceptRanges", "turnpike/stamp.weekdays", "turnpike/stamp.months", "internal/bytealg.MaxLen"], apart := false, laid := [("unicode/utf8.acceptRanges", laid_unicode_utf8_acceptRanges), ("turnpike/stamp.weekdays", laid_turnpike_stamp_weekdays), ("turnpike/stamp.months", laid_turnpike_stamp_months), ("unicode/utf8.first", laid_unicode_utf8_first)], narrowed := true }
def TagApartUptoSaid : Prop := tagApartUptoRow.holds Tryd.pinned (OpenSpec.upto tagApartSpec)

/-- 'turnpikelaw08.TagPrints', WHERE WHAT IT READS IS OF BULK AT MOST 1048576: true; the input reads as it did. -/
def tagPrintsUptoRow : OpenClaim := { program := "ytjalfddedikibaadoor", sum := "19199fa73deabdcb63d918462ff26eb3b7e8e741a38c30efccf4a862d1c308dc", func := "turnpike/turnpikelaw08.TagPrints", spec := "tagPrints", inPlace := ["internal/abi.NoEscape", "internal/bytealg.MakeNoZero", "internal/bytealg.IndexByteString", "internal/bytealg.IndexString"], unfollowed := true, recurses := true, named := ["unicode/utf8.first", "unicode/utf8.acceptRanges", "turnpike/stamp.weekdays", "turnpike/stamp.months", "internal/bytealg.MaxLen"], apart := false, laid := [("unicode/utf8.acceptRanges", laid_unicode_utf8_acceptRanges), ("turnpike/stamp.weekdays", laid_turnpike_stamp_weekdays), ("turnpike/stamp.months", laid_turnpike_stamp_months), ("unicode/utf8.first", laid_unicode_utf8_first)], narrowed := true }
def TagPrintsUptoSaid : Prop := tagPrintsUptoRow.holds Tryd.pinned (OpenSpec.upto tagPrintsSpec)

/-- 'turnpikelaw08.TagBack', WHERE WHAT IT READS IS OF BULK AT MOST 1048576: true; the input reads as it did. -/
def tagBackUptoRow : OpenClaim := { program := "ytjalfddedikibaadoor", sum := "19199fa73deabdcb63d918462ff26eb3b7e8e741a38c30efccf4a862d1c308dc", func := "turnpike/turnpikelaw08.TagBack", spec := "tagBack", inPlace := ["internal/abi.NoEscape", "internal/bytealg.MakeNoZero", "internal/bytealg.IndexByteString", "internal/bytealg.IndexString"], unfollowed := true, recurses := true, named := ["unicode/utf8.first", "unicode/utf8.acceptRanges", "turnpike/stamp.weekdays", "turnpike/stamp.months", "internal/bytealg.MaxLen"], apart := false, laid := [("unicode/utf8.acceptRanges", laid_unicode_utf8_acceptRanges), ("turnpike/stamp.weekdays", laid_turnpike_stamp_weekdays), ("turnpike/stamp.months", laid_turnpike_stamp_months), ("unicode/utf8.first", laid_unicode_utf8_first)], narrowed := true }
def TagBackUptoSaid : Prop := tagBackUptoRow.holds Tryd.pinned (OpenSpec.upto tagBackSpec)

end Rows
end Go.Proofs.YtjalfddedikibaaDoor
