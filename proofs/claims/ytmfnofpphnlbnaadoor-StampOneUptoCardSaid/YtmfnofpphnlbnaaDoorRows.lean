/-
  NARROWER THAN 'FOR EVERY INPUT', by the rows' own cells (each row's printed sentence says how): StampCalendar: laid · StampSplits: laid · StampWrites: laid · StampParses: laid · StampDays: laid · StampCycle: laid · StampOrder: laid · StampOne: laid · StampJoins: laid · StampBack: laid.
  DERIVED. THE GIVEN ROWS OF THIS SEAT. 10 by the template 'for every input the law returns true; each argument reads behind the call as it read before'; 0 by the template 'total and deterministic' (their statements: YtmfnofpphnlbnaaDoorTotals.lean).
  GIVEN WITH THE SEED: the statements are not yours to turn. If you find one false, say at which input.
  Laid BY PROGRAM, IN A SANDBOX (cutbox-rows.mjs): the forced cells as the released guide's own fill.sh prints them over the translation 80128087deab892a… (all of the seat's roots in one cut). By AI agents, Wed Nov 11 2026. No macro, syntax, notation, axiom, sorry.
-/
import Derived.Test.YtmfnofpphnlbnaaDoorChecked
import GoSem.Claim
import GoSem.ClaimJoined
import GoSem.ClaimMapViews
import Derived.JoinedTies
import Derived.KernelRfl
namespace Go.Proofs.YtmfnofpphnlbnaaDoor
/- THE CELL 'sum', in the pinned program and in every row, IS THE sha256 OF THE DUMP (.gsa) THAT YtmfnofpphnlbnaaDoorProg.lean LOADS. Nothing in Lean hashes anything: it is a label: what it is worth is what the hold of that sum in a sandbox is worth. -/
noncomputable def Tryd.pinned : Pinned := { name := "ytmfnofpphnlbnaadoor", sum := "80128087deab892a64edebd9db53b3f3d9d2557c5ea59e0381b42b397922f4ab", checked := Tryd.checked }
namespace Rows
def none {H : Type} : Left H := { results := [], args := [] }

/- WHAT THE LISTED PACKAGE-LEVEL VARIABLES READ AS WHEN THE CALL BEGINS. Each datum BY PROGRAM (the guide's laid-datum.mjs) off the statement by which the dump's own 'gosem.cut.vars' lays the variable. In a bare row this is a premise. The card (YtmfnofpphnlbnaaDoorCards.lean) ties it to the program's text. -/
def laid_math_bits_deBruijn32tab {H : Type} : DataW H := .agg [.lit (.int .u8 0), .lit (.int .u8 1), .lit (.int .u8 28), .lit (.int .u8 2), .lit (.int .u8 29), .lit (.int .u8 14), .lit (.int .u8 24), .lit (.int .u8 3), .lit (.int .u8 30), .lit (.int .u8 22), .lit (.int .u8 20), .lit (.int .u8 15), .lit (.int .u8 25), .lit (.int .u8 17), .lit (.int .u8 4), .lit (.int .u8 8), .lit (.int .u8 31), .lit (.int .u8 27), .lit (.int .u8 13), .lit (.int .u8 23), .lit (.int .u8 21), .lit (.int .u8 19), .lit (.int .u8 16), .lit (.int .u8 7), .lit (.int .u8 26), .lit (.int .u8 12), .lit (.int .u8 18), .lit (.int .u8 6), .lit (.int .u8 11), .lit (.int .u8 5), .lit (.int .u8 10), .lit (.int .u8 9)]
def laid_math_bits_deBruijn64tab {H : Type} : DataW H := .agg [.lit (.int .u8 0), .lit (.int .u8 1), .lit (.int .u8 56), .lit (.int .u8 2), .lit (.int .u8 57), .lit (.int .u8 49), .lit (.int .u8 28), .lit (.int .u8 3), .lit (.int .u8 61), .lit (.int .u8 58), .lit (.int .u8 42), .lit (.int .u8 50), .lit (.int .u8 38), .lit (.int .u8 29), .lit (.int .u8 17), .lit (.int .u8 4), .lit (.int .u8 62), .lit (.int .u8 47), .lit (.int .u8 59), .lit (.int .u8 36), .lit (.int .u8 45), .lit (.int .u8 43), .lit (.int .u8 51), .lit (.int .u8 22), .lit (.int .u8 53), .lit (.int .u8 39), .lit (.int .u8 33), .lit (.int .u8 30), .lit (.int .u8 24), .lit (.int .u8 18), .lit (.int .u8 12), .lit (.int .u8 5), .lit (.int .u8 63), .lit (.int .u8 55), .lit (.int .u8 48), .lit (.int .u8 27), .lit (.int .u8 60), .lit (.int .u8 41), .lit (.int .u8 37), .lit (.int .u8 16), .lit (.int .u8 46), .lit (.int .u8 35), .lit (.int .u8 44), .lit (.int .u8 21), .lit (.int .u8 52), .lit (.int .u8 32), .lit (.int .u8 23), .lit (.int .u8 11), .lit (.int .u8 54), .lit (.int .u8 26), .lit (.int .u8 40), .lit (.int .u8 15), .lit (.int .u8 34), .lit (.int .u8 20), .lit (.int .u8 31), .lit (.int .u8 10), .lit (.int .u8 25), .lit (.int .u8 14), .lit (.int .u8 19), .lit (.int .u8 9), .lit (.int .u8 13), .lit (.int .u8 8), .lit (.int .u8 7), .lit (.int .u8 6)]
def laid_internal_strconv_uint64pow10 {H : Type} : DataW H := .agg [.lit (.int .u64 1), .lit (.int .u64 10), .lit (.int .u64 100), .lit (.int .u64 1000), .lit (.int .u64 10000), .lit (.int .u64 100000), .lit (.int .u64 1000000), .lit (.int .u64 10000000), .lit (.int .u64 100000000), .lit (.int .u64 1000000000), .lit (.int .u64 10000000000), .lit (.int .u64 100000000000), .lit (.int .u64 1000000000000), .lit (.int .u64 10000000000000), .lit (.int .u64 100000000000000), .lit (.int .u64 1000000000000000), .lit (.int .u64 10000000000000000), .lit (.int .u64 100000000000000000), .lit (.int .u64 1000000000000000000), .lit (.int .u64 10000000000000000000)]
def laid_turnpike_stamp_weekdays {H : Type} : DataW H := .agg [.lit (.string [77, 111, 110, 100, 97, 121]), .lit (.string [84, 117, 101, 115, 100, 97, 121]), .lit (.string [87, 101, 100, 110, 101, 115, 100, 97, 121]), .lit (.string [84, 104, 117, 114, 115, 100, 97, 121]), .lit (.string [70, 114, 105, 100, 97, 121]), .lit (.string [83, 97, 116, 117, 114, 100, 97, 121]), .lit (.string [83, 117, 110, 100, 97, 121])]
def laid_turnpike_stamp_months {H : Type} : DataW H := .agg [.lit (.string [74, 97, 110]), .lit (.string [70, 101, 98]), .lit (.string [77, 97, 114]), .lit (.string [65, 112, 114]), .lit (.string [77, 97, 121]), .lit (.string [74, 117, 110]), .lit (.string [74, 117, 108]), .lit (.string [65, 117, 103]), .lit (.string [83, 101, 112]), .lit (.string [79, 99, 116]), .lit (.string [78, 111, 118]), .lit (.string [68, 101, 99])]

/-- 'turnpikelaw04.StampCalendar': WHATEVER THE INPUT: true; the input reads as it did. -/
def stampCalendarSpec : ChangeSpec := { name := "stampCalendar", fn := fun _ => fun
  | [d1, d2, d3] => { results := [.lit (.bool true)], args := [d1, d2, d3] }
  | _ => none }
def stampCalendarRow : OpenClaim := { program := "ytmfnofpphnlbnaadoor", sum := "80128087deab892a64edebd9db53b3f3d9d2557c5ea59e0381b42b397922f4ab", func := "turnpike/turnpikelaw04.StampCalendar", spec := "stampCalendar", inPlace := ["internal/abi.NoEscape", "internal/bytealg.MakeNoZero"], unfollowed := true, recurses := true, named := ["turnpike/stamp.weekdays", "turnpike/stamp.months", "internal/strconv.uint64pow10", "math/bits.deBruijn32tab", "math/bits.deBruijn64tab"], apart := false, laid := [("math/bits.deBruijn32tab", laid_math_bits_deBruijn32tab), ("math/bits.deBruijn64tab", laid_math_bits_deBruijn64tab), ("internal/strconv.uint64pow10", laid_internal_strconv_uint64pow10), ("turnpike/stamp.weekdays", laid_turnpike_stamp_weekdays), ("turnpike/stamp.months", laid_turnpike_stamp_months)] }
def StampCalendarSaid : Prop := stampCalendarRow.holds Tryd.pinned (OpenSpec.ofChange stampCalendarSpec)

/-- ITS FALSE NEIGHBOUR: 'it returns false'. Refute it at one input. -/
def stampCalendarWrong : ChangeSpec := { name := "stampCalendar", fn := fun _ => fun
  | [d1, d2, d3] => { results := [.lit (.bool false)], args := [d1, d2, d3] }
  | _ => none }
def StampCalendarWrongFalsely : Prop := stampCalendarRow.holds Tryd.pinned (OpenSpec.ofChange stampCalendarWrong)

/-- 'turnpikelaw04.StampSplits': WHATEVER THE INPUT: true; the input reads as it did. -/
def stampSplitsSpec : ChangeSpec := { name := "stampSplits", fn := fun _ => fun
  | [d] => { results := [.lit (.bool true)], args := [d] }
  | _ => none }
def stampSplitsRow : OpenClaim := { program := "ytmfnofpphnlbnaadoor", sum := "80128087deab892a64edebd9db53b3f3d9d2557c5ea59e0381b42b397922f4ab", func := "turnpike/turnpikelaw04.StampSplits", spec := "stampSplits", inPlace := ["internal/abi.NoEscape", "internal/bytealg.MakeNoZero"], unfollowed := true, recurses := true, named := ["turnpike/stamp.weekdays", "turnpike/stamp.months", "internal/strconv.uint64pow10", "math/bits.deBruijn32tab", "math/bits.deBruijn64tab"], apart := false, laid := [("math/bits.deBruijn32tab", laid_math_bits_deBruijn32tab), ("math/bits.deBruijn64tab", laid_math_bits_deBruijn64tab), ("internal/strconv.uint64pow10", laid_internal_strconv_uint64pow10), ("turnpike/stamp.weekdays", laid_turnpike_stamp_weekdays), ("turnpike/stamp.months", laid_turnpike_stamp_months)] }
def StampSplitsSaid : Prop := stampSplitsRow.holds Tryd.pinned (OpenSpec.ofChange stampSplitsSpec)

/-- ITS FALSE NEIGHBOUR: 'it returns false'. Refute it at one input. -/
def stampSplitsWrong : ChangeSpec := { name := "stampSplits", fn := fun _ => fun
  | [d] => { results := [.lit (.bool false)], args := [d] }
  | _ => none }
def StampSplitsWrongFalsely : Prop := stampSplitsRow.holds Tryd.pinned (OpenSpec.ofChange stampSplitsWrong)

/-- 'turnpikelaw04.StampWrites': WHATEVER THE INPUT: true; the input reads as it did. -/
def stampWritesSpec : ChangeSpec := { name := "stampWrites", fn := fun _ => fun
  | [d1, d2] => { results := [.lit (.bool true)], args := [d1, d2] }
  | _ => none }
def stampWritesRow : OpenClaim := { program := "ytmfnofpphnlbnaadoor", sum := "80128087deab892a64edebd9db53b3f3d9d2557c5ea59e0381b42b397922f4ab", func := "turnpike/turnpikelaw04.StampWrites", spec := "stampWrites", inPlace := ["internal/abi.NoEscape", "internal/bytealg.MakeNoZero"], unfollowed := true, recurses := true, named := ["turnpike/stamp.weekdays", "turnpike/stamp.months", "internal/strconv.uint64pow10", "math/bits.deBruijn32tab", "math/bits.deBruijn64tab"], apart := false, laid := [("math/bits.deBruijn32tab", laid_math_bits_deBruijn32tab), ("math/bits.deBruijn64tab", laid_math_bits_deBruijn64tab), ("internal/strconv.uint64pow10", laid_internal_strconv_uint64pow10), ("turnpike/stamp.weekdays", laid_turnpike_stamp_weekdays), ("turnpike/stamp.months", laid_turnpike_stamp_months)] }
def StampWritesSaid : Prop := stampWritesRow.holds Tryd.pinned (OpenSpec.ofChange stampWritesSpec)

/-- ITS FALSE NEIGHBOUR: 'it returns false'. Refute it at one input. -/
def stampWritesWrong : ChangeSpec := { name := "stampWrites", fn := fun _ => fun
  | [d1, d2] => { results := [.lit (.bool false)], args := [d1, d2] }
  | _ => none }
def StampWritesWrongFalsely : Prop := stampWritesRow.holds Tryd.pinned (OpenSpec.ofChange stampWritesWrong)

/-- 'turnpikelaw04.StampParses': WHATEVER THE INPUT: true; the input reads as it did. -/
def stampParsesSpec : ChangeSpec := { name := "stampParses", fn := fun _ => fun
  | [d1, d2] => { results := [.lit (.bool true)], args := [d1, d2] }
  | _ => none }
def stampParsesRow : OpenClaim := { program := "ytmfnofpphnlbnaadoor", sum := "80128087deab892a64edebd9db53b3f3d9d2557c5ea59e0381b42b397922f4ab", func := "turnpike/turnpikelaw04.StampParses", spec := "stampParses", inPlace := ["internal/abi.NoEscape", "internal/bytealg.MakeNoZero"], unfollowed := true, recurses := true, named := ["turnpike/stamp.weekdays", "turnpike/stamp.months", "internal/strconv.uint64pow10", "math/bits.deBruijn32tab", "math/bits.deBruijn64tab"], apart := false, laid := [("math/bits.deBruijn32tab", laid_math_bits_deBruijn32tab), ("math/bits.deBruijn64tab", laid_math_bits_deBruijn64tab), ("internal/strconv.uint64pow10", laid_internal_strconv_uint64pow10), ("turnpike/stamp.weekdays", laid_turnpike_stamp_weekdays), ("turnpike/stamp.months", laid_turnpike_stamp_months)] }
def StampParsesSaid : Prop := stampParsesRow.holds Tryd.pinned (OpenSpec.ofChange stampParsesSpec)

/-- ITS FALSE NEIGHBOUR: 'it returns false'. Refute it at one input. -/
def stampParsesWrong : ChangeSpec := { name := "stampParses", fn := fun _ => fun
  | [d1, d2] => { results := [.lit (.bool false)], args := [d1, d2] }
  | _ => none }
def StampParsesWrongFalsely : Prop := stampParsesRow.holds Tryd.pinned (OpenSpec.ofChange stampParsesWrong)

/-- 'turnpikelaw04.StampDays': WHATEVER THE INPUT: true; the input reads as it did. -/
def stampDaysSpec : ChangeSpec := { name := "stampDays", fn := fun _ => fun
  | [d1, d2, d3] => { results := [.lit (.bool true)], args := [d1, d2, d3] }
  | _ => none }
def stampDaysRow : OpenClaim := { program := "ytmfnofpphnlbnaadoor", sum := "80128087deab892a64edebd9db53b3f3d9d2557c5ea59e0381b42b397922f4ab", func := "turnpike/turnpikelaw04.StampDays", spec := "stampDays", inPlace := ["internal/abi.NoEscape", "internal/bytealg.MakeNoZero"], unfollowed := true, recurses := true, named := ["turnpike/stamp.weekdays", "turnpike/stamp.months", "internal/strconv.uint64pow10", "math/bits.deBruijn32tab", "math/bits.deBruijn64tab"], apart := false, laid := [("math/bits.deBruijn32tab", laid_math_bits_deBruijn32tab), ("math/bits.deBruijn64tab", laid_math_bits_deBruijn64tab), ("internal/strconv.uint64pow10", laid_internal_strconv_uint64pow10), ("turnpike/stamp.weekdays", laid_turnpike_stamp_weekdays), ("turnpike/stamp.months", laid_turnpike_stamp_months)] }
def StampDaysSaid : Prop := stampDaysRow.holds Tryd.pinned (OpenSpec.ofChange stampDaysSpec)

/-- ITS FALSE NEIGHBOUR: 'it returns false'. Refute it at one input. -/
def stampDaysWrong : ChangeSpec := { name := "stampDays", fn := fun _ => fun
  | [d1, d2, d3] => { results := [.lit (.bool false)], args := [d1, d2, d3] }
  | _ => none }
def StampDaysWrongFalsely : Prop := stampDaysRow.holds Tryd.pinned (OpenSpec.ofChange stampDaysWrong)

/-- 'turnpikelaw04.StampCycle': WHATEVER THE INPUT: true; the input reads as it did. -/
def stampCycleSpec : ChangeSpec := { name := "stampCycle", fn := fun _ => fun
  | [d] => { results := [.lit (.bool true)], args := [d] }
  | _ => none }
def stampCycleRow : OpenClaim := { program := "ytmfnofpphnlbnaadoor", sum := "80128087deab892a64edebd9db53b3f3d9d2557c5ea59e0381b42b397922f4ab", func := "turnpike/turnpikelaw04.StampCycle", spec := "stampCycle", inPlace := ["internal/abi.NoEscape", "internal/bytealg.MakeNoZero"], unfollowed := true, recurses := true, named := ["turnpike/stamp.weekdays", "turnpike/stamp.months", "internal/strconv.uint64pow10", "math/bits.deBruijn32tab", "math/bits.deBruijn64tab"], apart := false, laid := [("math/bits.deBruijn32tab", laid_math_bits_deBruijn32tab), ("math/bits.deBruijn64tab", laid_math_bits_deBruijn64tab), ("internal/strconv.uint64pow10", laid_internal_strconv_uint64pow10), ("turnpike/stamp.weekdays", laid_turnpike_stamp_weekdays), ("turnpike/stamp.months", laid_turnpike_stamp_months)] }
def StampCycleSaid : Prop := stampCycleRow.holds Tryd.pinned (OpenSpec.ofChange stampCycleSpec)

/-- ITS FALSE NEIGHBOUR: 'it returns false'. Refute it at one input. -/
def stampCycleWrong : ChangeSpec := { name := "stampCycle", fn := fun _ => fun
  | [d] => { results := [.lit (.bool false)], args := [d] }
  | _ => none }
def StampCycleWrongFalsely : Prop := stampCycleRow.holds Tryd.pinned (OpenSpec.ofChange stampCycleWrong)

/-- 'turnpikelaw04.StampOrder': WHATEVER THE INPUT: true; the input reads as it did. -/
def stampOrderSpec : ChangeSpec := { name := "stampOrder", fn := fun _ => fun
  | [d1, d2] => { results := [.lit (.bool true)], args := [d1, d2] }
  | _ => none }
def stampOrderRow : OpenClaim := { program := "ytmfnofpphnlbnaadoor", sum := "80128087deab892a64edebd9db53b3f3d9d2557c5ea59e0381b42b397922f4ab", func := "turnpike/turnpikelaw04.StampOrder", spec := "stampOrder", inPlace := ["internal/abi.NoEscape", "internal/bytealg.MakeNoZero"], unfollowed := true, recurses := true, named := ["turnpike/stamp.weekdays", "turnpike/stamp.months", "internal/strconv.uint64pow10", "math/bits.deBruijn32tab", "math/bits.deBruijn64tab"], apart := false, laid := [("math/bits.deBruijn32tab", laid_math_bits_deBruijn32tab), ("math/bits.deBruijn64tab", laid_math_bits_deBruijn64tab), ("internal/strconv.uint64pow10", laid_internal_strconv_uint64pow10), ("turnpike/stamp.weekdays", laid_turnpike_stamp_weekdays), ("turnpike/stamp.months", laid_turnpike_stamp_months)] }
def StampOrderSaid : Prop := stampOrderRow.holds Tryd.pinned (OpenSpec.ofChange stampOrderSpec)

/-- ITS FALSE NEIGHBOUR: 'it returns false'. Refute it at one input. -/
def stampOrderWrong : ChangeSpec := { name := "stampOrder", fn := fun _ => fun
  | [d1, d2] => { results := [.lit (.bool false)], args := [d1, d2] }
  | _ => none }
def StampOrderWrongFalsely : Prop := stampOrderRow.holds Tryd.pinned (OpenSpec.ofChange stampOrderWrong)

/-- 'turnpikelaw04.StampOne': WHATEVER THE INPUT: true; the input reads as it did. -/
def stampOneSpec : ChangeSpec := { name := "stampOne", fn := fun _ => fun
  | [d1, d2, d3] => { results := [.lit (.bool true)], args := [d1, d2, d3] }
  | _ => none }
def stampOneRow : OpenClaim := { program := "ytmfnofpphnlbnaadoor", sum := "80128087deab892a64edebd9db53b3f3d9d2557c5ea59e0381b42b397922f4ab", func := "turnpike/turnpikelaw04.StampOne", spec := "stampOne", inPlace := ["internal/abi.NoEscape", "internal/bytealg.MakeNoZero"], unfollowed := true, recurses := true, named := ["turnpike/stamp.weekdays", "turnpike/stamp.months", "internal/strconv.uint64pow10", "math/bits.deBruijn32tab", "math/bits.deBruijn64tab"], apart := false, laid := [("math/bits.deBruijn32tab", laid_math_bits_deBruijn32tab), ("math/bits.deBruijn64tab", laid_math_bits_deBruijn64tab), ("internal/strconv.uint64pow10", laid_internal_strconv_uint64pow10), ("turnpike/stamp.weekdays", laid_turnpike_stamp_weekdays), ("turnpike/stamp.months", laid_turnpike_stamp_months)] }
def StampOneSaid : Prop := stampOneRow.holds Tryd.pinned (OpenSpec.ofChange stampOneSpec)

/-- ITS FALSE NEIGHBOUR: 'it returns false'. Refute it at one input. -/
def stampOneWrong : ChangeSpec := { name := "stampOne", fn := fun _ => fun
  | [d1, d2, d3] => { results := [.lit (.bool false)], args := [d1, d2, d3] }
  | _ => none }
def StampOneWrongFalsely : Prop := stampOneRow.holds Tryd.pinned (OpenSpec.ofChange stampOneWrong)

/-- 'turnpikelaw04.StampJoins': WHATEVER THE INPUT: true; the input reads as it did. -/
def stampJoinsSpec : ChangeSpec := { name := "stampJoins", fn := fun _ => fun
  | [d] => { results := [.lit (.bool true)], args := [d] }
  | _ => none }
def stampJoinsRow : OpenClaim := { program := "ytmfnofpphnlbnaadoor", sum := "80128087deab892a64edebd9db53b3f3d9d2557c5ea59e0381b42b397922f4ab", func := "turnpike/turnpikelaw04.StampJoins", spec := "stampJoins", inPlace := ["internal/abi.NoEscape", "internal/bytealg.MakeNoZero"], unfollowed := true, recurses := true, named := ["turnpike/stamp.weekdays", "turnpike/stamp.months", "internal/strconv.uint64pow10", "math/bits.deBruijn32tab", "math/bits.deBruijn64tab"], apart := false, laid := [("math/bits.deBruijn32tab", laid_math_bits_deBruijn32tab), ("math/bits.deBruijn64tab", laid_math_bits_deBruijn64tab), ("internal/strconv.uint64pow10", laid_internal_strconv_uint64pow10), ("turnpike/stamp.weekdays", laid_turnpike_stamp_weekdays), ("turnpike/stamp.months", laid_turnpike_stamp_months)] }
def StampJoinsSaid : Prop := stampJoinsRow.holds Tryd.pinned (OpenSpec.ofChange stampJoinsSpec)

/-- ITS FALSE NEIGHBOUR: 'it returns false'. Refute it at one input. -/
def stampJoinsWrong : ChangeSpec := { name := "stampJoins", fn := fun _ => fun
  | [d] => { results := [.lit (.bool false)], args := [d] }
  | _ => none }
def StampJoinsWrongFalsely : Prop := stampJoinsRow.holds Tryd.pinned (OpenSpec.ofChange stampJoinsWrong)

/-- 'turnpikelaw04.StampBack': WHATEVER THE INPUT: true; the input reads as it did. -/
def stampBackSpec : ChangeSpec := { name := "stampBack", fn := fun _ => fun
  | [d1, d2, d3] => { results := [.lit (.bool true)], args := [d1, d2, d3] }
  | _ => none }
def stampBackRow : OpenClaim := { program := "ytmfnofpphnlbnaadoor", sum := "80128087deab892a64edebd9db53b3f3d9d2557c5ea59e0381b42b397922f4ab", func := "turnpike/turnpikelaw04.StampBack", spec := "stampBack", inPlace := ["internal/abi.NoEscape", "internal/bytealg.MakeNoZero"], unfollowed := true, recurses := true, named := ["turnpike/stamp.weekdays", "turnpike/stamp.months", "internal/strconv.uint64pow10", "math/bits.deBruijn32tab", "math/bits.deBruijn64tab"], apart := false, laid := [("math/bits.deBruijn32tab", laid_math_bits_deBruijn32tab), ("math/bits.deBruijn64tab", laid_math_bits_deBruijn64tab), ("internal/strconv.uint64pow10", laid_internal_strconv_uint64pow10), ("turnpike/stamp.weekdays", laid_turnpike_stamp_weekdays), ("turnpike/stamp.months", laid_turnpike_stamp_months)] }
def StampBackSaid : Prop := stampBackRow.holds Tryd.pinned (OpenSpec.ofChange stampBackSpec)

/-- ITS FALSE NEIGHBOUR: 'it returns false'. Refute it at one input. -/
def stampBackWrong : ChangeSpec := { name := "stampBack", fn := fun _ => fun
  | [d1, d2, d3] => { results := [.lit (.bool false)], args := [d1, d2, d3] }
  | _ => none }
def StampBackWrongFalsely : Prop := stampBackRow.holds Tryd.pinned (OpenSpec.ofChange stampBackWrong)

/- THE SECOND FORM. 'bulk': how many values and letters a reading holds, each counted each time it is reached (what is shared counts as often as it is met; a slice's spare places count too). A statement '..UptoSaid' is the law's where the arguments, and the package variables that the reading takes, are together of bulk at most 1048576: NARROWER than '..Said'. Prove '..Said' where nothing that the law and all that it calls make is longer than what came in: it says more and counts as full. Else prove '..UptoSaid'. A law counts once. -/
mutual
def uptoBulk {H : Type} : DataW H → Nat
  | .lit (.string bytes) => bytes.length + 1
  | .lit _ => 1
  | .nil => 1
  | .ptr d => uptoBulk d + 1
  | .slice elems spare => uptoBulkAll elems + uptoBulkAll spare + 1
  | .agg parts => uptoBulkAll parts + 1
  | .iface _ d => uptoBulk d + 1
  | .map entries => uptoBulkEntries entries + 1
  | .held _ => 1
def uptoBulkAll {H : Type} : List (DataW H) → Nat
  | [] => 0
  | d :: r => uptoBulk d + uptoBulkAll r
def uptoBulkEntries {H : Type} : List (Lit × DataW H) → Nat
  | [] => 0
  | x :: r => uptoBulkEntry x + uptoBulkEntries r
def uptoBulkEntry {H : Type} : Lit × DataW H → Nat
  | (.string bytes, d) => bytes.length + uptoBulk d + 1
  | (_, d) => uptoBulk d + 1
 end
def uptoSmall : (H : Type) → List (DataW H) → Bool := fun _ ds => decide (uptoBulkAll ds ≤ 1048576)
def OpenSpec.upto (s : _root_.Go.ChangeSpec) : _root_.Go.OpenSpec := { _root_.Go.OpenSpec.ofChange s with cond := some uptoSmall }

/-- 'turnpikelaw04.StampCalendar', WHERE WHAT IT READS IS OF BULK AT MOST 1048576: true; the input reads as it did. -/
def stampCalendarUptoRow : OpenClaim := { program := "ytmfnofpphnlbnaadoor", sum := "80128087deab892a64edebd9db53b3f3d9d2557c5ea59e0381b42b397922f4ab", func := "turnpike/turnpikelaw04.StampCalendar", spec := "stampCalendar", inPlace := ["internal/abi.NoEscape", "internal/bytealg.MakeNoZero"], unfollowed := true, recurses := true, named := ["turnpike/stamp.weekdays", "turnpike/stamp.months", "internal/strconv.uint64pow10", "math/bits.deBruijn32tab", "math/bits.deBruijn64tab"], apart := false, laid := [("math/bits.deBruijn32tab", laid_math_bits_deBruijn32tab), ("math/bits.deBruijn64tab", laid_math_bits_deBruijn64tab), ("internal/strconv.uint64pow10", laid_internal_strconv_uint64pow10), ("turnpike/stamp.weekdays", laid_turnpike_stamp_weekdays), ("turnpike/stamp.months", laid_turnpike_stamp_months)], narrowed := true }
def StampCalendarUptoSaid : Prop := stampCalendarUptoRow.holds Tryd.pinned (OpenSpec.upto stampCalendarSpec)

/-- 'turnpikelaw04.StampSplits', WHERE WHAT IT READS IS OF BULK AT MOST 1048576: true; the input reads as it did. -/
def stampSplitsUptoRow : OpenClaim := { program := "ytmfnofpphnlbnaadoor", sum := "80128087deab892a64edebd9db53b3f3d9d2557c5ea59e0381b42b397922f4ab", func := "turnpike/turnpikelaw04.StampSplits", spec := "stampSplits", inPlace := ["internal/abi.NoEscape", "internal/bytealg.MakeNoZero"], unfollowed := true, recurses := true, named := ["turnpike/stamp.weekdays", "turnpike/stamp.months", "internal/strconv.uint64pow10", "math/bits.deBruijn32tab", "math/bits.deBruijn64tab"], apart := false, laid := [("math/bits.deBruijn32tab", laid_math_bits_deBruijn32tab), ("math/bits.deBruijn64tab", laid_math_bits_deBruijn64tab), ("internal/strconv.uint64pow10", laid_internal_strconv_uint64pow10), ("turnpike/stamp.weekdays", laid_turnpike_stamp_weekdays), ("turnpike/stamp.months", laid_turnpike_stamp_months)], narrowed := true }
def StampSplitsUptoSaid : Prop := stampSplitsUptoRow.holds Tryd.pinned (OpenSpec.upto stampSplitsSpec)

/-- 'turnpikelaw04.StampWrites', WHERE WHAT IT READS IS OF BULK AT MOST 1048576: true; the input reads as it did. -/
def stampWritesUptoRow : OpenClaim := { program := "ytmfnofpphnlbnaadoor", sum := "80128087deab892a64edebd9db53b3f3d9d2557c5ea59e0381b42b397922f4ab", func := "turnpike/turnpikelaw04.StampWrites", spec := "stampWrites", inPlace := ["internal/abi.NoEscape", "internal/bytealg.MakeNoZero"], unfollowed := true, recurses := true, named := ["turnpike/stamp.weekdays", "turnpike/stamp.months", "internal/strconv.uint64pow10", "math/bits.deBruijn32tab", "math/bits.deBruijn64tab"], apart := false, laid := [("math/bits.deBruijn32tab", laid_math_bits_deBruijn32tab), ("math/bits.deBruijn64tab", laid_math_bits_deBruijn64tab), ("internal/strconv.uint64pow10", laid_internal_strconv_uint64pow10), ("turnpike/stamp.weekdays", laid_turnpike_stamp_weekdays), ("turnpike/stamp.months", laid_turnpike_stamp_months)], narrowed := true }
def StampWritesUptoSaid : Prop := stampWritesUptoRow.holds Tryd.pinned (OpenSpec.upto stampWritesSpec)

/-- 'turnpikelaw04.StampParses', WHERE WHAT IT READS IS OF BULK AT MOST 1048576: true; the input reads as it did. -/
def stampParsesUptoRow : OpenClaim := { program := "ytmfnofpphnlbnaadoor", sum := "80128087deab892a64edebd9db53b3f3d9d2557c5ea59e0381b42b397922f4ab", func := "turnpike/turnpikelaw04.StampParses", spec := "stampParses", inPlace := ["internal/abi.NoEscape", "internal/bytealg.MakeNoZero"], unfollowed := true, recurses := true, named := ["turnpike/stamp.weekdays", "turnpike/stamp.months", "internal/strconv.uint64pow10", "math/bits.deBruijn32tab", "math/bits.deBruijn64tab"], apart := false, laid := [("math/bits.deBruijn32tab", laid_math_bits_deBruijn32tab), ("math/bits.deBruijn64tab", laid_math_bits_deBruijn64tab), ("internal/strconv.uint64pow10", laid_internal_strconv_uint64pow10), ("turnpike/stamp.weekdays", laid_turnpike_stamp_weekdays), ("turnpike/stamp.months", laid_turnpike_stamp_months)], narrowed := true }
def StampParsesUptoSaid : Prop := stampParsesUptoRow.holds Tryd.pinned (OpenSpec.upto stampParsesSpec)

/-- 'turnpikelaw04.StampDays', WHERE WHAT IT READS IS OF BULK AT MOST 1048576: true; the input reads as it did. -/
def stampDaysUptoRow : OpenClaim := { program := "ytmfnofpphnlbnaadoor", sum := "80128087deab892a64edebd9db53b3f3d9d2557c5ea59e0381b42b397922f4ab", func := "turnpike/turnpikelaw04.StampDays", spec := "stampDays", inPlace := ["internal/abi.NoEscape", "internal/bytealg.MakeNoZero"], unfollowed := true, recurses := true, named := ["turnpike/stamp.weekdays", "turnpike/stamp.months", "internal/strconv.uint64pow10", "math/bits.deBruijn32tab", "math/bits.deBruijn64tab"], apart := false, laid := [("math/bits.deBruijn32tab", laid_math_bits_deBruijn32tab), ("math/bits.deBruijn64tab", laid_math_bits_deBruijn64tab), ("internal/strconv.uint64pow10", laid_internal_strconv_uint64pow10), ("turnpike/stamp.weekdays", laid_turnpike_stamp_weekdays), ("turnpike/stamp.months", laid_turnpike_stamp_months)], narrowed := true }
def StampDaysUptoSaid : Prop := stampDaysUptoRow.holds Tryd.pinned (OpenSpec.upto stampDaysSpec)

/-- 'turnpikelaw04.StampCycle', WHERE WHAT IT READS IS OF BULK AT MOST 1048576: true; the input reads as it did. -/
def stampCycleUptoRow : OpenClaim := { program := "ytmfnofpphnlbnaadoor", sum := "80128087deab892a64edebd9db53b3f3d9d2557c5ea59e0381b42b397922f4ab", func := "turnpike/turnpikelaw04.StampCycle", spec := "stampCycle", inPlace := ["internal/abi.NoEscape", "internal/bytealg.MakeNoZero"], unfollowed := true, recurses := true, named := ["turnpike/stamp.weekdays", "turnpike/stamp.months", "internal/strconv.uint64pow10", "math/bits.deBruijn32tab", "math/bits.deBruijn64tab"], apart := false, laid := [("math/bits.deBruijn32tab", laid_math_bits_deBruijn32tab), ("math/bits.deBruijn64tab", laid_math_bits_deBruijn64tab), ("internal/strconv.uint64pow10", laid_internal_strconv_uint64pow10), ("turnpike/stamp.weekdays", laid_turnpike_stamp_weekdays), ("turnpike/stamp.months", laid_turnpike_stamp_months)], narrowed := true }
def StampCycleUptoSaid : Prop := stampCycleUptoRow.holds Tryd.pinned (OpenSpec.upto stampCycleSpec)

/-- 'turnpikelaw04.StampOrder', WHERE WHAT IT READS IS OF BULK AT MOST 1048576: true; the input reads as it did. -/
def stampOrderUptoRow : OpenClaim := { program := "ytmfnofpphnlbnaadoor", sum := "80128087deab892a64edebd9db53b3f3d9d2557c5ea59e0381b42b397922f4ab", func := "turnpike/turnpikelaw04.StampOrder", spec := "stampOrder", inPlace := ["internal/abi.NoEscape", "internal/bytealg.MakeNoZero"], unfollowed := true, recurses := true, named := ["turnpike/stamp.weekdays", "turnpike/stamp.months", "internal/strconv.uint64pow10", "math/bits.deBruijn32tab", "math/bits.deBruijn64tab"], apart := false, laid := [("math/bits.deBruijn32tab", laid_math_bits_deBruijn32tab), ("math/bits.deBruijn64tab", laid_math_bits_deBruijn64tab), ("internal/strconv.uint64pow10", laid_internal_strconv_uint64pow10), ("turnpike/stamp.weekdays", laid_turnpike_stamp_weekdays), ("turnpike/stamp.months", laid_turnpike_stamp_months)], narrowed := true }
def StampOrderUptoSaid : Prop := stampOrderUptoRow.holds Tryd.pinned (OpenSpec.upto stampOrderSpec)

/-- 'turnpikelaw04.StampOne', WHERE WHAT IT READS IS OF BULK AT MOST 1048576: true; the input reads as it did. -/
def stampOneUptoRow : OpenClaim := { program := "ytmfnofpphnlbnaadoor", sum := "80128087deab892a64edebd9db53b3f3d9d2557c5ea59e0381b42b397922f4ab", func := "turnpike/turnpikelaw04.StampOne", spec := "stampOne", inPlace := ["internal/abi.NoEscape", "internal/bytealg.MakeNoZero"], unfollowed := true, recurses := true, named := ["turnpike/stamp.weekdays", "turnpike/stamp.months", "internal/strconv.uint64pow10", "math/bits.deBruijn32tab", "math/bits.deBruijn64tab"], apart := false, laid := [("math/bits.deBruijn32tab", laid_math_bits_deBruijn32tab), ("math/bits.deBruijn64tab", laid_math_bits_deBruijn64tab), ("internal/strconv.uint64pow10", laid_internal_strconv_uint64pow10), ("turnpike/stamp.weekdays", laid_turnpike_stamp_weekdays), ("turnpike/stamp.months", laid_turnpike_stamp_months)], narrowed := true }
def StampOneUptoSaid : Prop := stampOneUptoRow.holds Tryd.pinned (OpenSpec.upto stampOneSpec)

/-- 'turnpikelaw04.StampJoins', WHERE WHAT IT READS IS OF BULK AT MOST 1048576: true; the input reads as it did. -/
def stampJoinsUptoRow : OpenClaim := { program := "ytmfnofpphnlbnaadoor", sum := "80128087deab892a64edebd9db53b3f3d9d2557c5ea59e0381b42b397922f4ab", func := "turnpike/turnpikelaw04.StampJoins", spec := "stampJoins", inPlace := ["internal/abi.NoEscape", "internal/bytealg.MakeNoZero"], unfollowed := true, recurses := true, named := ["turnpike/stamp.weekdays", "turnpike/stamp.months", "internal/strconv.uint64pow10", "math/bits.deBruijn32tab", "math/bits.deBruijn64tab"], apart := false, laid := [("math/bits.deBruijn32tab", laid_math_bits_deBruijn32tab), ("math/bits.deBruijn64tab", laid_math_bits_deBruijn64tab), ("internal/strconv.uint64pow10", laid_internal_strconv_uint64pow10), ("turnpike/stamp.weekdays", laid_turnpike_stamp_weekdays), ("turnpike/stamp.months", laid_turnpike_stamp_months)], narrowed := true }
def StampJoinsUptoSaid : Prop := stampJoinsUptoRow.holds Tryd.pinned (OpenSpec.upto stampJoinsSpec)

/-- 'turnpikelaw04.StampBack', WHERE WHAT IT READS IS OF BULK AT MOST 1048576: true; the input reads as it did. -/
def stampBackUptoRow : OpenClaim := { program := "ytmfnofpphnlbnaadoor", sum := "80128087deab892a64edebd9db53b3f3d9d2557c5ea59e0381b42b397922f4ab", func := "turnpike/turnpikelaw04.StampBack", spec := "stampBack", inPlace := ["internal/abi.NoEscape", "internal/bytealg.MakeNoZero"], unfollowed := true, recurses := true, named := ["turnpike/stamp.weekdays", "turnpike/stamp.months", "internal/strconv.uint64pow10", "math/bits.deBruijn32tab", "math/bits.deBruijn64tab"], apart := false, laid := [("math/bits.deBruijn32tab", laid_math_bits_deBruijn32tab), ("math/bits.deBruijn64tab", laid_math_bits_deBruijn64tab), ("internal/strconv.uint64pow10", laid_internal_strconv_uint64pow10), ("turnpike/stamp.weekdays", laid_turnpike_stamp_weekdays), ("turnpike/stamp.months", laid_turnpike_stamp_months)], narrowed := true }
def StampBackUptoSaid : Prop := stampBackUptoRow.holds Tryd.pinned (OpenSpec.upto stampBackSpec)

end Rows
end Go.Proofs.YtmfnofpphnlbnaaDoor
