/-
  NARROWER THAN 'FOR EVERY INPUT', by the rows' own cells (each row's printed sentence says how): CookiePrints: laid · CookieBack: laid · CookieSets: laid · CookieSays: laid · CookieMemory: laid · CookieTwo: laid · CookieOwn: laid · CookieParses: laid.
  DERIVED. THE GIVEN ROWS OF THIS SEAT. 8 by the template 'for every input the law returns true; each argument reads behind the call as it read before'; 0 by the template 'total and deterministic' (their statements: YtkenianfpfamcaaGreatDoorTotals.lean).
  GIVEN WITH THE SEED: the statements are not yours to turn. If you find one false, say at which input.
  Laid BY PROGRAM, IN A SANDBOX (cutbox-rows.mjs): the forced cells as the released guide's own fill.sh prints them over the translation 850534ebbd3c62a0… (all of the seat's roots in one cut). By AI agents, Wed Nov 11 2026. No macro, syntax, notation, axiom, sorry.
-/
import Derived.Test.YtkenianfpfamcaaGreatDoorChecked
import GoSem.PinnedTables
import GoSem.Claim
import GoSem.ClaimJoined
import GoSem.ClaimMapViews
import Derived.JoinedTies
import Derived.KernelRfl
namespace Go.Proofs.YtkenianfpfamcaaGreatDoor
/- THE CELL 'sum', in the pinned program and in every row, IS THE sha256 OF THE DUMP (.gsa) THAT YtkenianfpfamcaaGreatDoorProg.lean LOADS. Nothing in Lean hashes anything: it is a label: what it is worth is what the hold of that sum in a sandbox is worth. -/
noncomputable def Tryz.pinned : Pinned := { name := "ytkenianfpfamcaagreatdoor", sum := "850534ebbd3c62a06fa6e617514d62eba8a117eb1a143f672cbe48279213f598", checked := Tryz.checked }
namespace Rows
def none {H : Type} : Left H := { results := [], args := [] }

/- WHAT THE LISTED PACKAGE-LEVEL VARIABLES READ AS WHEN THE CALL BEGINS. Each datum BY PROGRAM (the guide's laid-datum.mjs) off the statement by which the dump's own 'gosem.cut.vars' lays the variable. In a bare row this is a premise. The card (YtkenianfpfamcaaGreatDoorCards.lean) ties it to the program's text. -/
def laid_math_bits_deBruijn32tab {H : Type} : DataW H := .agg [.lit (.int .u8 0), .lit (.int .u8 1), .lit (.int .u8 28), .lit (.int .u8 2), .lit (.int .u8 29), .lit (.int .u8 14), .lit (.int .u8 24), .lit (.int .u8 3), .lit (.int .u8 30), .lit (.int .u8 22), .lit (.int .u8 20), .lit (.int .u8 15), .lit (.int .u8 25), .lit (.int .u8 17), .lit (.int .u8 4), .lit (.int .u8 8), .lit (.int .u8 31), .lit (.int .u8 27), .lit (.int .u8 13), .lit (.int .u8 23), .lit (.int .u8 21), .lit (.int .u8 19), .lit (.int .u8 16), .lit (.int .u8 7), .lit (.int .u8 26), .lit (.int .u8 12), .lit (.int .u8 18), .lit (.int .u8 6), .lit (.int .u8 11), .lit (.int .u8 5), .lit (.int .u8 10), .lit (.int .u8 9)]
def laid_math_bits_deBruijn64tab {H : Type} : DataW H := .agg [.lit (.int .u8 0), .lit (.int .u8 1), .lit (.int .u8 56), .lit (.int .u8 2), .lit (.int .u8 57), .lit (.int .u8 49), .lit (.int .u8 28), .lit (.int .u8 3), .lit (.int .u8 61), .lit (.int .u8 58), .lit (.int .u8 42), .lit (.int .u8 50), .lit (.int .u8 38), .lit (.int .u8 29), .lit (.int .u8 17), .lit (.int .u8 4), .lit (.int .u8 62), .lit (.int .u8 47), .lit (.int .u8 59), .lit (.int .u8 36), .lit (.int .u8 45), .lit (.int .u8 43), .lit (.int .u8 51), .lit (.int .u8 22), .lit (.int .u8 53), .lit (.int .u8 39), .lit (.int .u8 33), .lit (.int .u8 30), .lit (.int .u8 24), .lit (.int .u8 18), .lit (.int .u8 12), .lit (.int .u8 5), .lit (.int .u8 63), .lit (.int .u8 55), .lit (.int .u8 48), .lit (.int .u8 27), .lit (.int .u8 60), .lit (.int .u8 41), .lit (.int .u8 37), .lit (.int .u8 16), .lit (.int .u8 46), .lit (.int .u8 35), .lit (.int .u8 44), .lit (.int .u8 21), .lit (.int .u8 52), .lit (.int .u8 32), .lit (.int .u8 23), .lit (.int .u8 11), .lit (.int .u8 54), .lit (.int .u8 26), .lit (.int .u8 40), .lit (.int .u8 15), .lit (.int .u8 34), .lit (.int .u8 20), .lit (.int .u8 31), .lit (.int .u8 10), .lit (.int .u8 25), .lit (.int .u8 14), .lit (.int .u8 19), .lit (.int .u8 9), .lit (.int .u8 13), .lit (.int .u8 8), .lit (.int .u8 7), .lit (.int .u8 6)]
def laid_internal_strconv_uint64pow10 {H : Type} : DataW H := .agg [.lit (.int .u64 1), .lit (.int .u64 10), .lit (.int .u64 100), .lit (.int .u64 1000), .lit (.int .u64 10000), .lit (.int .u64 100000), .lit (.int .u64 1000000), .lit (.int .u64 10000000), .lit (.int .u64 100000000), .lit (.int .u64 1000000000), .lit (.int .u64 10000000000), .lit (.int .u64 100000000000), .lit (.int .u64 1000000000000), .lit (.int .u64 10000000000000), .lit (.int .u64 100000000000000), .lit (.int .u64 1000000000000000), .lit (.int .u64 10000000000000000), .lit (.int .u64 100000000000000000), .lit (.int .u64 1000000000000000000), .lit (.int .u64 10000000000000000000)]
def laid_unicode_utf8_acceptRanges {H : Type} : DataW H := .agg [.agg [.lit (.int .u8 128), .lit (.int .u8 191)], .agg [.lit (.int .u8 160), .lit (.int .u8 191)], .agg [.lit (.int .u8 128), .lit (.int .u8 159)], .agg [.lit (.int .u8 144), .lit (.int .u8 191)], .agg [.lit (.int .u8 128), .lit (.int .u8 143)], .agg [.lit (.int .u8 0), .lit (.int .u8 0)], .agg [.lit (.int .u8 0), .lit (.int .u8 0)], .agg [.lit (.int .u8 0), .lit (.int .u8 0)], .agg [.lit (.int .u8 0), .lit (.int .u8 0)], .agg [.lit (.int .u8 0), .lit (.int .u8 0)], .agg [.lit (.int .u8 0), .lit (.int .u8 0)], .agg [.lit (.int .u8 0), .lit (.int .u8 0)], .agg [.lit (.int .u8 0), .lit (.int .u8 0)], .agg [.lit (.int .u8 0), .lit (.int .u8 0)], .agg [.lit (.int .u8 0), .lit (.int .u8 0)], .agg [.lit (.int .u8 0), .lit (.int .u8 0)]]
def laid_turnpike_octet_signs {H : Type} : DataW H := .agg [.lit (.int .u32 0), .lit (.int .u32 67071226), .lit (.int .u32 3355443198), .lit (.int .u32 1476395007)]
def laid_turnpike_stamp_weekdays {H : Type} : DataW H := .agg [.lit (.string [77, 111, 110, 100, 97, 121]), .lit (.string [84, 117, 101, 115, 100, 97, 121]), .lit (.string [87, 101, 100, 110, 101, 115, 100, 97, 121]), .lit (.string [84, 104, 117, 114, 115, 100, 97, 121]), .lit (.string [70, 114, 105, 100, 97, 121]), .lit (.string [83, 97, 116, 117, 114, 100, 97, 121]), .lit (.string [83, 117, 110, 100, 97, 121])]
def laid_turnpike_stamp_months {H : Type} : DataW H := .agg [.lit (.string [74, 97, 110]), .lit (.string [70, 101, 98]), .lit (.string [77, 97, 114]), .lit (.string [65, 112, 114]), .lit (.string [77, 97, 121]), .lit (.string [74, 117, 110]), .lit (.string [74, 117, 108]), .lit (.string [65, 117, 103]), .lit (.string [83, 101, 112]), .lit (.string [79, 99, 116]), .lit (.string [78, 111, 118]), .lit (.string [68, 101, 99])]
/-- One of Go's own tables, pinned by name: the form's constant. -/
def laid_unicode_utf8_first : DataW Unit := Go.Pinned.utf8First

/-- 'turnpikelaw16.CookiePrints': WHATEVER THE INPUT: true; the input reads as it did. -/
def cookiePrintsSpec : ChangeSpec := { name := "cookiePrints", fn := fun _ => fun
  | [d] => { results := [.lit (.bool true)], args := [d] }
  | _ => none }
def cookiePrintsRow : OpenClaim := { program := "ytkenianfpfamcaagreatdoor", sum := "850534ebbd3c62a06fa6e617514d62eba8a117eb1a143f672cbe48279213f598", func := "turnpike/turnpikelaw16.CookiePrints", spec := "cookiePrints", inPlace := ["internal/bytealg.CountString", "internal/bytealg.IndexByteString", "internal/bytealg.IndexString", "internal/abi.NoEscape", "internal/bytealg.MakeNoZero"], unfollowed := true, recurses := true, named := ["unicode/utf8.first", "unicode/utf8.acceptRanges", "internal/bytealg.MaxLen", "turnpike/octet.signs", "turnpike/stamp.weekdays", "turnpike/stamp.months", "internal/strconv.uint64pow10", "math/bits.deBruijn32tab", "math/bits.deBruijn64tab"], plainKeys := false, apart := false, laid := [("math/bits.deBruijn32tab", laid_math_bits_deBruijn32tab), ("math/bits.deBruijn64tab", laid_math_bits_deBruijn64tab), ("internal/strconv.uint64pow10", laid_internal_strconv_uint64pow10), ("unicode/utf8.acceptRanges", laid_unicode_utf8_acceptRanges), ("turnpike/octet.signs", laid_turnpike_octet_signs), ("turnpike/stamp.weekdays", laid_turnpike_stamp_weekdays), ("turnpike/stamp.months", laid_turnpike_stamp_months), ("unicode/utf8.first", laid_unicode_utf8_first)] }
def CookiePrintsSaid : Prop := cookiePrintsRow.holds Tryz.pinned (OpenSpec.ofChange cookiePrintsSpec)

/-- ITS FALSE NEIGHBOUR: 'it returns false'. Refute it at one input. -/
def cookiePrintsWrong : ChangeSpec := { name := "cookiePrints", fn := fun _ => fun
  | [d] => { results := [.lit (.bool false)], args := [d] }
  | _ => none }
def CookiePrintsWrongFalsely : Prop := cookiePrintsRow.holds Tryz.pinned (OpenSpec.ofChange cookiePrintsWrong)

/-- 'turnpikelaw16.CookieBack': WHATEVER THE INPUT: true; the input reads as it did. -/
def cookieBackSpec : ChangeSpec := { name := "cookieBack", fn := fun _ => fun
  | [d1, d2, d3] => { results := [.lit (.bool true)], args := [d1, d2, d3] }
  | _ => none }
def cookieBackRow : OpenClaim := { program := "ytkenianfpfamcaagreatdoor", sum := "850534ebbd3c62a06fa6e617514d62eba8a117eb1a143f672cbe48279213f598", func := "turnpike/turnpikelaw16.CookieBack", spec := "cookieBack", inPlace := ["internal/bytealg.CountString", "internal/bytealg.IndexByteString", "internal/bytealg.IndexString", "internal/abi.NoEscape", "internal/bytealg.MakeNoZero"], unfollowed := true, recurses := true, named := ["unicode/utf8.first", "unicode/utf8.acceptRanges", "internal/bytealg.MaxLen", "turnpike/octet.signs", "turnpike/stamp.weekdays", "turnpike/stamp.months", "internal/strconv.uint64pow10", "math/bits.deBruijn32tab", "math/bits.deBruijn64tab"], plainKeys := false, apart := false, laid := [("math/bits.deBruijn32tab", laid_math_bits_deBruijn32tab), ("math/bits.deBruijn64tab", laid_math_bits_deBruijn64tab), ("internal/strconv.uint64pow10", laid_internal_strconv_uint64pow10), ("unicode/utf8.acceptRanges", laid_unicode_utf8_acceptRanges), ("turnpike/octet.signs", laid_turnpike_octet_signs), ("turnpike/stamp.weekdays", laid_turnpike_stamp_weekdays), ("turnpike/stamp.months", laid_turnpike_stamp_months), ("unicode/utf8.first", laid_unicode_utf8_first)] }
def CookieBackSaid : Prop := cookieBackRow.holds Tryz.pinned (OpenSpec.ofChange cookieBackSpec)

/-- ITS FALSE NEIGHBOUR: 'it returns false'. Refute it at one input. -/
def cookieBackWrong : ChangeSpec := { name := "cookieBack", fn := fun _ => fun
  | [d1, d2, d3] => { results := [.lit (.bool false)], args := [d1, d2, d3] }
  | _ => none }
def CookieBackWrongFalsely : Prop := cookieBackRow.holds Tryz.pinned (OpenSpec.ofChange cookieBackWrong)

/-- 'turnpikelaw16.CookieSets': WHATEVER THE INPUT: true; the input reads as it did. -/
def cookieSetsSpec : ChangeSpec := { name := "cookieSets", fn := fun _ => fun
  | [d1, d2] => { results := [.lit (.bool true)], args := [d1, d2] }
  | _ => none }
def cookieSetsRow : OpenClaim := { program := "ytkenianfpfamcaagreatdoor", sum := "850534ebbd3c62a06fa6e617514d62eba8a117eb1a143f672cbe48279213f598", func := "turnpike/turnpikelaw16.CookieSets", spec := "cookieSets", inPlace := ["internal/bytealg.CountString", "internal/bytealg.IndexByteString", "internal/bytealg.IndexString", "internal/abi.NoEscape", "internal/bytealg.MakeNoZero"], unfollowed := true, recurses := true, named := ["unicode/utf8.first", "unicode/utf8.acceptRanges", "internal/bytealg.MaxLen", "turnpike/octet.signs", "turnpike/stamp.weekdays", "turnpike/stamp.months", "internal/strconv.uint64pow10", "math/bits.deBruijn32tab", "math/bits.deBruijn64tab"], plainKeys := false, apart := false, laid := [("math/bits.deBruijn32tab", laid_math_bits_deBruijn32tab), ("math/bits.deBruijn64tab", laid_math_bits_deBruijn64tab), ("internal/strconv.uint64pow10", laid_internal_strconv_uint64pow10), ("unicode/utf8.acceptRanges", laid_unicode_utf8_acceptRanges), ("turnpike/octet.signs", laid_turnpike_octet_signs), ("turnpike/stamp.weekdays", laid_turnpike_stamp_weekdays), ("turnpike/stamp.months", laid_turnpike_stamp_months), ("unicode/utf8.first", laid_unicode_utf8_first)] }
def CookieSetsSaid : Prop := cookieSetsRow.holds Tryz.pinned (OpenSpec.ofChange cookieSetsSpec)

/-- ITS FALSE NEIGHBOUR: 'it returns false'. Refute it at one input. -/
def cookieSetsWrong : ChangeSpec := { name := "cookieSets", fn := fun _ => fun
  | [d1, d2] => { results := [.lit (.bool false)], args := [d1, d2] }
  | _ => none }
def CookieSetsWrongFalsely : Prop := cookieSetsRow.holds Tryz.pinned (OpenSpec.ofChange cookieSetsWrong)

/-- 'turnpikelaw16.CookieSays': WHATEVER THE INPUT: true; the input reads as it did. -/
def cookieSaysSpec : ChangeSpec := { name := "cookieSays", fn := fun _ => fun
  | [d] => { results := [.lit (.bool true)], args := [d] }
  | _ => none }
def cookieSaysRow : OpenClaim := { program := "ytkenianfpfamcaagreatdoor", sum := "850534ebbd3c62a06fa6e617514d62eba8a117eb1a143f672cbe48279213f598", func := "turnpike/turnpikelaw16.CookieSays", spec := "cookieSays", inPlace := ["internal/bytealg.CountString", "internal/bytealg.IndexByteString", "internal/bytealg.IndexString", "internal/abi.NoEscape", "internal/bytealg.MakeNoZero"], unfollowed := true, recurses := true, named := ["unicode/utf8.first", "unicode/utf8.acceptRanges", "internal/bytealg.MaxLen", "turnpike/octet.signs", "turnpike/stamp.weekdays", "turnpike/stamp.months", "internal/strconv.uint64pow10", "math/bits.deBruijn32tab", "math/bits.deBruijn64tab"], plainKeys := false, apart := false, laid := [("math/bits.deBruijn32tab", laid_math_bits_deBruijn32tab), ("math/bits.deBruijn64tab", laid_math_bits_deBruijn64tab), ("internal/strconv.uint64pow10", laid_internal_strconv_uint64pow10), ("unicode/utf8.acceptRanges", laid_unicode_utf8_acceptRanges), ("turnpike/octet.signs", laid_turnpike_octet_signs), ("turnpike/stamp.weekdays", laid_turnpike_stamp_weekdays), ("turnpike/stamp.months", laid_turnpike_stamp_months), ("unicode/utf8.first", laid_unicode_utf8_first)] }
def CookieSaysSaid : Prop := cookieSaysRow.holds Tryz.pinned (OpenSpec.ofChange cookieSaysSpec)

/-- ITS FALSE NEIGHBOUR: 'it returns false'. Refute it at one input. -/
def cookieSaysWrong : ChangeSpec := { name := "cookieSays", fn := fun _ => fun
  | [d] => { results := [.lit (.bool false)], args := [d] }
  | _ => none }
def CookieSaysWrongFalsely : Prop := cookieSaysRow.holds Tryz.pinned (OpenSpec.ofChange cookieSaysWrong)

/-- 'turnpikelaw16.CookieMemory': WHATEVER THE INPUT: true; the input reads as it did. -/
def cookieMemorySpec : ChangeSpec := { name := "cookieMemory", fn := fun _ => fun
  | [d] => { results := [.lit (.bool true)], args := [d] }
  | _ => none }
def cookieMemoryRow : OpenClaim := { program := "ytkenianfpfamcaagreatdoor", sum := "850534ebbd3c62a06fa6e617514d62eba8a117eb1a143f672cbe48279213f598", func := "turnpike/turnpikelaw16.CookieMemory", spec := "cookieMemory", inPlace := ["internal/bytealg.CountString", "internal/bytealg.IndexByteString", "internal/bytealg.IndexString", "internal/abi.NoEscape", "internal/bytealg.MakeNoZero"], unfollowed := true, recurses := true, named := ["unicode/utf8.first", "unicode/utf8.acceptRanges", "internal/bytealg.MaxLen", "turnpike/octet.signs", "turnpike/stamp.weekdays", "turnpike/stamp.months", "internal/strconv.uint64pow10", "math/bits.deBruijn32tab", "math/bits.deBruijn64tab"], plainKeys := false, apart := false, laid := [("math/bits.deBruijn32tab", laid_math_bits_deBruijn32tab), ("math/bits.deBruijn64tab", laid_math_bits_deBruijn64tab), ("internal/strconv.uint64pow10", laid_internal_strconv_uint64pow10), ("unicode/utf8.acceptRanges", laid_unicode_utf8_acceptRanges), ("turnpike/octet.signs", laid_turnpike_octet_signs), ("turnpike/stamp.weekdays", laid_turnpike_stamp_weekdays), ("turnpike/stamp.months", laid_turnpike_stamp_months), ("unicode/utf8.first", laid_unicode_utf8_first)] }
def CookieMemorySaid : Prop := cookieMemoryRow.holds Tryz.pinned (OpenSpec.ofChange cookieMemorySpec)

/-- ITS FALSE NEIGHBOUR: 'it returns false'. Refute it at one input. -/
def cookieMemoryWrong : ChangeSpec := { name := "cookieMemory", fn := fun _ => fun
  | [d] => { results := [.lit (.bool false)], args := [d] }
  | _ => none }
def CookieMemoryWrongFalsely : Prop := cookieMemoryRow.holds Tryz.pinned (OpenSpec.ofChange cookieMemoryWrong)

/-- 'turnpikelaw16.CookieTwo': WHATEVER THE INPUT: true; the input reads as it did. -/
def cookieTwoSpec : ChangeSpec := { name := "cookieTwo", fn := fun _ => fun
  | [d1, d2, d3] => { results := [.lit (.bool true)], args := [d1, d2, d3] }
  | _ => none }
def cookieTwoRow : OpenClaim := { program := "ytkenianfpfamcaagreatdoor", sum := "850534ebbd3c62a06fa6e617514d62eba8a117eb1a143f672cbe48279213f598", func := "turnpike/turnpikelaw16.CookieTwo", spec := "cookieTwo", inPlace := ["internal/bytealg.CountString", "internal/bytealg.IndexByteString", "internal/bytealg.IndexString", "internal/abi.NoEscape", "internal/bytealg.MakeNoZero"], unfollowed := true, recurses := true, named := ["unicode/utf8.first", "unicode/utf8.acceptRanges", "internal/bytealg.MaxLen", "turnpike/octet.signs", "turnpike/stamp.weekdays", "turnpike/stamp.months", "internal/strconv.uint64pow10", "math/bits.deBruijn32tab", "math/bits.deBruijn64tab"], plainKeys := false, apart := false, laid := [("math/bits.deBruijn32tab", laid_math_bits_deBruijn32tab), ("math/bits.deBruijn64tab", laid_math_bits_deBruijn64tab), ("internal/strconv.uint64pow10", laid_internal_strconv_uint64pow10), ("unicode/utf8.acceptRanges", laid_unicode_utf8_acceptRanges), ("turnpike/octet.signs", laid_turnpike_octet_signs), ("turnpike/stamp.weekdays", laid_turnpike_stamp_weekdays), ("turnpike/stamp.months", laid_turnpike_stamp_months), ("unicode/utf8.first", laid_unicode_utf8_first)] }
def CookieTwoSaid : Prop := cookieTwoRow.holds Tryz.pinned (OpenSpec.ofChange cookieTwoSpec)

/-- ITS FALSE NEIGHBOUR: 'it returns false'. Refute it at one input. -/
def cookieTwoWrong : ChangeSpec := { name := "cookieTwo", fn := fun _ => fun
  | [d1, d2, d3] => { results := [.lit (.bool false)], args := [d1, d2, d3] }
  | _ => none }
def CookieTwoWrongFalsely : Prop := cookieTwoRow.holds Tryz.pinned (OpenSpec.ofChange cookieTwoWrong)

/-- 'turnpikelaw16.CookieOwn': WHATEVER THE INPUT: true; the input reads as it did. -/
def cookieOwnSpec : ChangeSpec := { name := "cookieOwn", fn := fun _ => fun
  | [d1, d2, d3] => { results := [.lit (.bool true)], args := [d1, d2, d3] }
  | _ => none }
def cookieOwnRow : OpenClaim := { program := "ytkenianfpfamcaagreatdoor", sum := "850534ebbd3c62a06fa6e617514d62eba8a117eb1a143f672cbe48279213f598", func := "turnpike/turnpikelaw16.CookieOwn", spec := "cookieOwn", inPlace := ["internal/bytealg.CountString", "internal/bytealg.IndexByteString", "internal/bytealg.IndexString", "internal/abi.NoEscape", "internal/bytealg.MakeNoZero"], unfollowed := true, recurses := true, named := ["unicode/utf8.first", "unicode/utf8.acceptRanges", "internal/bytealg.MaxLen", "turnpike/octet.signs", "turnpike/stamp.weekdays", "turnpike/stamp.months", "internal/strconv.uint64pow10", "math/bits.deBruijn32tab", "math/bits.deBruijn64tab"], plainKeys := false, apart := false, laid := [("math/bits.deBruijn32tab", laid_math_bits_deBruijn32tab), ("math/bits.deBruijn64tab", laid_math_bits_deBruijn64tab), ("internal/strconv.uint64pow10", laid_internal_strconv_uint64pow10), ("unicode/utf8.acceptRanges", laid_unicode_utf8_acceptRanges), ("turnpike/octet.signs", laid_turnpike_octet_signs), ("turnpike/stamp.weekdays", laid_turnpike_stamp_weekdays), ("turnpike/stamp.months", laid_turnpike_stamp_months), ("unicode/utf8.first", laid_unicode_utf8_first)] }
def CookieOwnSaid : Prop := cookieOwnRow.holds Tryz.pinned (OpenSpec.ofChange cookieOwnSpec)

/-- ITS FALSE NEIGHBOUR: 'it returns false'. Refute it at one input. -/
def cookieOwnWrong : ChangeSpec := { name := "cookieOwn", fn := fun _ => fun
  | [d1, d2, d3] => { results := [.lit (.bool false)], args := [d1, d2, d3] }
  | _ => none }
def CookieOwnWrongFalsely : Prop := cookieOwnRow.holds Tryz.pinned (OpenSpec.ofChange cookieOwnWrong)

/-- 'turnpikelaw16.CookieParses': WHATEVER THE INPUT: true; the input reads as it did. -/
def cookieParsesSpec : ChangeSpec := { name := "cookieParses", fn := fun _ => fun
  | [d] => { results := [.lit (.bool true)], args := [d] }
  | _ => none }
def cookieParsesRow : OpenClaim := { program := "ytkenianfpfamcaagreatdoor", sum := "850534ebbd3c62a06fa6e617514d62eba8a117eb1a143f672cbe48279213f598", func := "turnpike/turnpikelaw16.CookieParses", spec := "cookieParses", inPlace := ["internal/bytealg.CountString", "internal/bytealg.IndexByteString", "internal/bytealg.IndexString", "internal/abi.NoEscape", "internal/bytealg.MakeNoZero"], unfollowed := true, recurses := true, named := ["unicode/utf8.first", "unicode/utf8.acceptRanges", "internal/bytealg.MaxLen", "turnpike/octet.signs", "turnpike/stamp.weekdays", "turnpike/stamp.months", "internal/strconv.uint64pow10", "math/bits.deBruijn32tab", "math/bits.deBruijn64tab"], plainKeys := false, apart := false, laid := [("math/bits.deBruijn32tab", laid_math_bits_deBruijn32tab), ("math/bits.deBruijn64tab", laid_math_bits_deBruijn64tab), ("internal/strconv.uint64pow10", laid_internal_strconv_uint64pow10), ("unicode/utf8.acceptRanges", laid_unicode_utf8_acceptRanges), ("turnpike/octet.signs", laid_turnpike_octet_signs), ("turnpike/stamp.weekdays", laid_turnpike_stamp_weekdays), ("turnpike/stamp.months", laid_turnpike_stamp_months), ("unicode/utf8.first", laid_unicode_utf8_first)] }
def CookieParsesSaid : Prop := cookieParsesRow.holds Tryz.pinned (OpenSpec.ofChange cookieParsesSpec)

/-- ITS FALSE NEIGHBOUR: 'it returns false'. Refute it at one input. -/
def cookieParsesWrong : ChangeSpec := { name := "cookieParses", fn := fun _ => fun
  | [d] => { results := [.lit (.bool false)], args := [d] }
  | _ => none }
def CookieParsesWrongFalsely : Prop := cookieParsesRow.holds Tryz.pinned (OpenSpec.ofChange cookieParsesWrong)

/- THE SECOND FORM. 'bulk': how many values and letters a reading holds, each counted each time it is reached (what is shared counts as often as it is met; a slice's spare places count too). A statement '..UptoSaid' is the law's where the arguments, and the package variables that the reading takes, are together of bulk at most 1048576: NARROWER than '..Said'. Prove '..Said' where nothing that the law and all that it calls make is longer than what came in: it says more and counts as full. Else prove '..UptoSaid'. A law counts once. -/
mutual
def uptoBulk {H : Type} : DataW H → Nat
  | .lit (.string bytes) => bytes.length + 1
  | .lit _ => 1
  | .nil => 1
  | .ptr d => uptoBulk d + 1
  | .slice elems spare => uptoBulkAll elems + uptoBulkAll spare + 1
  | .agg parts => uptoBulkAll parts + 1
  | .iface _ d => uptoBulk d + 1
  | .map entries => uptoBulkEntries entries + 1
  | .held _ => 1
def uptoBulkAll {H : Type} : List (DataW H) → Nat
  | [] => 0
  | d :: r => uptoBulk d + uptoBulkAll r
def uptoBulkEntries {H : Type} : List (Lit × DataW H) → Nat
  | [] => 0
  | x :: r => uptoBulkEntry x + uptoBulkEntries r
def uptoBulkEntry {H : Type} : Lit × DataW H → Nat
  | (.string bytes, d) => bytes.length + uptoBulk d + 1
  | (_, d) => uptoBulk d + 1
 end
def uptoSmall : (H : Type) → List (DataW H) → Bool := fun _ ds => decide (uptoBulkAll ds ≤ 1048576)
def OpenSpec.upto (s : _root_.Go.ChangeSpec) : _root_.Go.OpenSpec := { _root_.Go.OpenSpec.ofChange s with cond := some uptoSmall }

/-- 'turnpikelaw16.CookiePrints', WHERE WHAT IT READS IS OF BULK AT MOST 1048576: true; the input reads as it did. -/
def cookiePrintsUptoRow : OpenClaim := { program := "ytkenianfpfamcaagreatdoor", sum := "850534ebbd3c62a06fa6e617514d62eba8a117eb1a143f672cbe48279213f598", func := "turnpike/turnpikelaw16.CookiePrints", spec := "cookiePrints", inPlace := ["internal/bytealg.CountString", "internal/bytealg.IndexByteString", "internal/bytealg.IndexString", "internal/abi.NoEscape", "internal/bytealg.MakeNoZero"], unfollowed := true, recurses := true, named := ["unicode/utf8.first", "unicode/utf8.acceptRanges", "internal/bytealg.MaxLen", "turnpike/octet.signs", "turnpike/stamp.weekdays", "turnpike/stamp.months", "internal/strconv.uint64pow10", "math/bits.deBruijn32tab", "math/bits.deBruijn64tab"], plainKeys := false, apart := false, laid := [("math/bits.deBruijn32tab", laid_math_bits_deBruijn32tab), ("math/bits.deBruijn64tab", laid_math_bits_deBruijn64tab), ("internal/strconv.uint64pow10", laid_internal_strconv_uint64pow10), ("unicode/utf8.acceptRanges", laid_unicode_utf8_acceptRanges), ("turnpike/octet.signs", laid_turnpike_octet_signs), ("turnpike/stamp.weekdays", laid_turnpike_stamp_weekdays), ("turnpike/stamp.months", laid_turnpike_stamp_months), ("unicode/utf8.first", laid_unicode_utf8_first)], narrowed := true }
def CookiePrintsUptoSaid : Prop := cookiePrintsUptoRow.holds Tryz.pinned (OpenSpec.upto cookiePrintsSpec)

/-- 'turnpikelaw16.CookieBack', WHERE WHAT IT READS IS OF BULK AT MOST 1048576: true; the input reads as it did. -/
def cookieBackUptoRow : OpenClaim := { program := "ytkenianfpfamcaagreatdoor", sum := "850534ebbd3c62a06fa6e617514d62eba8a117eb1a143f672cbe48279213f598", func := "turnpike/turnpikelaw16.CookieBack", spec := "cookieBack", inPlace := ["internal/bytealg.CountString", "internal/bytealg.IndexByteString", "internal/bytealg.IndexString", "internal/abi.NoEscape", "internal/bytealg.MakeNoZero"], unfollowed := true, recurses := true, named := ["unicode/utf8.first", "unicode/utf8.acceptRanges", "internal/bytealg.MaxLen", "turnpike/octet.signs", "turnpike/stamp.weekdays", "turnpike/stamp.months", "internal/strconv.uint64pow10", "math/bits.deBruijn32tab", "math/bits.deBruijn64tab"], plainKeys := false, apart := false, laid := [("math/bits.deBruijn32tab", laid_math_bits_deBruijn32tab), ("math/bits.deBruijn64tab", laid_math_bits_deBruijn64tab), ("internal/strconv.uint64pow10", laid_internal_strconv_uint64pow10), ("unicode/utf8.acceptRanges", laid_unicode_utf8_acceptRanges), ("turnpike/octet.signs", laid_turnpike_octet_signs), ("turnpike/stamp.weekdays", laid_turnpike_stamp_weekdays), ("turnpike/stamp.months", laid_turnpike_stamp_months), ("unicode/utf8.first", laid_unicode_utf8_first)], narrowed := true }
def CookieBackUptoSaid : Prop := cookieBackUptoRow.holds Tryz.pinned (OpenSpec.upto cookieBackSpec)

/-- 'turnpikelaw16.CookieSets', WHERE WHAT IT READS IS OF BULK AT MOST 1048576: true; the input reads as it did. -/
def cookieSetsUptoRow : OpenClaim := { program := "ytkenianfpfamcaagreatdoor", sum := "850534ebbd3c62a06fa6e617514d62eba8a117eb1a143f672cbe48279213f598", func := "turnpike/turnpikelaw16.CookieSets", spec := "cookieSets", inPlace := ["internal/bytealg.CountString", "internal/bytealg.IndexByteString", "internal/bytealg.IndexString", "internal/abi.NoEscape", "internal/bytealg.MakeNoZero"], unfollowed := true, recurses := true, named := ["unicode/utf8.first", "unicode/utf8.acceptRanges", "internal/bytealg.MaxLen", "turnpike/octet.signs", "turnpike/stamp.weekdays", "turnpike/stamp.months", "internal/strconv.uint64pow10", "math/bits.deBruijn32tab", "math/bits.deBruijn64tab"], plainKeys := false, apart := false, laid := [("math/bits.deBruijn32tab", laid_math_bits_deBruijn32tab), ("math/bits.deBruijn64tab", laid_math_bits_deBruijn64tab), ("internal/strconv.uint64pow10", laid_internal_strconv_uint64pow10), ("unicode/utf8.acceptRanges", laid_unicode_utf8_acceptRanges), ("turnpike/octet.signs", laid_turnpike_octet_signs), ("turnpike/stamp.weekdays", laid_turnpike_stamp_weekdays), ("turnpike/stamp.months", laid_turnpike_stamp_months), ("unicode/utf8.first", laid_unicode_utf8_first)], narrowed := true }
def CookieSetsUptoSaid : Prop := cookieSetsUptoRow.holds Tryz.pinned (OpenSpec.upto cookieSetsSpec)

/-- 'turnpikelaw16.CookieSays', WHERE WHAT IT READS IS OF BULK AT MOST 1048576: true; the input reads as it did. -/
def cookieSaysUptoRow : OpenClaim := { program := "ytkenianfpfamcaagreatdoor", sum := "850534ebbd3c62a06fa6e617514d62eba8a117eb1a143f672cbe48279213f598", func := "turnpike/turnpikelaw16.CookieSays", spec := "cookieSays", inPlace := ["internal/bytealg.CountString", "internal/bytealg.IndexByteString", "internal/bytealg.IndexString", "internal/abi.NoEscape", "internal/bytealg.MakeNoZero"], unfollowed := true, recurses := true, named := ["unicode/utf8.first", "unicode/utf8.acceptRanges", "internal/bytealg.MaxLen", "turnpike/octet.signs", "turnpike/stamp.weekdays", "turnpike/stamp.months", "internal/strconv.uint64pow10", "math/bits.deBruijn32tab", "math/bits.deBruijn64tab"], plainKeys := false, apart := false, laid := [("math/bits.deBruijn32tab", laid_math_bits_deBruijn32tab), ("math/bits.deBruijn64tab", laid_math_bits_deBruijn64tab), ("internal/strconv.uint64pow10", laid_internal_strconv_uint64pow10), ("unicode/utf8.acceptRanges", laid_unicode_utf8_acceptRanges), ("turnpike/octet.signs", laid_turnpike_octet_signs), ("turnpike/stamp.weekdays", laid_turnpike_stamp_weekdays), ("turnpike/stamp.months", laid_turnpike_stamp_months), ("unicode/utf8.first", laid_unicode_utf8_first)], narrowed := true }
def CookieSaysUptoSaid : Prop := cookieSaysUptoRow.holds Tryz.pinned (OpenSpec.upto cookieSaysSpec)

/-- 'turnpikelaw16.CookieMemory', WHERE WHAT IT READS IS OF BULK AT MOST 1048576: true; the input reads as it did. -/
def cookieMemoryUptoRow : OpenClaim := { program := "ytkenianfpfamcaagreatdoor", sum := "850534ebbd3c62a06fa6e617514d62eba8a117eb1a143f672cbe48279213f598", func := "turnpike/turnpikelaw16.CookieMemory", spec := "cookieMemory", inPlace := ["internal/bytealg.CountString", "internal/bytealg.IndexByteString", "internal/bytealg.IndexString", "internal/abi.NoEscape", "internal/bytealg.MakeNoZero"], unfollowed := true, recurses := true, named := ["unicode/utf8.first", "unicode/utf8.acceptRanges", "internal/bytealg.MaxLen", "turnpike/octet.signs", "turnpike/stamp.weekdays", "turnpike/stamp.months", "internal/strconv.uint64pow10", "math/bits.deBruijn32tab", "math/bits.deBruijn64tab"], plainKeys := false, apart := false, laid := [("math/bits.deBruijn32tab", laid_math_bits_deBruijn32tab), ("math/bits.deBruijn64tab", laid_math_bits_deBruijn64tab), ("internal/strconv.uint64pow10", laid_internal_strconv_uint64pow10), ("unicode/utf8.acceptRanges", laid_unicode_utf8_acceptRanges), ("turnpike/octet.signs", laid_turnpike_octet_signs), ("turnpike/stamp.weekdays", laid_turnpike_stamp_weekdays), ("turnpike/stamp.months", laid_turnpike_stamp_months), ("unicode/utf8.first", laid_unicode_utf8_first)], narrowed := true }
def CookieMemoryUptoSaid : Prop := cookieMemoryUptoRow.holds Tryz.pinned (OpenSpec.upto cookieMemorySpec)

/-- 'turnpikelaw16.CookieTwo', WHERE WHAT IT READS IS OF BULK AT MOST 1048576: true; the input reads as it did. -/
def cookieTwoUptoRow : OpenClaim := { program := "ytkenianfpfamcaagreatdoor", sum := "850534ebbd3c62a06fa6e617514d62eba8a117eb1a143f672cbe48279213f598", func := "turnpike/turnpikelaw16.CookieTwo", spec := "cookieTwo", inPlace := ["internal/bytealg.CountString", "internal/bytealg.IndexByteString", "internal/bytealg.IndexString", "internal/abi.NoEscape", "internal/bytealg.MakeNoZero"], unfollowed := true, recurses := true, named := ["unicode/utf8.first", "unicode/utf8.acceptRanges", "internal/bytealg.MaxLen", "turnpike/octet.signs", "turnpike/stamp.weekdays", "turnpike/stamp.months", "internal/strconv.uint64pow10", "math/bits.deBruijn32tab", "math/bits.deBruijn64tab"], plainKeys := false, apart := false, laid := [("math/bits.deBruijn32tab", laid_math_bits_deBruijn32tab), ("math/bits.deBruijn64tab", laid_math_bits_deBruijn64tab), ("internal/strconv.uint64pow10", laid_internal_strconv_uint64pow10), ("unicode/utf8.acceptRanges", laid_unicode_utf8_acceptRanges), ("turnpike/octet.signs", laid_turnpike_octet_signs), ("turnpike/stamp.weekdays", laid_turnpike_stamp_weekdays), ("turnpike/stamp.months", laid_turnpike_stamp_months), ("unicode/utf8.first", laid_unicode_utf8_first)], narrowed := true }
def CookieTwoUptoSaid : Prop := cookieTwoUptoRow.holds Tryz.pinned (OpenSpec.upto cookieTwoSpec)

/-- 'turnpikelaw16.CookieOwn', WHERE WHAT IT READS IS OF BULK AT MOST 1048576: true; the input reads as it did. -/
def cookieOwnUptoRow : OpenClaim := { program := "ytkenianfpfamcaagreatdoor", sum := "850534ebbd3c62a06fa6e617514d62eba8a117eb1a143f672cbe48279213f598", func := "turnpike/turnpikelaw16.CookieOwn", spec := "cookieOwn", inPlace := ["internal/bytealg.CountString", "internal/bytealg.IndexByteString", "internal/bytealg.IndexString", "internal/abi.NoEscape", "internal/bytealg.MakeNoZero"], unfollowed := true, recurses := true, named := ["unicode/utf8.first", "unicode/utf8.acceptRanges", "internal/bytealg.MaxLen", "turnpike/octet.signs", "turnpike/stamp.weekdays", "turnpike/stamp.months", "internal/strconv.uint64pow10", "math/bits.deBruijn32tab", "math/bits.deBruijn64tab"], plainKeys := false, apart := false, laid := [("math/bits.deBruijn32tab", laid_math_bits_deBruijn32tab), ("math/bits.deBruijn64tab", laid_math_bits_deBruijn64tab), ("internal/strconv.uint64pow10", laid_internal_strconv_uint64pow10), ("unicode/utf8.acceptRanges", laid_unicode_utf8_acceptRanges), ("turnpike/octet.signs", laid_turnpike_octet_signs), ("turnpike/stamp.weekdays", laid_turnpike_stamp_weekdays), ("turnpike/stamp.months", laid_turnpike_stamp_months), ("unicode/utf8.first", laid_unicode_utf8_first)], narrowed := true }
def CookieOwnUptoSaid : Prop := cookieOwnUptoRow.holds Tryz.pinned (OpenSpec.upto cookieOwnSpec)

/-- 'turnpikelaw16.CookieParses', WHERE WHAT IT READS IS OF BULK AT MOST 1048576: true; the input reads as it did. -/
def cookieParsesUptoRow : OpenClaim := { program := "ytkenianfpfamcaagreatdoor", sum := "850534ebbd3c62a06fa6e617514d62eba8a117eb1a143f672cbe48279213f598", func := "turnpike/turnpikelaw16.CookieParses", spec := "cookieParses", inPlace := ["internal/bytealg.CountString", "internal/bytealg.IndexByteString", "internal/bytealg.IndexString", "internal/abi.NoEscape", "internal/bytealg.MakeNoZero"], unfollowed := true, recurses := true, named := ["unicode/utf8.first", "unicode/utf8.acceptRanges", "internal/bytealg.MaxLen", "turnpike/octet.signs", "turnpike/stamp.weekdays", "turnpike/stamp.months", "internal/strconv.uint64pow10", "math/bits.deBruijn32tab", "math/bits.deBruijn64tab"], plainKeys := false, apart := false, laid := [("math/bits.deBruijn32tab", laid_math_bits_deBruijn32tab), ("math/bits.deBruijn64tab", laid_math_bits_deBruijn64tab), ("internal/strconv.uint64pow10", laid_internal_strconv_uint64pow10), ("unicode/utf8.acceptRanges", laid_unicode_utf8_acceptRanges), ("turnpike/octet.signs", laid_turnpike_octet_signs), ("turnpike/stamp.weekdays", laid_turnpike_stamp_weekdays), ("turnpike/stamp.months", laid_turnpike_stamp_months), ("unicode/utf8.first", laid_unicode_utf8_first)], narrowed := true }
def CookieParsesUptoSaid : Prop := cookieParsesUptoRow.holds Tryz.pinned (OpenSpec.upto cookieParsesSpec)

end Rows
end Go.Proofs.YtkenianfpfamcaaGreatDoor
