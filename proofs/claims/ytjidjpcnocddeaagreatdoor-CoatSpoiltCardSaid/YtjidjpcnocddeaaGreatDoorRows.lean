/-
  NARROWER THAN 'FOR EVERY INPUT', by the rows' own cells (each row's printed sentence says how): CoatHolds: laid · CoatTrue: laid · CoatFails: laid · CoatProved: laid · CoatFirsts: laid · CoatRival: laid · CoatDays: laid · CoatPlaced: laid · CoatStucks: laid · CoatReached: laid · CoatSlacks: laid · CoatWider: laid · CoatMends: laid · CoatKept: laid · CoatMore: laid · CoatWords: laid · CoatPrints: laid · CoatReads: laid · CoatSpoilt: laid.
  DERIVED. THE GIVEN ROWS OF THIS SEAT. 19 by the template 'for every input the law returns true; each argument reads behind the call as it read before'; 0 by the template 'total and deterministic' (their statements: YtjidjpcnocddeaaGreatDoorTotals.lean).
  GIVEN WITH THE SEED: the statements are not yours to turn. If you find one false, say at which input.
  Laid BY PROGRAM, IN A SANDBOX (cutbox-rows.mjs): the forced cells as the released guide's own fill.sh prints them over the translation ecd0fa95561ea501… (all of the seat's roots in one cut). By AI agents, Wed Nov 11 2026. No macro, syntax, notation, axiom, sorry.
-/
import Derived.Test.YtjidjpcnocddeaaGreatDoorChecked
import GoSem.PinnedTables
import GoSem.Claim
import GoSem.ClaimJoined
import GoSem.ClaimMapViews
import Derived.JoinedTies
import Derived.KernelRfl
namespace Go.Proofs.YtjidjpcnocddeaaGreatDoor
/- THE CELL 'sum', in the pinned program and in every row, IS THE sha256 OF THE DUMP (.gsa) THAT YtjidjpcnocddeaaGreatDoorProg.lean LOADS. Nothing in Lean hashes anything: it is a label: what it is worth is what the hold of that sum in a sandbox is worth. -/
noncomputable def Tryz.pinned : Pinned := { name := "ytjidjpcnocddeaagreatdoor", sum := "ecd0fa95561ea501316c37c15421323eed364bb1e020d1d8decd1bb61313a3d9", checked := Tryz.checked }
namespace Rows
def none {H : Type} : Left H := { results := [], args := [] }

/- WHAT THE LISTED PACKAGE-LEVEL VARIABLES READ AS WHEN THE CALL BEGINS. Each datum BY PROGRAM (the guide's laid-datum.mjs) off the statement by which the dump's own 'gosem.cut.vars' lays the variable. In a bare row this is a premise. The card (YtjidjpcnocddeaaGreatDoorCards.lean) ties it to the program's text. -/
def laid_math_bits_deBruijn32tab {H : Type} : DataW H := .agg [.lit (.int .u8 0), .lit (.int .u8 1), .lit (.int .u8 28), .lit (.int .u8 2), .lit (.int .u8 29), .lit (.int .u8 14), .lit (.int .u8 24), .lit (.int .u8 3), .lit (.int .u8 30), .lit (.int .u8 22), .lit (.int .u8 20), .lit (.int .u8 15), .lit (.int .u8 25), .lit (.int .u8 17), .lit (.int .u8 4), .lit (.int .u8 8), .lit (.int .u8 31), .lit (.int .u8 27), .lit (.int .u8 13), .lit (.int .u8 23), .lit (.int .u8 21), .lit (.int .u8 19), .lit (.int .u8 16), .lit (.int .u8 7), .lit (.int .u8 26), .lit (.int .u8 12), .lit (.int .u8 18), .lit (.int .u8 6), .lit (.int .u8 11), .lit (.int .u8 5), .lit (.int .u8 10), .lit (.int .u8 9)]
def laid_math_bits_deBruijn64tab {H : Type} : DataW H := .agg [.lit (.int .u8 0), .lit (.int .u8 1), .lit (.int .u8 56), .lit (.int .u8 2), .lit (.int .u8 57), .lit (.int .u8 49), .lit (.int .u8 28), .lit (.int .u8 3), .lit (.int .u8 61), .lit (.int .u8 58), .lit (.int .u8 42), .lit (.int .u8 50), .lit (.int .u8 38), .lit (.int .u8 29), .lit (.int .u8 17), .lit (.int .u8 4), .lit (.int .u8 62), .lit (.int .u8 47), .lit (.int .u8 59), .lit (.int .u8 36), .lit (.int .u8 45), .lit (.int .u8 43), .lit (.int .u8 51), .lit (.int .u8 22), .lit (.int .u8 53), .lit (.int .u8 39), .lit (.int .u8 33), .lit (.int .u8 30), .lit (.int .u8 24), .lit (.int .u8 18), .lit (.int .u8 12), .lit (.int .u8 5), .lit (.int .u8 63), .lit (.int .u8 55), .lit (.int .u8 48), .lit (.int .u8 27), .lit (.int .u8 60), .lit (.int .u8 41), .lit (.int .u8 37), .lit (.int .u8 16), .lit (.int .u8 46), .lit (.int .u8 35), .lit (.int .u8 44), .lit (.int .u8 21), .lit (.int .u8 52), .lit (.int .u8 32), .lit (.int .u8 23), .lit (.int .u8 11), .lit (.int .u8 54), .lit (.int .u8 26), .lit (.int .u8 40), .lit (.int .u8 15), .lit (.int .u8 34), .lit (.int .u8 20), .lit (.int .u8 31), .lit (.int .u8 10), .lit (.int .u8 25), .lit (.int .u8 14), .lit (.int .u8 19), .lit (.int .u8 9), .lit (.int .u8 13), .lit (.int .u8 8), .lit (.int .u8 7), .lit (.int .u8 6)]
def laid_internal_strconv_uint64pow10 {H : Type} : DataW H := .agg [.lit (.int .u64 1), .lit (.int .u64 10), .lit (.int .u64 100), .lit (.int .u64 1000), .lit (.int .u64 10000), .lit (.int .u64 100000), .lit (.int .u64 1000000), .lit (.int .u64 10000000), .lit (.int .u64 100000000), .lit (.int .u64 1000000000), .lit (.int .u64 10000000000), .lit (.int .u64 100000000000), .lit (.int .u64 1000000000000), .lit (.int .u64 10000000000000), .lit (.int .u64 100000000000000), .lit (.int .u64 1000000000000000), .lit (.int .u64 10000000000000000), .lit (.int .u64 100000000000000000), .lit (.int .u64 1000000000000000000), .lit (.int .u64 10000000000000000000)]
def laid_unicode_utf8_acceptRanges {H : Type} : DataW H := .agg [.agg [.lit (.int .u8 128), .lit (.int .u8 191)], .agg [.lit (.int .u8 160), .lit (.int .u8 191)], .agg [.lit (.int .u8 128), .lit (.int .u8 159)], .agg [.lit (.int .u8 144), .lit (.int .u8 191)], .agg [.lit (.int .u8 128), .lit (.int .u8 143)], .agg [.lit (.int .u8 0), .lit (.int .u8 0)], .agg [.lit (.int .u8 0), .lit (.int .u8 0)], .agg [.lit (.int .u8 0), .lit (.int .u8 0)], .agg [.lit (.int .u8 0), .lit (.int .u8 0)], .agg [.lit (.int .u8 0), .lit (.int .u8 0)], .agg [.lit (.int .u8 0), .lit (.int .u8 0)], .agg [.lit (.int .u8 0), .lit (.int .u8 0)], .agg [.lit (.int .u8 0), .lit (.int .u8 0)], .agg [.lit (.int .u8 0), .lit (.int .u8 0)], .agg [.lit (.int .u8 0), .lit (.int .u8 0)], .agg [.lit (.int .u8 0), .lit (.int .u8 0)]]
/-- One of Go's own tables, pinned by name: the form's constant. -/
def laid_unicode_utf8_first : DataW Unit := Go.Pinned.utf8First

/-- 'mahlsticklaw03.CoatHolds': WHATEVER THE INPUT: true; the input reads as it did. -/
def coatHoldsSpec : ChangeSpec := { name := "coatHolds", fn := fun _ => fun
  | [d1, d2, d3] => { results := [.lit (.bool true)], args := [d1, d2, d3] }
  | _ => none }
def coatHoldsRow : OpenClaim := { program := "ytjidjpcnocddeaagreatdoor", sum := "ecd0fa95561ea501316c37c15421323eed364bb1e020d1d8decd1bb61313a3d9", func := "mahlstick/mahlsticklaw03.CoatHolds", spec := "coatHolds", inPlace := ["internal/bytealg.CountString", "internal/bytealg.IndexByteString", "internal/bytealg.IndexString", "internal/abi.NoEscape", "internal/bytealg.MakeNoZero"], unfollowed := true, recurses := true, named := ["unicode/utf8.first", "unicode/utf8.acceptRanges", "internal/bytealg.MaxLen", "internal/strconv.uint64pow10", "math/bits.deBruijn32tab", "math/bits.deBruijn64tab"], plainKeys := false, apart := false, laid := [("math/bits.deBruijn32tab", laid_math_bits_deBruijn32tab), ("math/bits.deBruijn64tab", laid_math_bits_deBruijn64tab), ("internal/strconv.uint64pow10", laid_internal_strconv_uint64pow10), ("unicode/utf8.acceptRanges", laid_unicode_utf8_acceptRanges), ("unicode/utf8.first", laid_unicode_utf8_first)] }
def CoatHoldsSaid : Prop := coatHoldsRow.holds Tryz.pinned (OpenSpec.ofChange coatHoldsSpec)

/-- ITS FALSE NEIGHBOUR: 'it returns false'. Refute it at one input. -/
def coatHoldsWrong : ChangeSpec := { name := "coatHolds", fn := fun _ => fun
  | [d1, d2, d3] => { results := [.lit (.bool false)], args := [d1, d2, d3] }
  | _ => none }
def CoatHoldsWrongFalsely : Prop := coatHoldsRow.holds Tryz.pinned (OpenSpec.ofChange coatHoldsWrong)

/-- 'mahlsticklaw03.CoatTrue': WHATEVER THE INPUT: true; the input reads as it did. -/
def coatTrueSpec : ChangeSpec := { name := "coatTrue", fn := fun _ => fun
  | [d1, d2, d3] => { results := [.lit (.bool true)], args := [d1, d2, d3] }
  | _ => none }
def coatTrueRow : OpenClaim := { program := "ytjidjpcnocddeaagreatdoor", sum := "ecd0fa95561ea501316c37c15421323eed364bb1e020d1d8decd1bb61313a3d9", func := "mahlstick/mahlsticklaw03.CoatTrue", spec := "coatTrue", inPlace := ["internal/bytealg.CountString", "internal/bytealg.IndexByteString", "internal/bytealg.IndexString", "internal/abi.NoEscape", "internal/bytealg.MakeNoZero"], unfollowed := true, recurses := true, named := ["unicode/utf8.first", "unicode/utf8.acceptRanges", "internal/bytealg.MaxLen", "internal/strconv.uint64pow10", "math/bits.deBruijn32tab", "math/bits.deBruijn64tab"], plainKeys := false, apart := false, laid := [("math/bits.deBruijn32tab", laid_math_bits_deBruijn32tab), ("math/bits.deBruijn64tab", laid_math_bits_deBruijn64tab), ("internal/strconv.uint64pow10", laid_internal_strconv_uint64pow10), ("unicode/utf8.acceptRanges", laid_unicode_utf8_acceptRanges), ("unicode/utf8.first", laid_unicode_utf8_first)] }
def CoatTrueSaid : Prop := coatTrueRow.holds Tryz.pinned (OpenSpec.ofChange coatTrueSpec)

/-- ITS FALSE NEIGHBOUR: 'it returns false'. Refute it at one input. -/
def coatTrueWrong : ChangeSpec := { name := "coatTrue", fn := fun _ => fun
  | [d1, d2, d3] => { results := [.lit (.bool false)], args := [d1, d2, d3] }
  | _ => none }
def CoatTrueWrongFalsely : Prop := coatTrueRow.holds Tryz.pinned (OpenSpec.ofChange coatTrueWrong)

/-- 'mahlsticklaw03.CoatFails': WHATEVER THE INPUT: true; the input reads as it did. -/
def coatFailsSpec : ChangeSpec := { name := "coatFails", fn := fun _ => fun
  | [d1, d2] => { results := [.lit (.bool true)], args := [d1, d2] }
  | _ => none }
def coatFailsRow : OpenClaim := { program := "ytjidjpcnocddeaagreatdoor", sum := "ecd0fa95561ea501316c37c15421323eed364bb1e020d1d8decd1bb61313a3d9", func := "mahlstick/mahlsticklaw03.CoatFails", spec := "coatFails", inPlace := ["internal/bytealg.CountString", "internal/bytealg.IndexByteString", "internal/bytealg.IndexString", "internal/abi.NoEscape", "internal/bytealg.MakeNoZero"], unfollowed := true, recurses := true, named := ["unicode/utf8.first", "unicode/utf8.acceptRanges", "internal/bytealg.MaxLen", "internal/strconv.uint64pow10", "math/bits.deBruijn32tab", "math/bits.deBruijn64tab"], plainKeys := false, apart := false, laid := [("math/bits.deBruijn32tab", laid_math_bits_deBruijn32tab), ("math/bits.deBruijn64tab", laid_math_bits_deBruijn64tab), ("internal/strconv.uint64pow10", laid_internal_strconv_uint64pow10), ("unicode/utf8.acceptRanges", laid_unicode_utf8_acceptRanges), ("unicode/utf8.first", laid_unicode_utf8_first)] }
def CoatFailsSaid : Prop := coatFailsRow.holds Tryz.pinned (OpenSpec.ofChange coatFailsSpec)

/-- ITS FALSE NEIGHBOUR: 'it returns false'. Refute it at one input. -/
def coatFailsWrong : ChangeSpec := { name := "coatFails", fn := fun _ => fun
  | [d1, d2] => { results := [.lit (.bool false)], args := [d1, d2] }
  | _ => none }
def CoatFailsWrongFalsely : Prop := coatFailsRow.holds Tryz.pinned (OpenSpec.ofChange coatFailsWrong)

/-- 'mahlsticklaw03.CoatProved': WHATEVER THE INPUT: true; the input reads as it did. -/
def coatProvedSpec : ChangeSpec := { name := "coatProved", fn := fun _ => fun
  | [d1, d2, d3, d4] => { results := [.lit (.bool true)], args := [d1, d2, d3, d4] }
  | _ => none }
def coatProvedRow : OpenClaim := { program := "ytjidjpcnocddeaagreatdoor", sum := "ecd0fa95561ea501316c37c15421323eed364bb1e020d1d8decd1bb61313a3d9", func := "mahlstick/mahlsticklaw03.CoatProved", spec := "coatProved", inPlace := ["internal/bytealg.CountString", "internal/bytealg.IndexByteString", "internal/bytealg.IndexString", "internal/abi.NoEscape", "internal/bytealg.MakeNoZero"], unfollowed := true, recurses := true, named := ["unicode/utf8.first", "unicode/utf8.acceptRanges", "internal/bytealg.MaxLen", "internal/strconv.uint64pow10", "math/bits.deBruijn32tab", "math/bits.deBruijn64tab"], plainKeys := false, apart := false, laid := [("math/bits.deBruijn32tab", laid_math_bits_deBruijn32tab), ("math/bits.deBruijn64tab", laid_math_bits_deBruijn64tab), ("internal/strconv.uint64pow10", laid_internal_strconv_uint64pow10), ("unicode/utf8.acceptRanges", laid_unicode_utf8_acceptRanges), ("unicode/utf8.first", laid_unicode_utf8_first)] }
def CoatProvedSaid : Prop := coatProvedRow.holds Tryz.pinned (OpenSpec.ofChange coatProvedSpec)

/-- ITS FALSE NEIGHBOUR: 'it returns false'. Refute it at one input. -/
def coatProvedWrong : ChangeSpec := { name := "coatProved", fn := fun _ => fun
  | [d1, d2, d3, d4] => { results := [.lit (.bool false)], args := [d1, d2, d3, d4] }
  | _ => none }
def CoatProvedWrongFalsely : Prop := coatProvedRow.holds Tryz.pinned (OpenSpec.ofChange coatProvedWrong)

/-- 'mahlsticklaw03.CoatFirsts': WHATEVER THE INPUT: true; the input reads as it did. -/
def coatFirstsSpec : ChangeSpec := { name := "coatFirsts", fn := fun _ => fun
  | [d] => { results := [.lit (.bool true)], args := [d] }
  | _ => none }
def coatFirstsRow : OpenClaim := { program := "ytjidjpcnocddeaagreatdoor", sum := "ecd0fa95561ea501316c37c15421323eed364bb1e020d1d8decd1bb61313a3d9", func := "mahlstick/mahlsticklaw03.CoatFirsts", spec := "coatFirsts", inPlace := ["internal/bytealg.CountString", "internal/bytealg.IndexByteString", "internal/bytealg.IndexString", "internal/abi.NoEscape", "internal/bytealg.MakeNoZero"], unfollowed := true, recurses := true, named := ["unicode/utf8.first", "unicode/utf8.acceptRanges", "internal/bytealg.MaxLen", "internal/strconv.uint64pow10", "math/bits.deBruijn32tab", "math/bits.deBruijn64tab"], plainKeys := false, apart := false, laid := [("math/bits.deBruijn32tab", laid_math_bits_deBruijn32tab), ("math/bits.deBruijn64tab", laid_math_bits_deBruijn64tab), ("internal/strconv.uint64pow10", laid_internal_strconv_uint64pow10), ("unicode/utf8.acceptRanges", laid_unicode_utf8_acceptRanges), ("unicode/utf8.first", laid_unicode_utf8_first)] }
def CoatFirstsSaid : Prop := coatFirstsRow.holds Tryz.pinned (OpenSpec.ofChange coatFirstsSpec)

/-- ITS FALSE NEIGHBOUR: 'it returns false'. Refute it at one input. -/
def coatFirstsWrong : ChangeSpec := { name := "coatFirsts", fn := fun _ => fun
  | [d] => { results := [.lit (.bool false)], args := [d] }
  | _ => none }
def CoatFirstsWrongFalsely : Prop := coatFirstsRow.holds Tryz.pinned (OpenSpec.ofChange coatFirstsWrong)

/-- 'mahlsticklaw03.CoatRival': WHATEVER THE INPUT: true; the input reads as it did. -/
def coatRivalSpec : ChangeSpec := { name := "coatRival", fn := fun _ => fun
  | [d1, d2] => { results := [.lit (.bool true)], args := [d1, d2] }
  | _ => none }
def coatRivalRow : OpenClaim := { program := "ytjidjpcnocddeaagreatdoor", sum := "ecd0fa95561ea501316c37c15421323eed364bb1e020d1d8decd1bb61313a3d9", func := "mahlstick/mahlsticklaw03.CoatRival", spec := "coatRival", inPlace := ["internal/bytealg.CountString", "internal/bytealg.IndexByteString", "internal/bytealg.IndexString", "internal/abi.NoEscape", "internal/bytealg.MakeNoZero"], unfollowed := true, recurses := true, named := ["unicode/utf8.first", "unicode/utf8.acceptRanges", "internal/bytealg.MaxLen", "internal/strconv.uint64pow10", "math/bits.deBruijn32tab", "math/bits.deBruijn64tab"], plainKeys := false, apart := false, laid := [("math/bits.deBruijn32tab", laid_math_bits_deBruijn32tab), ("math/bits.deBruijn64tab", laid_math_bits_deBruijn64tab), ("internal/strconv.uint64pow10", laid_internal_strconv_uint64pow10), ("unicode/utf8.acceptRanges", laid_unicode_utf8_acceptRanges), ("unicode/utf8.first", laid_unicode_utf8_first)] }
def CoatRivalSaid : Prop := coatRivalRow.holds Tryz.pinned (OpenSpec.ofChange coatRivalSpec)

/-- ITS FALSE NEIGHBOUR: 'it returns false'. Refute it at one input. -/
def coatRivalWrong : ChangeSpec := { name := "coatRival", fn := fun _ => fun
  | [d1, d2] => { results := [.lit (.bool false)], args := [d1, d2] }
  | _ => none }
def CoatRivalWrongFalsely : Prop := coatRivalRow.holds Tryz.pinned (OpenSpec.ofChange coatRivalWrong)

/-- 'mahlsticklaw03.CoatDays': WHATEVER THE INPUT: true; the input reads as it did. -/
def coatDaysSpec : ChangeSpec := { name := "coatDays", fn := fun _ => fun
  | [d1, d2] => { results := [.lit (.bool true)], args := [d1, d2] }
  | _ => none }
def coatDaysRow : OpenClaim := { program := "ytjidjpcnocddeaagreatdoor", sum := "ecd0fa95561ea501316c37c15421323eed364bb1e020d1d8decd1bb61313a3d9", func := "mahlstick/mahlsticklaw03.CoatDays", spec := "coatDays", inPlace := ["internal/bytealg.CountString", "internal/bytealg.IndexByteString", "internal/bytealg.IndexString", "internal/abi.NoEscape", "internal/bytealg.MakeNoZero"], unfollowed := true, recurses := true, named := ["unicode/utf8.first", "unicode/utf8.acceptRanges", "internal/bytealg.MaxLen", "internal/strconv.uint64pow10", "math/bits.deBruijn32tab", "math/bits.deBruijn64tab"], plainKeys := false, apart := false, laid := [("math/bits.deBruijn32tab", laid_math_bits_deBruijn32tab), ("math/bits.deBruijn64tab", laid_math_bits_deBruijn64tab), ("internal/strconv.uint64pow10", laid_internal_strconv_uint64pow10), ("unicode/utf8.acceptRanges", laid_unicode_utf8_acceptRanges), ("unicode/utf8.first", laid_unicode_utf8_first)] }
def CoatDaysSaid : Prop := coatDaysRow.holds Tryz.pinned (OpenSpec.ofChange coatDaysSpec)

/-- ITS FALSE NEIGHBOUR: 'it returns false'. Refute it at one input. -/
def coatDaysWrong : ChangeSpec := { name := "coatDays", fn := fun _ => fun
  | [d1, d2] => { results := [.lit (.bool false)], args := [d1, d2] }
  | _ => none }
def CoatDaysWrongFalsely : Prop := coatDaysRow.holds Tryz.pinned (OpenSpec.ofChange coatDaysWrong)

/-- 'mahlsticklaw03.CoatPlaced': WHATEVER THE INPUT: true; the input reads as it did. -/
def coatPlacedSpec : ChangeSpec := { name := "coatPlaced", fn := fun _ => fun
  | [d1, d2, d3] => { results := [.lit (.bool true)], args := [d1, d2, d3] }
  | _ => none }
def coatPlacedRow : OpenClaim := { program := "ytjidjpcnocddeaagreatdoor", sum := "ecd0fa95561ea501316c37c15421323eed364bb1e020d1d8decd1bb61313a3d9", func := "mahlstick/mahlsticklaw03.CoatPlaced", spec := "coatPlaced", inPlace := ["internal/bytealg.CountString", "internal/bytealg.IndexByteString", "internal/bytealg.IndexString", "internal/abi.NoEscape", "internal/bytealg.MakeNoZero"], unfollowed := true, recurses := true, named := ["unicode/utf8.first", "unicode/utf8.acceptRanges", "internal/bytealg.MaxLen", "internal/strconv.uint64pow10", "math/bits.deBruijn32tab", "math/bits.deBruijn64tab"], plainKeys := false, apart := false, laid := [("math/bits.deBruijn32tab", laid_math_bits_deBruijn32tab), ("math/bits.deBruijn64tab", laid_math_bits_deBruijn64tab), ("internal/strconv.uint64pow10", laid_internal_strconv_uint64pow10), ("unicode/utf8.acceptRanges", laid_unicode_utf8_acceptRanges), ("unicode/utf8.first", laid_unicode_utf8_first)] }
def CoatPlacedSaid : Prop := coatPlacedRow.holds Tryz.pinned (OpenSpec.ofChange coatPlacedSpec)

/-- ITS FALSE NEIGHBOUR: 'it returns false'. Refute it at one input. -/
def coatPlacedWrong : ChangeSpec := { name := "coatPlaced", fn := fun _ => fun
  | [d1, d2, d3] => { results := [.lit (.bool false)], args := [d1, d2, d3] }
  | _ => none }
def CoatPlacedWrongFalsely : Prop := coatPlacedRow.holds Tryz.pinned (OpenSpec.ofChange coatPlacedWrong)

/-- 'mahlsticklaw03.CoatStucks': WHATEVER THE INPUT: true; the input reads as it did. -/
def coatStucksSpec : ChangeSpec := { name := "coatStucks", fn := fun _ => fun
  | [d] => { results := [.lit (.bool true)], args := [d] }
  | _ => none }
def coatStucksRow : OpenClaim := { program := "ytjidjpcnocddeaagreatdoor", sum := "ecd0fa95561ea501316c37c15421323eed364bb1e020d1d8decd1bb61313a3d9", func := "mahlstick/mahlsticklaw03.CoatStucks", spec := "coatStucks", inPlace := ["internal/bytealg.CountString", "internal/bytealg.IndexByteString", "internal/bytealg.IndexString", "internal/abi.NoEscape", "internal/bytealg.MakeNoZero"], unfollowed := true, recurses := true, named := ["unicode/utf8.first", "unicode/utf8.acceptRanges", "internal/bytealg.MaxLen", "internal/strconv.uint64pow10", "math/bits.deBruijn32tab", "math/bits.deBruijn64tab"], plainKeys := false, apart := false, laid := [("math/bits.deBruijn32tab", laid_math_bits_deBruijn32tab), ("math/bits.deBruijn64tab", laid_math_bits_deBruijn64tab), ("internal/strconv.uint64pow10", laid_internal_strconv_uint64pow10), ("unicode/utf8.acceptRanges", laid_unicode_utf8_acceptRanges), ("unicode/utf8.first", laid_unicode_utf8_first)] }
def CoatStucksSaid : Prop := coatStucksRow.holds Tryz.pinned (OpenSpec.ofChange coatStucksSpec)

/-- ITS FALSE NEIGHBOUR: 'it returns false'. Refute it at one input. -/
def coatStucksWrong : ChangeSpec := { name := "coatStucks", fn := fun _ => fun
  | [d] => { results := [.lit (.bool false)], args := [d] }
  | _ => none }
def CoatStucksWrongFalsely : Prop := coatStucksRow.holds Tryz.pinned (OpenSpec.ofChange coatStucksWrong)

/-- 'mahlsticklaw03.CoatReached': WHATEVER THE INPUT: true; the input reads as it did. -/
def coatReachedSpec : ChangeSpec := { name := "coatReached", fn := fun _ => fun
  | [d1, d2] => { results := [.lit (.bool true)], args := [d1, d2] }
  | _ => none }
def coatReachedRow : OpenClaim := { program := "ytjidjpcnocddeaagreatdoor", sum := "ecd0fa95561ea501316c37c15421323eed364bb1e020d1d8decd1bb61313a3d9", func := "mahlstick/mahlsticklaw03.CoatReached", spec := "coatReached", inPlace := ["internal/bytealg.CountString", "internal/bytealg.IndexByteString", "internal/bytealg.IndexString", "internal/abi.NoEscape", "internal/bytealg.MakeNoZero"], unfollowed := true, recurses := true, named := ["unicode/utf8.first", "unicode/utf8.acceptRanges", "internal/bytealg.MaxLen", "internal/strconv.uint64pow10", "math/bits.deBruijn32tab", "math/bits.deBruijn64tab"], plainKeys := false, apart := false, laid := [("math/bits.deBruijn32tab", laid_math_bits_deBruijn32tab), ("math/bits.deBruijn64tab", laid_math_bits_deBruijn64tab), ("internal/strconv.uint64pow10", laid_internal_strconv_uint64pow10), ("unicode/utf8.acceptRanges", laid_unicode_utf8_acceptRanges), ("unicode/utf8.first", laid_unicode_utf8_first)] }
def CoatReachedSaid : Prop := coatReachedRow.holds Tryz.pinned (OpenSpec.ofChange coatReachedSpec)

/-- ITS FALSE NEIGHBOUR: 'it returns false'. Refute it at one input. -/
def coatReachedWrong : ChangeSpec := { name := "coatReached", fn := fun _ => fun
  | [d1, d2] => { results := [.lit (.bool false)], args := [d1, d2] }
  | _ => none }
def CoatReachedWrongFalsely : Prop := coatReachedRow.holds Tryz.pinned (OpenSpec.ofChange coatReachedWrong)

/-- 'mahlsticklaw03.CoatSlacks': WHATEVER THE INPUT: true; the input reads as it did. -/
def coatSlacksSpec : ChangeSpec := { name := "coatSlacks", fn := fun _ => fun
  | [d] => { results := [.lit (.bool true)], args := [d] }
  | _ => none }
def coatSlacksRow : OpenClaim := { program := "ytjidjpcnocddeaagreatdoor", sum := "ecd0fa95561ea501316c37c15421323eed364bb1e020d1d8decd1bb61313a3d9", func := "mahlstick/mahlsticklaw03.CoatSlacks", spec := "coatSlacks", inPlace := ["internal/bytealg.CountString", "internal/bytealg.IndexByteString", "internal/bytealg.IndexString", "internal/abi.NoEscape", "internal/bytealg.MakeNoZero"], unfollowed := true, recurses := true, named := ["unicode/utf8.first", "unicode/utf8.acceptRanges", "internal/bytealg.MaxLen", "internal/strconv.uint64pow10", "math/bits.deBruijn32tab", "math/bits.deBruijn64tab"], plainKeys := false, apart := false, laid := [("math/bits.deBruijn32tab", laid_math_bits_deBruijn32tab), ("math/bits.deBruijn64tab", laid_math_bits_deBruijn64tab), ("internal/strconv.uint64pow10", laid_internal_strconv_uint64pow10), ("unicode/utf8.acceptRanges", laid_unicode_utf8_acceptRanges), ("unicode/utf8.first", laid_unicode_utf8_first)] }
def CoatSlacksSaid : Prop := coatSlacksRow.holds Tryz.pinned (OpenSpec.ofChange coatSlacksSpec)

/-- ITS FALSE NEIGHBOUR: 'it returns false'. Refute it at one input. -/
def coatSlacksWrong : ChangeSpec := { name := "coatSlacks", fn := fun _ => fun
  | [d] => { results := [.lit (.bool false)], args := [d] }
  | _ => none }
def CoatSlacksWrongFalsely : Prop := coatSlacksRow.holds Tryz.pinned (OpenSpec.ofChange coatSlacksWrong)

/-- 'mahlsticklaw03.CoatWider': WHATEVER THE INPUT: true; the input reads as it did. -/
def coatWiderSpec : ChangeSpec := { name := "coatWider", fn := fun _ => fun
  | [d1, d2] => { results := [.lit (.bool true)], args := [d1, d2] }
  | _ => none }
def coatWiderRow : OpenClaim := { program := "ytjidjpcnocddeaagreatdoor", sum := "ecd0fa95561ea501316c37c15421323eed364bb1e020d1d8decd1bb61313a3d9", func := "mahlstick/mahlsticklaw03.CoatWider", spec := "coatWider", inPlace := ["internal/bytealg.CountString", "internal/bytealg.IndexByteString", "internal/bytealg.IndexString", "internal/abi.NoEscape", "internal/bytealg.MakeNoZero"], unfollowed := true, recurses := true, named := ["unicode/utf8.first", "unicode/utf8.acceptRanges", "internal/bytealg.MaxLen", "internal/strconv.uint64pow10", "math/bits.deBruijn32tab", "math/bits.deBruijn64tab"], plainKeys := false, apart := false, laid := [("math/bits.deBruijn32tab", laid_math_bits_deBruijn32tab), ("math/bits.deBruijn64tab", laid_math_bits_deBruijn64tab), ("internal/strconv.uint64pow10", laid_internal_strconv_uint64pow10), ("unicode/utf8.acceptRanges", laid_unicode_utf8_acceptRanges), ("unicode/utf8.first", laid_unicode_utf8_first)] }
def CoatWiderSaid : Prop := coatWiderRow.holds Tryz.pinned (OpenSpec.ofChange coatWiderSpec)

/-- ITS FALSE NEIGHBOUR: 'it returns false'. Refute it at one input. -/
def coatWiderWrong : ChangeSpec := { name := "coatWider", fn := fun _ => fun
  | [d1, d2] => { results := [.lit (.bool false)], args := [d1, d2] }
  | _ => none }
def CoatWiderWrongFalsely : Prop := coatWiderRow.holds Tryz.pinned (OpenSpec.ofChange coatWiderWrong)

/-- 'mahlsticklaw03.CoatMends': WHATEVER THE INPUT: true; the input reads as it did. -/
def coatMendsSpec : ChangeSpec := { name := "coatMends", fn := fun _ => fun
  | [d1, d2, d3] => { results := [.lit (.bool true)], args := [d1, d2, d3] }
  | _ => none }
def coatMendsRow : OpenClaim := { program := "ytjidjpcnocddeaagreatdoor", sum := "ecd0fa95561ea501316c37c15421323eed364bb1e020d1d8decd1bb61313a3d9", func := "mahlstick/mahlsticklaw03.CoatMends", spec := "coatMends", inPlace := ["internal/bytealg.CountString", "internal/bytealg.IndexByteString", "internal/bytealg.IndexString", "internal/abi.NoEscape", "internal/bytealg.MakeNoZero"], unfollowed := true, recurses := true, named := ["unicode/utf8.first", "unicode/utf8.acceptRanges", "internal/bytealg.MaxLen", "internal/strconv.uint64pow10", "math/bits.deBruijn32tab", "math/bits.deBruijn64tab"], plainKeys := false, apart := false, laid := [("math/bits.deBruijn32tab", laid_math_bits_deBruijn32tab), ("math/bits.deBruijn64tab", laid_math_bits_deBruijn64tab), ("internal/strconv.uint64pow10", laid_internal_strconv_uint64pow10), ("unicode/utf8.acceptRanges", laid_unicode_utf8_acceptRanges), ("unicode/utf8.first", laid_unicode_utf8_first)] }
def CoatMendsSaid : Prop := coatMendsRow.holds Tryz.pinned (OpenSpec.ofChange coatMendsSpec)

/-- ITS FALSE NEIGHBOUR: 'it returns false'. Refute it at one input. -/
def coatMendsWrong : ChangeSpec := { name := "coatMends", fn := fun _ => fun
  | [d1, d2, d3] => { results := [.lit (.bool false)], args := [d1, d2, d3] }
  | _ => none }
def CoatMendsWrongFalsely : Prop := coatMendsRow.holds Tryz.pinned (OpenSpec.ofChange coatMendsWrong)

/-- 'mahlsticklaw03.CoatKept': WHATEVER THE INPUT: true; the input reads as it did. -/
def coatKeptSpec : ChangeSpec := { name := "coatKept", fn := fun _ => fun
  | [d1, d2, d3, d4] => { results := [.lit (.bool true)], args := [d1, d2, d3, d4] }
  | _ => none }
def coatKeptRow : OpenClaim := { program := "ytjidjpcnocddeaagreatdoor", sum := "ecd0fa95561ea501316c37c15421323eed364bb1e020d1d8decd1bb61313a3d9", func := "mahlstick/mahlsticklaw03.CoatKept", spec := "coatKept", inPlace := ["internal/bytealg.CountString", "internal/bytealg.IndexByteString", "internal/bytealg.IndexString", "internal/abi.NoEscape", "internal/bytealg.MakeNoZero"], unfollowed := true, recurses := true, named := ["unicode/utf8.first", "unicode/utf8.acceptRanges", "internal/bytealg.MaxLen", "internal/strconv.uint64pow10", "math/bits.deBruijn32tab", "math/bits.deBruijn64tab"], plainKeys := false, apart := false, laid := [("math/bits.deBruijn32tab", laid_math_bits_deBruijn32tab), ("math/bits.deBruijn64tab", laid_math_bits_deBruijn64tab), ("internal/strconv.uint64pow10", laid_internal_strconv_uint64pow10), ("unicode/utf8.acceptRanges", laid_unicode_utf8_acceptRanges), ("unicode/utf8.first", laid_unicode_utf8_first)] }
def CoatKeptSaid : Prop := coatKeptRow.holds Tryz.pinned (OpenSpec.ofChange coatKeptSpec)

/-- ITS FALSE NEIGHBOUR: 'it returns false'. Refute it at one input. -/
def coatKeptWrong : ChangeSpec := { name := "coatKept", fn := fun _ => fun
  | [d1, d2, d3, d4] => { results := [.lit (.bool false)], args := [d1, d2, d3, d4] }
  | _ => none }
def CoatKeptWrongFalsely : Prop := coatKeptRow.holds Tryz.pinned (OpenSpec.ofChange coatKeptWrong)

/-- 'mahlsticklaw03.CoatMore': WHATEVER THE INPUT: true; the input reads as it did. -/
def coatMoreSpec : ChangeSpec := { name := "coatMore", fn := fun _ => fun
  | [d1, d2, d3, d4, d5, d6, d7] => { results := [.lit (.bool true)], args := [d1, d2, d3, d4, d5, d6, d7] }
  | _ => none }
def coatMoreRow : OpenClaim := { program := "ytjidjpcnocddeaagreatdoor", sum := "ecd0fa95561ea501316c37c15421323eed364bb1e020d1d8decd1bb61313a3d9", func := "mahlstick/mahlsticklaw03.CoatMore", spec := "coatMore", inPlace := ["internal/bytealg.CountString", "internal/bytealg.IndexByteString", "internal/bytealg.IndexString", "internal/abi.NoEscape", "internal/bytealg.MakeNoZero"], unfollowed := true, recurses := true, named := ["unicode/utf8.first", "unicode/utf8.acceptRanges", "internal/bytealg.MaxLen", "internal/strconv.uint64pow10", "math/bits.deBruijn32tab", "math/bits.deBruijn64tab"], plainKeys := false, apart := false, laid := [("math/bits.deBruijn32tab", laid_math_bits_deBruijn32tab), ("math/bits.deBruijn64tab", laid_math_bits_deBruijn64tab), ("internal/strconv.uint64pow10", laid_internal_strconv_uint64pow10), ("unicode/utf8.acceptRanges", laid_unicode_utf8_acceptRanges), ("unicode/utf8.first", laid_unicode_utf8_first)] }
def CoatMoreSaid : Prop := coatMoreRow.holds Tryz.pinned (OpenSpec.ofChange coatMoreSpec)

/-- ITS FALSE NEIGHBOUR: 'it returns false'. Refute it at one input. -/
def coatMoreWrong : ChangeSpec := { name := "coatMore", fn := fun _ => fun
  | [d1, d2, d3, d4, d5, d6, d7] => { results := [.lit (.bool false)], args := [d1, d2, d3, d4, d5, d6, d7] }
  | _ => none }
def CoatMoreWrongFalsely : Prop := coatMoreRow.holds Tryz.pinned (OpenSpec.ofChange coatMoreWrong)

/-- 'mahlsticklaw03.CoatWords': WHATEVER THE INPUT: true; the input reads as it did. -/
def coatWordsSpec : ChangeSpec := { name := "coatWords", fn := fun _ => fun
  | [d1, d2] => { results := [.lit (.bool true)], args := [d1, d2] }
  | _ => none }
def coatWordsRow : OpenClaim := { program := "ytjidjpcnocddeaagreatdoor", sum := "ecd0fa95561ea501316c37c15421323eed364bb1e020d1d8decd1bb61313a3d9", func := "mahlstick/mahlsticklaw03.CoatWords", spec := "coatWords", inPlace := ["internal/bytealg.CountString", "internal/bytealg.IndexByteString", "internal/bytealg.IndexString", "internal/abi.NoEscape", "internal/bytealg.MakeNoZero"], unfollowed := true, recurses := true, named := ["unicode/utf8.first", "unicode/utf8.acceptRanges", "internal/bytealg.MaxLen", "internal/strconv.uint64pow10", "math/bits.deBruijn32tab", "math/bits.deBruijn64tab"], plainKeys := false, apart := false, laid := [("math/bits.deBruijn32tab", laid_math_bits_deBruijn32tab), ("math/bits.deBruijn64tab", laid_math_bits_deBruijn64tab), ("internal/strconv.uint64pow10", laid_internal_strconv_uint64pow10), ("unicode/utf8.acceptRanges", laid_unicode_utf8_acceptRanges), ("unicode/utf8.first", laid_unicode_utf8_first)] }
def CoatWordsSaid : Prop := coatWordsRow.holds Tryz.pinned (OpenSpec.ofChange coatWordsSpec)

/-- ITS FALSE NEIGHBOUR: 'it returns false'. Refute it at one input. -/
def coatWordsWrong : ChangeSpec := { name := "coatWords", fn := fun _ => fun
  | [d1, d2] => { results := [.lit (.bool false)], args := [d1, d2] }
  | _ => none }
def CoatWordsWrongFalsely : Prop := coatWordsRow.holds Tryz.pinned (OpenSpec.ofChange coatWordsWrong)

/-- 'mahlsticklaw03.CoatPrints': WHATEVER THE INPUT: true; the input reads as it did. -/
def coatPrintsSpec : ChangeSpec := { name := "coatPrints", fn := fun _ => fun
  | [d] => { results := [.lit (.bool true)], args := [d] }
  | _ => none }
def coatPrintsRow : OpenClaim := { program := "ytjidjpcnocddeaagreatdoor", sum := "ecd0fa95561ea501316c37c15421323eed364bb1e020d1d8decd1bb61313a3d9", func := "mahlstick/mahlsticklaw03.CoatPrints", spec := "coatPrints", inPlace := ["internal/bytealg.CountString", "internal/bytealg.IndexByteString", "internal/bytealg.IndexString", "internal/abi.NoEscape", "internal/bytealg.MakeNoZero"], unfollowed := true, recurses := true, named := ["unicode/utf8.first", "unicode/utf8.acceptRanges", "internal/bytealg.MaxLen", "internal/strconv.uint64pow10", "math/bits.deBruijn32tab", "math/bits.deBruijn64tab"], plainKeys := false, apart := false, laid := [("math/bits.deBruijn32tab", laid_math_bits_deBruijn32tab), ("math/bits.deBruijn64tab", laid_math_bits_deBruijn64tab), ("internal/strconv.uint64pow10", laid_internal_strconv_uint64pow10), ("unicode/utf8.acceptRanges", laid_unicode_utf8_acceptRanges), ("unicode/utf8.first", laid_unicode_utf8_first)] }
def CoatPrintsSaid : Prop := coatPrintsRow.holds Tryz.pinned (OpenSpec.ofChange coatPrintsSpec)

/-- ITS FALSE NEIGHBOUR: 'it returns false'. Refute it at one input. -/
def coatPrintsWrong : ChangeSpec := { name := "coatPrints", fn := fun _ => fun
  | [d] => { results := [.lit (.bool false)], args := [d] }
  | _ => none }
def CoatPrintsWrongFalsely : Prop := coatPrintsRow.holds Tryz.pinned (OpenSpec.ofChange coatPrintsWrong)

/-- 'mahlsticklaw03.CoatReads': WHATEVER THE INPUT: true; the input reads as it did. -/
def coatReadsSpec : ChangeSpec := { name := "coatReads", fn := fun _ => fun
  | [d] => { results := [.lit (.bool true)], args := [d] }
  | _ => none }
def coatReadsRow : OpenClaim := { program := "ytjidjpcnocddeaagreatdoor", sum := "ecd0fa95561ea501316c37c15421323eed364bb1e020d1d8decd1bb61313a3d9", func := "mahlstick/mahlsticklaw03.CoatReads", spec := "coatReads", inPlace := ["internal/bytealg.CountString", "internal/bytealg.IndexByteString", "internal/bytealg.IndexString", "internal/abi.NoEscape", "internal/bytealg.MakeNoZero"], unfollowed := true, recurses := true, named := ["unicode/utf8.first", "unicode/utf8.acceptRanges", "internal/bytealg.MaxLen", "internal/strconv.uint64pow10", "math/bits.deBruijn32tab", "math/bits.deBruijn64tab"], plainKeys := false, apart := false, laid := [("math/bits.deBruijn32tab", laid_math_bits_deBruijn32tab), ("math/bits.deBruijn64tab", laid_math_bits_deBruijn64tab), ("internal/strconv.uint64pow10", laid_internal_strconv_uint64pow10), ("unicode/utf8.acceptRanges", laid_unicode_utf8_acceptRanges), ("unicode/utf8.first", laid_unicode_utf8_first)] }
def CoatReadsSaid : Prop := coatReadsRow.holds Tryz.pinned (OpenSpec.ofChange coatReadsSpec)

/-- ITS FALSE NEIGHBOUR: 'it returns false'. Refute it at one input. -/
def coatReadsWrong : ChangeSpec := { name := "coatReads", fn := fun _ => fun
  | [d] => { results := [.lit (.bool false)], args := [d] }
  | _ => none }
def CoatReadsWrongFalsely : Prop := coatReadsRow.holds Tryz.pinned (OpenSpec.ofChange coatReadsWrong)

/-- 'mahlsticklaw03.CoatSpoilt': WHATEVER THE INPUT: true; the input reads as it did. -/
def coatSpoiltSpec : ChangeSpec := { name := "coatSpoilt", fn := fun _ => fun
  | [d1, d2, d3] => { results := [.lit (.bool true)], args := [d1, d2, d3] }
  | _ => none }
def coatSpoiltRow : OpenClaim := { program := "ytjidjpcnocddeaagreatdoor", sum := "ecd0fa95561ea501316c37c15421323eed364bb1e020d1d8decd1bb61313a3d9", func := "mahlstick/mahlsticklaw03.CoatSpoilt", spec := "coatSpoilt", inPlace := ["internal/bytealg.CountString", "internal/bytealg.IndexByteString", "internal/bytealg.IndexString", "internal/abi.NoEscape", "internal/bytealg.MakeNoZero"], unfollowed := true, recurses := true, named := ["unicode/utf8.first", "unicode/utf8.acceptRanges", "internal/bytealg.MaxLen", "internal/strconv.uint64pow10", "math/bits.deBruijn32tab", "math/bits.deBruijn64tab"], plainKeys := false, apart := false, laid := [("math/bits.deBruijn32tab", laid_math_bits_deBruijn32tab), ("math/bits.deBruijn64tab", laid_math_bits_deBruijn64tab), ("internal/strconv.uint64pow10", laid_internal_strconv_uint64pow10), ("unicode/utf8.acceptRanges", laid_unicode_utf8_acceptRanges), ("unicode/utf8.first", laid_unicode_utf8_first)] }
def CoatSpoiltSaid : Prop := coatSpoiltRow.holds Tryz.pinned (OpenSpec.ofChange coatSpoiltSpec)

/-- ITS FALSE NEIGHBOUR: 'it returns false'. Refute it at one input. -/
def coatSpoiltWrong : ChangeSpec := { name := "coatSpoilt", fn := fun _ => fun
  | [d1, d2, d3] => { results := [.lit (.bool false)], args := [d1, d2, d3] }
  | _ => none }
def CoatSpoiltWrongFalsely : Prop := coatSpoiltRow.holds Tryz.pinned (OpenSpec.ofChange coatSpoiltWrong)

/- THE SECOND FORM. 'bulk': how many values and letters a reading holds, each counted each time it is reached (what is shared counts as often as it is met; a slice's spare places count too). A statement '..UptoSaid' is the law's where the arguments, and the package variables that the reading takes, are together of bulk at most 1048576: NARROWER than '..Said'. Prove '..Said' where nothing that the law and all that it calls make is longer than what came in: it says more and counts as full. Else prove '..UptoSaid'. A law counts once. -/
mutual
def uptoBulk {H : Type} : DataW H → Nat
  | .lit (.string bytes) => bytes.length + 1
  | .lit _ => 1
  | .nil => 1
  | .ptr d => uptoBulk d + 1
  | .slice elems spare => uptoBulkAll elems + uptoBulkAll spare + 1
  | .agg parts => uptoBulkAll parts + 1
  | .iface _ d => uptoBulk d + 1
  | .map entries => uptoBulkEntries entries + 1
  | .held _ => 1
def uptoBulkAll {H : Type} : List (DataW H) → Nat
  | [] => 0
  | d :: r => uptoBulk d + uptoBulkAll r
def uptoBulkEntries {H : Type} : List (Lit × DataW H) → Nat
  | [] => 0
  | x :: r => uptoBulkEntry x + uptoBulkEntries r
def uptoBulkEntry {H : Type} : Lit × DataW H → Nat
  | (.string bytes, d) => bytes.length + uptoBulk d + 1
  | (_, d) => uptoBulk d + 1
 end
def uptoSmall : (H : Type) → List (DataW H) → Bool := fun _ ds => decide (uptoBulkAll ds ≤ 1048576)
def OpenSpec.upto (s : _root_.Go.ChangeSpec) : _root_.Go.OpenSpec := { _root_.Go.OpenSpec.ofChange s with cond := some uptoSmall }

/-- 'mahlsticklaw03.CoatHolds', WHERE WHAT IT READS IS OF BULK AT MOST 1048576: true; the input reads as it did. -/
def coatHoldsUptoRow : OpenClaim := { program := "ytjidjpcnocddeaagreatdoor", sum := "ecd0fa95561ea501316c37c15421323eed364bb1e020d1d8decd1bb61313a3d9", func := "mahlstick/mahlsticklaw03.CoatHolds", spec := "coatHolds", inPlace := ["internal/bytealg.CountString", "internal/bytealg.IndexByteString", "internal/bytealg.IndexString", "internal/abi.NoEscape", "internal/bytealg.MakeNoZero"], unfollowed := true, recurses := true, named := ["unicode/utf8.first", "unicode/utf8.acceptRanges", "internal/bytealg.MaxLen", "internal/strconv.uint64pow10", "math/bits.deBruijn32tab", "math/bits.deBruijn64tab"], plainKeys := false, apart := false, laid := [("math/bits.deBruijn32tab", laid_math_bits_deBruijn32tab), ("math/bits.deBruijn64tab", laid_math_bits_deBruijn64tab), ("internal/strconv.uint64pow10", laid_internal_strconv_uint64pow10), ("unicode/utf8.acceptRanges", laid_unicode_utf8_acceptRanges), ("unicode/utf8.first", laid_unicode_utf8_first)], narrowed := true }
def CoatHoldsUptoSaid : Prop := coatHoldsUptoRow.holds Tryz.pinned (OpenSpec.upto coatHoldsSpec)

/-- 'mahlsticklaw03.CoatTrue', WHERE WHAT IT READS IS OF BULK AT MOST 1048576: true; the input reads as it did. -/
def coatTrueUptoRow : OpenClaim := { program := "ytjidjpcnocddeaagreatdoor", sum := "ecd0fa95561ea501316c37c15421323eed364bb1e020d1d8decd1bb61313a3d9", func := "mahlstick/mahlsticklaw03.CoatTrue", spec := "coatTrue", inPlace := ["internal/bytealg.CountString", "internal/bytealg.IndexByteString", "internal/bytealg.IndexString", "internal/abi.NoEscape", "internal/bytealg.MakeNoZero"], unfollowed := true, recurses := true, named := ["unicode/utf8.first", "unicode/utf8.acceptRanges", "internal/bytealg.MaxLen", "internal/strconv.uint64pow10", "math/bits.deBruijn32tab", "math/bits.deBruijn64tab"], plainKeys := false, apart := false, laid := [("math/bits.deBruijn32tab", laid_math_bits_deBruijn32tab), ("math/bits.deBruijn64tab", laid_math_bits_deBruijn64tab), ("internal/strconv.uint64pow10", laid_internal_strconv_uint64pow10), ("unicode/utf8.acceptRanges", laid_unicode_utf8_acceptRanges), ("unicode/utf8.first", laid_unicode_utf8_first)], narrowed := true }
def CoatTrueUptoSaid : Prop := coatTrueUptoRow.holds Tryz.pinned (OpenSpec.upto coatTrueSpec)

/-- 'mahlsticklaw03.CoatFails', WHERE WHAT IT READS IS OF BULK AT MOST 1048576: true; the input reads as it did. -/
def coatFailsUptoRow : OpenClaim := { program := "ytjidjpcnocddeaagreatdoor", sum := "ecd0fa95561ea501316c37c15421323eed364bb1e020d1d8decd1bb61313a3d9", func := "mahlstick/mahlsticklaw03.CoatFails", spec := "coatFails", inPlace := ["internal/bytealg.CountString", "internal/bytealg.IndexByteString", "internal/bytealg.IndexString", "internal/abi.NoEscape", "internal/bytealg.MakeNoZero"], unfollowed := true, recurses := true, named := ["unicode/utf8.first", "unicode/utf8.acceptRanges", "internal/bytealg.MaxLen", "internal/strconv.uint64pow10", "math/bits.deBruijn32tab", "math/bits.deBruijn64tab"], plainKeys := false, apart := false, laid := [("math/bits.deBruijn32tab", laid_math_bits_deBruijn32tab), ("math/bits.deBruijn64tab", laid_math_bits_deBruijn64tab), ("internal/strconv.uint64pow10", laid_internal_strconv_uint64pow10), ("unicode/utf8.acceptRanges", laid_unicode_utf8_acceptRanges), ("unicode/utf8.first", laid_unicode_utf8_first)], narrowed := true }
def CoatFailsUptoSaid : Prop := coatFailsUptoRow.holds Tryz.pinned (OpenSpec.upto coatFailsSpec)

/-- 'mahlsticklaw03.CoatProved', WHERE WHAT IT READS IS OF BULK AT MOST 1048576: true; the input reads as it did. -/
def coatProvedUptoRow : OpenClaim := { program := "ytjidjpcnocddeaagreatdoor", sum := "ecd0fa95561ea501316c37c15421323eed364bb1e020d1d8decd1bb61313a3d9", func := "mahlstick/mahlsticklaw03.CoatProved", spec := "coatProved", inPlace := ["internal/bytealg.CountString", "internal/bytealg.IndexByteString", "internal/bytealg.IndexString", "internal/abi.NoEscape", "internal/bytealg.MakeNoZero"], unfollowed := true, recurses := true, named := ["unicode/utf8.first", "unicode/utf8.acceptRanges", "internal/bytealg.MaxLen", "internal/strconv.uint64pow10", "math/bits.deBruijn32tab", "math/bits.deBruijn64tab"], plainKeys := false, apart := false, laid := [("math/bits.deBruijn32tab", laid_math_bits_deBruijn32tab), ("math/bits.deBruijn64tab", laid_math_bits_deBruijn64tab), ("internal/strconv.uint64pow10", laid_internal_strconv_uint64pow10), ("unicode/utf8.acceptRanges", laid_unicode_utf8_acceptRanges), ("unicode/utf8.first", laid_unicode_utf8_first)], narrowed := true }
def CoatProvedUptoSaid : Prop := coatProvedUptoRow.holds Tryz.pinned (OpenSpec.upto coatProvedSpec)

/-- 'mahlsticklaw03.CoatFirsts', WHERE WHAT IT READS IS OF BULK AT MOST 1048576: true; the input reads as it did. -/
def coatFirstsUptoRow : OpenClaim := { program := "ytjidjpcnocddeaagreatdoor", sum := "ecd0fa95561ea501316c37c15421323eed364bb1e020d1d8decd1bb61313a3d9", func := "mahlstick/mahlsticklaw03.CoatFirsts", spec := "coatFirsts", inPlace := ["internal/bytealg.CountString", "internal/bytealg.IndexByteString", "internal/bytealg.IndexString", "internal/abi.NoEscape", "internal/bytealg.MakeNoZero"], unfollowed := true, recurses := true, named := ["unicode/utf8.first", "unicode/utf8.acceptRanges", "internal/bytealg.MaxLen", "internal/strconv.uint64pow10", "math/bits.deBruijn32tab", "math/bits.deBruijn64tab"], plainKeys := false, apart := false, laid := [("math/bits.deBruijn32tab", laid_math_bits_deBruijn32tab), ("math/bits.deBruijn64tab", laid_math_bits_deBruijn64tab), ("internal/strconv.uint64pow10", laid_internal_strconv_uint64pow10), ("unicode/utf8.acceptRanges", laid_unicode_utf8_acceptRanges), ("unicode/utf8.first", laid_unicode_utf8_first)], narrowed := true }
def CoatFirstsUptoSaid : Prop := coatFirstsUptoRow.holds Tryz.pinned (OpenSpec.upto coatFirstsSpec)

/-- 'mahlsticklaw03.CoatRival', WHERE WHAT IT READS IS OF BULK AT MOST 1048576: true; the input reads as it did. -/
def coatRivalUptoRow : OpenClaim := { program := "ytjidjpcnocddeaagreatdoor", sum := "ecd0fa95561ea501316c37c15421323eed364bb1e020d1d8decd1bb61313a3d9", func := "mahlstick/mahlsticklaw03.CoatRival", spec := "coatRival", inPlace := ["internal/bytealg.CountString", "internal/bytealg.IndexByteString", "internal/bytealg.IndexString", "internal/abi.NoEscape", "internal/bytealg.MakeNoZero"], unfollowed := true, recurses := true, named := ["unicode/utf8.first", "unicode/utf8.acceptRanges", "internal/bytealg.MaxLen", "internal/strconv.uint64pow10", "math/bits.deBruijn32tab", "math/bits.deBruijn64tab"], plainKeys := false, apart := false, laid := [("math/bits.deBruijn32tab", laid_math_bits_deBruijn32tab), ("math/bits.deBruijn64tab", laid_math_bits_deBruijn64tab), ("internal/strconv.uint64pow10", laid_internal_strconv_uint64pow10), ("unicode/utf8.acceptRanges", laid_unicode_utf8_acceptRanges), ("unicode/utf8.first", laid_unicode_utf8_first)], narrowed := true }
def CoatRivalUptoSaid : Prop := coatRivalUptoRow.holds Tryz.pinned (OpenSpec.upto coatRivalSpec)

/-- 'mahlsticklaw03.CoatDays', WHERE WHAT IT READS IS OF BULK AT MOST 1048576: true; the input reads as it did. -/
def coatDaysUptoRow : OpenClaim := { program := "ytjidjpcnocddeaagreatdoor", sum := "ecd0fa95561ea501316c37c15421323eed364bb1e020d1d8decd1bb61313a3d9", func := "mahlstick/mahlsticklaw03.CoatDays", spec := "coatDays", inPlace := ["internal/bytealg.CountString", "internal/bytealg.IndexByteString", "internal/bytealg.IndexString", "internal/abi.NoEscape", "internal/bytealg.MakeNoZero"], unfollowed := true, recurses := true, named := ["unicode/utf8.first", "unicode/utf8.acceptRanges", "internal/bytealg.MaxLen", "internal/strconv.uint64pow10", "math/bits.deBruijn32tab", "math/bits.deBruijn64tab"], plainKeys := false, apart := false, laid := [("math/bits.deBruijn32tab", laid_math_bits_deBruijn32tab), ("math/bits.deBruijn64tab", laid_math_bits_deBruijn64tab), ("internal/strconv.uint64pow10", laid_internal_strconv_uint64pow10), ("unicode/utf8.acceptRanges", laid_unicode_utf8_acceptRanges), ("unicode/utf8.first", laid_unicode_utf8_first)], narrowed := true }
def CoatDaysUptoSaid : Prop := coatDaysUptoRow.holds Tryz.pinned (OpenSpec.upto coatDaysSpec)

/-- 'mahlsticklaw03.CoatPlaced', WHERE WHAT IT READS IS OF BULK AT MOST 1048576: true; the input reads as it did. -/
def coatPlacedUptoRow : OpenClaim := { program := "ytjidjpcnocddeaagreatdoor", sum := "ecd0fa95561ea501316c37c15421323eed364bb1e020d1d8decd1bb61313a3d9", func := "mahlstick/mahlsticklaw03.CoatPlaced", spec := "coatPlaced", inPlace := ["internal/bytealg.CountString", "internal/bytealg.IndexByteString", "internal/bytealg.IndexString", "internal/abi.NoEscape", "internal/bytealg.MakeNoZero"], unfollowed := true, recurses := true, named := ["unicode/utf8.first", "unicode/utf8.acceptRanges", "internal/bytealg.MaxLen", "internal/strconv.uint64pow10", "math/bits.deBruijn32tab", "math/bits.deBruijn64tab"], plainKeys := false, apart := false, laid := [("math/bits.deBruijn32tab", laid_math_bits_deBruijn32tab), ("math/bits.deBruijn64tab", laid_math_bits_deBruijn64tab), ("internal/strconv.uint64pow10", laid_internal_strconv_uint64pow10), ("unicode/utf8.acceptRanges", laid_unicode_utf8_acceptRanges), ("unicode/utf8.first", laid_unicode_utf8_first)], narrowed := true }
def CoatPlacedUptoSaid : Prop := coatPlacedUptoRow.holds Tryz.pinned (OpenSpec.upto coatPlacedSpec)

/-- 'mahlsticklaw03.CoatStucks', WHERE WHAT IT READS IS OF BULK AT MOST 1048576: true; the input reads as it did. -/
def coatStucksUptoRow : OpenClaim := { program := "ytjidjpcnocddeaagreatdoor", sum := "ecd0fa95561ea501316c37c15421323eed364bb1e020d1d8decd1bb61313a3d9", func := "mahlstick/mahlsticklaw03.CoatStucks", spec := "coatStucks", inPlace := ["internal/bytealg.CountString", "internal/bytealg.IndexByteString", "internal/bytealg.IndexString", "internal/abi.NoEscape", "internal/bytealg.MakeNoZero"], unfollowed := true, recurses := true, named := ["unicode/utf8.first", "unicode/utf8.acceptRanges", "internal/bytealg.MaxLen", "internal/strconv.uint64pow10", "math/bits.deBruijn32tab", "math/bits.deBruijn64tab"], plainKeys := false, apart := false, laid := [("math/bits.deBruijn32tab", laid_math_bits_deBruijn32tab), ("math/bits.deBruijn64tab", laid_math_bits_deBruijn64tab), ("internal/strconv.uint64pow10", laid_internal_strconv_uint64pow10), ("unicode/utf8.acceptRanges", laid_unicode_utf8_acceptRanges), ("unicode/utf8.first", laid_unicode_utf8_first)], narrowed := true }
def CoatStucksUptoSaid : Prop := coatStucksUptoRow.holds Tryz.pinned (OpenSpec.upto coatStucksSpec)

/-- 'mahlsticklaw03.CoatReached', WHERE WHAT IT READS IS OF BULK AT MOST 1048576: true; the input reads as it did. -/
def coatReachedUptoRow : OpenClaim := { program := "ytjidjpcnocddeaagreatdoor", sum := "ecd0fa95561ea501316c37c15421323eed364bb1e020d1d8decd1bb61313a3d9", func := "mahlstick/mahlsticklaw03.CoatReached", spec := "coatReached", inPlace := ["internal/bytealg.CountString", "internal/bytealg.IndexByteString", "internal/bytealg.IndexString", "internal/abi.NoEscape", "internal/bytealg.MakeNoZero"], unfollowed := true, recurses := true, named := ["unicode/utf8.first", "unicode/utf8.acceptRanges", "internal/bytealg.MaxLen", "internal/strconv.uint64pow10", "math/bits.deBruijn32tab", "math/bits.deBruijn64tab"], plainKeys := false, apart := false, laid := [("math/bits.deBruijn32tab", laid_math_bits_deBruijn32tab), ("math/bits.deBruijn64tab", laid_math_bits_deBruijn64tab), ("internal/strconv.uint64pow10", laid_internal_strconv_uint64pow10), ("unicode/utf8.acceptRanges", laid_unicode_utf8_acceptRanges), ("unicode/utf8.first", laid_unicode_utf8_first)], narrowed := true }
def CoatReachedUptoSaid : Prop := coatReachedUptoRow.holds Tryz.pinned (OpenSpec.upto coatReachedSpec)

/-- 'mahlsticklaw03.CoatSlacks', WHERE WHAT IT READS IS OF BULK AT MOST 1048576: true; the input reads as it did. -/
def coatSlacksUptoRow : OpenClaim := { program := "ytjidjpcnocddeaagreatdoor", sum := "ecd0fa95561ea501316c37c15421323eed364bb1e020d1d8decd1bb61313a3d9", func := "mahlstick/mahlsticklaw03.CoatSlacks", spec := "coatSlacks", inPlace := ["internal/bytealg.CountString", "internal/bytealg.IndexByteString", "internal/bytealg.IndexString", "internal/abi.NoEscape", "internal/bytealg.MakeNoZero"], unfollowed := true, recurses := true, named := ["unicode/utf8.first", "unicode/utf8.acceptRanges", "internal/bytealg.MaxLen", "internal/strconv.uint64pow10", "math/bits.deBruijn32tab", "math/bits.deBruijn64tab"], plainKeys := false, apart := false, laid := [("math/bits.deBruijn32tab", laid_math_bits_deBruijn32tab), ("math/bits.deBruijn64tab", laid_math_bits_deBruijn64tab), ("internal/strconv.uint64pow10", laid_internal_strconv_uint64pow10), ("unicode/utf8.acceptRanges", laid_unicode_utf8_acceptRanges), ("unicode/utf8.first", laid_unicode_utf8_first)], narrowed := true }
def CoatSlacksUptoSaid : Prop := coatSlacksUptoRow.holds Tryz.pinned (OpenSpec.upto coatSlacksSpec)

/-- 'mahlsticklaw03.CoatWider', WHERE WHAT IT READS IS OF BULK AT MOST 1048576: true; the input reads as it did. -/
def coatWiderUptoRow : OpenClaim := { program := "ytjidjpcnocddeaagreatdoor", sum := "ecd0fa95561ea501316c37c15421323eed364bb1e020d1d8decd1bb61313a3d9", func := "mahlstick/mahlsticklaw03.CoatWider", spec := "coatWider", inPlace := ["internal/bytealg.CountString", "internal/bytealg.IndexByteString", "internal/bytealg.IndexString", "internal/abi.NoEscape", "internal/bytealg.MakeNoZero"], unfollowed := true, recurses := true, named := ["unicode/utf8.first", "unicode/utf8.acceptRanges", "internal/bytealg.MaxLen", "internal/strconv.uint64pow10", "math/bits.deBruijn32tab", "math/bits.deBruijn64tab"], plainKeys := false, apart := false, laid := [("math/bits.deBruijn32tab", laid_math_bits_deBruijn32tab), ("math/bits.deBruijn64tab", laid_math_bits_deBruijn64tab), ("internal/strconv.uint64pow10", laid_internal_strconv_uint64pow10), ("unicode/utf8.acceptRanges", laid_unicode_utf8_acceptRanges), ("unicode/utf8.first", laid_unicode_utf8_first)], narrowed := true }
def CoatWiderUptoSaid : Prop := coatWiderUptoRow.holds Tryz.pinned (OpenSpec.upto coatWiderSpec)

/-- 'mahlsticklaw03.CoatMends', WHERE WHAT IT READS IS OF BULK AT MOST 1048576: true; the input reads as it did. -/
def coatMendsUptoRow : OpenClaim := { program := "ytjidjpcnocddeaagreatdoor", sum := "ecd0fa95561ea501316c37c15421323eed364bb1e020d1d8decd1bb61313a3d9", func := "mahlstick/mahlsticklaw03.CoatMends", spec := "coatMends", inPlace := ["internal/bytealg.CountString", "internal/bytealg.IndexByteString", "internal/bytealg.IndexString", "internal/abi.NoEscape", "internal/bytealg.MakeNoZero"], unfollowed := true, recurses := true, named := ["unicode/utf8.first", "unicode/utf8.acceptRanges", "internal/bytealg.MaxLen", "internal/strconv.uint64pow10", "math/bits.deBruijn32tab", "math/bits.deBruijn64tab"], plainKeys := false, apart := false, laid := [("math/bits.deBruijn32tab", laid_math_bits_deBruijn32tab), ("math/bits.deBruijn64tab", laid_math_bits_deBruijn64tab), ("internal/strconv.uint64pow10", laid_internal_strconv_uint64pow10), ("unicode/utf8.acceptRanges", laid_unicode_utf8_acceptRanges), ("unicode/utf8.first", laid_unicode_utf8_first)], narrowed := true }
def CoatMendsUptoSaid : Prop := coatMendsUptoRow.holds Tryz.pinned (OpenSpec.upto coatMendsSpec)

/-- 'mahlsticklaw03.CoatKept', WHERE WHAT IT READS IS OF BULK AT MOST 1048576: true; the input reads as it did. -/
def coatKeptUptoRow : OpenClaim := { program := "ytjidjpcnocddeaagreatdoor", sum := "ecd0fa95561ea501316c37c15421323eed364bb1e020d1d8decd1bb61313a3d9", func := "mahlstick/mahlsticklaw03.CoatKept", spec := "coatKept", inPlace := ["internal/bytealg.CountString", "internal/bytealg.IndexByteString", "internal/bytealg.IndexString", "internal/abi.NoEscape", "internal/bytealg.MakeNoZero"], unfollowed := true, recurses := true, named := ["unicode/utf8.first", "unicode/utf8.acceptRanges", "internal/bytealg.MaxLen", "internal/strconv.uint64pow10", "math/bits.deBruijn32tab", "math/bits.deBruijn64tab"], plainKeys := false, apart := false, laid := [("math/bits.deBruijn32tab", laid_math_bits_deBruijn32tab), ("math/bits.deBruijn64tab", laid_math_bits_deBruijn64tab), ("internal/strconv.uint64pow10", laid_internal_strconv_uint64pow10), ("unicode/utf8.acceptRanges", laid_unicode_utf8_acceptRanges), ("unicode/utf8.first", laid_unicode_utf8_first)], narrowed := true }
def CoatKeptUptoSaid : Prop := coatKeptUptoRow.holds Tryz.pinned (OpenSpec.upto coatKeptSpec)

/-- 'mahlsticklaw03.CoatMore', WHERE WHAT IT READS IS OF BULK AT MOST 1048576: true; the input reads as it did. -/
def coatMoreUptoRow : OpenClaim := { program := "ytjidjpcnocddeaagreatdoor", sum := "ecd0fa95561ea501316c37c15421323eed364bb1e020d1d8decd1bb61313a3d9", func := "mahlstick/mahlsticklaw03.CoatMore", spec := "coatMore", inPlace := ["internal/bytealg.CountString", "internal/bytealg.IndexByteString", "internal/bytealg.IndexString", "internal/abi.NoEscape", "internal/bytealg.MakeNoZero"], unfollowed := true, recurses := true, named := ["unicode/utf8.first", "unicode/utf8.acceptRanges", "internal/bytealg.MaxLen", "internal/strconv.uint64pow10", "math/bits.deBruijn32tab", "math/bits.deBruijn64tab"], plainKeys := false, apart := false, laid := [("math/bits.deBruijn32tab", laid_math_bits_deBruijn32tab), ("math/bits.deBruijn64tab", laid_math_bits_deBruijn64tab), ("internal/strconv.uint64pow10", laid_internal_strconv_uint64pow10), ("unicode/utf8.acceptRanges", laid_unicode_utf8_acceptRanges), ("unicode/utf8.first", laid_unicode_utf8_first)], narrowed := true }
def CoatMoreUptoSaid : Prop := coatMoreUptoRow.holds Tryz.pinned (OpenSpec.upto coatMoreSpec)

/-- 'mahlsticklaw03.CoatWords', WHERE WHAT IT READS IS OF BULK AT MOST 1048576: true; the input reads as it did. -/
def coatWordsUptoRow : OpenClaim := { program := "ytjidjpcnocddeaagreatdoor", sum := "ecd0fa95561ea501316c37c15421323eed364bb1e020d1d8decd1bb61313a3d9", func := "mahlstick/mahlsticklaw03.CoatWords", spec := "coatWords", inPlace := ["internal/bytealg.CountString", "internal/bytealg.IndexByteString", "internal/bytealg.IndexString", "internal/abi.NoEscape", "internal/bytealg.MakeNoZero"], unfollowed := true, recurses := true, named := ["unicode/utf8.first", "unicode/utf8.acceptRanges", "internal/bytealg.MaxLen", "internal/strconv.uint64pow10", "math/bits.deBruijn32tab", "math/bits.deBruijn64tab"], plainKeys := false, apart := false, laid := [("math/bits.deBruijn32tab", laid_math_bits_deBruijn32tab), ("math/bits.deBruijn64tab", laid_math_bits_deBruijn64tab), ("internal/strconv.uint64pow10", laid_internal_strconv_uint64pow10), ("unicode/utf8.acceptRanges", laid_unicode_utf8_acceptRanges), ("unicode/utf8.first", laid_unicode_utf8_first)], narrowed := true }
def CoatWordsUptoSaid : Prop := coatWordsUptoRow.holds Tryz.pinned (OpenSpec.upto coatWordsSpec)

/-- 'mahlsticklaw03.CoatPrints', WHERE WHAT IT READS IS OF BULK AT MOST 1048576: true; the input reads as it did. -/
def coatPrintsUptoRow : OpenClaim := { program := "ytjidjpcnocddeaagreatdoor", sum := "ecd0fa95561ea501316c37c15421323eed364bb1e020d1d8decd1bb61313a3d9", func := "mahlstick/mahlsticklaw03.CoatPrints", spec := "coatPrints", inPlace := ["internal/bytealg.CountString", "internal/bytealg.IndexByteString", "internal/bytealg.IndexString", "internal/abi.NoEscape", "internal/bytealg.MakeNoZero"], unfollowed := true, recurses := true, named := ["unicode/utf8.first", "unicode/utf8.acceptRanges", "internal/bytealg.MaxLen", "internal/strconv.uint64pow10", "math/bits.deBruijn32tab", "math/bits.deBruijn64tab"], plainKeys := false, apart := false, laid := [("math/bits.deBruijn32tab", laid_math_bits_deBruijn32tab), ("math/bits.deBruijn64tab", laid_math_bits_deBruijn64tab), ("internal/strconv.uint64pow10", laid_internal_strconv_uint64pow10), ("unicode/utf8.acceptRanges", laid_unicode_utf8_acceptRanges), ("unicode/utf8.first", laid_unicode_utf8_first)], narrowed := true }
def CoatPrintsUptoSaid : Prop := coatPrintsUptoRow.holds Tryz.pinned (OpenSpec.upto coatPrintsSpec)

/-- 'mahlsticklaw03.CoatReads', WHERE WHAT IT READS IS OF BULK AT MOST 1048576: true; the input reads as it did. -/
def coatReadsUptoRow : OpenClaim := { program := "ytjidjpcnocddeaagreatdoor", sum := "ecd0fa95561ea501316c37c15421323eed364bb1e020d1d8decd1bb61313a3d9", func := "mahlstick/mahlsticklaw03.CoatReads", spec := "coatReads", inPlace := ["internal/bytealg.CountString", "internal/bytealg.IndexByteString", "internal/bytealg.IndexString", "internal/abi.NoEscape", "internal/bytealg.MakeNoZero"], unfollowed := true, recurses := true, named := ["unicode/utf8.first", "unicode/utf8.acceptRanges", "internal/bytealg.MaxLen", "internal/strconv.uint64pow10", "math/bits.deBruijn32tab", "math/bits.deBruijn64tab"], plainKeys := false, apart := false, laid := [("math/bits.deBruijn32tab", laid_math_bits_deBruijn32tab), ("math/bits.deBruijn64tab", laid_math_bits_deBruijn64tab), ("internal/strconv.uint64pow10", laid_internal_strconv_uint64pow10), ("unicode/utf8.acceptRanges", laid_unicode_utf8_acceptRanges), ("unicode/utf8.first", laid_unicode_utf8_first)], narrowed := true }
def CoatReadsUptoSaid : Prop := coatReadsUptoRow.holds Tryz.pinned (OpenSpec.upto coatReadsSpec)

/-- 'mahlsticklaw03.CoatSpoilt', WHERE WHAT IT READS IS OF BULK AT MOST 1048576: true; the input reads as it did. -/
def coatSpoiltUptoRow : OpenClaim := { program := "ytjidjpcnocddeaagreatdoor", sum := "ecd0fa95561ea501316c37c15421323eed364bb1e020d1d8decd1bb61313a3d9", func := "mahlstick/mahlsticklaw03.CoatSpoilt", spec := "coatSpoilt", inPlace := ["internal/bytealg.CountString", "internal/bytealg.IndexByteString", "internal/bytealg.IndexString", "internal/abi.NoEscape", "internal/bytealg.MakeNoZero"], unfollowed := true, recurses := true, named := ["unicode/utf8.first", "unicode/utf8.acceptRanges", "internal/bytealg.MaxLen", "internal/strconv.uint64pow10", "math/bits.deBruijn32tab", "math/bits.deBruijn64tab"], plainKeys := false, apart := false, laid := [("math/bits.deBruijn32tab", laid_math_bits_deBruijn32tab), ("math/bits.deBruijn64tab", laid_math_bits_deBruijn64tab), ("internal/strconv.uint64pow10", laid_internal_strconv_uint64pow10), ("unicode/utf8.acceptRanges", laid_unicode_utf8_acceptRanges), ("unicode/utf8.first", laid_unicode_utf8_first)], narrowed := true }
def CoatSpoiltUptoSaid : Prop := coatSpoiltUptoRow.holds Tryz.pinned (OpenSpec.upto coatSpoiltSpec)

end Rows
end Go.Proofs.YtjidjpcnocddeaaGreatDoor
