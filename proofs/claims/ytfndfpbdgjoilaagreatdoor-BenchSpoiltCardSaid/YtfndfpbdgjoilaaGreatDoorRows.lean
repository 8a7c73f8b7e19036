/-
  NARROWER THAN 'FOR EVERY INPUT', by the rows' own cells (each row's printed sentence says how): BenchBetween: laid · BenchLates: laid · BenchDue: laid · BenchChains: laid · BenchDelays: laid · BenchSpared: laid · BenchBests: laid · BenchSoonest: laid · BenchWhos: laid · BenchGiven: laid · BenchMores: laid · BenchEnough: laid · BenchMore: laid · BenchNamed: laid · BenchEnds: laid · BenchPrints: laid · BenchReads: laid · BenchSpoilt: laid.
  DERIVED. THE GIVEN ROWS OF THIS SEAT. 18 by the template 'for every input the law returns true; each argument reads behind the call as it read before'; 0 by the template 'total and deterministic' (their statements: YtfndfpbdgjoilaaGreatDoorTotals.lean).
  GIVEN WITH THE SEED: the statements are not yours to turn. If you find one false, say at which input.
  Laid BY PROGRAM, IN A SANDBOX (cutbox-rows.mjs): the forced cells as the released guide's own fill.sh prints them over the translation 45c0356ac626c54e… (all of the seat's roots in one cut). By AI agents, Wed Nov 11 2026. No macro, syntax, notation, axiom, sorry.
-/
import Derived.Test.YtfndfpbdgjoilaaGreatDoorChecked
import GoSem.PinnedTables
import GoSem.Claim
import GoSem.ClaimJoined
import GoSem.ClaimMapViews
import Derived.JoinedTies
import Derived.KernelRfl
namespace Go.Proofs.YtfndfpbdgjoilaaGreatDoor
/- THE CELL 'sum', in the pinned program and in every row, IS THE sha256 OF THE DUMP (.gsa) THAT YtfndfpbdgjoilaaGreatDoorProg.lean LOADS. Nothing in Lean hashes anything: it is a label: what it is worth is what the hold of that sum in a sandbox is worth. -/
noncomputable def Tryz.pinned : Pinned := { name := "ytfndfpbdgjoilaagreatdoor", sum := "45c0356ac626c54e6fb720c78e2612fb2d610c93b21954fb65a3b1841fc52159", checked := Tryz.checked }
namespace Rows
def none {H : Type} : Left H := { results := [], args := [] }

/- WHAT THE LISTED PACKAGE-LEVEL VARIABLES READ AS WHEN THE CALL BEGINS. Each datum BY PROGRAM (the guide's laid-datum.mjs) off the statement by which the dump's own 'gosem.cut.vars' lays the variable. In a bare row this is a premise. The card (YtfndfpbdgjoilaaGreatDoorCards.lean) ties it to the program's text. -/
def laid_math_bits_deBruijn32tab {H : Type} : DataW H := .agg [.lit (.int .u8 0), .lit (.int .u8 1), .lit (.int .u8 28), .lit (.int .u8 2), .lit (.int .u8 29), .lit (.int .u8 14), .lit (.int .u8 24), .lit (.int .u8 3), .lit (.int .u8 30), .lit (.int .u8 22), .lit (.int .u8 20), .lit (.int .u8 15), .lit (.int .u8 25), .lit (.int .u8 17), .lit (.int .u8 4), .lit (.int .u8 8), .lit (.int .u8 31), .lit (.int .u8 27), .lit (.int .u8 13), .lit (.int .u8 23), .lit (.int .u8 21), .lit (.int .u8 19), .lit (.int .u8 16), .lit (.int .u8 7), .lit (.int .u8 26), .lit (.int .u8 12), .lit (.int .u8 18), .lit (.int .u8 6), .lit (.int .u8 11), .lit (.int .u8 5), .lit (.int .u8 10), .lit (.int .u8 9)]
def laid_math_bits_deBruijn64tab {H : Type} : DataW H := .agg [.lit (.int .u8 0), .lit (.int .u8 1), .lit (.int .u8 56), .lit (.int .u8 2), .lit (.int .u8 57), .lit (.int .u8 49), .lit (.int .u8 28), .lit (.int .u8 3), .lit (.int .u8 61), .lit (.int .u8 58), .lit (.int .u8 42), .lit (.int .u8 50), .lit (.int .u8 38), .lit (.int .u8 29), .lit (.int .u8 17), .lit (.int .u8 4), .lit (.int .u8 62), .lit (.int .u8 47), .lit (.int .u8 59), .lit (.int .u8 36), .lit (.int .u8 45), .lit (.int .u8 43), .lit (.int .u8 51), .lit (.int .u8 22), .lit (.int .u8 53), .lit (.int .u8 39), .lit (.int .u8 33), .lit (.int .u8 30), .lit (.int .u8 24), .lit (.int .u8 18), .lit (.int .u8 12), .lit (.int .u8 5), .lit (.int .u8 63), .lit (.int .u8 55), .lit (.int .u8 48), .lit (.int .u8 27), .lit (.int .u8 60), .lit (.int .u8 41), .lit (.int .u8 37), .lit (.int .u8 16), .lit (.int .u8 46), .lit (.int .u8 35), .lit (.int .u8 44), .lit (.int .u8 21), .lit (.int .u8 52), .lit (.int .u8 32), .lit (.int .u8 23), .lit (.int .u8 11), .lit (.int .u8 54), .lit (.int .u8 26), .lit (.int .u8 40), .lit (.int .u8 15), .lit (.int .u8 34), .lit (.int .u8 20), .lit (.int .u8 31), .lit (.int .u8 10), .lit (.int .u8 25), .lit (.int .u8 14), .lit (.int .u8 19), .lit (.int .u8 9), .lit (.int .u8 13), .lit (.int .u8 8), .lit (.int .u8 7), .lit (.int .u8 6)]
def laid_internal_strconv_uint64pow10 {H : Type} : DataW H := .agg [.lit (.int .u64 1), .lit (.int .u64 10), .lit (.int .u64 100), .lit (.int .u64 1000), .lit (.int .u64 10000), .lit (.int .u64 100000), .lit (.int .u64 1000000), .lit (.int .u64 10000000), .lit (.int .u64 100000000), .lit (.int .u64 1000000000), .lit (.int .u64 10000000000), .lit (.int .u64 100000000000), .lit (.int .u64 1000000000000), .lit (.int .u64 10000000000000), .lit (.int .u64 100000000000000), .lit (.int .u64 1000000000000000), .lit (.int .u64 10000000000000000), .lit (.int .u64 100000000000000000), .lit (.int .u64 1000000000000000000), .lit (.int .u64 10000000000000000000)]
def laid_unicode_utf8_acceptRanges {H : Type} : DataW H := .agg [.agg [.lit (.int .u8 128), .lit (.int .u8 191)], .agg [.lit (.int .u8 160), .lit (.int .u8 191)], .agg [.lit (.int .u8 128), .lit (.int .u8 159)], .agg [.lit (.int .u8 144), .lit (.int .u8 191)], .agg [.lit (.int .u8 128), .lit (.int .u8 143)], .agg [.lit (.int .u8 0), .lit (.int .u8 0)], .agg [.lit (.int .u8 0), .lit (.int .u8 0)], .agg [.lit (.int .u8 0), .lit (.int .u8 0)], .agg [.lit (.int .u8 0), .lit (.int .u8 0)], .agg [.lit (.int .u8 0), .lit (.int .u8 0)], .agg [.lit (.int .u8 0), .lit (.int .u8 0)], .agg [.lit (.int .u8 0), .lit (.int .u8 0)], .agg [.lit (.int .u8 0), .lit (.int .u8 0)], .agg [.lit (.int .u8 0), .lit (.int .u8 0)], .agg [.lit (.int .u8 0), .lit (.int .u8 0)], .agg [.lit (.int .u8 0), .lit (.int .u8 0)]]
/-- One of Go's own tables, pinned by name: the form's constant. -/
def laid_unicode_utf8_first : DataW Unit := Go.Pinned.utf8First

/-- 'mahlsticklaw06.BenchBetween': WHATEVER THE INPUT: true; the input reads as it did. -/
def benchBetweenSpec : ChangeSpec := { name := "benchBetween", fn := fun _ => fun
  | [d1, d2, d3] => { results := [.lit (.bool true)], args := [d1, d2, d3] }
  | _ => none }
def benchBetweenRow : OpenClaim := { program := "ytfndfpbdgjoilaagreatdoor", sum := "45c0356ac626c54e6fb720c78e2612fb2d610c93b21954fb65a3b1841fc52159", func := "mahlstick/mahlsticklaw06.BenchBetween", spec := "benchBetween", inPlace := ["internal/bytealg.CountString", "internal/bytealg.IndexByteString", "internal/bytealg.IndexString", "internal/abi.NoEscape", "internal/bytealg.MakeNoZero"], unfollowed := true, recurses := true, named := ["unicode/utf8.first", "unicode/utf8.acceptRanges", "internal/bytealg.MaxLen", "internal/strconv.uint64pow10", "math/bits.deBruijn32tab", "math/bits.deBruijn64tab"], plainKeys := false, apart := false, laid := [("math/bits.deBruijn32tab", laid_math_bits_deBruijn32tab), ("math/bits.deBruijn64tab", laid_math_bits_deBruijn64tab), ("internal/strconv.uint64pow10", laid_internal_strconv_uint64pow10), ("unicode/utf8.acceptRanges", laid_unicode_utf8_acceptRanges), ("unicode/utf8.first", laid_unicode_utf8_first)] }
def BenchBetweenSaid : Prop := benchBetweenRow.holds Tryz.pinned (OpenSpec.ofChange benchBetweenSpec)

/-- ITS FALSE NEIGHBOUR: 'it returns false'. Refute it at one input. -/
def benchBetweenWrong : ChangeSpec := { name := "benchBetween", fn := fun _ => fun
  | [d1, d2, d3] => { results := [.lit (.bool false)], args := [d1, d2, d3] }
  | _ => none }
def BenchBetweenWrongFalsely : Prop := benchBetweenRow.holds Tryz.pinned (OpenSpec.ofChange benchBetweenWrong)

/-- 'mahlsticklaw06.BenchLates': WHATEVER THE INPUT: true; the input reads as it did. -/
def benchLatesSpec : ChangeSpec := { name := "benchLates", fn := fun _ => fun
  | [d1, d2] => { results := [.lit (.bool true)], args := [d1, d2] }
  | _ => none }
def benchLatesRow : OpenClaim := { program := "ytfndfpbdgjoilaagreatdoor", sum := "45c0356ac626c54e6fb720c78e2612fb2d610c93b21954fb65a3b1841fc52159", func := "mahlstick/mahlsticklaw06.BenchLates", spec := "benchLates", inPlace := ["internal/bytealg.CountString", "internal/bytealg.IndexByteString", "internal/bytealg.IndexString", "internal/abi.NoEscape", "internal/bytealg.MakeNoZero"], unfollowed := true, recurses := true, named := ["unicode/utf8.first", "unicode/utf8.acceptRanges", "internal/bytealg.MaxLen", "internal/strconv.uint64pow10", "math/bits.deBruijn32tab", "math/bits.deBruijn64tab"], plainKeys := false, apart := false, laid := [("math/bits.deBruijn32tab", laid_math_bits_deBruijn32tab), ("math/bits.deBruijn64tab", laid_math_bits_deBruijn64tab), ("internal/strconv.uint64pow10", laid_internal_strconv_uint64pow10), ("unicode/utf8.acceptRanges", laid_unicode_utf8_acceptRanges), ("unicode/utf8.first", laid_unicode_utf8_first)] }
def BenchLatesSaid : Prop := benchLatesRow.holds Tryz.pinned (OpenSpec.ofChange benchLatesSpec)

/-- ITS FALSE NEIGHBOUR: 'it returns false'. Refute it at one input. -/
def benchLatesWrong : ChangeSpec := { name := "benchLates", fn := fun _ => fun
  | [d1, d2] => { results := [.lit (.bool false)], args := [d1, d2] }
  | _ => none }
def BenchLatesWrongFalsely : Prop := benchLatesRow.holds Tryz.pinned (OpenSpec.ofChange benchLatesWrong)

/-- 'mahlsticklaw06.BenchDue': WHATEVER THE INPUT: true; the input reads as it did. -/
def benchDueSpec : ChangeSpec := { name := "benchDue", fn := fun _ => fun
  | [d1, d2, d3, d4] => { results := [.lit (.bool true)], args := [d1, d2, d3, d4] }
  | _ => none }
def benchDueRow : OpenClaim := { program := "ytfndfpbdgjoilaagreatdoor", sum := "45c0356ac626c54e6fb720c78e2612fb2d610c93b21954fb65a3b1841fc52159", func := "mahlstick/mahlsticklaw06.BenchDue", spec := "benchDue", inPlace := ["internal/bytealg.CountString", "internal/bytealg.IndexByteString", "internal/bytealg.IndexString", "internal/abi.NoEscape", "internal/bytealg.MakeNoZero"], unfollowed := true, recurses := true, named := ["unicode/utf8.first", "unicode/utf8.acceptRanges", "internal/bytealg.MaxLen", "internal/strconv.uint64pow10", "math/bits.deBruijn32tab", "math/bits.deBruijn64tab"], plainKeys := false, apart := false, laid := [("math/bits.deBruijn32tab", laid_math_bits_deBruijn32tab), ("math/bits.deBruijn64tab", laid_math_bits_deBruijn64tab), ("internal/strconv.uint64pow10", laid_internal_strconv_uint64pow10), ("unicode/utf8.acceptRanges", laid_unicode_utf8_acceptRanges), ("unicode/utf8.first", laid_unicode_utf8_first)] }
def BenchDueSaid : Prop := benchDueRow.holds Tryz.pinned (OpenSpec.ofChange benchDueSpec)

/-- ITS FALSE NEIGHBOUR: 'it returns false'. Refute it at one input. -/
def benchDueWrong : ChangeSpec := { name := "benchDue", fn := fun _ => fun
  | [d1, d2, d3, d4] => { results := [.lit (.bool false)], args := [d1, d2, d3, d4] }
  | _ => none }
def BenchDueWrongFalsely : Prop := benchDueRow.holds Tryz.pinned (OpenSpec.ofChange benchDueWrong)

/-- 'mahlsticklaw06.BenchChains': WHATEVER THE INPUT: true; the input reads as it did. -/
def benchChainsSpec : ChangeSpec := { name := "benchChains", fn := fun _ => fun
  | [d1, d2, d3] => { results := [.lit (.bool true)], args := [d1, d2, d3] }
  | _ => none }
def benchChainsRow : OpenClaim := { program := "ytfndfpbdgjoilaagreatdoor", sum := "45c0356ac626c54e6fb720c78e2612fb2d610c93b21954fb65a3b1841fc52159", func := "mahlstick/mahlsticklaw06.BenchChains", spec := "benchChains", inPlace := ["internal/bytealg.CountString", "internal/bytealg.IndexByteString", "internal/bytealg.IndexString", "internal/abi.NoEscape", "internal/bytealg.MakeNoZero"], unfollowed := true, recurses := true, named := ["unicode/utf8.first", "unicode/utf8.acceptRanges", "internal/bytealg.MaxLen", "internal/strconv.uint64pow10", "math/bits.deBruijn32tab", "math/bits.deBruijn64tab"], plainKeys := false, apart := false, laid := [("math/bits.deBruijn32tab", laid_math_bits_deBruijn32tab), ("math/bits.deBruijn64tab", laid_math_bits_deBruijn64tab), ("internal/strconv.uint64pow10", laid_internal_strconv_uint64pow10), ("unicode/utf8.acceptRanges", laid_unicode_utf8_acceptRanges), ("unicode/utf8.first", laid_unicode_utf8_first)] }
def BenchChainsSaid : Prop := benchChainsRow.holds Tryz.pinned (OpenSpec.ofChange benchChainsSpec)

/-- ITS FALSE NEIGHBOUR: 'it returns false'. Refute it at one input. -/
def benchChainsWrong : ChangeSpec := { name := "benchChains", fn := fun _ => fun
  | [d1, d2, d3] => { results := [.lit (.bool false)], args := [d1, d2, d3] }
  | _ => none }
def BenchChainsWrongFalsely : Prop := benchChainsRow.holds Tryz.pinned (OpenSpec.ofChange benchChainsWrong)

/-- 'mahlsticklaw06.BenchDelays': WHATEVER THE INPUT: true; the input reads as it did. -/
def benchDelaysSpec : ChangeSpec := { name := "benchDelays", fn := fun _ => fun
  | [d1, d2, d3, d4] => { results := [.lit (.bool true)], args := [d1, d2, d3, d4] }
  | _ => none }
def benchDelaysRow : OpenClaim := { program := "ytfndfpbdgjoilaagreatdoor", sum := "45c0356ac626c54e6fb720c78e2612fb2d610c93b21954fb65a3b1841fc52159", func := "mahlstick/mahlsticklaw06.BenchDelays", spec := "benchDelays", inPlace := ["internal/bytealg.CountString", "internal/bytealg.IndexByteString", "internal/bytealg.IndexString", "internal/abi.NoEscape", "internal/bytealg.MakeNoZero"], unfollowed := true, recurses := true, named := ["unicode/utf8.first", "unicode/utf8.acceptRanges", "internal/bytealg.MaxLen", "internal/strconv.uint64pow10", "math/bits.deBruijn32tab", "math/bits.deBruijn64tab"], plainKeys := false, apart := false, laid := [("math/bits.deBruijn32tab", laid_math_bits_deBruijn32tab), ("math/bits.deBruijn64tab", laid_math_bits_deBruijn64tab), ("internal/strconv.uint64pow10", laid_internal_strconv_uint64pow10), ("unicode/utf8.acceptRanges", laid_unicode_utf8_acceptRanges), ("unicode/utf8.first", laid_unicode_utf8_first)] }
def BenchDelaysSaid : Prop := benchDelaysRow.holds Tryz.pinned (OpenSpec.ofChange benchDelaysSpec)

/-- ITS FALSE NEIGHBOUR: 'it returns false'. Refute it at one input. -/
def benchDelaysWrong : ChangeSpec := { name := "benchDelays", fn := fun _ => fun
  | [d1, d2, d3, d4] => { results := [.lit (.bool false)], args := [d1, d2, d3, d4] }
  | _ => none }
def BenchDelaysWrongFalsely : Prop := benchDelaysRow.holds Tryz.pinned (OpenSpec.ofChange benchDelaysWrong)

/-- 'mahlsticklaw06.BenchSpared': WHATEVER THE INPUT: true; the input reads as it did. -/
def benchSparedSpec : ChangeSpec := { name := "benchSpared", fn := fun _ => fun
  | [d1, d2, d3, d4] => { results := [.lit (.bool true)], args := [d1, d2, d3, d4] }
  | _ => none }
def benchSparedRow : OpenClaim := { program := "ytfndfpbdgjoilaagreatdoor", sum := "45c0356ac626c54e6fb720c78e2612fb2d610c93b21954fb65a3b1841fc52159", func := "mahlstick/mahlsticklaw06.BenchSpared", spec := "benchSpared", inPlace := ["internal/bytealg.CountString", "internal/bytealg.IndexByteString", "internal/bytealg.IndexString", "internal/abi.NoEscape", "internal/bytealg.MakeNoZero"], unfollowed := true, recurses := true, named := ["unicode/utf8.first", "unicode/utf8.acceptRanges", "internal/bytealg.MaxLen", "internal/strconv.uint64pow10", "math/bits.deBruijn32tab", "math/bits.deBruijn64tab"], plainKeys := false, apart := false, laid := [("math/bits.deBruijn32tab", laid_math_bits_deBruijn32tab), ("math/bits.deBruijn64tab", laid_math_bits_deBruijn64tab), ("internal/strconv.uint64pow10", laid_internal_strconv_uint64pow10), ("unicode/utf8.acceptRanges", laid_unicode_utf8_acceptRanges), ("unicode/utf8.first", laid_unicode_utf8_first)] }
def BenchSparedSaid : Prop := benchSparedRow.holds Tryz.pinned (OpenSpec.ofChange benchSparedSpec)

/-- ITS FALSE NEIGHBOUR: 'it returns false'. Refute it at one input. -/
def benchSparedWrong : ChangeSpec := { name := "benchSpared", fn := fun _ => fun
  | [d1, d2, d3, d4] => { results := [.lit (.bool false)], args := [d1, d2, d3, d4] }
  | _ => none }
def BenchSparedWrongFalsely : Prop := benchSparedRow.holds Tryz.pinned (OpenSpec.ofChange benchSparedWrong)

/-- 'mahlsticklaw06.BenchBests': WHATEVER THE INPUT: true; the input reads as it did. -/
def benchBestsSpec : ChangeSpec := { name := "benchBests", fn := fun _ => fun
  | [d] => { results := [.lit (.bool true)], args := [d] }
  | _ => none }
def benchBestsRow : OpenClaim := { program := "ytfndfpbdgjoilaagreatdoor", sum := "45c0356ac626c54e6fb720c78e2612fb2d610c93b21954fb65a3b1841fc52159", func := "mahlstick/mahlsticklaw06.BenchBests", spec := "benchBests", inPlace := ["internal/bytealg.CountString", "internal/bytealg.IndexByteString", "internal/bytealg.IndexString", "internal/abi.NoEscape", "internal/bytealg.MakeNoZero"], unfollowed := true, recurses := true, named := ["unicode/utf8.first", "unicode/utf8.acceptRanges", "internal/bytealg.MaxLen", "internal/strconv.uint64pow10", "math/bits.deBruijn32tab", "math/bits.deBruijn64tab"], plainKeys := false, apart := false, laid := [("math/bits.deBruijn32tab", laid_math_bits_deBruijn32tab), ("math/bits.deBruijn64tab", laid_math_bits_deBruijn64tab), ("internal/strconv.uint64pow10", laid_internal_strconv_uint64pow10), ("unicode/utf8.acceptRanges", laid_unicode_utf8_acceptRanges), ("unicode/utf8.first", laid_unicode_utf8_first)] }
def BenchBestsSaid : Prop := benchBestsRow.holds Tryz.pinned (OpenSpec.ofChange benchBestsSpec)

/-- ITS FALSE NEIGHBOUR: 'it returns false'. Refute it at one input. -/
def benchBestsWrong : ChangeSpec := { name := "benchBests", fn := fun _ => fun
  | [d] => { results := [.lit (.bool false)], args := [d] }
  | _ => none }
def BenchBestsWrongFalsely : Prop := benchBestsRow.holds Tryz.pinned (OpenSpec.ofChange benchBestsWrong)

/-- 'mahlsticklaw06.BenchSoonest': WHATEVER THE INPUT: true; the input reads as it did. -/
def benchSoonestSpec : ChangeSpec := { name := "benchSoonest", fn := fun _ => fun
  | [d1, d2, d3] => { results := [.lit (.bool true)], args := [d1, d2, d3] }
  | _ => none }
def benchSoonestRow : OpenClaim := { program := "ytfndfpbdgjoilaagreatdoor", sum := "45c0356ac626c54e6fb720c78e2612fb2d610c93b21954fb65a3b1841fc52159", func := "mahlstick/mahlsticklaw06.BenchSoonest", spec := "benchSoonest", inPlace := ["internal/bytealg.CountString", "internal/bytealg.IndexByteString", "internal/bytealg.IndexString", "internal/abi.NoEscape", "internal/bytealg.MakeNoZero"], unfollowed := true, recurses := true, named := ["unicode/utf8.first", "unicode/utf8.acceptRanges", "internal/bytealg.MaxLen", "internal/strconv.uint64pow10", "math/bits.deBruijn32tab", "math/bits.deBruijn64tab"], plainKeys := false, apart := false, laid := [("math/bits.deBruijn32tab", laid_math_bits_deBruijn32tab), ("math/bits.deBruijn64tab", laid_math_bits_deBruijn64tab), ("internal/strconv.uint64pow10", laid_internal_strconv_uint64pow10), ("unicode/utf8.acceptRanges", laid_unicode_utf8_acceptRanges), ("unicode/utf8.first", laid_unicode_utf8_first)] }
def BenchSoonestSaid : Prop := benchSoonestRow.holds Tryz.pinned (OpenSpec.ofChange benchSoonestSpec)

/-- ITS FALSE NEIGHBOUR: 'it returns false'. Refute it at one input. -/
def benchSoonestWrong : ChangeSpec := { name := "benchSoonest", fn := fun _ => fun
  | [d1, d2, d3] => { results := [.lit (.bool false)], args := [d1, d2, d3] }
  | _ => none }
def BenchSoonestWrongFalsely : Prop := benchSoonestRow.holds Tryz.pinned (OpenSpec.ofChange benchSoonestWrong)

/-- 'mahlsticklaw06.BenchWhos': WHATEVER THE INPUT: true; the input reads as it did. -/
def benchWhosSpec : ChangeSpec := { name := "benchWhos", fn := fun _ => fun
  | [d1, d2, d3] => { results := [.lit (.bool true)], args := [d1, d2, d3] }
  | _ => none }
def benchWhosRow : OpenClaim := { program := "ytfndfpbdgjoilaagreatdoor", sum := "45c0356ac626c54e6fb720c78e2612fb2d610c93b21954fb65a3b1841fc52159", func := "mahlstick/mahlsticklaw06.BenchWhos", spec := "benchWhos", inPlace := ["internal/bytealg.CountString", "internal/bytealg.IndexByteString", "internal/bytealg.IndexString", "internal/abi.NoEscape", "internal/bytealg.MakeNoZero"], unfollowed := true, recurses := true, named := ["unicode/utf8.first", "unicode/utf8.acceptRanges", "internal/bytealg.MaxLen", "internal/strconv.uint64pow10", "math/bits.deBruijn32tab", "math/bits.deBruijn64tab"], plainKeys := false, apart := false, laid := [("math/bits.deBruijn32tab", laid_math_bits_deBruijn32tab), ("math/bits.deBruijn64tab", laid_math_bits_deBruijn64tab), ("internal/strconv.uint64pow10", laid_internal_strconv_uint64pow10), ("unicode/utf8.acceptRanges", laid_unicode_utf8_acceptRanges), ("unicode/utf8.first", laid_unicode_utf8_first)] }
def BenchWhosSaid : Prop := benchWhosRow.holds Tryz.pinned (OpenSpec.ofChange benchWhosSpec)

/-- ITS FALSE NEIGHBOUR: 'it returns false'. Refute it at one input. -/
def benchWhosWrong : ChangeSpec := { name := "benchWhos", fn := fun _ => fun
  | [d1, d2, d3] => { results := [.lit (.bool false)], args := [d1, d2, d3] }
  | _ => none }
def BenchWhosWrongFalsely : Prop := benchWhosRow.holds Tryz.pinned (OpenSpec.ofChange benchWhosWrong)

/-- 'mahlsticklaw06.BenchGiven': WHATEVER THE INPUT: true; the input reads as it did. -/
def benchGivenSpec : ChangeSpec := { name := "benchGiven", fn := fun _ => fun
  | [d1, d2, d3, d4] => { results := [.lit (.bool true)], args := [d1, d2, d3, d4] }
  | _ => none }
def benchGivenRow : OpenClaim := { program := "ytfndfpbdgjoilaagreatdoor", sum := "45c0356ac626c54e6fb720c78e2612fb2d610c93b21954fb65a3b1841fc52159", func := "mahlstick/mahlsticklaw06.BenchGiven", spec := "benchGiven", inPlace := ["internal/bytealg.CountString", "internal/bytealg.IndexByteString", "internal/bytealg.IndexString", "internal/abi.NoEscape", "internal/bytealg.MakeNoZero"], unfollowed := true, recurses := true, named := ["unicode/utf8.first", "unicode/utf8.acceptRanges", "internal/bytealg.MaxLen", "internal/strconv.uint64pow10", "math/bits.deBruijn32tab", "math/bits.deBruijn64tab"], plainKeys := false, apart := false, laid := [("math/bits.deBruijn32tab", laid_math_bits_deBruijn32tab), ("math/bits.deBruijn64tab", laid_math_bits_deBruijn64tab), ("internal/strconv.uint64pow10", laid_internal_strconv_uint64pow10), ("unicode/utf8.acceptRanges", laid_unicode_utf8_acceptRanges), ("unicode/utf8.first", laid_unicode_utf8_first)] }
def BenchGivenSaid : Prop := benchGivenRow.holds Tryz.pinned (OpenSpec.ofChange benchGivenSpec)

/-- ITS FALSE NEIGHBOUR: 'it returns false'. Refute it at one input. -/
def benchGivenWrong : ChangeSpec := { name := "benchGiven", fn := fun _ => fun
  | [d1, d2, d3, d4] => { results := [.lit (.bool false)], args := [d1, d2, d3, d4] }
  | _ => none }
def BenchGivenWrongFalsely : Prop := benchGivenRow.holds Tryz.pinned (OpenSpec.ofChange benchGivenWrong)

/-- 'mahlsticklaw06.BenchMores': WHATEVER THE INPUT: true; the input reads as it did. -/
def benchMoresSpec : ChangeSpec := { name := "benchMores", fn := fun _ => fun
  | [d1, d2] => { results := [.lit (.bool true)], args := [d1, d2] }
  | _ => none }
def benchMoresRow : OpenClaim := { program := "ytfndfpbdgjoilaagreatdoor", sum := "45c0356ac626c54e6fb720c78e2612fb2d610c93b21954fb65a3b1841fc52159", func := "mahlstick/mahlsticklaw06.BenchMores", spec := "benchMores", inPlace := ["internal/bytealg.CountString", "internal/bytealg.IndexByteString", "internal/bytealg.IndexString", "internal/abi.NoEscape", "internal/bytealg.MakeNoZero"], unfollowed := true, recurses := true, named := ["unicode/utf8.first", "unicode/utf8.acceptRanges", "internal/bytealg.MaxLen", "internal/strconv.uint64pow10", "math/bits.deBruijn32tab", "math/bits.deBruijn64tab"], plainKeys := false, apart := false, laid := [("math/bits.deBruijn32tab", laid_math_bits_deBruijn32tab), ("math/bits.deBruijn64tab", laid_math_bits_deBruijn64tab), ("internal/strconv.uint64pow10", laid_internal_strconv_uint64pow10), ("unicode/utf8.acceptRanges", laid_unicode_utf8_acceptRanges), ("unicode/utf8.first", laid_unicode_utf8_first)] }
def BenchMoresSaid : Prop := benchMoresRow.holds Tryz.pinned (OpenSpec.ofChange benchMoresSpec)

/-- ITS FALSE NEIGHBOUR: 'it returns false'. Refute it at one input. -/
def benchMoresWrong : ChangeSpec := { name := "benchMores", fn := fun _ => fun
  | [d1, d2] => { results := [.lit (.bool false)], args := [d1, d2] }
  | _ => none }
def BenchMoresWrongFalsely : Prop := benchMoresRow.holds Tryz.pinned (OpenSpec.ofChange benchMoresWrong)

/-- 'mahlsticklaw06.BenchEnough': WHATEVER THE INPUT: true; the input reads as it did. -/
def benchEnoughSpec : ChangeSpec := { name := "benchEnough", fn := fun _ => fun
  | [d1, d2, d3] => { results := [.lit (.bool true)], args := [d1, d2, d3] }
  | _ => none }
def benchEnoughRow : OpenClaim := { program := "ytfndfpbdgjoilaagreatdoor", sum := "45c0356ac626c54e6fb720c78e2612fb2d610c93b21954fb65a3b1841fc52159", func := "mahlstick/mahlsticklaw06.BenchEnough", spec := "benchEnough", inPlace := ["internal/bytealg.CountString", "internal/bytealg.IndexByteString", "internal/bytealg.IndexString", "internal/abi.NoEscape", "internal/bytealg.MakeNoZero"], unfollowed := true, recurses := true, named := ["unicode/utf8.first", "unicode/utf8.acceptRanges", "internal/bytealg.MaxLen", "internal/strconv.uint64pow10", "math/bits.deBruijn32tab", "math/bits.deBruijn64tab"], plainKeys := false, apart := false, laid := [("math/bits.deBruijn32tab", laid_math_bits_deBruijn32tab), ("math/bits.deBruijn64tab", laid_math_bits_deBruijn64tab), ("internal/strconv.uint64pow10", laid_internal_strconv_uint64pow10), ("unicode/utf8.acceptRanges", laid_unicode_utf8_acceptRanges), ("unicode/utf8.first", laid_unicode_utf8_first)] }
def BenchEnoughSaid : Prop := benchEnoughRow.holds Tryz.pinned (OpenSpec.ofChange benchEnoughSpec)

/-- ITS FALSE NEIGHBOUR: 'it returns false'. Refute it at one input. -/
def benchEnoughWrong : ChangeSpec := { name := "benchEnough", fn := fun _ => fun
  | [d1, d2, d3] => { results := [.lit (.bool false)], args := [d1, d2, d3] }
  | _ => none }
def BenchEnoughWrongFalsely : Prop := benchEnoughRow.holds Tryz.pinned (OpenSpec.ofChange benchEnoughWrong)

/-- 'mahlsticklaw06.BenchMore': WHATEVER THE INPUT: true; the input reads as it did. -/
def benchMoreSpec : ChangeSpec := { name := "benchMore", fn := fun _ => fun
  | [d1, d2, d3, d4, d5] => { results := [.lit (.bool true)], args := [d1, d2, d3, d4, d5] }
  | _ => none }
def benchMoreRow : OpenClaim := { program := "ytfndfpbdgjoilaagreatdoor", sum := "45c0356ac626c54e6fb720c78e2612fb2d610c93b21954fb65a3b1841fc52159", func := "mahlstick/mahlsticklaw06.BenchMore", spec := "benchMore", inPlace := ["internal/bytealg.CountString", "internal/bytealg.IndexByteString", "internal/bytealg.IndexString", "internal/abi.NoEscape", "internal/bytealg.MakeNoZero"], unfollowed := true, recurses := true, named := ["unicode/utf8.first", "unicode/utf8.acceptRanges", "internal/bytealg.MaxLen", "internal/strconv.uint64pow10", "math/bits.deBruijn32tab", "math/bits.deBruijn64tab"], plainKeys := false, apart := false, laid := [("math/bits.deBruijn32tab", laid_math_bits_deBruijn32tab), ("math/bits.deBruijn64tab", laid_math_bits_deBruijn64tab), ("internal/strconv.uint64pow10", laid_internal_strconv_uint64pow10), ("unicode/utf8.acceptRanges", laid_unicode_utf8_acceptRanges), ("unicode/utf8.first", laid_unicode_utf8_first)] }
def BenchMoreSaid : Prop := benchMoreRow.holds Tryz.pinned (OpenSpec.ofChange benchMoreSpec)

/-- ITS FALSE NEIGHBOUR: 'it returns false'. Refute it at one input. -/
def benchMoreWrong : ChangeSpec := { name := "benchMore", fn := fun _ => fun
  | [d1, d2, d3, d4, d5] => { results := [.lit (.bool false)], args := [d1, d2, d3, d4, d5] }
  | _ => none }
def BenchMoreWrongFalsely : Prop := benchMoreRow.holds Tryz.pinned (OpenSpec.ofChange benchMoreWrong)

/-- 'mahlsticklaw06.BenchNamed': WHATEVER THE INPUT: true; the input reads as it did. -/
def benchNamedSpec : ChangeSpec := { name := "benchNamed", fn := fun _ => fun
  | [d1, d2, d3, d4, d5] => { results := [.lit (.bool true)], args := [d1, d2, d3, d4, d5] }
  | _ => none }
def benchNamedRow : OpenClaim := { program := "ytfndfpbdgjoilaagreatdoor", sum := "45c0356ac626c54e6fb720c78e2612fb2d610c93b21954fb65a3b1841fc52159", func := "mahlstick/mahlsticklaw06.BenchNamed", spec := "benchNamed", inPlace := ["internal/bytealg.CountString", "internal/bytealg.IndexByteString", "internal/bytealg.IndexString", "internal/abi.NoEscape", "internal/bytealg.MakeNoZero"], unfollowed := true, recurses := true, named := ["unicode/utf8.first", "unicode/utf8.acceptRanges", "internal/bytealg.MaxLen", "internal/strconv.uint64pow10", "math/bits.deBruijn32tab", "math/bits.deBruijn64tab"], plainKeys := false, apart := false, laid := [("math/bits.deBruijn32tab", laid_math_bits_deBruijn32tab), ("math/bits.deBruijn64tab", laid_math_bits_deBruijn64tab), ("internal/strconv.uint64pow10", laid_internal_strconv_uint64pow10), ("unicode/utf8.acceptRanges", laid_unicode_utf8_acceptRanges), ("unicode/utf8.first", laid_unicode_utf8_first)] }
def BenchNamedSaid : Prop := benchNamedRow.holds Tryz.pinned (OpenSpec.ofChange benchNamedSpec)

/-- ITS FALSE NEIGHBOUR: 'it returns false'. Refute it at one input. -/
def benchNamedWrong : ChangeSpec := { name := "benchNamed", fn := fun _ => fun
  | [d1, d2, d3, d4, d5] => { results := [.lit (.bool false)], args := [d1, d2, d3, d4, d5] }
  | _ => none }
def BenchNamedWrongFalsely : Prop := benchNamedRow.holds Tryz.pinned (OpenSpec.ofChange benchNamedWrong)

/-- 'mahlsticklaw06.BenchEnds': WHATEVER THE INPUT: true; the input reads as it did. -/
def benchEndsSpec : ChangeSpec := { name := "benchEnds", fn := fun _ => fun
  | [d1, d2, d3] => { results := [.lit (.bool true)], args := [d1, d2, d3] }
  | _ => none }
def benchEndsRow : OpenClaim := { program := "ytfndfpbdgjoilaagreatdoor", sum := "45c0356ac626c54e6fb720c78e2612fb2d610c93b21954fb65a3b1841fc52159", func := "mahlstick/mahlsticklaw06.BenchEnds", spec := "benchEnds", inPlace := ["internal/bytealg.CountString", "internal/bytealg.IndexByteString", "internal/bytealg.IndexString", "internal/abi.NoEscape", "internal/bytealg.MakeNoZero"], unfollowed := true, recurses := true, named := ["unicode/utf8.first", "unicode/utf8.acceptRanges", "internal/bytealg.MaxLen", "internal/strconv.uint64pow10", "math/bits.deBruijn32tab", "math/bits.deBruijn64tab"], plainKeys := false, apart := false, laid := [("math/bits.deBruijn32tab", laid_math_bits_deBruijn32tab), ("math/bits.deBruijn64tab", laid_math_bits_deBruijn64tab), ("internal/strconv.uint64pow10", laid_internal_strconv_uint64pow10), ("unicode/utf8.acceptRanges", laid_unicode_utf8_acceptRanges), ("unicode/utf8.first", laid_unicode_utf8_first)] }
def BenchEndsSaid : Prop := benchEndsRow.holds Tryz.pinned (OpenSpec.ofChange benchEndsSpec)

/-- ITS FALSE NEIGHBOUR: 'it returns false'. Refute it at one input. -/
def benchEndsWrong : ChangeSpec := { name := "benchEnds", fn := fun _ => fun
  | [d1, d2, d3] => { results := [.lit (.bool false)], args := [d1, d2, d3] }
  | _ => none }
def BenchEndsWrongFalsely : Prop := benchEndsRow.holds Tryz.pinned (OpenSpec.ofChange benchEndsWrong)

/-- 'mahlsticklaw06.BenchPrints': WHATEVER THE INPUT: true; the input reads as it did. -/
def benchPrintsSpec : ChangeSpec := { name := "benchPrints", fn := fun _ => fun
  | [d] => { results := [.lit (.bool true)], args := [d] }
  | _ => none }
def benchPrintsRow : OpenClaim := { program := "ytfndfpbdgjoilaagreatdoor", sum := "45c0356ac626c54e6fb720c78e2612fb2d610c93b21954fb65a3b1841fc52159", func := "mahlstick/mahlsticklaw06.BenchPrints", spec := "benchPrints", inPlace := ["internal/bytealg.CountString", "internal/bytealg.IndexByteString", "internal/bytealg.IndexString", "internal/abi.NoEscape", "internal/bytealg.MakeNoZero"], unfollowed := true, recurses := true, named := ["unicode/utf8.first", "unicode/utf8.acceptRanges", "internal/bytealg.MaxLen", "internal/strconv.uint64pow10", "math/bits.deBruijn32tab", "math/bits.deBruijn64tab"], plainKeys := false, apart := false, laid := [("math/bits.deBruijn32tab", laid_math_bits_deBruijn32tab), ("math/bits.deBruijn64tab", laid_math_bits_deBruijn64tab), ("internal/strconv.uint64pow10", laid_internal_strconv_uint64pow10), ("unicode/utf8.acceptRanges", laid_unicode_utf8_acceptRanges), ("unicode/utf8.first", laid_unicode_utf8_first)] }
def BenchPrintsSaid : Prop := benchPrintsRow.holds Tryz.pinned (OpenSpec.ofChange benchPrintsSpec)

/-- ITS FALSE NEIGHBOUR: 'it returns false'. Refute it at one input. -/
def benchPrintsWrong : ChangeSpec := { name := "benchPrints", fn := fun _ => fun
  | [d] => { results := [.lit (.bool false)], args := [d] }
  | _ => none }
def BenchPrintsWrongFalsely : Prop := benchPrintsRow.holds Tryz.pinned (OpenSpec.ofChange benchPrintsWrong)

/-- 'mahlsticklaw06.BenchReads': WHATEVER THE INPUT: true; the input reads as it did. -/
def benchReadsSpec : ChangeSpec := { name := "benchReads", fn := fun _ => fun
  | [d] => { results := [.lit (.bool true)], args := [d] }
  | _ => none }
def benchReadsRow : OpenClaim := { program := "ytfndfpbdgjoilaagreatdoor", sum := "45c0356ac626c54e6fb720c78e2612fb2d610c93b21954fb65a3b1841fc52159", func := "mahlstick/mahlsticklaw06.BenchReads", spec := "benchReads", inPlace := ["internal/bytealg.CountString", "internal/bytealg.IndexByteString", "internal/bytealg.IndexString", "internal/abi.NoEscape", "internal/bytealg.MakeNoZero"], unfollowed := true, recurses := true, named := ["unicode/utf8.first", "unicode/utf8.acceptRanges", "internal/bytealg.MaxLen", "internal/strconv.uint64pow10", "math/bits.deBruijn32tab", "math/bits.deBruijn64tab"], plainKeys := false, apart := false, laid := [("math/bits.deBruijn32tab", laid_math_bits_deBruijn32tab), ("math/bits.deBruijn64tab", laid_math_bits_deBruijn64tab), ("internal/strconv.uint64pow10", laid_internal_strconv_uint64pow10), ("unicode/utf8.acceptRanges", laid_unicode_utf8_acceptRanges), ("unicode/utf8.first", laid_unicode_utf8_first)] }
def BenchReadsSaid : Prop := benchReadsRow.holds Tryz.pinned (OpenSpec.ofChange benchReadsSpec)

/-- ITS FALSE NEIGHBOUR: 'it returns false'. Refute it at one input. -/
def benchReadsWrong : ChangeSpec := { name := "benchReads", fn := fun _ => fun
  | [d] => { results := [.lit (.bool false)], args := [d] }
  | _ => none }
def BenchReadsWrongFalsely : Prop := benchReadsRow.holds Tryz.pinned (OpenSpec.ofChange benchReadsWrong)

/-- 'mahlsticklaw06.BenchSpoilt': WHATEVER THE INPUT: true; the input reads as it did. -/
def benchSpoiltSpec : ChangeSpec := { name := "benchSpoilt", fn := fun _ => fun
  | [d1, d2, d3] => { results := [.lit (.bool true)], args := [d1, d2, d3] }
  | _ => none }
def benchSpoiltRow : OpenClaim := { program := "ytfndfpbdgjoilaagreatdoor", sum := "45c0356ac626c54e6fb720c78e2612fb2d610c93b21954fb65a3b1841fc52159", func := "mahlstick/mahlsticklaw06.BenchSpoilt", spec := "benchSpoilt", inPlace := ["internal/bytealg.CountString", "internal/bytealg.IndexByteString", "internal/bytealg.IndexString", "internal/abi.NoEscape", "internal/bytealg.MakeNoZero"], unfollowed := true, recurses := true, named := ["unicode/utf8.first", "unicode/utf8.acceptRanges", "internal/bytealg.MaxLen", "internal/strconv.uint64pow10", "math/bits.deBruijn32tab", "math/bits.deBruijn64tab"], plainKeys := false, apart := false, laid := [("math/bits.deBruijn32tab", laid_math_bits_deBruijn32tab), ("math/bits.deBruijn64tab", laid_math_bits_deBruijn64tab), ("internal/strconv.uint64pow10", laid_internal_strconv_uint64pow10), ("unicode/utf8.acceptRanges", laid_unicode_utf8_acceptRanges), ("unicode/utf8.first", laid_unicode_utf8_first)] }
def BenchSpoiltSaid : Prop := benchSpoiltRow.holds Tryz.pinned (OpenSpec.ofChange benchSpoiltSpec)

/-- ITS FALSE NEIGHBOUR: 'it returns false'. Refute it at one input. -/
def benchSpoiltWrong : ChangeSpec := { name := "benchSpoilt", fn := fun _ => fun
  | [d1, d2, d3] => { results := [.lit (.bool false)], args := [d1, d2, d3] }
  | _ => none }
def BenchSpoiltWrongFalsely : Prop := benchSpoiltRow.holds Tryz.pinned (OpenSpec.ofChange benchSpoiltWrong)

/- THE SECOND FORM. 'bulk': how many values and letters a reading holds, each counted each time it is reached (what is shared counts as often as it is met; a slice's spare places count too). A statement '..UptoSaid' is the law's where the arguments, and the package variables that the reading takes, are together of bulk at most 1048576: NARROWER than '..Said'. Prove '..Said' where nothing that the law and all that it calls make is longer than what came in: it says more and counts as full. Else prove '..UptoSaid'. A law counts once. -/
mutual
def uptoBulk {H : Type} : DataW H → Nat
  | .lit (.string bytes) => bytes.length + 1
  | .lit _ => 1
  | .nil => 1
  | .ptr d => uptoBulk d + 1
  | .slice elems spare => uptoBulkAll elems + uptoBulkAll spare + 1
  | .agg parts => uptoBulkAll parts + 1
  | .iface _ d => uptoBulk d + 1
  | .map entries => uptoBulkEntries entries + 1
  | .held _ => 1
def uptoBulkAll {H : Type} : List (DataW H) → Nat
  | [] => 0
  | d :: r => uptoBulk d + uptoBulkAll r
def uptoBulkEntries {H : Type} : List (Lit × DataW H) → Nat
  | [] => 0
  | x :: r => uptoBulkEntry x + uptoBulkEntries r
def uptoBulkEntry {H : Type} : Lit × DataW H → Nat
  | (.string bytes, d) => bytes.length + uptoBulk d + 1
  | (_, d) => uptoBulk d + 1
 end
def uptoSmall : (H : Type) → List (DataW H) → Bool := fun _ ds => decide (uptoBulkAll ds ≤ 1048576)
def OpenSpec.upto (s : _root_.Go.ChangeSpec) : _root_.Go.OpenSpec := { _root_.Go.OpenSpec.ofChange s with cond := some uptoSmall }

/-- 'mahlsticklaw06.BenchBetween', WHERE WHAT IT READS IS OF BULK AT MOST 1048576: true; the input reads as it did. -/
def benchBetweenUptoRow : OpenClaim := { program := "ytfndfpbdgjoilaagreatdoor", sum := "45c0356ac626c54e6fb720c78e2612fb2d610c93b21954fb65a3b1841fc52159", func := "mahlstick/mahlsticklaw06.BenchBetween", spec := "benchBetween", inPlace := ["internal/bytealg.CountString", "internal/bytealg.IndexByteString", "internal/bytealg.IndexString", "internal/abi.NoEscape", "internal/bytealg.MakeNoZero"], unfollowed := true, recurses := true, named := ["unicode/utf8.first", "unicode/utf8.acceptRanges", "internal/bytealg.MaxLen", "internal/strconv.uint64pow10", "math/bits.deBruijn32tab", "math/bits.deBruijn64tab"], plainKeys := false, apart := false, laid := [("math/bits.deBruijn32tab", laid_math_bits_deBruijn32tab), ("math/bits.deBruijn64tab", laid_math_bits_deBruijn64tab), ("internal/strconv.uint64pow10", laid_internal_strconv_uint64pow10), ("unicode/utf8.acceptRanges", laid_unicode_utf8_acceptRanges), ("unicode/utf8.first", laid_unicode_utf8_first)], narrowed := true }
def BenchBetweenUptoSaid : Prop := benchBetweenUptoRow.holds Tryz.pinned (OpenSpec.upto benchBetweenSpec)

/-- 'mahlsticklaw06.BenchLates', WHERE WHAT IT READS IS OF BULK AT MOST 1048576: true; the input reads as it did. -/
def benchLatesUptoRow : OpenClaim := { program := "ytfndfpbdgjoilaagreatdoor", sum := "45c0356ac626c54e6fb720c78e2612fb2d610c93b21954fb65a3b1841fc52159", func := "mahlstick/mahlsticklaw06.BenchLates", spec := "benchLates", inPlace := ["internal/bytealg.CountString", "internal/bytealg.IndexByteString", "internal/bytealg.IndexString", "internal/abi.NoEscape", "internal/bytealg.MakeNoZero"], unfollowed := true, recurses := true, named := ["unicode/utf8.first", "unicode/utf8.acceptRanges", "internal/bytealg.MaxLen", "internal/strconv.uint64pow10", "math/bits.deBruijn32tab", "math/bits.deBruijn64tab"], plainKeys := false, apart := false, laid := [("math/bits.deBruijn32tab", laid_math_bits_deBruijn32tab), ("math/bits.deBruijn64tab", laid_math_bits_deBruijn64tab), ("internal/strconv.uint64pow10", laid_internal_strconv_uint64pow10), ("unicode/utf8.acceptRanges", laid_unicode_utf8_acceptRanges), ("unicode/utf8.first", laid_unicode_utf8_first)], narrowed := true }
def BenchLatesUptoSaid : Prop := benchLatesUptoRow.holds Tryz.pinned (OpenSpec.upto benchLatesSpec)

/-- 'mahlsticklaw06.BenchDue', WHERE WHAT IT READS IS OF BULK AT MOST 1048576: true; the input reads as it did. -/
def benchDueUptoRow : OpenClaim := { program := "ytfndfpbdgjoilaagreatdoor", sum := "45c0356ac626c54e6fb720c78e2612fb2d610c93b21954fb65a3b1841fc52159", func := "mahlstick/mahlsticklaw06.BenchDue", spec := "benchDue", inPlace := ["internal/bytealg.CountString", "internal/bytealg.IndexByteString", "internal/bytealg.IndexString", "internal/abi.NoEscape", "internal/bytealg.MakeNoZero"], unfollowed := true, recurses := true, named := ["unicode/utf8.first", "unicode/utf8.acceptRanges", "internal/bytealg.MaxLen", "internal/strconv.uint64pow10", "math/bits.deBruijn32tab", "math/bits.deBruijn64tab"], plainKeys := false, apart := false, laid := [("math/bits.deBruijn32tab", laid_math_bits_deBruijn32tab), ("math/bits.deBruijn64tab", laid_math_bits_deBruijn64tab), ("internal/strconv.uint64pow10", laid_internal_strconv_uint64pow10), ("unicode/utf8.acceptRanges", laid_unicode_utf8_acceptRanges), ("unicode/utf8.first", laid_unicode_utf8_first)], narrowed := true }
def BenchDueUptoSaid : Prop := benchDueUptoRow.holds Tryz.pinned (OpenSpec.upto benchDueSpec)

/-- 'mahlsticklaw06.BenchChains', WHERE WHAT IT READS IS OF BULK AT MOST 1048576: true; the input reads as it did. -/
def benchChainsUptoRow : OpenClaim := { program := "ytfndfpbdgjoilaagreatdoor", sum := "45c0356ac626c54e6fb720c78e2612fb2d610c93b21954fb65a3b1841fc52159", func := "mahlstick/mahlsticklaw06.BenchChains", spec := "benchChains", inPlace := ["internal/bytealg.CountString", "internal/bytealg.IndexByteString", "internal/bytealg.IndexString", "internal/abi.NoEscape", "internal/bytealg.MakeNoZero"], unfollowed := true, recurses := true, named := ["unicode/utf8.first", "unicode/utf8.acceptRanges", "internal/bytealg.MaxLen", "internal/strconv.uint64pow10", "math/bits.deBruijn32tab", "math/bits.deBruijn64tab"], plainKeys := false, apart := false, laid := [("math/bits.deBruijn32tab", laid_math_bits_deBruijn32tab), ("math/bits.deBruijn64tab", laid_math_bits_deBruijn64tab), ("internal/strconv.uint64pow10", laid_internal_strconv_uint64pow10), ("unicode/utf8.acceptRanges", laid_unicode_utf8_acceptRanges), ("unicode/utf8.first", laid_unicode_utf8_first)], narrowed := true }
def BenchChainsUptoSaid : Prop := benchChainsUptoRow.holds Tryz.pinned (OpenSpec.upto benchChainsSpec)

/-- 'mahlsticklaw06.BenchDelays', WHERE WHAT IT READS IS OF BULK AT MOST 1048576: true; the input reads as it did. -/
def benchDelaysUptoRow : OpenClaim := { program := "ytfndfpbdgjoilaagreatdoor", sum := "45c0356ac626c54e6fb720c78e2612fb2d610c93b21954fb65a3b1841fc52159", func := "mahlstick/mahlsticklaw06.BenchDelays", spec := "benchDelays", inPlace := ["internal/bytealg.CountString", "internal/bytealg.IndexByteString", "internal/bytealg.IndexString", "internal/abi.NoEscape", "internal/bytealg.MakeNoZero"], unfollowed := true, recurses := true, named := ["unicode/utf8.first", "unicode/utf8.acceptRanges", "internal/bytealg.MaxLen", "internal/strconv.uint64pow10", "math/bits.deBruijn32tab", "math/bits.deBruijn64tab"], plainKeys := false, apart := false, laid := [("math/bits.deBruijn32tab", laid_math_bits_deBruijn32tab), ("math/bits.deBruijn64tab", laid_math_bits_deBruijn64tab), ("internal/strconv.uint64pow10", laid_internal_strconv_uint64pow10), ("unicode/utf8.acceptRanges", laid_unicode_utf8_acceptRanges), ("unicode/utf8.first", laid_unicode_utf8_first)], narrowed := true }
def BenchDelaysUptoSaid : Prop := benchDelaysUptoRow.holds Tryz.pinned (OpenSpec.upto benchDelaysSpec)

/-- 'mahlsticklaw06.BenchSpared', WHERE WHAT IT READS IS OF BULK AT MOST 1048576: true; the input reads as it did. -/
def benchSparedUptoRow : OpenClaim := { program := "ytfndfpbdgjoilaagreatdoor", sum := "45c0356ac626c54e6fb720c78e2612fb2d610c93b21954fb65a3b1841fc52159", func := "mahlstick/mahlsticklaw06.BenchSpared", spec := "benchSpared", inPlace := ["internal/bytealg.CountString", "internal/bytealg.IndexByteString", "internal/bytealg.IndexString", "internal/abi.NoEscape", "internal/bytealg.MakeNoZero"], unfollowed := true, recurses := true, named := ["unicode/utf8.first", "unicode/utf8.acceptRanges", "internal/bytealg.MaxLen", "internal/strconv.uint64pow10", "math/bits.deBruijn32tab", "math/bits.deBruijn64tab"], plainKeys := false, apart := false, laid := [("math/bits.deBruijn32tab", laid_math_bits_deBruijn32tab), ("math/bits.deBruijn64tab", laid_math_bits_deBruijn64tab), ("internal/strconv.uint64pow10", laid_internal_strconv_uint64pow10), ("unicode/utf8.acceptRanges", laid_unicode_utf8_acceptRanges), ("unicode/utf8.first", laid_unicode_utf8_first)], narrowed := true }
def BenchSparedUptoSaid : Prop := benchSparedUptoRow.holds Tryz.pinned (OpenSpec.upto benchSparedSpec)

/-- 'mahlsticklaw06.BenchBests', WHERE WHAT IT READS IS OF BULK AT MOST 1048576: true; the input reads as it did. -/
def benchBestsUptoRow : OpenClaim := { program := "ytfndfpbdgjoilaagreatdoor", sum := "45c0356ac626c54e6fb720c78e2612fb2d610c93b21954fb65a3b1841fc52159", func := "mahlstick/mahlsticklaw06.BenchBests", spec := "benchBests", inPlace := ["internal/bytealg.CountString", "internal/bytealg.IndexByteString", "internal/bytealg.IndexString", "internal/abi.NoEscape", "internal/bytealg.MakeNoZero"], unfollowed := true, recurses := true, named := ["unicode/utf8.first", "unicode/utf8.acceptRanges", "internal/bytealg.MaxLen", "internal/strconv.uint64pow10", "math/bits.deBruijn32tab", "math/bits.deBruijn64tab"], plainKeys := false, apart := false, laid := [("math/bits.deBruijn32tab", laid_math_bits_deBruijn32tab), ("math/bits.deBruijn64tab", laid_math_bits_deBruijn64tab), ("internal/strconv.uint64pow10", laid_internal_strconv_uint64pow10), ("unicode/utf8.acceptRanges", laid_unicode_utf8_acceptRanges), ("unicode/utf8.first", laid_unicode_utf8_first)], narrowed := true }
def BenchBestsUptoSaid : Prop := benchBestsUptoRow.holds Tryz.pinned (OpenSpec.upto benchBestsSpec)

/-- 'mahlsticklaw06.BenchSoonest', WHERE WHAT IT READS IS OF BULK AT MOST 1048576: true; the input reads as it did. -/
def benchSoonestUptoRow : OpenClaim := { program := "ytfndfpbdgjoilaagreatdoor", sum := "45c0356ac626c54e6fb720c78e2612fb2d610c93b21954fb65a3b1841fc52159", func := "mahlstick/mahlsticklaw06.BenchSoonest", spec := "benchSoonest", inPlace := ["internal/bytealg.CountString", "internal/bytealg.IndexByteString", "internal/bytealg.IndexString", "internal/abi.NoEscape", "internal/bytealg.MakeNoZero"], unfollowed := true, recurses := true, named := ["unicode/utf8.first", "unicode/utf8.acceptRanges", "internal/bytealg.MaxLen", "internal/strconv.uint64pow10", "math/bits.deBruijn32tab", "math/bits.deBruijn64tab"], plainKeys := false, apart := false, laid := [("math/bits.deBruijn32tab", laid_math_bits_deBruijn32tab), ("math/bits.deBruijn64tab", laid_math_bits_deBruijn64tab), ("internal/strconv.uint64pow10", laid_internal_strconv_uint64pow10), ("unicode/utf8.acceptRanges", laid_unicode_utf8_acceptRanges), ("unicode/utf8.first", laid_unicode_utf8_first)], narrowed := true }
def BenchSoonestUptoSaid : Prop := benchSoonestUptoRow.holds Tryz.pinned (OpenSpec.upto benchSoonestSpec)

/-- 'mahlsticklaw06.BenchWhos', WHERE WHAT IT READS IS OF BULK AT MOST 1048576: true; the input reads as it did. -/
def benchWhosUptoRow : OpenClaim := { program := "ytfndfpbdgjoilaagreatdoor", sum := "45c0356ac626c54e6fb720c78e2612fb2d610c93b21954fb65a3b1841fc52159", func := "mahlstick/mahlsticklaw06.BenchWhos", spec := "benchWhos", inPlace := ["internal/bytealg.CountString", "internal/bytealg.IndexByteString", "internal/bytealg.IndexString", "internal/abi.NoEscape", "internal/bytealg.MakeNoZero"], unfollowed := true, recurses := true, named := ["unicode/utf8.first", "unicode/utf8.acceptRanges", "internal/bytealg.MaxLen", "internal/strconv.uint64pow10", "math/bits.deBruijn32tab", "math/bits.deBruijn64tab"], plainKeys := false, apart := false, laid := [("math/bits.deBruijn32tab", laid_math_bits_deBruijn32tab), ("math/bits.deBruijn64tab", laid_math_bits_deBruijn64tab), ("internal/strconv.uint64pow10", laid_internal_strconv_uint64pow10), ("unicode/utf8.acceptRanges", laid_unicode_utf8_acceptRanges), ("unicode/utf8.first", laid_unicode_utf8_first)], narrowed := true }
def BenchWhosUptoSaid : Prop := benchWhosUptoRow.holds Tryz.pinned (OpenSpec.upto benchWhosSpec)

/-- 'mahlsticklaw06.BenchGiven', WHERE WHAT IT READS IS OF BULK AT MOST 1048576: true; the input reads as it did. -/
def benchGivenUptoRow : OpenClaim := { program := "ytfndfpbdgjoilaagreatdoor", sum := "45c0356ac626c54e6fb720c78e2612fb2d610c93b21954fb65a3b1841fc52159", func := "mahlstick/mahlsticklaw06.BenchGiven", spec := "benchGiven", inPlace := ["internal/bytealg.CountString", "internal/bytealg.IndexByteString", "internal/bytealg.IndexString", "internal/abi.NoEscape", "internal/bytealg.MakeNoZero"], unfollowed := true, recurses := true, named := ["unicode/utf8.first", "unicode/utf8.acceptRanges", "internal/bytealg.MaxLen", "internal/strconv.uint64pow10", "math/bits.deBruijn32tab", "math/bits.deBruijn64tab"], plainKeys := false, apart := false, laid := [("math/bits.deBruijn32tab", laid_math_bits_deBruijn32tab), ("math/bits.deBruijn64tab", laid_math_bits_deBruijn64tab), ("internal/strconv.uint64pow10", laid_internal_strconv_uint64pow10), ("unicode/utf8.acceptRanges", laid_unicode_utf8_acceptRanges), ("unicode/utf8.first", laid_unicode_utf8_first)], narrowed := true }
def BenchGivenUptoSaid : Prop := benchGivenUptoRow.holds Tryz.pinned (OpenSpec.upto benchGivenSpec)

/-- 'mahlsticklaw06.BenchMores', WHERE WHAT IT READS IS OF BULK AT MOST 1048576: true; the input reads as it did. -/
def benchMoresUptoRow : OpenClaim := { program := "ytfndfpbdgjoilaagreatdoor", sum := "45c0356ac626c54e6fb720c78e2612fb2d610c93b21954fb65a3b1841fc52159", func := "mahlstick/mahlsticklaw06.BenchMores", spec := "benchMores", inPlace := ["internal/bytealg.CountString", "internal/bytealg.IndexByteString", "internal/bytealg.IndexString", "internal/abi.NoEscape", "internal/bytealg.MakeNoZero"], unfollowed := true, recurses := true, named := ["unicode/utf8.first", "unicode/utf8.acceptRanges", "internal/bytealg.MaxLen", "internal/strconv.uint64pow10", "math/bits.deBruijn32tab", "math/bits.deBruijn64tab"], plainKeys := false, apart := false, laid := [("math/bits.deBruijn32tab", laid_math_bits_deBruijn32tab), ("math/bits.deBruijn64tab", laid_math_bits_deBruijn64tab), ("internal/strconv.uint64pow10", laid_internal_strconv_uint64pow10), ("unicode/utf8.acceptRanges", laid_unicode_utf8_acceptRanges), ("unicode/utf8.first", laid_unicode_utf8_first)], narrowed := true }
def BenchMoresUptoSaid : Prop := benchMoresUptoRow.holds Tryz.pinned (OpenSpec.upto benchMoresSpec)

/-- 'mahlsticklaw06.BenchEnough', WHERE WHAT IT READS IS OF BULK AT MOST 1048576: true; the input reads as it did. -/
def benchEnoughUptoRow : OpenClaim := { program := "ytfndfpbdgjoilaagreatdoor", sum := "45c0356ac626c54e6fb720c78e2612fb2d610c93b21954fb65a3b1841fc52159", func := "mahlstick/mahlsticklaw06.BenchEnough", spec := "benchEnough", inPlace := ["internal/bytealg.CountString", "internal/bytealg.IndexByteString", "internal/bytealg.IndexString", "internal/abi.NoEscape", "internal/bytealg.MakeNoZero"], unfollowed := true, recurses := true, named := ["unicode/utf8.first", "unicode/utf8.acceptRanges", "internal/bytealg.MaxLen", "internal/strconv.uint64pow10", "math/bits.deBruijn32tab", "math/bits.deBruijn64tab"], plainKeys := false, apart := false, laid := [("math/bits.deBruijn32tab", laid_math_bits_deBruijn32tab), ("math/bits.deBruijn64tab", laid_math_bits_deBruijn64tab), ("internal/strconv.uint64pow10", laid_internal_strconv_uint64pow10), ("unicode/utf8.acceptRanges", laid_unicode_utf8_acceptRanges), ("unicode/utf8.first", laid_unicode_utf8_first)], narrowed := true }
def BenchEnoughUptoSaid : Prop := benchEnoughUptoRow.holds Tryz.pinned (OpenSpec.upto benchEnoughSpec)

/-- 'mahlsticklaw06.BenchMore', WHERE WHAT IT READS IS OF BULK AT MOST 1048576: true; the input reads as it did. -/
def benchMoreUptoRow : OpenClaim := { program := "ytfndfpbdgjoilaagreatdoor", sum := "45c0356ac626c54e6fb720c78e2612fb2d610c93b21954fb65a3b1841fc52159", func := "mahlstick/mahlsticklaw06.BenchMore", spec := "benchMore", inPlace := ["internal/bytealg.CountString", "internal/bytealg.IndexByteString", "internal/bytealg.IndexString", "internal/abi.NoEscape", "internal/bytealg.MakeNoZero"], unfollowed := true, recurses := true, named := ["unicode/utf8.first", "unicode/utf8.acceptRanges", "internal/bytealg.MaxLen", "internal/strconv.uint64pow10", "math/bits.deBruijn32tab", "math/bits.deBruijn64tab"], plainKeys := false, apart := false, laid := [("math/bits.deBruijn32tab", laid_math_bits_deBruijn32tab), ("math/bits.deBruijn64tab", laid_math_bits_deBruijn64tab), ("internal/strconv.uint64pow10", laid_internal_strconv_uint64pow10), ("unicode/utf8.acceptRanges", laid_unicode_utf8_acceptRanges), ("unicode/utf8.first", laid_unicode_utf8_first)], narrowed := true }
def BenchMoreUptoSaid : Prop := benchMoreUptoRow.holds Tryz.pinned (OpenSpec.upto benchMoreSpec)

/-- 'mahlsticklaw06.BenchNamed', WHERE WHAT IT READS IS OF BULK AT MOST 1048576: true; the input reads as it did. -/
def benchNamedUptoRow : OpenClaim := { program := "ytfndfpbdgjoilaagreatdoor", sum := "45c0356ac626c54e6fb720c78e2612fb2d610c93b21954fb65a3b1841fc52159", func := "mahlstick/mahlsticklaw06.BenchNamed", spec := "benchNamed", inPlace := ["internal/bytealg.CountString", "internal/bytealg.IndexByteString", "internal/bytealg.IndexString", "internal/abi.NoEscape", "internal/bytealg.MakeNoZero"], unfollowed := true, recurses := true, named := ["unicode/utf8.first", "unicode/utf8.acceptRanges", "internal/bytealg.MaxLen", "internal/strconv.uint64pow10", "math/bits.deBruijn32tab", "math/bits.deBruijn64tab"], plainKeys := false, apart := false, laid := [("math/bits.deBruijn32tab", laid_math_bits_deBruijn32tab), ("math/bits.deBruijn64tab", laid_math_bits_deBruijn64tab), ("internal/strconv.uint64pow10", laid_internal_strconv_uint64pow10), ("unicode/utf8.acceptRanges", laid_unicode_utf8_acceptRanges), ("unicode/utf8.first", laid_unicode_utf8_first)], narrowed := true }
def BenchNamedUptoSaid : Prop := benchNamedUptoRow.holds Tryz.pinned (OpenSpec.upto benchNamedSpec)

/-- 'mahlsticklaw06.BenchEnds', WHERE WHAT IT READS IS OF BULK AT MOST 1048576: true; the input reads as it did. -/
def benchEndsUptoRow : OpenClaim := { program := "ytfndfpbdgjoilaagreatdoor", sum := "45c0356ac626c54e6fb720c78e2612fb2d610c93b21954fb65a3b1841fc52159", func := "mahlstick/mahlsticklaw06.BenchEnds", spec := "benchEnds", inPlace := ["internal/bytealg.CountString", "internal/bytealg.IndexByteString", "internal/bytealg.IndexString", "internal/abi.NoEscape", "internal/bytealg.MakeNoZero"], unfollowed := true, recurses := true, named := ["unicode/utf8.first", "unicode/utf8.acceptRanges", "internal/bytealg.MaxLen", "internal/strconv.uint64pow10", "math/bits.deBruijn32tab", "math/bits.deBruijn64tab"], plainKeys := false, apart := false, laid := [("math/bits.deBruijn32tab", laid_math_bits_deBruijn32tab), ("math/bits.deBruijn64tab", laid_math_bits_deBruijn64tab), ("internal/strconv.uint64pow10", laid_internal_strconv_uint64pow10), ("unicode/utf8.acceptRanges", laid_unicode_utf8_acceptRanges), ("unicode/utf8.first", laid_unicode_utf8_first)], narrowed := true }
def BenchEndsUptoSaid : Prop := benchEndsUptoRow.holds Tryz.pinned (OpenSpec.upto benchEndsSpec)

/-- 'mahlsticklaw06.BenchPrints', WHERE WHAT IT READS IS OF BULK AT MOST 1048576: true; the input reads as it did. -/
def benchPrintsUptoRow : OpenClaim := { program := "ytfndfpbdgjoilaagreatdoor", sum := "45c0356ac626c54e6fb720c78e2612fb2d610c93b21954fb65a3b1841fc52159", func := "mahlstick/mahlsticklaw06.BenchPrints", spec := "benchPrints", inPlace := ["internal/bytealg.CountString", "internal/bytealg.IndexByteString", "internal/bytealg.IndexString", "internal/abi.NoEscape", "internal/bytealg.MakeNoZero"], unfollowed := true, recurses := true, named := ["unicode/utf8.first", "unicode/utf8.acceptRanges", "internal/bytealg.MaxLen", "internal/strconv.uint64pow10", "math/bits.deBruijn32tab", "math/bits.deBruijn64tab"], plainKeys := false, apart := false, laid := [("math/bits.deBruijn32tab", laid_math_bits_deBruijn32tab), ("math/bits.deBruijn64tab", laid_math_bits_deBruijn64tab), ("internal/strconv.uint64pow10", laid_internal_strconv_uint64pow10), ("unicode/utf8.acceptRanges", laid_unicode_utf8_acceptRanges), ("unicode/utf8.first", laid_unicode_utf8_first)], narrowed := true }
def BenchPrintsUptoSaid : Prop := benchPrintsUptoRow.holds Tryz.pinned (OpenSpec.upto benchPrintsSpec)

/-- 'mahlsticklaw06.BenchReads', WHERE WHAT IT READS IS OF BULK AT MOST 1048576: true; the input reads as it did. -/
def benchReadsUptoRow : OpenClaim := { program := "ytfndfpbdgjoilaagreatdoor", sum := "45c0356ac626c54e6fb720c78e2612fb2d610c93b21954fb65a3b1841fc52159", func := "mahlstick/mahlsticklaw06.BenchReads", spec := "benchReads", inPlace := ["internal/bytealg.CountString", "internal/bytealg.IndexByteString", "internal/bytealg.IndexString", "internal/abi.NoEscape", "internal/bytealg.MakeNoZero"], unfollowed := true, recurses := true, named := ["unicode/utf8.first", "unicode/utf8.acceptRanges", "internal/bytealg.MaxLen", "internal/strconv.uint64pow10", "math/bits.deBruijn32tab", "math/bits.deBruijn64tab"], plainKeys := false, apart := false, laid := [("math/bits.deBruijn32tab", laid_math_bits_deBruijn32tab), ("math/bits.deBruijn64tab", laid_math_bits_deBruijn64tab), ("internal/strconv.uint64pow10", laid_internal_strconv_uint64pow10), ("unicode/utf8.acceptRanges", laid_unicode_utf8_acceptRanges), ("unicode/utf8.first", laid_unicode_utf8_first)], narrowed := true }
def BenchReadsUptoSaid : Prop := benchReadsUptoRow.holds Tryz.pinned (OpenSpec.upto benchReadsSpec)

/-- 'mahlsticklaw06.BenchSpoilt', WHERE WHAT IT READS IS OF BULK AT MOST 1048576: true; the input reads as it did. -/
def benchSpoiltUptoRow : OpenClaim := { program := "ytfndfpbdgjoilaagreatdoor", sum := "45c0356ac626c54e6fb720c78e2612fb2d610c93b21954fb65a3b1841fc52159", func := "mahlstick/mahlsticklaw06.BenchSpoilt", spec := "benchSpoilt", inPlace := ["internal/bytealg.CountString", "internal/bytealg.IndexByteString", "internal/bytealg.IndexString", "internal/abi.NoEscape", "internal/bytealg.MakeNoZero"], unfollowed := true, recurses := true, named := ["unicode/utf8.first", "unicode/utf8.acceptRanges", "internal/bytealg.MaxLen", "internal/strconv.uint64pow10", "math/bits.deBruijn32tab", "math/bits.deBruijn64tab"], plainKeys := false, apart := false, laid := [("math/bits.deBruijn32tab", laid_math_bits_deBruijn32tab), ("math/bits.deBruijn64tab", laid_math_bits_deBruijn64tab), ("internal/strconv.uint64pow10", laid_internal_strconv_uint64pow10), ("unicode/utf8.acceptRanges", laid_unicode_utf8_acceptRanges), ("unicode/utf8.first", laid_unicode_utf8_first)], narrowed := true }
def BenchSpoiltUptoSaid : Prop := benchSpoiltUptoRow.holds Tryz.pinned (OpenSpec.upto benchSpoiltSpec)

end Rows
end Go.Proofs.YtfndfpbdgjoilaaGreatDoor
