/-
  NARROWER THAN 'FOR EVERY INPUT', by the rows' own cells (each row's printed sentence says how): CssstrUnits: laid · CssstrTexts: laid · CssstrBack: laid · CssstrSplits: laid · JsstrTexts: laid · JsstrUnits: laid · JsstrBack: laid · JsstrSplits: laid · SchemePasses: laid · SchemeSafe: laid · SchemeNames: laid · SchemeGates: laid · SchemeCut: laid · SchemeSingles: laid · EscapeAlls: laid · EscapeCut: laid · EscapeInert: laid · EscapeResets: laid · EscapeSizes: laid · EscapeFeeds: laid · EscapeKeeps: laid.
  DERIVED. THE GIVEN ROWS OF THIS SEAT. 21 by the template 'for every input the law returns true; each argument reads behind the call as it read before'; 0 by the template 'total and deterministic' (their statements: YtdpnnglfaofjeaaDoorTotals.lean).
  GIVEN WITH THE SEED: the statements are not yours to turn. If you find one false, say at which input.
  Laid BY PROGRAM, IN A SANDBOX (cutbox-rows.mjs): the forced cells as the released guide's own fill.sh prints them over the translation 6fc888b2c5447e7c… (all of the seat's roots in one cut). By AI agents, Wed Nov 11 2026. No macro, syntax, notation, axiom, sorry.
-/
import Derived.Test.YtdpnnglfaofjeaaDoorChecked
import GoSem.PinnedTables
import GoSem.Claim
import GoSem.ClaimJoined
import GoSem.ClaimMapViews
import Derived.JoinedTies
import Derived.KernelRfl
namespace Go.Proofs.YtdpnnglfaofjeaaDoor
/- THE CELL 'sum', in the pinned program and in every row, IS THE sha256 OF THE DUMP (.gsa) THAT YtdpnnglfaofjeaaDoorProg.lean LOADS. Nothing in Lean hashes anything: it is a label: what it is worth is what the hold of that sum in a sandbox is worth. -/
noncomputable def Tryd.pinned : Pinned := { name := "ytdpnnglfaofjeaadoor", sum := "6fc888b2c5447e7c55bd349123d0f14162b1cf47ee5739620192b3a9914f6d93", checked := Tryd.checked }
namespace Rows
def none {H : Type} : Left H := { results := [], args := [] }

/- WHAT THE LISTED PACKAGE-LEVEL VARIABLES READ AS WHEN THE CALL BEGINS. Each datum BY PROGRAM (the guide's laid-datum.mjs) off the statement by which the dump's own 'gosem.cut.vars' lays the variable. In a bare row this is a premise. The card (YtdpnnglfaofjeaaDoorCards.lean) ties it to the program's text. -/
def laid_math_bits_deBruijn32tab {H : Type} : DataW H := .agg [.lit (.int .u8 0), .lit (.int .u8 1), .lit (.int .u8 28), .lit (.int .u8 2), .lit (.int .u8 29), .lit (.int .u8 14), .lit (.int .u8 24), .lit (.int .u8 3), .lit (.int .u8 30), .lit (.int .u8 22), .lit (.int .u8 20), .lit (.int .u8 15), .lit (.int .u8 25), .lit (.int .u8 17), .lit (.int .u8 4), .lit (.int .u8 8), .lit (.int .u8 31), .lit (.int .u8 27), .lit (.int .u8 13), .lit (.int .u8 23), .lit (.int .u8 21), .lit (.int .u8 19), .lit (.int .u8 16), .lit (.int .u8 7), .lit (.int .u8 26), .lit (.int .u8 12), .lit (.int .u8 18), .lit (.int .u8 6), .lit (.int .u8 11), .lit (.int .u8 5), .lit (.int .u8 10), .lit (.int .u8 9)]
def laid_math_bits_deBruijn64tab {H : Type} : DataW H := .agg [.lit (.int .u8 0), .lit (.int .u8 1), .lit (.int .u8 56), .lit (.int .u8 2), .lit (.int .u8 57), .lit (.int .u8 49), .lit (.int .u8 28), .lit (.int .u8 3), .lit (.int .u8 61), .lit (.int .u8 58), .lit (.int .u8 42), .lit (.int .u8 50), .lit (.int .u8 38), .lit (.int .u8 29), .lit (.int .u8 17), .lit (.int .u8 4), .lit (.int .u8 62), .lit (.int .u8 47), .lit (.int .u8 59), .lit (.int .u8 36), .lit (.int .u8 45), .lit (.int .u8 43), .lit (.int .u8 51), .lit (.int .u8 22), .lit (.int .u8 53), .lit (.int .u8 39), .lit (.int .u8 33), .lit (.int .u8 30), .lit (.int .u8 24), .lit (.int .u8 18), .lit (.int .u8 12), .lit (.int .u8 5), .lit (.int .u8 63), .lit (.int .u8 55), .lit (.int .u8 48), .lit (.int .u8 27), .lit (.int .u8 60), .lit (.int .u8 41), .lit (.int .u8 37), .lit (.int .u8 16), .lit (.int .u8 46), .lit (.int .u8 35), .lit (.int .u8 44), .lit (.int .u8 21), .lit (.int .u8 52), .lit (.int .u8 32), .lit (.int .u8 23), .lit (.int .u8 11), .lit (.int .u8 54), .lit (.int .u8 26), .lit (.int .u8 40), .lit (.int .u8 15), .lit (.int .u8 34), .lit (.int .u8 20), .lit (.int .u8 31), .lit (.int .u8 10), .lit (.int .u8 25), .lit (.int .u8 14), .lit (.int .u8 19), .lit (.int .u8 9), .lit (.int .u8 13), .lit (.int .u8 8), .lit (.int .u8 7), .lit (.int .u8 6)]
def laid_internal_strconv_uint64pow10 {H : Type} : DataW H := .agg [.lit (.int .u64 1), .lit (.int .u64 10), .lit (.int .u64 100), .lit (.int .u64 1000), .lit (.int .u64 10000), .lit (.int .u64 100000), .lit (.int .u64 1000000), .lit (.int .u64 10000000), .lit (.int .u64 100000000), .lit (.int .u64 1000000000), .lit (.int .u64 10000000000), .lit (.int .u64 100000000000), .lit (.int .u64 1000000000000), .lit (.int .u64 10000000000000), .lit (.int .u64 100000000000000), .lit (.int .u64 1000000000000000), .lit (.int .u64 10000000000000000), .lit (.int .u64 100000000000000000), .lit (.int .u64 1000000000000000000), .lit (.int .u64 10000000000000000000)]
def laid_unicode_utf8_acceptRanges {H : Type} : DataW H := .agg [.agg [.lit (.int .u8 128), .lit (.int .u8 191)], .agg [.lit (.int .u8 160), .lit (.int .u8 191)], .agg [.lit (.int .u8 128), .lit (.int .u8 159)], .agg [.lit (.int .u8 144), .lit (.int .u8 191)], .agg [.lit (.int .u8 128), .lit (.int .u8 143)], .agg [.lit (.int .u8 0), .lit (.int .u8 0)], .agg [.lit (.int .u8 0), .lit (.int .u8 0)], .agg [.lit (.int .u8 0), .lit (.int .u8 0)], .agg [.lit (.int .u8 0), .lit (.int .u8 0)], .agg [.lit (.int .u8 0), .lit (.int .u8 0)], .agg [.lit (.int .u8 0), .lit (.int .u8 0)], .agg [.lit (.int .u8 0), .lit (.int .u8 0)], .agg [.lit (.int .u8 0), .lit (.int .u8 0)], .agg [.lit (.int .u8 0), .lit (.int .u8 0)], .agg [.lit (.int .u8 0), .lit (.int .u8 0)], .agg [.lit (.int .u8 0), .lit (.int .u8 0)]]
/-- One of Go's own tables, pinned by name: the form's constant. -/
def laid_unicode_utf8_first : DataW Unit := Go.Pinned.utf8First

/-- 'bobbinlaw07.CssstrUnits': WHATEVER THE INPUT: true; the input reads as it did. -/
def cssstrUnitsSpec : ChangeSpec := { name := "cssstrUnits", fn := fun _ => fun
  | [] => { results := [.lit (.bool true)], args := [] }
  | _ => none }
def cssstrUnitsRow : OpenClaim := { program := "ytdpnnglfaofjeaadoor", sum := "6fc888b2c5447e7c55bd349123d0f14162b1cf47ee5739620192b3a9914f6d93", func := "bobbin/bobbinlaw07.CssstrUnits", spec := "cssstrUnits", named := ["internal/strconv.uint64pow10", "math/bits.deBruijn32tab", "math/bits.deBruijn64tab"], apart := false, laid := [("math/bits.deBruijn32tab", laid_math_bits_deBruijn32tab), ("math/bits.deBruijn64tab", laid_math_bits_deBruijn64tab), ("internal/strconv.uint64pow10", laid_internal_strconv_uint64pow10)] }
def CssstrUnitsSaid : Prop := cssstrUnitsRow.holds Tryd.pinned (OpenSpec.ofChange cssstrUnitsSpec)

/-- ITS FALSE NEIGHBOUR: 'it returns false'. Refute it at one input. -/
def cssstrUnitsWrong : ChangeSpec := { name := "cssstrUnits", fn := fun _ => fun
  | [] => { results := [.lit (.bool false)], args := [] }
  | _ => none }
def CssstrUnitsWrongFalsely : Prop := cssstrUnitsRow.holds Tryd.pinned (OpenSpec.ofChange cssstrUnitsWrong)

/-- 'bobbinlaw07.CssstrTexts': WHATEVER THE INPUT: true; the input reads as it did. -/
def cssstrTextsSpec : ChangeSpec := { name := "cssstrTexts", fn := fun _ => fun
  | [d] => { results := [.lit (.bool true)], args := [d] }
  | _ => none }
def cssstrTextsRow : OpenClaim := { program := "ytdpnnglfaofjeaadoor", sum := "6fc888b2c5447e7c55bd349123d0f14162b1cf47ee5739620192b3a9914f6d93", func := "bobbin/bobbinlaw07.CssstrTexts", spec := "cssstrTexts", named := ["internal/strconv.uint64pow10", "math/bits.deBruijn32tab", "math/bits.deBruijn64tab"], apart := false, laid := [("math/bits.deBruijn32tab", laid_math_bits_deBruijn32tab), ("math/bits.deBruijn64tab", laid_math_bits_deBruijn64tab), ("internal/strconv.uint64pow10", laid_internal_strconv_uint64pow10)] }
def CssstrTextsSaid : Prop := cssstrTextsRow.holds Tryd.pinned (OpenSpec.ofChange cssstrTextsSpec)

/-- ITS FALSE NEIGHBOUR: 'it returns false'. Refute it at one input. -/
def cssstrTextsWrong : ChangeSpec := { name := "cssstrTexts", fn := fun _ => fun
  | [d] => { results := [.lit (.bool false)], args := [d] }
  | _ => none }
def CssstrTextsWrongFalsely : Prop := cssstrTextsRow.holds Tryd.pinned (OpenSpec.ofChange cssstrTextsWrong)

/-- 'bobbinlaw07.CssstrBack': WHATEVER THE INPUT: true; the input reads as it did. -/
def cssstrBackSpec : ChangeSpec := { name := "cssstrBack", fn := fun _ => fun
  | [d] => { results := [.lit (.bool true)], args := [d] }
  | _ => none }
def cssstrBackRow : OpenClaim := { program := "ytdpnnglfaofjeaadoor", sum := "6fc888b2c5447e7c55bd349123d0f14162b1cf47ee5739620192b3a9914f6d93", func := "bobbin/bobbinlaw07.CssstrBack", spec := "cssstrBack", named := ["internal/strconv.uint64pow10", "math/bits.deBruijn32tab", "math/bits.deBruijn64tab"], apart := false, laid := [("math/bits.deBruijn32tab", laid_math_bits_deBruijn32tab), ("math/bits.deBruijn64tab", laid_math_bits_deBruijn64tab), ("internal/strconv.uint64pow10", laid_internal_strconv_uint64pow10)] }
def CssstrBackSaid : Prop := cssstrBackRow.holds Tryd.pinned (OpenSpec.ofChange cssstrBackSpec)

/-- ITS FALSE NEIGHBOUR: 'it returns false'. Refute it at one input. -/
def cssstrBackWrong : ChangeSpec := { name := "cssstrBack", fn := fun _ => fun
  | [d] => { results := [.lit (.bool false)], args := [d] }
  | _ => none }
def CssstrBackWrongFalsely : Prop := cssstrBackRow.holds Tryd.pinned (OpenSpec.ofChange cssstrBackWrong)

/-- 'bobbinlaw07.CssstrSplits': WHATEVER THE INPUT: true; the input reads as it did. -/
def cssstrSplitsSpec : ChangeSpec := { name := "cssstrSplits", fn := fun _ => fun
  | [d1, d2] => { results := [.lit (.bool true)], args := [d1, d2] }
  | _ => none }
def cssstrSplitsRow : OpenClaim := { program := "ytdpnnglfaofjeaadoor", sum := "6fc888b2c5447e7c55bd349123d0f14162b1cf47ee5739620192b3a9914f6d93", func := "bobbin/bobbinlaw07.CssstrSplits", spec := "cssstrSplits", named := ["internal/strconv.uint64pow10", "math/bits.deBruijn32tab", "math/bits.deBruijn64tab"], apart := false, laid := [("math/bits.deBruijn32tab", laid_math_bits_deBruijn32tab), ("math/bits.deBruijn64tab", laid_math_bits_deBruijn64tab), ("internal/strconv.uint64pow10", laid_internal_strconv_uint64pow10)] }
def CssstrSplitsSaid : Prop := cssstrSplitsRow.holds Tryd.pinned (OpenSpec.ofChange cssstrSplitsSpec)

/-- ITS FALSE NEIGHBOUR: 'it returns false'. Refute it at one input. -/
def cssstrSplitsWrong : ChangeSpec := { name := "cssstrSplits", fn := fun _ => fun
  | [d1, d2] => { results := [.lit (.bool false)], args := [d1, d2] }
  | _ => none }
def CssstrSplitsWrongFalsely : Prop := cssstrSplitsRow.holds Tryd.pinned (OpenSpec.ofChange cssstrSplitsWrong)

/-- 'bobbinlaw06.JsstrTexts': WHATEVER THE INPUT: true; the input reads as it did. -/
def jsstrTextsSpec : ChangeSpec := { name := "jsstrTexts", fn := fun _ => fun
  | [d] => { results := [.lit (.bool true)], args := [d] }
  | _ => none }
def jsstrTextsRow : OpenClaim := { program := "ytdpnnglfaofjeaadoor", sum := "6fc888b2c5447e7c55bd349123d0f14162b1cf47ee5739620192b3a9914f6d93", func := "bobbin/bobbinlaw06.JsstrTexts", spec := "jsstrTexts", unfollowed := true, recurses := true, named := ["internal/strconv.uint64pow10", "math/bits.deBruijn32tab", "math/bits.deBruijn64tab"], apart := false, laid := [("math/bits.deBruijn32tab", laid_math_bits_deBruijn32tab), ("math/bits.deBruijn64tab", laid_math_bits_deBruijn64tab), ("internal/strconv.uint64pow10", laid_internal_strconv_uint64pow10)] }
def JsstrTextsSaid : Prop := jsstrTextsRow.holds Tryd.pinned (OpenSpec.ofChange jsstrTextsSpec)

/-- ITS FALSE NEIGHBOUR: 'it returns false'. Refute it at one input. -/
def jsstrTextsWrong : ChangeSpec := { name := "jsstrTexts", fn := fun _ => fun
  | [d] => { results := [.lit (.bool false)], args := [d] }
  | _ => none }
def JsstrTextsWrongFalsely : Prop := jsstrTextsRow.holds Tryd.pinned (OpenSpec.ofChange jsstrTextsWrong)

/-- 'bobbinlaw06.JsstrUnits': WHATEVER THE INPUT: true; the input reads as it did. -/
def jsstrUnitsSpec : ChangeSpec := { name := "jsstrUnits", fn := fun _ => fun
  | [d] => { results := [.lit (.bool true)], args := [d] }
  | _ => none }
def jsstrUnitsRow : OpenClaim := { program := "ytdpnnglfaofjeaadoor", sum := "6fc888b2c5447e7c55bd349123d0f14162b1cf47ee5739620192b3a9914f6d93", func := "bobbin/bobbinlaw06.JsstrUnits", spec := "jsstrUnits", unfollowed := true, recurses := true, named := ["internal/strconv.uint64pow10", "math/bits.deBruijn32tab", "math/bits.deBruijn64tab"], apart := false, laid := [("math/bits.deBruijn32tab", laid_math_bits_deBruijn32tab), ("math/bits.deBruijn64tab", laid_math_bits_deBruijn64tab), ("internal/strconv.uint64pow10", laid_internal_strconv_uint64pow10)] }
def JsstrUnitsSaid : Prop := jsstrUnitsRow.holds Tryd.pinned (OpenSpec.ofChange jsstrUnitsSpec)

/-- ITS FALSE NEIGHBOUR: 'it returns false'. Refute it at one input. -/
def jsstrUnitsWrong : ChangeSpec := { name := "jsstrUnits", fn := fun _ => fun
  | [d] => { results := [.lit (.bool false)], args := [d] }
  | _ => none }
def JsstrUnitsWrongFalsely : Prop := jsstrUnitsRow.holds Tryd.pinned (OpenSpec.ofChange jsstrUnitsWrong)

/-- 'bobbinlaw06.JsstrBack': WHATEVER THE INPUT: true; the input reads as it did. -/
def jsstrBackSpec : ChangeSpec := { name := "jsstrBack", fn := fun _ => fun
  | [d] => { results := [.lit (.bool true)], args := [d] }
  | _ => none }
def jsstrBackRow : OpenClaim := { program := "ytdpnnglfaofjeaadoor", sum := "6fc888b2c5447e7c55bd349123d0f14162b1cf47ee5739620192b3a9914f6d93", func := "bobbin/bobbinlaw06.JsstrBack", spec := "jsstrBack", unfollowed := true, recurses := true, named := ["internal/strconv.uint64pow10", "math/bits.deBruijn32tab", "math/bits.deBruijn64tab"], apart := false, laid := [("math/bits.deBruijn32tab", laid_math_bits_deBruijn32tab), ("math/bits.deBruijn64tab", laid_math_bits_deBruijn64tab), ("internal/strconv.uint64pow10", laid_internal_strconv_uint64pow10)] }
def JsstrBackSaid : Prop := jsstrBackRow.holds Tryd.pinned (OpenSpec.ofChange jsstrBackSpec)

/-- ITS FALSE NEIGHBOUR: 'it returns false'. Refute it at one input. -/
def jsstrBackWrong : ChangeSpec := { name := "jsstrBack", fn := fun _ => fun
  | [d] => { results := [.lit (.bool false)], args := [d] }
  | _ => none }
def JsstrBackWrongFalsely : Prop := jsstrBackRow.holds Tryd.pinned (OpenSpec.ofChange jsstrBackWrong)

/-- 'bobbinlaw06.JsstrSplits': WHATEVER THE INPUT: true; the input reads as it did. -/
def jsstrSplitsSpec : ChangeSpec := { name := "jsstrSplits", fn := fun _ => fun
  | [d1, d2] => { results := [.lit (.bool true)], args := [d1, d2] }
  | _ => none }
def jsstrSplitsRow : OpenClaim := { program := "ytdpnnglfaofjeaadoor", sum := "6fc888b2c5447e7c55bd349123d0f14162b1cf47ee5739620192b3a9914f6d93", func := "bobbin/bobbinlaw06.JsstrSplits", spec := "jsstrSplits", unfollowed := true, recurses := true, named := ["internal/strconv.uint64pow10", "math/bits.deBruijn32tab", "math/bits.deBruijn64tab"], apart := false, laid := [("math/bits.deBruijn32tab", laid_math_bits_deBruijn32tab), ("math/bits.deBruijn64tab", laid_math_bits_deBruijn64tab), ("internal/strconv.uint64pow10", laid_internal_strconv_uint64pow10)] }
def JsstrSplitsSaid : Prop := jsstrSplitsRow.holds Tryd.pinned (OpenSpec.ofChange jsstrSplitsSpec)

/-- ITS FALSE NEIGHBOUR: 'it returns false'. Refute it at one input. -/
def jsstrSplitsWrong : ChangeSpec := { name := "jsstrSplits", fn := fun _ => fun
  | [d1, d2] => { results := [.lit (.bool false)], args := [d1, d2] }
  | _ => none }
def JsstrSplitsWrongFalsely : Prop := jsstrSplitsRow.holds Tryd.pinned (OpenSpec.ofChange jsstrSplitsWrong)

/-- 'bobbinlaw05.SchemePasses': WHATEVER THE INPUT: true; the input reads as it did. -/
def schemePassesSpec : ChangeSpec := { name := "schemePasses", fn := fun _ => fun
  | [d] => { results := [.lit (.bool true)], args := [d] }
  | _ => none }
def schemePassesRow : OpenClaim := { program := "ytdpnnglfaofjeaadoor", sum := "6fc888b2c5447e7c55bd349123d0f14162b1cf47ee5739620192b3a9914f6d93", func := "bobbin/bobbinlaw05.SchemePasses", spec := "schemePasses", inPlace := ["internal/bytealg.IndexByteString", "internal/bytealg.IndexByte", "internal/bytealg.Index", "internal/bytealg.IndexString"], named := ["internal/bytealg.MaxLen", "unicode/utf8.first", "unicode/utf8.acceptRanges"], apart := false, laid := [("unicode/utf8.acceptRanges", laid_unicode_utf8_acceptRanges), ("unicode/utf8.first", laid_unicode_utf8_first)] }
def SchemePassesSaid : Prop := schemePassesRow.holds Tryd.pinned (OpenSpec.ofChange schemePassesSpec)

/-- ITS FALSE NEIGHBOUR: 'it returns false'. Refute it at one input. -/
def schemePassesWrong : ChangeSpec := { name := "schemePasses", fn := fun _ => fun
  | [d] => { results := [.lit (.bool false)], args := [d] }
  | _ => none }
def SchemePassesWrongFalsely : Prop := schemePassesRow.holds Tryd.pinned (OpenSpec.ofChange schemePassesWrong)

/-- 'bobbinlaw05.SchemeSafe': WHATEVER THE INPUT: true; the input reads as it did. -/
def schemeSafeSpec : ChangeSpec := { name := "schemeSafe", fn := fun _ => fun
  | [d] => { results := [.lit (.bool true)], args := [d] }
  | _ => none }
def schemeSafeRow : OpenClaim := { program := "ytdpnnglfaofjeaadoor", sum := "6fc888b2c5447e7c55bd349123d0f14162b1cf47ee5739620192b3a9914f6d93", func := "bobbin/bobbinlaw05.SchemeSafe", spec := "schemeSafe", inPlace := ["internal/bytealg.IndexByteString", "internal/bytealg.IndexByte", "internal/bytealg.Index", "internal/bytealg.IndexString"], named := ["internal/bytealg.MaxLen", "unicode/utf8.first", "unicode/utf8.acceptRanges"], apart := false, laid := [("unicode/utf8.acceptRanges", laid_unicode_utf8_acceptRanges), ("unicode/utf8.first", laid_unicode_utf8_first)] }
def SchemeSafeSaid : Prop := schemeSafeRow.holds Tryd.pinned (OpenSpec.ofChange schemeSafeSpec)

/-- ITS FALSE NEIGHBOUR: 'it returns false'. Refute it at one input. -/
def schemeSafeWrong : ChangeSpec := { name := "schemeSafe", fn := fun _ => fun
  | [d] => { results := [.lit (.bool false)], args := [d] }
  | _ => none }
def SchemeSafeWrongFalsely : Prop := schemeSafeRow.holds Tryd.pinned (OpenSpec.ofChange schemeSafeWrong)

/-- 'bobbinlaw05.SchemeNames': WHATEVER THE INPUT: true; the input reads as it did. -/
def schemeNamesSpec : ChangeSpec := { name := "schemeNames", fn := fun _ => fun
  | [d1, d2] => { results := [.lit (.bool true)], args := [d1, d2] }
  | _ => none }
def schemeNamesRow : OpenClaim := { program := "ytdpnnglfaofjeaadoor", sum := "6fc888b2c5447e7c55bd349123d0f14162b1cf47ee5739620192b3a9914f6d93", func := "bobbin/bobbinlaw05.SchemeNames", spec := "schemeNames", inPlace := ["internal/bytealg.IndexByteString", "internal/bytealg.IndexByte", "internal/bytealg.Index", "internal/bytealg.IndexString"], named := ["internal/bytealg.MaxLen", "unicode/utf8.first", "unicode/utf8.acceptRanges"], apart := false, laid := [("unicode/utf8.acceptRanges", laid_unicode_utf8_acceptRanges), ("unicode/utf8.first", laid_unicode_utf8_first)] }
def SchemeNamesSaid : Prop := schemeNamesRow.holds Tryd.pinned (OpenSpec.ofChange schemeNamesSpec)

/-- ITS FALSE NEIGHBOUR: 'it returns false'. Refute it at one input. -/
def schemeNamesWrong : ChangeSpec := { name := "schemeNames", fn := fun _ => fun
  | [d1, d2] => { results := [.lit (.bool false)], args := [d1, d2] }
  | _ => none }
def SchemeNamesWrongFalsely : Prop := schemeNamesRow.holds Tryd.pinned (OpenSpec.ofChange schemeNamesWrong)

/-- 'bobbinlaw05.SchemeGates': WHATEVER THE INPUT: true; the input reads as it did. -/
def schemeGatesSpec : ChangeSpec := { name := "schemeGates", fn := fun _ => fun
  | [d1, d2] => { results := [.lit (.bool true)], args := [d1, d2] }
  | _ => none }
def schemeGatesRow : OpenClaim := { program := "ytdpnnglfaofjeaadoor", sum := "6fc888b2c5447e7c55bd349123d0f14162b1cf47ee5739620192b3a9914f6d93", func := "bobbin/bobbinlaw05.SchemeGates", spec := "schemeGates", inPlace := ["internal/bytealg.IndexByteString", "internal/bytealg.IndexByte", "internal/bytealg.Index", "internal/bytealg.IndexString"], named := ["internal/bytealg.MaxLen", "unicode/utf8.first", "unicode/utf8.acceptRanges"], apart := false, laid := [("unicode/utf8.acceptRanges", laid_unicode_utf8_acceptRanges), ("unicode/utf8.first", laid_unicode_utf8_first)] }
def SchemeGatesSaid : Prop := schemeGatesRow.holds Tryd.pinned (OpenSpec.ofChange schemeGatesSpec)

/-- ITS FALSE NEIGHBOUR: 'it returns false'. Refute it at one input. -/
def schemeGatesWrong : ChangeSpec := { name := "schemeGates", fn := fun _ => fun
  | [d1, d2] => { results := [.lit (.bool false)], args := [d1, d2] }
  | _ => none }
def SchemeGatesWrongFalsely : Prop := schemeGatesRow.holds Tryd.pinned (OpenSpec.ofChange schemeGatesWrong)

/-- 'bobbinlaw05.SchemeCut': WHATEVER THE INPUT: true; the input reads as it did. -/
def schemeCutSpec : ChangeSpec := { name := "schemeCut", fn := fun _ => fun
  | [d1, d2] => { results := [.lit (.bool true)], args := [d1, d2] }
  | _ => none }
def schemeCutRow : OpenClaim := { program := "ytdpnnglfaofjeaadoor", sum := "6fc888b2c5447e7c55bd349123d0f14162b1cf47ee5739620192b3a9914f6d93", func := "bobbin/bobbinlaw05.SchemeCut", spec := "schemeCut", inPlace := ["internal/bytealg.IndexByteString", "internal/bytealg.IndexByte", "internal/bytealg.Index", "internal/bytealg.IndexString"], named := ["internal/bytealg.MaxLen", "unicode/utf8.first", "unicode/utf8.acceptRanges"], apart := false, laid := [("unicode/utf8.acceptRanges", laid_unicode_utf8_acceptRanges), ("unicode/utf8.first", laid_unicode_utf8_first)] }
def SchemeCutSaid : Prop := schemeCutRow.holds Tryd.pinned (OpenSpec.ofChange schemeCutSpec)

/-- ITS FALSE NEIGHBOUR: 'it returns false'. Refute it at one input. -/
def schemeCutWrong : ChangeSpec := { name := "schemeCut", fn := fun _ => fun
  | [d1, d2] => { results := [.lit (.bool false)], args := [d1, d2] }
  | _ => none }
def SchemeCutWrongFalsely : Prop := schemeCutRow.holds Tryd.pinned (OpenSpec.ofChange schemeCutWrong)

/-- 'bobbinlaw05.SchemeSingles': WHATEVER THE INPUT: true; the input reads as it did. -/
def schemeSinglesSpec : ChangeSpec := { name := "schemeSingles", fn := fun _ => fun
  | [d] => { results := [.lit (.bool true)], args := [d] }
  | _ => none }
def schemeSinglesRow : OpenClaim := { program := "ytdpnnglfaofjeaadoor", sum := "6fc888b2c5447e7c55bd349123d0f14162b1cf47ee5739620192b3a9914f6d93", func := "bobbin/bobbinlaw05.SchemeSingles", spec := "schemeSingles", inPlace := ["internal/bytealg.IndexByteString", "internal/bytealg.IndexByte", "internal/bytealg.Index", "internal/bytealg.IndexString"], named := ["internal/bytealg.MaxLen", "unicode/utf8.first", "unicode/utf8.acceptRanges"], apart := false, laid := [("unicode/utf8.acceptRanges", laid_unicode_utf8_acceptRanges), ("unicode/utf8.first", laid_unicode_utf8_first)] }
def SchemeSinglesSaid : Prop := schemeSinglesRow.holds Tryd.pinned (OpenSpec.ofChange schemeSinglesSpec)

/-- ITS FALSE NEIGHBOUR: 'it returns false'. Refute it at one input. -/
def schemeSinglesWrong : ChangeSpec := { name := "schemeSingles", fn := fun _ => fun
  | [d] => { results := [.lit (.bool false)], args := [d] }
  | _ => none }
def SchemeSinglesWrongFalsely : Prop := schemeSinglesRow.holds Tryd.pinned (OpenSpec.ofChange schemeSinglesWrong)

/-- 'bobbinlaw08.EscapeAlls': WHATEVER THE INPUT: true; the input reads as it did. -/
def escapeAllsSpec : ChangeSpec := { name := "escapeAlls", fn := fun _ => fun
  | [d1, d2] => { results := [.lit (.bool true)], args := [d1, d2] }
  | _ => none }
def escapeAllsRow : OpenClaim := { program := "ytdpnnglfaofjeaadoor", sum := "6fc888b2c5447e7c55bd349123d0f14162b1cf47ee5739620192b3a9914f6d93", func := "bobbin/bobbinlaw08.EscapeAlls", spec := "escapeAlls", inPlace := ["internal/bytealg.IndexByteString", "internal/bytealg.IndexByte", "internal/bytealg.Index", "internal/bytealg.IndexString"], unfollowed := true, recurses := true, named := ["internal/bytealg.MaxLen", "unicode/utf8.first", "unicode/utf8.acceptRanges", "internal/strconv.uint64pow10", "math/bits.deBruijn32tab", "math/bits.deBruijn64tab"], apart := false, laid := [("math/bits.deBruijn32tab", laid_math_bits_deBruijn32tab), ("math/bits.deBruijn64tab", laid_math_bits_deBruijn64tab), ("internal/strconv.uint64pow10", laid_internal_strconv_uint64pow10), ("unicode/utf8.acceptRanges", laid_unicode_utf8_acceptRanges), ("unicode/utf8.first", laid_unicode_utf8_first)] }
def EscapeAllsSaid : Prop := escapeAllsRow.holds Tryd.pinned (OpenSpec.ofChange escapeAllsSpec)

/-- ITS FALSE NEIGHBOUR: 'it returns false'. Refute it at one input. -/
def escapeAllsWrong : ChangeSpec := { name := "escapeAlls", fn := fun _ => fun
  | [d1, d2] => { results := [.lit (.bool false)], args := [d1, d2] }
  | _ => none }
def EscapeAllsWrongFalsely : Prop := escapeAllsRow.holds Tryd.pinned (OpenSpec.ofChange escapeAllsWrong)

/-- 'bobbinlaw08.EscapeCut': WHATEVER THE INPUT: true; the input reads as it did. -/
def escapeCutSpec : ChangeSpec := { name := "escapeCut", fn := fun _ => fun
  | [d1, d2, d3] => { results := [.lit (.bool true)], args := [d1, d2, d3] }
  | _ => none }
def escapeCutRow : OpenClaim := { program := "ytdpnnglfaofjeaadoor", sum := "6fc888b2c5447e7c55bd349123d0f14162b1cf47ee5739620192b3a9914f6d93", func := "bobbin/bobbinlaw08.EscapeCut", spec := "escapeCut", inPlace := ["internal/bytealg.IndexByteString", "internal/bytealg.IndexByte", "internal/bytealg.Index", "internal/bytealg.IndexString"], unfollowed := true, recurses := true, named := ["internal/bytealg.MaxLen", "unicode/utf8.first", "unicode/utf8.acceptRanges", "internal/strconv.uint64pow10", "math/bits.deBruijn32tab", "math/bits.deBruijn64tab"], apart := false, laid := [("math/bits.deBruijn32tab", laid_math_bits_deBruijn32tab), ("math/bits.deBruijn64tab", laid_math_bits_deBruijn64tab), ("internal/strconv.uint64pow10", laid_internal_strconv_uint64pow10), ("unicode/utf8.acceptRanges", laid_unicode_utf8_acceptRanges), ("unicode/utf8.first", laid_unicode_utf8_first)] }
def EscapeCutSaid : Prop := escapeCutRow.holds Tryd.pinned (OpenSpec.ofChange escapeCutSpec)

/-- ITS FALSE NEIGHBOUR: 'it returns false'. Refute it at one input. -/
def escapeCutWrong : ChangeSpec := { name := "escapeCut", fn := fun _ => fun
  | [d1, d2, d3] => { results := [.lit (.bool false)], args := [d1, d2, d3] }
  | _ => none }
def EscapeCutWrongFalsely : Prop := escapeCutRow.holds Tryd.pinned (OpenSpec.ofChange escapeCutWrong)

/-- 'bobbinlaw08.EscapeInert': WHATEVER THE INPUT: true; the input reads as it did. -/
def escapeInertSpec : ChangeSpec := { name := "escapeInert", fn := fun _ => fun
  | [d1, d2] => { results := [.lit (.bool true)], args := [d1, d2] }
  | _ => none }
def escapeInertRow : OpenClaim := { program := "ytdpnnglfaofjeaadoor", sum := "6fc888b2c5447e7c55bd349123d0f14162b1cf47ee5739620192b3a9914f6d93", func := "bobbin/bobbinlaw08.EscapeInert", spec := "escapeInert", inPlace := ["internal/bytealg.IndexByteString", "internal/bytealg.IndexByte", "internal/bytealg.Index", "internal/bytealg.IndexString"], unfollowed := true, recurses := true, named := ["internal/bytealg.MaxLen", "unicode/utf8.first", "unicode/utf8.acceptRanges", "internal/strconv.uint64pow10", "math/bits.deBruijn32tab", "math/bits.deBruijn64tab"], apart := false, laid := [("math/bits.deBruijn32tab", laid_math_bits_deBruijn32tab), ("math/bits.deBruijn64tab", laid_math_bits_deBruijn64tab), ("internal/strconv.uint64pow10", laid_internal_strconv_uint64pow10), ("unicode/utf8.acceptRanges", laid_unicode_utf8_acceptRanges), ("unicode/utf8.first", laid_unicode_utf8_first)] }
def EscapeInertSaid : Prop := escapeInertRow.holds Tryd.pinned (OpenSpec.ofChange escapeInertSpec)

/-- ITS FALSE NEIGHBOUR: 'it returns false'. Refute it at one input. -/
def escapeInertWrong : ChangeSpec := { name := "escapeInert", fn := fun _ => fun
  | [d1, d2] => { results := [.lit (.bool false)], args := [d1, d2] }
  | _ => none }
def EscapeInertWrongFalsely : Prop := escapeInertRow.holds Tryd.pinned (OpenSpec.ofChange escapeInertWrong)

/-- 'bobbinlaw08.EscapeResets': WHATEVER THE INPUT: true; the input reads as it did. -/
def escapeResetsSpec : ChangeSpec := { name := "escapeResets", fn := fun _ => fun
  | [d1, d2, d3] => { results := [.lit (.bool true)], args := [d1, d2, d3] }
  | _ => none }
def escapeResetsRow : OpenClaim := { program := "ytdpnnglfaofjeaadoor", sum := "6fc888b2c5447e7c55bd349123d0f14162b1cf47ee5739620192b3a9914f6d93", func := "bobbin/bobbinlaw08.EscapeResets", spec := "escapeResets", inPlace := ["internal/bytealg.IndexByteString", "internal/bytealg.IndexByte", "internal/bytealg.Index", "internal/bytealg.IndexString"], unfollowed := true, recurses := true, named := ["internal/bytealg.MaxLen", "unicode/utf8.first", "unicode/utf8.acceptRanges", "internal/strconv.uint64pow10", "math/bits.deBruijn32tab", "math/bits.deBruijn64tab"], apart := false, laid := [("math/bits.deBruijn32tab", laid_math_bits_deBruijn32tab), ("math/bits.deBruijn64tab", laid_math_bits_deBruijn64tab), ("internal/strconv.uint64pow10", laid_internal_strconv_uint64pow10), ("unicode/utf8.acceptRanges", laid_unicode_utf8_acceptRanges), ("unicode/utf8.first", laid_unicode_utf8_first)] }
def EscapeResetsSaid : Prop := escapeResetsRow.holds Tryd.pinned (OpenSpec.ofChange escapeResetsSpec)

/-- ITS FALSE NEIGHBOUR: 'it returns false'. Refute it at one input. -/
def escapeResetsWrong : ChangeSpec := { name := "escapeResets", fn := fun _ => fun
  | [d1, d2, d3] => { results := [.lit (.bool false)], args := [d1, d2, d3] }
  | _ => none }
def EscapeResetsWrongFalsely : Prop := escapeResetsRow.holds Tryd.pinned (OpenSpec.ofChange escapeResetsWrong)

/-- 'bobbinlaw08.EscapeSizes': WHATEVER THE INPUT: true; the input reads as it did. -/
def escapeSizesSpec : ChangeSpec := { name := "escapeSizes", fn := fun _ => fun
  | [d1, d2] => { results := [.lit (.bool true)], args := [d1, d2] }
  | _ => none }
def escapeSizesRow : OpenClaim := { program := "ytdpnnglfaofjeaadoor", sum := "6fc888b2c5447e7c55bd349123d0f14162b1cf47ee5739620192b3a9914f6d93", func := "bobbin/bobbinlaw08.EscapeSizes", spec := "escapeSizes", inPlace := ["internal/bytealg.IndexByteString", "internal/bytealg.IndexByte", "internal/bytealg.Index", "internal/bytealg.IndexString"], unfollowed := true, recurses := true, named := ["internal/bytealg.MaxLen", "unicode/utf8.first", "unicode/utf8.acceptRanges", "internal/strconv.uint64pow10", "math/bits.deBruijn32tab", "math/bits.deBruijn64tab"], apart := false, laid := [("math/bits.deBruijn32tab", laid_math_bits_deBruijn32tab), ("math/bits.deBruijn64tab", laid_math_bits_deBruijn64tab), ("internal/strconv.uint64pow10", laid_internal_strconv_uint64pow10), ("unicode/utf8.acceptRanges", laid_unicode_utf8_acceptRanges), ("unicode/utf8.first", laid_unicode_utf8_first)] }
def EscapeSizesSaid : Prop := escapeSizesRow.holds Tryd.pinned (OpenSpec.ofChange escapeSizesSpec)

/-- ITS FALSE NEIGHBOUR: 'it returns false'. Refute it at one input. -/
def escapeSizesWrong : ChangeSpec := { name := "escapeSizes", fn := fun _ => fun
  | [d1, d2] => { results := [.lit (.bool false)], args := [d1, d2] }
  | _ => none }
def EscapeSizesWrongFalsely : Prop := escapeSizesRow.holds Tryd.pinned (OpenSpec.ofChange escapeSizesWrong)

/-- 'bobbinlaw08.EscapeFeeds': WHATEVER THE INPUT: true; the input reads as it did. -/
def escapeFeedsSpec : ChangeSpec := { name := "escapeFeeds", fn := fun _ => fun
  | [d1, d2, d3] => { results := [.lit (.bool true)], args := [d1, d2, d3] }
  | _ => none }
def escapeFeedsRow : OpenClaim := { program := "ytdpnnglfaofjeaadoor", sum := "6fc888b2c5447e7c55bd349123d0f14162b1cf47ee5739620192b3a9914f6d93", func := "bobbin/bobbinlaw08.EscapeFeeds", spec := "escapeFeeds", inPlace := ["internal/bytealg.IndexByteString", "internal/bytealg.IndexByte", "internal/bytealg.Index", "internal/bytealg.IndexString"], unfollowed := true, recurses := true, named := ["internal/bytealg.MaxLen", "unicode/utf8.first", "unicode/utf8.acceptRanges", "internal/strconv.uint64pow10", "math/bits.deBruijn32tab", "math/bits.deBruijn64tab"], apart := false, laid := [("math/bits.deBruijn32tab", laid_math_bits_deBruijn32tab), ("math/bits.deBruijn64tab", laid_math_bits_deBruijn64tab), ("internal/strconv.uint64pow10", laid_internal_strconv_uint64pow10), ("unicode/utf8.acceptRanges", laid_unicode_utf8_acceptRanges), ("unicode/utf8.first", laid_unicode_utf8_first)] }
def EscapeFeedsSaid : Prop := escapeFeedsRow.holds Tryd.pinned (OpenSpec.ofChange escapeFeedsSpec)

/-- ITS FALSE NEIGHBOUR: 'it returns false'. Refute it at one input. -/
def escapeFeedsWrong : ChangeSpec := { name := "escapeFeeds", fn := fun _ => fun
  | [d1, d2, d3] => { results := [.lit (.bool false)], args := [d1, d2, d3] }
  | _ => none }
def EscapeFeedsWrongFalsely : Prop := escapeFeedsRow.holds Tryd.pinned (OpenSpec.ofChange escapeFeedsWrong)

/-- 'bobbinlaw08.EscapeKeeps': WHATEVER THE INPUT: true; the input reads as it did. -/
def escapeKeepsSpec : ChangeSpec := { name := "escapeKeeps", fn := fun _ => fun
  | [d1, d2] => { results := [.lit (.bool true)], args := [d1, d2] }
  | _ => none }
def escapeKeepsRow : OpenClaim := { program := "ytdpnnglfaofjeaadoor", sum := "6fc888b2c5447e7c55bd349123d0f14162b1cf47ee5739620192b3a9914f6d93", func := "bobbin/bobbinlaw08.EscapeKeeps", spec := "escapeKeeps", inPlace := ["internal/bytealg.IndexByteString", "internal/bytealg.IndexByte", "internal/bytealg.Index", "internal/bytealg.IndexString"], unfollowed := true, recurses := true, named := ["internal/bytealg.MaxLen", "unicode/utf8.first", "unicode/utf8.acceptRanges", "internal/strconv.uint64pow10", "math/bits.deBruijn32tab", "math/bits.deBruijn64tab"], apart := false, laid := [("math/bits.deBruijn32tab", laid_math_bits_deBruijn32tab), ("math/bits.deBruijn64tab", laid_math_bits_deBruijn64tab), ("internal/strconv.uint64pow10", laid_internal_strconv_uint64pow10), ("unicode/utf8.acceptRanges", laid_unicode_utf8_acceptRanges), ("unicode/utf8.first", laid_unicode_utf8_first)] }
def EscapeKeepsSaid : Prop := escapeKeepsRow.holds Tryd.pinned (OpenSpec.ofChange escapeKeepsSpec)

/-- ITS FALSE NEIGHBOUR: 'it returns false'. Refute it at one input. -/
def escapeKeepsWrong : ChangeSpec := { name := "escapeKeeps", fn := fun _ => fun
  | [d1, d2] => { results := [.lit (.bool false)], args := [d1, d2] }
  | _ => none }
def EscapeKeepsWrongFalsely : Prop := escapeKeepsRow.holds Tryd.pinned (OpenSpec.ofChange escapeKeepsWrong)

/- THE SECOND FORM. 'bulk': how many values and letters a reading holds, each counted each time it is reached (what is shared counts as often as it is met; a slice's spare places count too). A statement '..UptoSaid' is the law's where the arguments, and the package variables that the reading takes, are together of bulk at most 1048576: NARROWER than '..Said'. Prove '..Said' where nothing that the law and all that it calls make is longer than what came in: it says more and counts as full. Else prove '..UptoSaid'. A law counts once. -/
mutual
def uptoBulk {H : Type} : DataW H → Nat
  | .lit (.string bytes) => bytes.length + 1
  | .lit _ => 1
  | .nil => 1
  | .ptr d => uptoBulk d + 1
  | .slice elems spare => uptoBulkAll elems + uptoBulkAll spare + 1
  | .agg parts => uptoBulkAll parts + 1
  | .iface _ d => uptoBulk d + 1
  | .map entries => uptoBulkEntries entries + 1
  | .held _ => 1
def uptoBulkAll {H : Type} : List (DataW H) → Nat
  | [] => 0
  | d :: r => uptoBulk d + uptoBulkAll r
def uptoBulkEntries {H : Type} : List (Lit × DataW H) → Nat
  | [] => 0
  | x :: r => uptoBulkEntry x + uptoBulkEntries r
def uptoBulkEntry {H : Type} : Lit × DataW H → Nat
  | (.string bytes, d) => bytes.length + uptoBulk d + 1
  | (_, d) => uptoBulk d + 1
 end
def uptoSmall : (H : Type) → List (DataW H) → Bool := fun _ ds => decide (uptoBulkAll ds ≤ 1048576)
def OpenSpec.upto (s : _root_.Go.ChangeSpec) : _root_.Go.OpenSpec := { _root_.Go.OpenSpec.ofChange s with cond := some uptoSmall }

/-- 'bobbinlaw07.CssstrUnits', WHERE WHAT IT READS IS OF BULK AT MOST 1048576: true; the input reads as it did. -/
def cssstrUnitsUptoRow : OpenClaim := { program := "ytdpnnglfaofjeaadoor", sum := "6fc888b2c5447e7c55bd349123d0f14162b1cf47ee5739620192b3a9914f6d93", func := "bobbin/bobbinlaw07.CssstrUnits", spec := "cssstrUnits", named := ["internal/strconv.uint64pow10", "math/bits.deBruijn32tab", "math/bits.deBruijn64tab"], apart := false, laid := [("math/bits.deBruijn32tab", laid_math_bits_deBruijn32tab), ("math/bits.deBruijn64tab", laid_math_bits_deBruijn64tab), ("internal/strconv.uint64pow10", laid_internal_strconv_uint64pow10)], narrowed := true }
def CssstrUnitsUptoSaid : Prop := cssstrUnitsUptoRow.holds Tryd.pinned (OpenSpec.upto cssstrUnitsSpec)

/-- 'bobbinlaw07.CssstrTexts', WHERE WHAT IT READS IS OF BULK AT MOST 1048576: true; the input reads as it did. -/
def cssstrTextsUptoRow : OpenClaim := { program := "ytdpnnglfaofjeaadoor", sum := "6fc888b2c5447e7c55bd349123d0f14162b1cf47ee5739620192b3a9914f6d93", func := "bobbin/bobbinlaw07.CssstrTexts", spec := "cssstrTexts", named := ["internal/strconv.uint64pow10", "math/bits.deBruijn32tab", "math/bits.deBruijn64tab"], apart := false, laid := [("math/bits.deBruijn32tab", laid_math_bits_deBruijn32tab), ("math/bits.deBruijn64tab", laid_math_bits_deBruijn64tab), ("internal/strconv.uint64pow10", laid_internal_strconv_uint64pow10)], narrowed := true }
def CssstrTextsUptoSaid : Prop := cssstrTextsUptoRow.holds Tryd.pinned (OpenSpec.upto cssstrTextsSpec)

/-- 'bobbinlaw07.CssstrBack', WHERE WHAT IT READS IS OF BULK AT MOST 1048576: true; the input reads as it did. -/
def cssstrBackUptoRow : OpenClaim := { program := "ytdpnnglfaofjeaadoor", sum := "6fc888b2c5447e7c55bd349123d0f14162b1cf47ee5739620192b3a9914f6d93", func := "bobbin/bobbinlaw07.CssstrBack", spec := "cssstrBack", named := ["internal/strconv.uint64pow10", "math/bits.deBruijn32tab", "math/bits.deBruijn64tab"], apart := false, laid := [("math/bits.deBruijn32tab", laid_math_bits_deBruijn32tab), ("math/bits.deBruijn64tab", laid_math_bits_deBruijn64tab), ("internal/strconv.uint64pow10", laid_internal_strconv_uint64pow10)], narrowed := true }
def CssstrBackUptoSaid : Prop := cssstrBackUptoRow.holds Tryd.pinned (OpenSpec.upto cssstrBackSpec)

/-- 'bobbinlaw07.CssstrSplits', WHERE WHAT IT READS IS OF BULK AT MOST 1048576: true; the input reads as it did. -/
def cssstrSplitsUptoRow : OpenClaim := { program := "ytdpnnglfaofjeaadoor", sum := "6fc888b2c5447e7c55bd349123d0f14162b1cf47ee5739620192b3a9914f6d93", func := "bobbin/bobbinlaw07.CssstrSplits", spec := "cssstrSplits", named := ["internal/strconv.uint64pow10", "math/bits.deBruijn32tab", "math/bits.deBruijn64tab"], apart := false, laid := [("math/bits.deBruijn32tab", laid_math_bits_deBruijn32tab), ("math/bits.deBruijn64tab", laid_math_bits_deBruijn64tab), ("internal/strconv.uint64pow10", laid_internal_strconv_uint64pow10)], narrowed := true }
def CssstrSplitsUptoSaid : Prop := cssstrSplitsUptoRow.holds Tryd.pinned (OpenSpec.upto cssstrSplitsSpec)

/-- 'bobbinlaw06.JsstrTexts', WHERE WHAT IT READS IS OF BULK AT MOST 1048576: true; the input reads as it did. -/
def jsstrTextsUptoRow : OpenClaim := { program := "ytdpnnglfaofjeaadoor", sum := "6fc888b2c5447e7c55bd349123d0f14162b1cf47ee5739620192b3a9914f6d93", func := "bobbin/bobbinlaw06.JsstrTexts", spec := "jsstrTexts", unfollowed := true, recurses := true, named := ["internal/strconv.uint64pow10", "math/bits.deBruijn32tab", "math/bits.deBruijn64tab"], apart := false, laid := [("math/bits.deBruijn32tab", laid_math_bits_deBruijn32tab), ("math/bits.deBruijn64tab", laid_math_bits_deBruijn64tab), ("internal/strconv.uint64pow10", laid_internal_strconv_uint64pow10)], narrowed := true }
def JsstrTextsUptoSaid : Prop := jsstrTextsUptoRow.holds Tryd.pinned (OpenSpec.upto jsstrTextsSpec)

/-- 'bobbinlaw06.JsstrUnits', WHERE WHAT IT READS IS OF BULK AT MOST 1048576: true; the input reads as it did. -/
def jsstrUnitsUptoRow : OpenClaim := { program := "ytdpnnglfaofjeaadoor", sum := "6fc888b2c5447e7c55bd349123d0f14162b1cf47ee5739620192b3a9914f6d93", func := "bobbin/bobbinlaw06.JsstrUnits", spec := "jsstrUnits", unfollowed := true, recurses := true, named := ["internal/strconv.uint64pow10", "math/bits.deBruijn32tab", "math/bits.deBruijn64tab"], apart := false, laid := [("math/bits.deBruijn32tab", laid_math_bits_deBruijn32tab), ("math/bits.deBruijn64tab", laid_math_bits_deBruijn64tab), ("internal/strconv.uint64pow10", laid_internal_strconv_uint64pow10)], narrowed := true }
def JsstrUnitsUptoSaid : Prop := jsstrUnitsUptoRow.holds Tryd.pinned (OpenSpec.upto jsstrUnitsSpec)

/-- 'bobbinlaw06.JsstrBack', WHERE WHAT IT READS IS OF BULK AT MOST 1048576: true; the input reads as it did. -/
def jsstrBackUptoRow : OpenClaim := { program := "ytdpnnglfaofjeaadoor", sum := "6fc888b2c5447e7c55bd349123d0f14162b1cf47ee5739620192b3a9914f6d93", func := "bobbin/bobbinlaw06.JsstrBack", spec := "jsstrBack", unfollowed := true, recurses := true, named := ["internal/strconv.uint64pow10", "math/bits.deBruijn32tab", "math/bits.deBruijn64tab"], apart := false, laid := [("math/bits.deBruijn32tab", laid_math_bits_deBruijn32tab), ("math/bits.deBruijn64tab", laid_math_bits_deBruijn64tab), ("internal/strconv.uint64pow10", laid_internal_strconv_uint64pow10)], narrowed := true }
def JsstrBackUptoSaid : Prop := jsstrBackUptoRow.holds Tryd.pinned (OpenSpec.upto jsstrBackSpec)

/-- 'bobbinlaw06.JsstrSplits', WHERE WHAT IT READS IS OF BULK AT MOST 1048576: true; the input reads as it did. -/
def jsstrSplitsUptoRow : OpenClaim := { program := "ytdpnnglfaofjeaadoor", sum := "6fc888b2c5447e7c55bd349123d0f14162b1cf47ee5739620192b3a9914f6d93", func := "bobbin/bobbinlaw06.JsstrSplits", spec := "jsstrSplits", unfollowed := true, recurses := true, named := ["internal/strconv.uint64pow10", "math/bits.deBruijn32tab", "math/bits.deBruijn64tab"], apart := false, laid := [("math/bits.deBruijn32tab", laid_math_bits_deBruijn32tab), ("math/bits.deBruijn64tab", laid_math_bits_deBruijn64tab), ("internal/strconv.uint64pow10", laid_internal_strconv_uint64pow10)], narrowed := true }
def JsstrSplitsUptoSaid : Prop := jsstrSplitsUptoRow.holds Tryd.pinned (OpenSpec.upto jsstrSplitsSpec)

/-- 'bobbinlaw05.SchemePasses', WHERE WHAT IT READS IS OF BULK AT MOST 1048576: true; the input reads as it did. -/
def schemePassesUptoRow : OpenClaim := { program := "ytdpnnglfaofjeaadoor", sum := "6fc888b2c5447e7c55bd349123d0f14162b1cf47ee5739620192b3a9914f6d93", func := "bobbin/bobbinlaw05.SchemePasses", spec := "schemePasses", inPlace := ["internal/bytealg.IndexByteString", "internal/bytealg.IndexByte", "internal/bytealg.Index", "internal/bytealg.IndexString"], named := ["internal/bytealg.MaxLen", "unicode/utf8.first", "unicode/utf8.acceptRanges"], apart := false, laid := [("unicode/utf8.acceptRanges", laid_unicode_utf8_acceptRanges), ("unicode/utf8.first", laid_unicode_utf8_first)], narrowed := true }
def SchemePassesUptoSaid : Prop := schemePassesUptoRow.holds Tryd.pinned (OpenSpec.upto schemePassesSpec)

/-- 'bobbinlaw05.SchemeSafe', WHERE WHAT IT READS IS OF BULK AT MOST 1048576: true; the input reads as it did. -/
def schemeSafeUptoRow : OpenClaim := { program := "ytdpnnglfaofjeaadoor", sum := "6fc888b2c5447e7c55bd349123d0f14162b1cf47ee5739620192b3a9914f6d93", func := "bobbin/bobbinlaw05.SchemeSafe", spec := "schemeSafe", inPlace := ["internal/bytealg.IndexByteString", "internal/bytealg.IndexByte", "internal/bytealg.Index", "internal/bytealg.IndexString"], named := ["internal/bytealg.MaxLen", "unicode/utf8.first", "unicode/utf8.acceptRanges"], apart := false, laid := [("unicode/utf8.acceptRanges", laid_unicode_utf8_acceptRanges), ("unicode/utf8.first", laid_unicode_utf8_first)], narrowed := true }
def SchemeSafeUptoSaid : Prop := schemeSafeUptoRow.holds Tryd.pinned (OpenSpec.upto schemeSafeSpec)

/-- 'bobbinlaw05.SchemeNames', WHERE WHAT IT READS IS OF BULK AT MOST 1048576: true; the input reads as it did. -/
def schemeNamesUptoRow : OpenClaim := { program := "ytdpnnglfaofjeaadoor", sum := "6fc888b2c5447e7c55bd349123d0f14162b1cf47ee5739620192b3a9914f6d93", func := "bobbin/bobbinlaw05.SchemeNames", spec := "schemeNames", inPlace := ["internal/bytealg.IndexByteString", "internal/bytealg.IndexByte", "internal/bytealg.Index", "internal/bytealg.IndexString"], named := ["internal/bytealg.MaxLen", "unicode/utf8.first", "unicode/utf8.acceptRanges"], apart := false, laid := [("unicode/utf8.acceptRanges", laid_unicode_utf8_acceptRanges), ("unicode/utf8.first", laid_unicode_utf8_first)], narrowed := true }
def SchemeNamesUptoSaid : Prop := schemeNamesUptoRow.holds Tryd.pinned (OpenSpec.upto schemeNamesSpec)

/-- 'bobbinlaw05.SchemeGates', WHERE WHAT IT READS IS OF BULK AT MOST 1048576: true; the input reads as it did. -/
def schemeGatesUptoRow : OpenClaim := { program := "ytdpnnglfaofjeaadoor", sum := "6fc888b2c5447e7c55bd349123d0f14162b1cf47ee5739620192b3a9914f6d93", func := "bobbin/bobbinlaw05.SchemeGates", spec := "schemeGates", inPlace := ["internal/bytealg.IndexByteString", "internal/bytealg.IndexByte", "internal/bytealg.Index", "internal/bytealg.IndexString"], named := ["internal/bytealg.MaxLen", "unicode/utf8.first", "unicode/utf8.acceptRanges"], apart := false, laid := [("unicode/utf8.acceptRanges", laid_unicode_utf8_acceptRanges), ("unicode/utf8.first", laid_unicode_utf8_first)], narrowed := true }
def SchemeGatesUptoSaid : Prop := schemeGatesUptoRow.holds Tryd.pinned (OpenSpec.upto schemeGatesSpec)

/-- 'bobbinlaw05.SchemeCut', WHERE WHAT IT READS IS OF BULK AT MOST 1048576: true; the input reads as it did. -/
def schemeCutUptoRow : OpenClaim := { program := "ytdpnnglfaofjeaadoor", sum := "6fc888b2c5447e7c55bd349123d0f14162b1cf47ee5739620192b3a9914f6d93", func := "bobbin/bobbinlaw05.SchemeCut", spec := "schemeCut", inPlace := ["internal/bytealg.IndexByteString", "internal/bytealg.IndexByte", "internal/bytealg.Index", "internal/bytealg.IndexString"], named := ["internal/bytealg.MaxLen", "unicode/utf8.first", "unicode/utf8.acceptRanges"], apart := false, laid := [("unicode/utf8.acceptRanges", laid_unicode_utf8_acceptRanges), ("unicode/utf8.first", laid_unicode_utf8_first)], narrowed := true }
def SchemeCutUptoSaid : Prop := schemeCutUptoRow.holds Tryd.pinned (OpenSpec.upto schemeCutSpec)

/-- 'bobbinlaw05.SchemeSingles', WHERE WHAT IT READS IS OF BULK AT MOST 1048576: true; the input reads as it did. -/
def schemeSinglesUptoRow : OpenClaim := { program := "ytdpnnglfaofjeaadoor", sum := "6fc888b2c5447e7c55bd349123d0f14162b1cf47ee5739620192b3a9914f6d93", func := "bobbin/bobbinlaw05.SchemeSingles", spec := "schemeSingles", inPlace := ["internal/bytealg.IndexByteString", "internal/bytealg.IndexByte", "internal/bytealg.Index", "internal/bytealg.IndexString"], named := ["internal/bytealg.MaxLen", "unicode/utf8.first", "unicode/utf8.acceptRanges"], apart := false, laid := [("unicode/utf8.acceptRanges", laid_unicode_utf8_acceptRanges), ("unicode/utf8.first", laid_unicode_utf8_first)], narrowed := true }
def SchemeSinglesUptoSaid : Prop := schemeSinglesUptoRow.holds Tryd.pinned (OpenSpec.upto schemeSinglesSpec)

/-- 'bobbinlaw08.EscapeAlls', WHERE WHAT IT READS IS OF BULK AT MOST 1048576: true; the input reads as it did. -/
def escapeAllsUptoRow : OpenClaim := { program := "ytdpnnglfaofjeaadoor", sum := "6fc888b2c5447e7c55bd349123d0f14162b1cf47ee5739620192b3a9914f6d93", func := "bobbin/bobbinlaw08.EscapeAlls", spec := "escapeAlls", inPlace := ["internal/bytealg.IndexByteString", "internal/bytealg.IndexByte", "internal/bytealg.Index", "internal/bytealg.IndexString"], unfollowed := true, recurses := true, named := ["internal/bytealg.MaxLen", "unicode/utf8.first", "unicode/utf8.acceptRanges", "internal/strconv.uint64pow10", "math/bits.deBruijn32tab", "math/bits.deBruijn64tab"], apart := false, laid := [("math/bits.deBruijn32tab", laid_math_bits_deBruijn32tab), ("math/bits.deBruijn64tab", laid_math_bits_deBruijn64tab), ("internal/strconv.uint64pow10", laid_internal_strconv_uint64pow10), ("unicode/utf8.acceptRanges", laid_unicode_utf8_acceptRanges), ("unicode/utf8.first", laid_unicode_utf8_first)], narrowed := true }
def EscapeAllsUptoSaid : Prop := escapeAllsUptoRow.holds Tryd.pinned (OpenSpec.upto escapeAllsSpec)

/-- 'bobbinlaw08.EscapeCut', WHERE WHAT IT READS IS OF BULK AT MOST 1048576: true; the input reads as it did. -/
def escapeCutUptoRow : OpenClaim := { program := "ytdpnnglfaofjeaadoor", sum := "6fc888b2c5447e7c55bd349123d0f14162b1cf47ee5739620192b3a9914f6d93", func := "bobbin/bobbinlaw08.EscapeCut", spec := "escapeCut", inPlace := ["internal/bytealg.IndexByteString", "internal/bytealg.IndexByte", "internal/bytealg.Index", "internal/bytealg.IndexString"], unfollowed := true, recurses := true, named := ["internal/bytealg.MaxLen", "unicode/utf8.first", "unicode/utf8.acceptRanges", "internal/strconv.uint64pow10", "math/bits.deBruijn32tab", "math/bits.deBruijn64tab"], apart := false, laid := [("math/bits.deBruijn32tab", laid_math_bits_deBruijn32tab), ("math/bits.deBruijn64tab", laid_math_bits_deBruijn64tab), ("internal/strconv.uint64pow10", laid_internal_strconv_uint64pow10), ("unicode/utf8.acceptRanges", laid_unicode_utf8_acceptRanges), ("unicode/utf8.first", laid_unicode_utf8_first)], narrowed := true }
def EscapeCutUptoSaid : Prop := escapeCutUptoRow.holds Tryd.pinned (OpenSpec.upto escapeCutSpec)

/-- 'bobbinlaw08.EscapeInert', WHERE WHAT IT READS IS OF BULK AT MOST 1048576: true; the input reads as it did. -/
def escapeInertUptoRow : OpenClaim := { program := "ytdpnnglfaofjeaadoor", sum := "6fc888b2c5447e7c55bd349123d0f14162b1cf47ee5739620192b3a9914f6d93", func := "bobbin/bobbinlaw08.EscapeInert", spec := "escapeInert", inPlace := ["internal/bytealg.IndexByteString", "internal/bytealg.IndexByte", "internal/bytealg.Index", "internal/bytealg.IndexString"], unfollowed := true, recurses := true, named := ["internal/bytealg.MaxLen", "unicode/utf8.first", "unicode/utf8.acceptRanges", "internal/strconv.uint64pow10", "math/bits.deBruijn32tab", "math/bits.deBruijn64tab"], apart := false, laid := [("math/bits.deBruijn32tab", laid_math_bits_deBruijn32tab), ("math/bits.deBruijn64tab", laid_math_bits_deBruijn64tab), ("internal/strconv.uint64pow10", laid_internal_strconv_uint64pow10), ("unicode/utf8.acceptRanges", laid_unicode_utf8_acceptRanges), ("unicode/utf8.first", laid_unicode_utf8_first)], narrowed := true }
def EscapeInertUptoSaid : Prop := escapeInertUptoRow.holds Tryd.pinned (OpenSpec.upto escapeInertSpec)

/-- 'bobbinlaw08.EscapeResets', WHERE WHAT IT READS IS OF BULK AT MOST 1048576: true; the input reads as it did. -/
def escapeResetsUptoRow : OpenClaim := { program := "ytdpnnglfaofjeaadoor", sum := "6fc888b2c5447e7c55bd349123d0f14162b1cf47ee5739620192b3a9914f6d93", func := "bobbin/bobbinlaw08.EscapeResets", spec := "escapeResets", inPlace := ["internal/bytealg.IndexByteString", "internal/bytealg.IndexByte", "internal/bytealg.Index", "internal/bytealg.IndexString"], unfollowed := true, recurses := true, named := ["internal/bytealg.MaxLen", "unicode/utf8.first", "unicode/utf8.acceptRanges", "internal/strconv.uint64pow10", "math/bits.deBruijn32tab", "math/bits.deBruijn64tab"], apart := false, laid := [("math/bits.deBruijn32tab", laid_math_bits_deBruijn32tab), ("math/bits.deBruijn64tab", laid_math_bits_deBruijn64tab), ("internal/strconv.uint64pow10", laid_internal_strconv_uint64pow10), ("unicode/utf8.acceptRanges", laid_unicode_utf8_acceptRanges), ("unicode/utf8.first", laid_unicode_utf8_first)], narrowed := true }
def EscapeResetsUptoSaid : Prop := escapeResetsUptoRow.holds Tryd.pinned (OpenSpec.upto escapeResetsSpec)

/-- 'bobbinlaw08.EscapeSizes', WHERE WHAT IT READS IS OF BULK AT MOST 1048576: true; the input reads as it did. -/
def escapeSizesUptoRow : OpenClaim := { program := "ytdpnnglfaofjeaadoor", sum := "6fc888b2c5447e7c55bd349123d0f14162b1cf47ee5739620192b3a9914f6d93", func := "bobbin/bobbinlaw08.EscapeSizes", spec := "escapeSizes", inPlace := ["internal/bytealg.IndexByteString", "internal/bytealg.IndexByte", "internal/bytealg.Index", "internal/bytealg.IndexString"], unfollowed := true, recurses := true, named := ["internal/bytealg.MaxLen", "unicode/utf8.first", "unicode/utf8.acceptRanges", "internal/strconv.uint64pow10", "math/bits.deBruijn32tab", "math/bits.deBruijn64tab"], apart := false, laid := [("math/bits.deBruijn32tab", laid_math_bits_deBruijn32tab), ("math/bits.deBruijn64tab", laid_math_bits_deBruijn64tab), ("internal/strconv.uint64pow10", laid_internal_strconv_uint64pow10), ("unicode/utf8.acceptRanges", laid_unicode_utf8_acceptRanges), ("unicode/utf8.first", laid_unicode_utf8_first)], narrowed := true }
def EscapeSizesUptoSaid : Prop := escapeSizesUptoRow.holds Tryd.pinned (OpenSpec.upto escapeSizesSpec)

/-- 'bobbinlaw08.EscapeFeeds', WHERE WHAT IT READS IS OF BULK AT MOST 1048576: true; the input reads as it did. -/
def escapeFeedsUptoRow : OpenClaim := { program := "ytdpnnglfaofjeaadoor", sum := "6fc888b2c5447e7c55bd349123d0f14162b1cf47ee5739620192b3a9914f6d93", func := "bobbin/bobbinlaw08.EscapeFeeds", spec := "escapeFeeds", inPlace := ["internal/bytealg.IndexByteString", "internal/bytealg.IndexByte", "internal/bytealg.Index", "internal/bytealg.IndexString"], unfollowed := true, recurses := true, named := ["internal/bytealg.MaxLen", "unicode/utf8.first", "unicode/utf8.acceptRanges", "internal/strconv.uint64pow10", "math/bits.deBruijn32tab", "math/bits.deBruijn64tab"], apart := false, laid := [("math/bits.deBruijn32tab", laid_math_bits_deBruijn32tab), ("math/bits.deBruijn64tab", laid_math_bits_deBruijn64tab), ("internal/strconv.uint64pow10", laid_internal_strconv_uint64pow10), ("unicode/utf8.acceptRanges", laid_unicode_utf8_acceptRanges), ("unicode/utf8.first", laid_unicode_utf8_first)], narrowed := true }
def EscapeFeedsUptoSaid : Prop := escapeFeedsUptoRow.holds Tryd.pinned (OpenSpec.upto escapeFeedsSpec)

/-- 'bobbinlaw08.EscapeKeeps', WHERE WHAT IT READS IS OF BULK AT MOST 1048576: true; the input reads as it did. -/
def escapeKeepsUptoRow : OpenClaim := { program := "ytdpnnglfaofjeaadoor", sum := "6fc888b2c5447e7c55bd349123d0f14162b1cf47ee5739620192b3a9914f6d93", func := "bobbin/bobbinlaw08.EscapeKeeps", spec := "escapeKeeps", inPlace := ["internal/bytealg.IndexByteString", "internal/bytealg.IndexByte", "internal/bytealg.Index", "internal/bytealg.IndexString"], unfollowed := true, recurses := true, named := ["internal/bytealg.MaxLen", "unicode/utf8.first", "unicode/utf8.acceptRanges", "internal/strconv.uint64pow10", "math/bits.deBruijn32tab", "math/bits.deBruijn64tab"], apart := false, laid := [("math/bits.deBruijn32tab", laid_math_bits_deBruijn32tab), ("math/bits.deBruijn64tab", laid_math_bits_deBruijn64tab), ("internal/strconv.uint64pow10", laid_internal_strconv_uint64pow10), ("unicode/utf8.acceptRanges", laid_unicode_utf8_acceptRanges), ("unicode/utf8.first", laid_unicode_utf8_first)], narrowed := true }
def EscapeKeepsUptoSaid : Prop := escapeKeepsUptoRow.holds Tryd.pinned (OpenSpec.upto escapeKeepsSpec)

end Rows
end Go.Proofs.YtdpnnglfaofjeaaDoor
