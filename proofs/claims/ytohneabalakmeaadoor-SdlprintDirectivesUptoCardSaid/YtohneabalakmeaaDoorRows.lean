/-
  NARROWER THAN 'FOR EVERY INPUT', by the rows' own cells (each row's printed sentence says how): TextQuotes: laid · TextNumbers: laid · TextNames: laid · TextReturns: laid · TextUnquotes: laid · HintJoins: laid · HintTexts: laid · HintFields: loops, laid · SdlprintValues: loops, laid · SdlprintDirectives: loops, laid · SdlprintTexts: loops, laid · SdlprintSames: loops, laid.
  DERIVED. THE GIVEN ROWS OF THIS SEAT. 12 by the template 'for every input the law returns true; each argument reads behind the call as it read before'; 0 by the template 'total and deterministic' (their statements: YtohneabalakmeaaDoorTotals.lean).
  GIVEN WITH THE SEED: the statements are not yours to turn. If you find one false, say at which input.
  Laid BY PROGRAM, IN A SANDBOX (cutbox-rows.mjs): the forced cells as the released guide's own fill.sh prints them over the translation fb7eba5dcd0207e3… (all of the seat's roots in one cut). By AI agents, Wed Nov 11 2026. No macro, syntax, notation, axiom, sorry.
-/
import Derived.Test.YtohneabalakmeaaDoorChecked
import GoSem.Claim
import GoSem.ClaimJoined
import GoSem.ClaimMapViews
import Derived.JoinedTies
import Derived.KernelRfl
namespace Go.Proofs.YtohneabalakmeaaDoor
/- THE CELL 'sum', in the pinned program and in every row, IS THE sha256 OF THE DUMP (.gsa) THAT YtohneabalakmeaaDoorProg.lean LOADS. Nothing in Lean hashes anything: it is a label: what it is worth is what the hold of that sum in a sandbox is worth. -/
noncomputable def Tryd.pinned : Pinned := { name := "ytohneabalakmeaadoor", sum := "fb7eba5dcd0207e3f7299888cf9d088c57308a210b80561b39516318b7e13bd1", checked := Tryd.checked }
namespace Rows
def none {H : Type} : Left H := { results := [], args := [] }

/- WHAT THE LISTED PACKAGE-LEVEL VARIABLES READ AS WHEN THE CALL BEGINS. Each datum BY PROGRAM (the guide's laid-datum.mjs) off the statement by which the dump's own 'gosem.cut.vars' lays the variable. In a bare row this is a premise. The card (YtohneabalakmeaaDoorCards.lean) ties it to the program's text. -/
def laid_math_bits_deBruijn32tab {H : Type} : DataW H := .agg [.lit (.int .u8 0), .lit (.int .u8 1), .lit (.int .u8 28), .lit (.int .u8 2), .lit (.int .u8 29), .lit (.int .u8 14), .lit (.int .u8 24), .lit (.int .u8 3), .lit (.int .u8 30), .lit (.int .u8 22), .lit (.int .u8 20), .lit (.int .u8 15), .lit (.int .u8 25), .lit (.int .u8 17), .lit (.int .u8 4), .lit (.int .u8 8), .lit (.int .u8 31), .lit (.int .u8 27), .lit (.int .u8 13), .lit (.int .u8 23), .lit (.int .u8 21), .lit (.int .u8 19), .lit (.int .u8 16), .lit (.int .u8 7), .lit (.int .u8 26), .lit (.int .u8 12), .lit (.int .u8 18), .lit (.int .u8 6), .lit (.int .u8 11), .lit (.int .u8 5), .lit (.int .u8 10), .lit (.int .u8 9)]
def laid_math_bits_deBruijn64tab {H : Type} : DataW H := .agg [.lit (.int .u8 0), .lit (.int .u8 1), .lit (.int .u8 56), .lit (.int .u8 2), .lit (.int .u8 57), .lit (.int .u8 49), .lit (.int .u8 28), .lit (.int .u8 3), .lit (.int .u8 61), .lit (.int .u8 58), .lit (.int .u8 42), .lit (.int .u8 50), .lit (.int .u8 38), .lit (.int .u8 29), .lit (.int .u8 17), .lit (.int .u8 4), .lit (.int .u8 62), .lit (.int .u8 47), .lit (.int .u8 59), .lit (.int .u8 36), .lit (.int .u8 45), .lit (.int .u8 43), .lit (.int .u8 51), .lit (.int .u8 22), .lit (.int .u8 53), .lit (.int .u8 39), .lit (.int .u8 33), .lit (.int .u8 30), .lit (.int .u8 24), .lit (.int .u8 18), .lit (.int .u8 12), .lit (.int .u8 5), .lit (.int .u8 63), .lit (.int .u8 55), .lit (.int .u8 48), .lit (.int .u8 27), .lit (.int .u8 60), .lit (.int .u8 41), .lit (.int .u8 37), .lit (.int .u8 16), .lit (.int .u8 46), .lit (.int .u8 35), .lit (.int .u8 44), .lit (.int .u8 21), .lit (.int .u8 52), .lit (.int .u8 32), .lit (.int .u8 23), .lit (.int .u8 11), .lit (.int .u8 54), .lit (.int .u8 26), .lit (.int .u8 40), .lit (.int .u8 15), .lit (.int .u8 34), .lit (.int .u8 20), .lit (.int .u8 31), .lit (.int .u8 10), .lit (.int .u8 25), .lit (.int .u8 14), .lit (.int .u8 19), .lit (.int .u8 9), .lit (.int .u8 13), .lit (.int .u8 8), .lit (.int .u8 7), .lit (.int .u8 6)]
def laid_internal_strconv_uint64pow10 {H : Type} : DataW H := .agg [.lit (.int .u64 1), .lit (.int .u64 10), .lit (.int .u64 100), .lit (.int .u64 1000), .lit (.int .u64 10000), .lit (.int .u64 100000), .lit (.int .u64 1000000), .lit (.int .u64 10000000), .lit (.int .u64 100000000), .lit (.int .u64 1000000000), .lit (.int .u64 10000000000), .lit (.int .u64 100000000000), .lit (.int .u64 1000000000000), .lit (.int .u64 10000000000000), .lit (.int .u64 100000000000000), .lit (.int .u64 1000000000000000), .lit (.int .u64 10000000000000000), .lit (.int .u64 100000000000000000), .lit (.int .u64 1000000000000000000), .lit (.int .u64 10000000000000000000)]
def laid_strconv_ErrRange {H : Type} : DataW H := .iface "*errors.errorString" (.ptr (.agg [.lit (.string [118, 97, 108, 117, 101, 32, 111, 117, 116, 32, 111, 102, 32, 114, 97, 110, 103, 101])]))
def laid_strconv_ErrSyntax {H : Type} : DataW H := .iface "*errors.errorString" (.ptr (.agg [.lit (.string [105, 110, 118, 97, 108, 105, 100, 32, 115, 121, 110, 116, 97, 120])]))

/-- 'supergraphlaw01.TextQuotes': WHATEVER THE INPUT: true; the input reads as it did. -/
def textQuotesSpec : ChangeSpec := { name := "textQuotes", fn := fun _ => fun
  | [d] => { results := [.lit (.bool true)], args := [d] }
  | _ => none }
def textQuotesRow : OpenClaim := { program := "ytohneabalakmeaadoor", sum := "fb7eba5dcd0207e3f7299888cf9d088c57308a210b80561b39516318b7e13bd1", func := "supergraph/supergraphlaw01.TextQuotes", spec := "textQuotes", inPlace := ["internal/abi.NoEscape"], named := ["strconv.ErrSyntax", "strconv.ErrRange", "internal/strconv.uint64pow10", "math/bits.deBruijn32tab", "math/bits.deBruijn64tab"], apart := false, laid := [("math/bits.deBruijn32tab", laid_math_bits_deBruijn32tab), ("math/bits.deBruijn64tab", laid_math_bits_deBruijn64tab), ("internal/strconv.uint64pow10", laid_internal_strconv_uint64pow10), ("strconv.ErrRange", laid_strconv_ErrRange), ("strconv.ErrSyntax", laid_strconv_ErrSyntax)] }
def TextQuotesSaid : Prop := textQuotesRow.holds Tryd.pinned (OpenSpec.ofChange textQuotesSpec)

/-- ITS FALSE NEIGHBOUR: 'it returns false'. Refute it at one input. -/
def textQuotesWrong : ChangeSpec := { name := "textQuotes", fn := fun _ => fun
  | [d] => { results := [.lit (.bool false)], args := [d] }
  | _ => none }
def TextQuotesWrongFalsely : Prop := textQuotesRow.holds Tryd.pinned (OpenSpec.ofChange textQuotesWrong)

/-- 'supergraphlaw01.TextNumbers': WHATEVER THE INPUT: true; the input reads as it did. -/
def textNumbersSpec : ChangeSpec := { name := "textNumbers", fn := fun _ => fun
  | [d1, d2] => { results := [.lit (.bool true)], args := [d1, d2] }
  | _ => none }
def textNumbersRow : OpenClaim := { program := "ytohneabalakmeaadoor", sum := "fb7eba5dcd0207e3f7299888cf9d088c57308a210b80561b39516318b7e13bd1", func := "supergraph/supergraphlaw01.TextNumbers", spec := "textNumbers", inPlace := ["internal/abi.NoEscape"], recurses := true, named := ["strconv.ErrSyntax", "strconv.ErrRange", "internal/strconv.uint64pow10", "math/bits.deBruijn32tab", "math/bits.deBruijn64tab"], apart := false, laid := [("math/bits.deBruijn32tab", laid_math_bits_deBruijn32tab), ("math/bits.deBruijn64tab", laid_math_bits_deBruijn64tab), ("internal/strconv.uint64pow10", laid_internal_strconv_uint64pow10), ("strconv.ErrRange", laid_strconv_ErrRange), ("strconv.ErrSyntax", laid_strconv_ErrSyntax)] }
def TextNumbersSaid : Prop := textNumbersRow.holds Tryd.pinned (OpenSpec.ofChange textNumbersSpec)

/-- ITS FALSE NEIGHBOUR: 'it returns false'. Refute it at one input. -/
def textNumbersWrong : ChangeSpec := { name := "textNumbers", fn := fun _ => fun
  | [d1, d2] => { results := [.lit (.bool false)], args := [d1, d2] }
  | _ => none }
def TextNumbersWrongFalsely : Prop := textNumbersRow.holds Tryd.pinned (OpenSpec.ofChange textNumbersWrong)

/-- 'supergraphlaw01.TextNames': WHATEVER THE INPUT: true; the input reads as it did. -/
def textNamesSpec : ChangeSpec := { name := "textNames", fn := fun _ => fun
  | [d] => { results := [.lit (.bool true)], args := [d] }
  | _ => none }
def textNamesRow : OpenClaim := { program := "ytohneabalakmeaadoor", sum := "fb7eba5dcd0207e3f7299888cf9d088c57308a210b80561b39516318b7e13bd1", func := "supergraph/supergraphlaw01.TextNames", spec := "textNames", inPlace := ["internal/abi.NoEscape"], named := ["strconv.ErrSyntax", "strconv.ErrRange", "internal/strconv.uint64pow10", "math/bits.deBruijn32tab", "math/bits.deBruijn64tab"], apart := false, laid := [("math/bits.deBruijn32tab", laid_math_bits_deBruijn32tab), ("math/bits.deBruijn64tab", laid_math_bits_deBruijn64tab), ("internal/strconv.uint64pow10", laid_internal_strconv_uint64pow10), ("strconv.ErrRange", laid_strconv_ErrRange), ("strconv.ErrSyntax", laid_strconv_ErrSyntax)] }
def TextNamesSaid : Prop := textNamesRow.holds Tryd.pinned (OpenSpec.ofChange textNamesSpec)

/-- ITS FALSE NEIGHBOUR: 'it returns false'. Refute it at one input. -/
def textNamesWrong : ChangeSpec := { name := "textNames", fn := fun _ => fun
  | [d] => { results := [.lit (.bool false)], args := [d] }
  | _ => none }
def TextNamesWrongFalsely : Prop := textNamesRow.holds Tryd.pinned (OpenSpec.ofChange textNamesWrong)

/-- 'supergraphlaw01.TextReturns': WHATEVER THE INPUT: true; the input reads as it did. -/
def textReturnsSpec : ChangeSpec := { name := "textReturns", fn := fun _ => fun
  | [d] => { results := [.lit (.bool true)], args := [d] }
  | _ => none }
def textReturnsRow : OpenClaim := { program := "ytohneabalakmeaadoor", sum := "fb7eba5dcd0207e3f7299888cf9d088c57308a210b80561b39516318b7e13bd1", func := "supergraph/supergraphlaw01.TextReturns", spec := "textReturns", inPlace := ["internal/abi.NoEscape", "internal/bytealg.IndexByteString"], named := ["strconv.ErrSyntax", "strconv.ErrRange", "internal/strconv.uint64pow10", "math/bits.deBruijn32tab", "math/bits.deBruijn64tab"], apart := false, laid := [("math/bits.deBruijn32tab", laid_math_bits_deBruijn32tab), ("math/bits.deBruijn64tab", laid_math_bits_deBruijn64tab), ("internal/strconv.uint64pow10", laid_internal_strconv_uint64pow10), ("strconv.ErrRange", laid_strconv_ErrRange), ("strconv.ErrSyntax", laid_strconv_ErrSyntax)] }
def TextReturnsSaid : Prop := textReturnsRow.holds Tryd.pinned (OpenSpec.ofChange textReturnsSpec)

/-- ITS FALSE NEIGHBOUR: 'it returns false'. Refute it at one input. -/
def textReturnsWrong : ChangeSpec := { name := "textReturns", fn := fun _ => fun
  | [d] => { results := [.lit (.bool false)], args := [d] }
  | _ => none }
def TextReturnsWrongFalsely : Prop := textReturnsRow.holds Tryd.pinned (OpenSpec.ofChange textReturnsWrong)

/-- 'supergraphlaw01.TextUnquotes': WHATEVER THE INPUT: true; the input reads as it did. -/
def textUnquotesSpec : ChangeSpec := { name := "textUnquotes", fn := fun _ => fun
  | [d] => { results := [.lit (.bool true)], args := [d] }
  | _ => none }
def textUnquotesRow : OpenClaim := { program := "ytohneabalakmeaadoor", sum := "fb7eba5dcd0207e3f7299888cf9d088c57308a210b80561b39516318b7e13bd1", func := "supergraph/supergraphlaw01.TextUnquotes", spec := "textUnquotes", inPlace := ["internal/abi.NoEscape", "internal/bytealg.IndexByteString"], named := ["strconv.ErrSyntax", "strconv.ErrRange", "internal/strconv.uint64pow10", "math/bits.deBruijn32tab", "math/bits.deBruijn64tab"], apart := false, laid := [("math/bits.deBruijn32tab", laid_math_bits_deBruijn32tab), ("math/bits.deBruijn64tab", laid_math_bits_deBruijn64tab), ("internal/strconv.uint64pow10", laid_internal_strconv_uint64pow10), ("strconv.ErrRange", laid_strconv_ErrRange), ("strconv.ErrSyntax", laid_strconv_ErrSyntax)] }
def TextUnquotesSaid : Prop := textUnquotesRow.holds Tryd.pinned (OpenSpec.ofChange textUnquotesSpec)

/-- ITS FALSE NEIGHBOUR: 'it returns false'. Refute it at one input. -/
def textUnquotesWrong : ChangeSpec := { name := "textUnquotes", fn := fun _ => fun
  | [d] => { results := [.lit (.bool false)], args := [d] }
  | _ => none }
def TextUnquotesWrongFalsely : Prop := textUnquotesRow.holds Tryd.pinned (OpenSpec.ofChange textUnquotesWrong)

/-- 'supergraphlaw44.HintJoins': WHATEVER THE INPUT: true; the input reads as it did. -/
def hintJoinsSpec : ChangeSpec := { name := "hintJoins", fn := fun _ => fun
  | [d1, d2, d3] => { results := [.lit (.bool true)], args := [d1, d2, d3] }
  | _ => none }
def hintJoinsRow : OpenClaim := { program := "ytohneabalakmeaadoor", sum := "fb7eba5dcd0207e3f7299888cf9d088c57308a210b80561b39516318b7e13bd1", func := "supergraph/supergraphlaw44.HintJoins", spec := "hintJoins", named := ["strconv.ErrSyntax", "strconv.ErrRange", "internal/strconv.uint64pow10", "math/bits.deBruijn32tab", "math/bits.deBruijn64tab"], apart := false, laid := [("math/bits.deBruijn32tab", laid_math_bits_deBruijn32tab), ("math/bits.deBruijn64tab", laid_math_bits_deBruijn64tab), ("internal/strconv.uint64pow10", laid_internal_strconv_uint64pow10), ("strconv.ErrRange", laid_strconv_ErrRange), ("strconv.ErrSyntax", laid_strconv_ErrSyntax)] }
def HintJoinsSaid : Prop := hintJoinsRow.holds Tryd.pinned (OpenSpec.ofChange hintJoinsSpec)

/-- ITS FALSE NEIGHBOUR: 'it returns false'. Refute it at one input. -/
def hintJoinsWrong : ChangeSpec := { name := "hintJoins", fn := fun _ => fun
  | [d1, d2, d3] => { results := [.lit (.bool false)], args := [d1, d2, d3] }
  | _ => none }
def HintJoinsWrongFalsely : Prop := hintJoinsRow.holds Tryd.pinned (OpenSpec.ofChange hintJoinsWrong)

/-- 'supergraphlaw44.HintTexts': WHATEVER THE INPUT: true; the input reads as it did. -/
def hintTextsSpec : ChangeSpec := { name := "hintTexts", fn := fun _ => fun
  | [d1, d2] => { results := [.lit (.bool true)], args := [d1, d2] }
  | _ => none }
def hintTextsRow : OpenClaim := { program := "ytohneabalakmeaadoor", sum := "fb7eba5dcd0207e3f7299888cf9d088c57308a210b80561b39516318b7e13bd1", func := "supergraph/supergraphlaw44.HintTexts", spec := "hintTexts", recurses := true, named := ["strconv.ErrSyntax", "strconv.ErrRange", "internal/strconv.uint64pow10", "math/bits.deBruijn32tab", "math/bits.deBruijn64tab"], apart := false, laid := [("math/bits.deBruijn32tab", laid_math_bits_deBruijn32tab), ("math/bits.deBruijn64tab", laid_math_bits_deBruijn64tab), ("internal/strconv.uint64pow10", laid_internal_strconv_uint64pow10), ("strconv.ErrRange", laid_strconv_ErrRange), ("strconv.ErrSyntax", laid_strconv_ErrSyntax)] }
def HintTextsSaid : Prop := hintTextsRow.holds Tryd.pinned (OpenSpec.ofChange hintTextsSpec)

/-- ITS FALSE NEIGHBOUR: 'it returns false'. Refute it at one input. -/
def hintTextsWrong : ChangeSpec := { name := "hintTexts", fn := fun _ => fun
  | [d1, d2] => { results := [.lit (.bool false)], args := [d1, d2] }
  | _ => none }
def HintTextsWrongFalsely : Prop := hintTextsRow.holds Tryd.pinned (OpenSpec.ofChange hintTextsWrong)

/-- 'supergraphlaw44.HintFields': WHATEVER THE INPUT: true; the input reads as it did. -/
def hintFieldsSpec : ChangeSpec := { name := "hintFields", fn := fun _ => fun
  | [d1, d2, d3] => { results := [.lit (.bool true)], args := [d1, d2, d3] }
  | _ => none }
def hintFieldsRow : OpenClaim := { program := "ytohneabalakmeaadoor", sum := "fb7eba5dcd0207e3f7299888cf9d088c57308a210b80561b39516318b7e13bd1", func := "supergraph/supergraphlaw44.HintFields", spec := "hintFields", named := ["strconv.ErrSyntax", "strconv.ErrRange", "internal/strconv.uint64pow10", "math/bits.deBruijn32tab", "math/bits.deBruijn64tab"], loops := true, apart := false, laid := [("math/bits.deBruijn32tab", laid_math_bits_deBruijn32tab), ("math/bits.deBruijn64tab", laid_math_bits_deBruijn64tab), ("internal/strconv.uint64pow10", laid_internal_strconv_uint64pow10), ("strconv.ErrRange", laid_strconv_ErrRange), ("strconv.ErrSyntax", laid_strconv_ErrSyntax)] }
def HintFieldsSaid : Prop := hintFieldsRow.holds Tryd.pinned (OpenSpec.ofChange hintFieldsSpec)

/-- ITS FALSE NEIGHBOUR: 'it returns false'. Refute it at one input. -/
def hintFieldsWrong : ChangeSpec := { name := "hintFields", fn := fun _ => fun
  | [d1, d2, d3] => { results := [.lit (.bool false)], args := [d1, d2, d3] }
  | _ => none }
def HintFieldsWrongFalsely : Prop := hintFieldsRow.holds Tryd.pinned (OpenSpec.ofChange hintFieldsWrong)

/-- 'supergraphlaw07.SdlprintValues': WHATEVER THE INPUT: true; the input reads as it did. -/
def sdlprintValuesSpec : ChangeSpec := { name := "sdlprintValues", fn := fun _ => fun
  | [d] => { results := [.lit (.bool true)], args := [d] }
  | _ => none }
def sdlprintValuesRow : OpenClaim := { program := "ytohneabalakmeaadoor", sum := "fb7eba5dcd0207e3f7299888cf9d088c57308a210b80561b39516318b7e13bd1", func := "supergraph/supergraphlaw07.SdlprintValues", spec := "sdlprintValues", inPlace := ["internal/abi.NoEscape", "internal/bytealg.MakeNoZero", "internal/bytealg.abigen_runtime_cmpstring"], unfollowed := true, recurses := true, named := ["internal/strconv.uint64pow10", "math/bits.deBruijn32tab", "math/bits.deBruijn64tab"], loops := true, apart := false, laid := [("math/bits.deBruijn32tab", laid_math_bits_deBruijn32tab), ("math/bits.deBruijn64tab", laid_math_bits_deBruijn64tab), ("internal/strconv.uint64pow10", laid_internal_strconv_uint64pow10)] }
def SdlprintValuesSaid : Prop := sdlprintValuesRow.holds Tryd.pinned (OpenSpec.ofChange sdlprintValuesSpec)

/-- ITS FALSE NEIGHBOUR: 'it returns false'. Refute it at one input. -/
def sdlprintValuesWrong : ChangeSpec := { name := "sdlprintValues", fn := fun _ => fun
  | [d] => { results := [.lit (.bool false)], args := [d] }
  | _ => none }
def SdlprintValuesWrongFalsely : Prop := sdlprintValuesRow.holds Tryd.pinned (OpenSpec.ofChange sdlprintValuesWrong)

/-- 'supergraphlaw07.SdlprintDirectives': WHATEVER THE INPUT: true; the input reads as it did. -/
def sdlprintDirectivesSpec : ChangeSpec := { name := "sdlprintDirectives", fn := fun _ => fun
  | [d] => { results := [.lit (.bool true)], args := [d] }
  | _ => none }
def sdlprintDirectivesRow : OpenClaim := { program := "ytohneabalakmeaadoor", sum := "fb7eba5dcd0207e3f7299888cf9d088c57308a210b80561b39516318b7e13bd1", func := "supergraph/supergraphlaw07.SdlprintDirectives", spec := "sdlprintDirectives", inPlace := ["internal/abi.NoEscape", "internal/bytealg.MakeNoZero", "internal/bytealg.abigen_runtime_cmpstring"], unfollowed := true, recurses := true, named := ["internal/strconv.uint64pow10", "math/bits.deBruijn32tab", "math/bits.deBruijn64tab"], loops := true, apart := false, laid := [("math/bits.deBruijn32tab", laid_math_bits_deBruijn32tab), ("math/bits.deBruijn64tab", laid_math_bits_deBruijn64tab), ("internal/strconv.uint64pow10", laid_internal_strconv_uint64pow10)] }
def SdlprintDirectivesSaid : Prop := sdlprintDirectivesRow.holds Tryd.pinned (OpenSpec.ofChange sdlprintDirectivesSpec)

/-- ITS FALSE NEIGHBOUR: 'it returns false'. Refute it at one input. -/
def sdlprintDirectivesWrong : ChangeSpec := { name := "sdlprintDirectives", fn := fun _ => fun
  | [d] => { results := [.lit (.bool false)], args := [d] }
  | _ => none }
def SdlprintDirectivesWrongFalsely : Prop := sdlprintDirectivesRow.holds Tryd.pinned (OpenSpec.ofChange sdlprintDirectivesWrong)

/-- 'supergraphlaw07.SdlprintTexts': WHATEVER THE INPUT: true; the input reads as it did. -/
def sdlprintTextsSpec : ChangeSpec := { name := "sdlprintTexts", fn := fun _ => fun
  | [d] => { results := [.lit (.bool true)], args := [d] }
  | _ => none }
def sdlprintTextsRow : OpenClaim := { program := "ytohneabalakmeaadoor", sum := "fb7eba5dcd0207e3f7299888cf9d088c57308a210b80561b39516318b7e13bd1", func := "supergraph/supergraphlaw07.SdlprintTexts", spec := "sdlprintTexts", inPlace := ["internal/abi.NoEscape", "internal/bytealg.MakeNoZero", "internal/bytealg.abigen_runtime_cmpstring"], unfollowed := true, recurses := true, named := ["internal/strconv.uint64pow10", "math/bits.deBruijn32tab", "math/bits.deBruijn64tab"], loops := true, apart := false, laid := [("math/bits.deBruijn32tab", laid_math_bits_deBruijn32tab), ("math/bits.deBruijn64tab", laid_math_bits_deBruijn64tab), ("internal/strconv.uint64pow10", laid_internal_strconv_uint64pow10)] }
def SdlprintTextsSaid : Prop := sdlprintTextsRow.holds Tryd.pinned (OpenSpec.ofChange sdlprintTextsSpec)

/-- ITS FALSE NEIGHBOUR: 'it returns false'. Refute it at one input. -/
def sdlprintTextsWrong : ChangeSpec := { name := "sdlprintTexts", fn := fun _ => fun
  | [d] => { results := [.lit (.bool false)], args := [d] }
  | _ => none }
def SdlprintTextsWrongFalsely : Prop := sdlprintTextsRow.holds Tryd.pinned (OpenSpec.ofChange sdlprintTextsWrong)

/-- 'supergraphlaw07.SdlprintSames': WHATEVER THE INPUT: true; the input reads as it did. -/
def sdlprintSamesSpec : ChangeSpec := { name := "sdlprintSames", fn := fun _ => fun
  | [d1, d2] => { results := [.lit (.bool true)], args := [d1, d2] }
  | _ => none }
def sdlprintSamesRow : OpenClaim := { program := "ytohneabalakmeaadoor", sum := "fb7eba5dcd0207e3f7299888cf9d088c57308a210b80561b39516318b7e13bd1", func := "supergraph/supergraphlaw07.SdlprintSames", spec := "sdlprintSames", inPlace := ["internal/abi.NoEscape", "internal/bytealg.MakeNoZero", "internal/bytealg.abigen_runtime_cmpstring"], unfollowed := true, recurses := true, named := ["internal/strconv.uint64pow10", "math/bits.deBruijn32tab", "math/bits.deBruijn64tab"], loops := true, apart := false, laid := [("math/bits.deBruijn32tab", laid_math_bits_deBruijn32tab), ("math/bits.deBruijn64tab", laid_math_bits_deBruijn64tab), ("internal/strconv.uint64pow10", laid_internal_strconv_uint64pow10)] }
def SdlprintSamesSaid : Prop := sdlprintSamesRow.holds Tryd.pinned (OpenSpec.ofChange sdlprintSamesSpec)

/-- ITS FALSE NEIGHBOUR: 'it returns false'. Refute it at one input. -/
def sdlprintSamesWrong : ChangeSpec := { name := "sdlprintSames", fn := fun _ => fun
  | [d1, d2] => { results := [.lit (.bool false)], args := [d1, d2] }
  | _ => none }
def SdlprintSamesWrongFalsely : Prop := sdlprintSamesRow.holds Tryd.pinned (OpenSpec.ofChange sdlprintSamesWrong)

/- THE SECOND FORM. 'bulk': how many values and letters a reading holds, each counted each time it is reached (what is shared counts as often as it is met; a slice's spare places count too). A statement '..UptoSaid' is the law's where the arguments, and the package variables that the reading takes, are together of bulk at most 1048576: NARROWER than '..Said'. Prove '..Said' where nothing that the law and all that it calls make is longer than what came in: it says more and counts as full. Else prove '..UptoSaid'. A law counts once. -/
mutual
def uptoBulk {H : Type} : DataW H → Nat
  | .lit (.string bytes) => bytes.length + 1
  | .lit _ => 1
  | .nil => 1
  | .ptr d => uptoBulk d + 1
  | .slice elems spare => uptoBulkAll elems + uptoBulkAll spare + 1
  | .agg parts => uptoBulkAll parts + 1
  | .iface _ d => uptoBulk d + 1
  | .map entries => uptoBulkEntries entries + 1
  | .held _ => 1
def uptoBulkAll {H : Type} : List (DataW H) → Nat
  | [] => 0
  | d :: r => uptoBulk d + uptoBulkAll r
def uptoBulkEntries {H : Type} : List (Lit × DataW H) → Nat
  | [] => 0
  | x :: r => uptoBulkEntry x + uptoBulkEntries r
def uptoBulkEntry {H : Type} : Lit × DataW H → Nat
  | (.string bytes, d) => bytes.length + uptoBulk d + 1
  | (_, d) => uptoBulk d + 1
 end
def uptoSmall : (H : Type) → List (DataW H) → Bool := fun _ ds => decide (uptoBulkAll ds ≤ 1048576)
def OpenSpec.upto (s : _root_.Go.ChangeSpec) : _root_.Go.OpenSpec := { _root_.Go.OpenSpec.ofChange s with cond := some uptoSmall }

/-- 'supergraphlaw01.TextQuotes', WHERE WHAT IT READS IS OF BULK AT MOST 1048576: true; the input reads as it did. -/
def textQuotesUptoRow : OpenClaim := { program := "ytohneabalakmeaadoor", sum := "fb7eba5dcd0207e3f7299888cf9d088c57308a210b80561b39516318b7e13bd1", func := "supergraph/supergraphlaw01.TextQuotes", spec := "textQuotes", inPlace := ["internal/abi.NoEscape"], named := ["strconv.ErrSyntax", "strconv.ErrRange", "internal/strconv.uint64pow10", "math/bits.deBruijn32tab", "math/bits.deBruijn64tab"], apart := false, laid := [("math/bits.deBruijn32tab", laid_math_bits_deBruijn32tab), ("math/bits.deBruijn64tab", laid_math_bits_deBruijn64tab), ("internal/strconv.uint64pow10", laid_internal_strconv_uint64pow10), ("strconv.ErrRange", laid_strconv_ErrRange), ("strconv.ErrSyntax", laid_strconv_ErrSyntax)], narrowed := true }
def TextQuotesUptoSaid : Prop := textQuotesUptoRow.holds Tryd.pinned (OpenSpec.upto textQuotesSpec)

/-- 'supergraphlaw01.TextNumbers', WHERE WHAT IT READS IS OF BULK AT MOST 1048576: true; the input reads as it did. -/
def textNumbersUptoRow : OpenClaim := { program := "ytohneabalakmeaadoor", sum := "fb7eba5dcd0207e3f7299888cf9d088c57308a210b80561b39516318b7e13bd1", func := "supergraph/supergraphlaw01.TextNumbers", spec := "textNumbers", inPlace := ["internal/abi.NoEscape"], recurses := true, named := ["strconv.ErrSyntax", "strconv.ErrRange", "internal/strconv.uint64pow10", "math/bits.deBruijn32tab", "math/bits.deBruijn64tab"], apart := false, laid := [("math/bits.deBruijn32tab", laid_math_bits_deBruijn32tab), ("math/bits.deBruijn64tab", laid_math_bits_deBruijn64tab), ("internal/strconv.uint64pow10", laid_internal_strconv_uint64pow10), ("strconv.ErrRange", laid_strconv_ErrRange), ("strconv.ErrSyntax", laid_strconv_ErrSyntax)], narrowed := true }
def TextNumbersUptoSaid : Prop := textNumbersUptoRow.holds Tryd.pinned (OpenSpec.upto textNumbersSpec)

/-- 'supergraphlaw01.TextNames', WHERE WHAT IT READS IS OF BULK AT MOST 1048576: true; the input reads as it did. -/
def textNamesUptoRow : OpenClaim := { program := "ytohneabalakmeaadoor", sum := "fb7eba5dcd0207e3f7299888cf9d088c57308a210b80561b39516318b7e13bd1", func := "supergraph/supergraphlaw01.TextNames", spec := "textNames", inPlace := ["internal/abi.NoEscape"], named := ["strconv.ErrSyntax", "strconv.ErrRange", "internal/strconv.uint64pow10", "math/bits.deBruijn32tab", "math/bits.deBruijn64tab"], apart := false, laid := [("math/bits.deBruijn32tab", laid_math_bits_deBruijn32tab), ("math/bits.deBruijn64tab", laid_math_bits_deBruijn64tab), ("internal/strconv.uint64pow10", laid_internal_strconv_uint64pow10), ("strconv.ErrRange", laid_strconv_ErrRange), ("strconv.ErrSyntax", laid_strconv_ErrSyntax)], narrowed := true }
def TextNamesUptoSaid : Prop := textNamesUptoRow.holds Tryd.pinned (OpenSpec.upto textNamesSpec)

/-- 'supergraphlaw01.TextReturns', WHERE WHAT IT READS IS OF BULK AT MOST 1048576: true; the input reads as it did. -/
def textReturnsUptoRow : OpenClaim := { program := "ytohneabalakmeaadoor", sum := "fb7eba5dcd0207e3f7299888cf9d088c57308a210b80561b39516318b7e13bd1", func := "supergraph/supergraphlaw01.TextReturns", spec := "textReturns", inPlace := ["internal/abi.NoEscape", "internal/bytealg.IndexByteString"], named := ["strconv.ErrSyntax", "strconv.ErrRange", "internal/strconv.uint64pow10", "math/bits.deBruijn32tab", "math/bits.deBruijn64tab"], apart := false, laid := [("math/bits.deBruijn32tab", laid_math_bits_deBruijn32tab), ("math/bits.deBruijn64tab", laid_math_bits_deBruijn64tab), ("internal/strconv.uint64pow10", laid_internal_strconv_uint64pow10), ("strconv.ErrRange", laid_strconv_ErrRange), ("strconv.ErrSyntax", laid_strconv_ErrSyntax)], narrowed := true }
def TextReturnsUptoSaid : Prop := textReturnsUptoRow.holds Tryd.pinned (OpenSpec.upto textReturnsSpec)

/-- 'supergraphlaw01.TextUnquotes', WHERE WHAT IT READS IS OF BULK AT MOST 1048576: true; the input reads as it did. -/
def textUnquotesUptoRow : OpenClaim := { program := "ytohneabalakmeaadoor", sum := "fb7eba5dcd0207e3f7299888cf9d088c57308a210b80561b39516318b7e13bd1", func := "supergraph/supergraphlaw01.TextUnquotes", spec := "textUnquotes", inPlace := ["internal/abi.NoEscape", "internal/bytealg.IndexByteString"], named := ["strconv.ErrSyntax", "strconv.ErrRange", "internal/strconv.uint64pow10", "math/bits.deBruijn32tab", "math/bits.deBruijn64tab"], apart := false, laid := [("math/bits.deBruijn32tab", laid_math_bits_deBruijn32tab), ("math/bits.deBruijn64tab", laid_math_bits_deBruijn64tab), ("internal/strconv.uint64pow10", laid_internal_strconv_uint64pow10), ("strconv.ErrRange", laid_strconv_ErrRange), ("strconv.ErrSyntax", laid_strconv_ErrSyntax)], narrowed := true }
def TextUnquotesUptoSaid : Prop := textUnquotesUptoRow.holds Tryd.pinned (OpenSpec.upto textUnquotesSpec)

/-- 'supergraphlaw44.HintJoins', WHERE WHAT IT READS IS OF BULK AT MOST 1048576: true; the input reads as it did. -/
def hintJoinsUptoRow : OpenClaim := { program := "ytohneabalakmeaadoor", sum := "fb7eba5dcd0207e3f7299888cf9d088c57308a210b80561b39516318b7e13bd1", func := "supergraph/supergraphlaw44.HintJoins", spec := "hintJoins", named := ["strconv.ErrSyntax", "strconv.ErrRange", "internal/strconv.uint64pow10", "math/bits.deBruijn32tab", "math/bits.deBruijn64tab"], apart := false, laid := [("math/bits.deBruijn32tab", laid_math_bits_deBruijn32tab), ("math/bits.deBruijn64tab", laid_math_bits_deBruijn64tab), ("internal/strconv.uint64pow10", laid_internal_strconv_uint64pow10), ("strconv.ErrRange", laid_strconv_ErrRange), ("strconv.ErrSyntax", laid_strconv_ErrSyntax)], narrowed := true }
def HintJoinsUptoSaid : Prop := hintJoinsUptoRow.holds Tryd.pinned (OpenSpec.upto hintJoinsSpec)

/-- 'supergraphlaw44.HintTexts', WHERE WHAT IT READS IS OF BULK AT MOST 1048576: true; the input reads as it did. -/
def hintTextsUptoRow : OpenClaim := { program := "ytohneabalakmeaadoor", sum := "fb7eba5dcd0207e3f7299888cf9d088c57308a210b80561b39516318b7e13bd1", func := "supergraph/supergraphlaw44.HintTexts", spec := "hintTexts", recurses := true, named := ["strconv.ErrSyntax", "strconv.ErrRange", "internal/strconv.uint64pow10", "math/bits.deBruijn32tab", "math/bits.deBruijn64tab"], apart := false, laid := [("math/bits.deBruijn32tab", laid_math_bits_deBruijn32tab), ("math/bits.deBruijn64tab", laid_math_bits_deBruijn64tab), ("internal/strconv.uint64pow10", laid_internal_strconv_uint64pow10), ("strconv.ErrRange", laid_strconv_ErrRange), ("strconv.ErrSyntax", laid_strconv_ErrSyntax)], narrowed := true }
def HintTextsUptoSaid : Prop := hintTextsUptoRow.holds Tryd.pinned (OpenSpec.upto hintTextsSpec)

/-- 'supergraphlaw44.HintFields', WHERE WHAT IT READS IS OF BULK AT MOST 1048576: true; the input reads as it did. -/
def hintFieldsUptoRow : OpenClaim := { program := "ytohneabalakmeaadoor", sum := "fb7eba5dcd0207e3f7299888cf9d088c57308a210b80561b39516318b7e13bd1", func := "supergraph/supergraphlaw44.HintFields", spec := "hintFields", named := ["strconv.ErrSyntax", "strconv.ErrRange", "internal/strconv.uint64pow10", "math/bits.deBruijn32tab", "math/bits.deBruijn64tab"], loops := true, apart := false, laid := [("math/bits.deBruijn32tab", laid_math_bits_deBruijn32tab), ("math/bits.deBruijn64tab", laid_math_bits_deBruijn64tab), ("internal/strconv.uint64pow10", laid_internal_strconv_uint64pow10), ("strconv.ErrRange", laid_strconv_ErrRange), ("strconv.ErrSyntax", laid_strconv_ErrSyntax)], narrowed := true }
def HintFieldsUptoSaid : Prop := hintFieldsUptoRow.holds Tryd.pinned (OpenSpec.upto hintFieldsSpec)

/-- 'supergraphlaw07.SdlprintValues', WHERE WHAT IT READS IS OF BULK AT MOST 1048576: true; the input reads as it did. -/
def sdlprintValuesUptoRow : OpenClaim := { program := "ytohneabalakmeaadoor", sum := "fb7eba5dcd0207e3f7299888cf9d088c57308a210b80561b39516318b7e13bd1", func := "supergraph/supergraphlaw07.SdlprintValues", spec := "sdlprintValues", inPlace := ["internal/abi.NoEscape", "internal/bytealg.MakeNoZero", "internal/bytealg.abigen_runtime_cmpstring"], unfollowed := true, recurses := true, named := ["internal/strconv.uint64pow10", "math/bits.deBruijn32tab", "math/bits.deBruijn64tab"], loops := true, apart := false, laid := [("math/bits.deBruijn32tab", laid_math_bits_deBruijn32tab), ("math/bits.deBruijn64tab", laid_math_bits_deBruijn64tab), ("internal/strconv.uint64pow10", laid_internal_strconv_uint64pow10)], narrowed := true }
def SdlprintValuesUptoSaid : Prop := sdlprintValuesUptoRow.holds Tryd.pinned (OpenSpec.upto sdlprintValuesSpec)

/-- 'supergraphlaw07.SdlprintDirectives', WHERE WHAT IT READS IS OF BULK AT MOST 1048576: true; the input reads as it did. -/
def sdlprintDirectivesUptoRow : OpenClaim := { program := "ytohneabalakmeaadoor", sum := "fb7eba5dcd0207e3f7299888cf9d088c57308a210b80561b39516318b7e13bd1", func := "supergraph/supergraphlaw07.SdlprintDirectives", spec := "sdlprintDirectives", inPlace := ["internal/abi.NoEscape", "internal/bytealg.MakeNoZero", "internal/bytealg.abigen_runtime_cmpstring"], unfollowed := true, recurses := true, named := ["internal/strconv.uint64pow10", "math/bits.deBruijn32tab", "math/bits.deBruijn64tab"], loops := true, apart := false, laid := [("math/bits.deBruijn32tab", laid_math_bits_deBruijn32tab), ("math/bits.deBruijn64tab", laid_math_bits_deBruijn64tab), ("internal/strconv.uint64pow10", laid_internal_strconv_uint64pow10)], narrowed := true }
def SdlprintDirectivesUptoSaid : Prop := sdlprintDirectivesUptoRow.holds Tryd.pinned (OpenSpec.upto sdlprintDirectivesSpec)

/-- 'supergraphlaw07.SdlprintTexts', WHERE WHAT IT READS IS OF BULK AT MOST 1048576: true; the input reads as it did. -/
def sdlprintTextsUptoRow : OpenClaim := { program := "ytohneabalakmeaadoor", sum := "fb7eba5dcd0207e3f7299888cf9d088c57308a210b80561b39516318b7e13bd1", func := "supergraph/supergraphlaw07.SdlprintTexts", spec := "sdlprintTexts", inPlace := ["internal/abi.NoEscape", "internal/bytealg.MakeNoZero", "internal/bytealg.abigen_runtime_cmpstring"], unfollowed := true, recurses := true, named := ["internal/strconv.uint64pow10", "math/bits.deBruijn32tab", "math/bits.deBruijn64tab"], loops := true, apart := false, laid := [("math/bits.deBruijn32tab", laid_math_bits_deBruijn32tab), ("math/bits.deBruijn64tab", laid_math_bits_deBruijn64tab), ("internal/strconv.uint64pow10", laid_internal_strconv_uint64pow10)], narrowed := true }
def SdlprintTextsUptoSaid : Prop := sdlprintTextsUptoRow.holds Tryd.pinned (OpenSpec.upto sdlprintTextsSpec)

/-- 'supergraphlaw07.SdlprintSames', WHERE WHAT IT READS IS OF BULK AT MOST 1048576: true; the input reads as it did. -/
def sdlprintSamesUptoRow : OpenClaim := { program := "ytohneabalakmeaadoor", sum := "fb7eba5dcd0207e3f7299888cf9d088c57308a210b80561b39516318b7e13bd1", func := "supergraph/supergraphlaw07.SdlprintSames", spec := "sdlprintSames", inPlace := ["internal/abi.NoEscape", "internal/bytealg.MakeNoZero", "internal/bytealg.abigen_runtime_cmpstring"], unfollowed := true, recurses := true, named := ["internal/strconv.uint64pow10", "math/bits.deBruijn32tab", "math/bits.deBruijn64tab"], loops := true, apart := false, laid := [("math/bits.deBruijn32tab", laid_math_bits_deBruijn32tab), ("math/bits.deBruijn64tab", laid_math_bits_deBruijn64tab), ("internal/strconv.uint64pow10", laid_internal_strconv_uint64pow10)], narrowed := true }
def SdlprintSamesUptoSaid : Prop := sdlprintSamesUptoRow.holds Tryd.pinned (OpenSpec.upto sdlprintSamesSpec)

end Rows
end Go.Proofs.YtohneabalakmeaaDoor
