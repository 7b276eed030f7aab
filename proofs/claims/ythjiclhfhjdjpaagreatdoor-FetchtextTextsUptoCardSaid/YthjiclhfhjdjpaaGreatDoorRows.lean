/-
  NARROWER THAN 'FOR EVERY INPUT', by the rows' own cells (each row's printed sentence says how): FetchtextQueries: loops, laid · FetchtextShows: loops, laid · FetchtextTexts: loops, laid · QueryprintWrites: loops, laid · QueryprintCompares: loops, laid · QueryprintReturns: loops, laid · QueryParse: laid · QueryRight: loops, laid · QueryParsed: laid · QueryJoins: laid · QueryTokens: laid.
  DERIVED. THE GIVEN ROWS OF THIS SEAT. 11 by the template 'for every input the law returns true; each argument reads behind the call as it read before'; 0 by the template 'total and deterministic' (their statements: YthjiclhfhjdjpaaGreatDoorTotals.lean).
  GIVEN WITH THE SEED: the statements are not yours to turn. If you find one false, say at which input.
  Laid BY PROGRAM, IN A SANDBOX (cutbox-rows.mjs): the forced cells as the released guide's own fill.sh prints them over the translation 98642203beb865cd… (all of the seat's roots in one cut). By AI agents, Wed Nov 11 2026. No macro, syntax, notation, axiom, sorry.
-/
import Derived.Test.YthjiclhfhjdjpaaGreatDoorChecked
import GoSem.Claim
import GoSem.ClaimJoined
import GoSem.ClaimMapViews
import Derived.JoinedTies
import Derived.KernelRfl
namespace Go.Proofs.YthjiclhfhjdjpaaGreatDoor
/- THE CELL 'sum', in the pinned program and in every row, IS THE sha256 OF THE DUMP (.gsa) THAT YthjiclhfhjdjpaaGreatDoorProg.lean LOADS. Nothing in Lean hashes anything: it is a label: what it is worth is what the hold of that sum in a sandbox is worth. -/
noncomputable def Tryz.pinned : Pinned := { name := "ythjiclhfhjdjpaagreatdoor", sum := "98642203beb865cd3ca0485df9f3f2efefa50fabcd500b4ba5a0bb8a7f7b4a1d", checked := Tryz.checked }
namespace Rows
def none {H : Type} : Left H := { results := [], args := [] }

/- WHAT THE LISTED PACKAGE-LEVEL VARIABLES READ AS WHEN THE CALL BEGINS. Each datum BY PROGRAM (the guide's laid-datum.mjs) off the statement by which the dump's own 'gosem.cut.vars' lays the variable. In a bare row this is a premise. The card (YthjiclhfhjdjpaaGreatDoorCards.lean) ties it to the program's text. -/
def laid_math_bits_deBruijn32tab {H : Type} : DataW H := .agg [.lit (.int .u8 0), .lit (.int .u8 1), .lit (.int .u8 28), .lit (.int .u8 2), .lit (.int .u8 29), .lit (.int .u8 14), .lit (.int .u8 24), .lit (.int .u8 3), .lit (.int .u8 30), .lit (.int .u8 22), .lit (.int .u8 20), .lit (.int .u8 15), .lit (.int .u8 25), .lit (.int .u8 17), .lit (.int .u8 4), .lit (.int .u8 8), .lit (.int .u8 31), .lit (.int .u8 27), .lit (.int .u8 13), .lit (.int .u8 23), .lit (.int .u8 21), .lit (.int .u8 19), .lit (.int .u8 16), .lit (.int .u8 7), .lit (.int .u8 26), .lit (.int .u8 12), .lit (.int .u8 18), .lit (.int .u8 6), .lit (.int .u8 11), .lit (.int .u8 5), .lit (.int .u8 10), .lit (.int .u8 9)]
def laid_math_bits_deBruijn64tab {H : Type} : DataW H := .agg [.lit (.int .u8 0), .lit (.int .u8 1), .lit (.int .u8 56), .lit (.int .u8 2), .lit (.int .u8 57), .lit (.int .u8 49), .lit (.int .u8 28), .lit (.int .u8 3), .lit (.int .u8 61), .lit (.int .u8 58), .lit (.int .u8 42), .lit (.int .u8 50), .lit (.int .u8 38), .lit (.int .u8 29), .lit (.int .u8 17), .lit (.int .u8 4), .lit (.int .u8 62), .lit (.int .u8 47), .lit (.int .u8 59), .lit (.int .u8 36), .lit (.int .u8 45), .lit (.int .u8 43), .lit (.int .u8 51), .lit (.int .u8 22), .lit (.int .u8 53), .lit (.int .u8 39), .lit (.int .u8 33), .lit (.int .u8 30), .lit (.int .u8 24), .lit (.int .u8 18), .lit (.int .u8 12), .lit (.int .u8 5), .lit (.int .u8 63), .lit (.int .u8 55), .lit (.int .u8 48), .lit (.int .u8 27), .lit (.int .u8 60), .lit (.int .u8 41), .lit (.int .u8 37), .lit (.int .u8 16), .lit (.int .u8 46), .lit (.int .u8 35), .lit (.int .u8 44), .lit (.int .u8 21), .lit (.int .u8 52), .lit (.int .u8 32), .lit (.int .u8 23), .lit (.int .u8 11), .lit (.int .u8 54), .lit (.int .u8 26), .lit (.int .u8 40), .lit (.int .u8 15), .lit (.int .u8 34), .lit (.int .u8 20), .lit (.int .u8 31), .lit (.int .u8 10), .lit (.int .u8 25), .lit (.int .u8 14), .lit (.int .u8 19), .lit (.int .u8 9), .lit (.int .u8 13), .lit (.int .u8 8), .lit (.int .u8 7), .lit (.int .u8 6)]
def laid_internal_strconv_uint64pow10 {H : Type} : DataW H := .agg [.lit (.int .u64 1), .lit (.int .u64 10), .lit (.int .u64 100), .lit (.int .u64 1000), .lit (.int .u64 10000), .lit (.int .u64 100000), .lit (.int .u64 1000000), .lit (.int .u64 10000000), .lit (.int .u64 100000000), .lit (.int .u64 1000000000), .lit (.int .u64 10000000000), .lit (.int .u64 100000000000), .lit (.int .u64 1000000000000), .lit (.int .u64 10000000000000), .lit (.int .u64 100000000000000), .lit (.int .u64 1000000000000000), .lit (.int .u64 10000000000000000), .lit (.int .u64 100000000000000000), .lit (.int .u64 1000000000000000000), .lit (.int .u64 10000000000000000000)]
def laid_strconv_ErrRange {H : Type} : DataW H := .iface "*errors.errorString" (.ptr (.agg [.lit (.string [118, 97, 108, 117, 101, 32, 111, 117, 116, 32, 111, 102, 32, 114, 97, 110, 103, 101])]))
def laid_strconv_ErrSyntax {H : Type} : DataW H := .iface "*errors.errorString" (.ptr (.agg [.lit (.string [105, 110, 118, 97, 108, 105, 100, 32, 115, 121, 110, 116, 97, 120])]))

/-- 'supergraphlaw31.FetchtextQueries': WHATEVER THE INPUT: true; the input reads as it did. -/
def fetchtextQueriesSpec : ChangeSpec := { name := "fetchtextQueries", fn := fun _ => fun
  | [d1, d2, d3] => { results := [.lit (.bool true)], args := [d1, d2, d3] }
  | _ => none }
def fetchtextQueriesRow : OpenClaim := { program := "ythjiclhfhjdjpaagreatdoor", sum := "98642203beb865cd3ca0485df9f3f2efefa50fabcd500b4ba5a0bb8a7f7b4a1d", func := "supergraph/supergraphlaw31.FetchtextQueries", spec := "fetchtextQueries", inPlace := ["internal/abi.NoEscape", "internal/bytealg.MakeNoZero", "internal/bytealg.IndexByteString", "internal/bytealg.IndexString"], recurses := true, named := ["internal/strconv.uint64pow10", "math/bits.deBruijn32tab", "math/bits.deBruijn64tab", "internal/bytealg.MaxLen"], loops := true, apart := false, laid := [("math/bits.deBruijn32tab", laid_math_bits_deBruijn32tab), ("math/bits.deBruijn64tab", laid_math_bits_deBruijn64tab), ("internal/strconv.uint64pow10", laid_internal_strconv_uint64pow10)] }
def FetchtextQueriesSaid : Prop := fetchtextQueriesRow.holds Tryz.pinned (OpenSpec.ofChange fetchtextQueriesSpec)

/-- ITS FALSE NEIGHBOUR: 'it returns false'. Refute it at one input. -/
def fetchtextQueriesWrong : ChangeSpec := { name := "fetchtextQueries", fn := fun _ => fun
  | [d1, d2, d3] => { results := [.lit (.bool false)], args := [d1, d2, d3] }
  | _ => none }
def FetchtextQueriesWrongFalsely : Prop := fetchtextQueriesRow.holds Tryz.pinned (OpenSpec.ofChange fetchtextQueriesWrong)

/-- 'supergraphlaw31.FetchtextShows': WHATEVER THE INPUT: true; the input reads as it did. -/
def fetchtextShowsSpec : ChangeSpec := { name := "fetchtextShows", fn := fun _ => fun
  | [d1, d2] => { results := [.lit (.bool true)], args := [d1, d2] }
  | _ => none }
def fetchtextShowsRow : OpenClaim := { program := "ythjiclhfhjdjpaagreatdoor", sum := "98642203beb865cd3ca0485df9f3f2efefa50fabcd500b4ba5a0bb8a7f7b4a1d", func := "supergraph/supergraphlaw31.FetchtextShows", spec := "fetchtextShows", inPlace := ["internal/abi.NoEscape", "internal/bytealg.MakeNoZero", "internal/bytealg.IndexByteString", "internal/bytealg.IndexString"], recurses := true, named := ["internal/strconv.uint64pow10", "math/bits.deBruijn32tab", "math/bits.deBruijn64tab", "internal/bytealg.MaxLen"], loops := true, apart := false, laid := [("math/bits.deBruijn32tab", laid_math_bits_deBruijn32tab), ("math/bits.deBruijn64tab", laid_math_bits_deBruijn64tab), ("internal/strconv.uint64pow10", laid_internal_strconv_uint64pow10)] }
def FetchtextShowsSaid : Prop := fetchtextShowsRow.holds Tryz.pinned (OpenSpec.ofChange fetchtextShowsSpec)

/-- ITS FALSE NEIGHBOUR: 'it returns false'. Refute it at one input. -/
def fetchtextShowsWrong : ChangeSpec := { name := "fetchtextShows", fn := fun _ => fun
  | [d1, d2] => { results := [.lit (.bool false)], args := [d1, d2] }
  | _ => none }
def FetchtextShowsWrongFalsely : Prop := fetchtextShowsRow.holds Tryz.pinned (OpenSpec.ofChange fetchtextShowsWrong)

/-- 'supergraphlaw31.FetchtextTexts': WHATEVER THE INPUT: true; the input reads as it did. -/
def fetchtextTextsSpec : ChangeSpec := { name := "fetchtextTexts", fn := fun _ => fun
  | [d1, d2, d3] => { results := [.lit (.bool true)], args := [d1, d2, d3] }
  | _ => none }
def fetchtextTextsRow : OpenClaim := { program := "ythjiclhfhjdjpaagreatdoor", sum := "98642203beb865cd3ca0485df9f3f2efefa50fabcd500b4ba5a0bb8a7f7b4a1d", func := "supergraph/supergraphlaw31.FetchtextTexts", spec := "fetchtextTexts", inPlace := ["internal/abi.NoEscape", "internal/bytealg.MakeNoZero", "internal/bytealg.IndexByteString", "internal/bytealg.IndexString"], unfollowed := true, recurses := true, named := ["internal/strconv.uint64pow10", "math/bits.deBruijn32tab", "math/bits.deBruijn64tab", "internal/bytealg.MaxLen", "strconv.ErrSyntax", "strconv.ErrRange"], loops := true, apart := false, laid := [("math/bits.deBruijn32tab", laid_math_bits_deBruijn32tab), ("math/bits.deBruijn64tab", laid_math_bits_deBruijn64tab), ("internal/strconv.uint64pow10", laid_internal_strconv_uint64pow10), ("strconv.ErrRange", laid_strconv_ErrRange), ("strconv.ErrSyntax", laid_strconv_ErrSyntax)] }
def FetchtextTextsSaid : Prop := fetchtextTextsRow.holds Tryz.pinned (OpenSpec.ofChange fetchtextTextsSpec)

/-- ITS FALSE NEIGHBOUR: 'it returns false'. Refute it at one input. -/
def fetchtextTextsWrong : ChangeSpec := { name := "fetchtextTexts", fn := fun _ => fun
  | [d1, d2, d3] => { results := [.lit (.bool false)], args := [d1, d2, d3] }
  | _ => none }
def FetchtextTextsWrongFalsely : Prop := fetchtextTextsRow.holds Tryz.pinned (OpenSpec.ofChange fetchtextTextsWrong)

/-- 'supergraphlaw09.QueryprintWrites': WHATEVER THE INPUT: true; the input reads as it did. -/
def queryprintWritesSpec : ChangeSpec := { name := "queryprintWrites", fn := fun _ => fun
  | [d] => { results := [.lit (.bool true)], args := [d] }
  | _ => none }
def queryprintWritesRow : OpenClaim := { program := "ythjiclhfhjdjpaagreatdoor", sum := "98642203beb865cd3ca0485df9f3f2efefa50fabcd500b4ba5a0bb8a7f7b4a1d", func := "supergraph/supergraphlaw09.QueryprintWrites", spec := "queryprintWrites", inPlace := ["internal/abi.NoEscape", "internal/bytealg.MakeNoZero", "internal/bytealg.abigen_runtime_cmpstring"], unfollowed := true, recurses := true, named := ["internal/strconv.uint64pow10", "math/bits.deBruijn32tab", "math/bits.deBruijn64tab"], loops := true, apart := false, laid := [("math/bits.deBruijn32tab", laid_math_bits_deBruijn32tab), ("math/bits.deBruijn64tab", laid_math_bits_deBruijn64tab), ("internal/strconv.uint64pow10", laid_internal_strconv_uint64pow10)] }
def QueryprintWritesSaid : Prop := queryprintWritesRow.holds Tryz.pinned (OpenSpec.ofChange queryprintWritesSpec)

/-- ITS FALSE NEIGHBOUR: 'it returns false'. Refute it at one input. -/
def queryprintWritesWrong : ChangeSpec := { name := "queryprintWrites", fn := fun _ => fun
  | [d] => { results := [.lit (.bool false)], args := [d] }
  | _ => none }
def QueryprintWritesWrongFalsely : Prop := queryprintWritesRow.holds Tryz.pinned (OpenSpec.ofChange queryprintWritesWrong)

/-- 'supergraphlaw09.QueryprintCompares': WHATEVER THE INPUT: true; the input reads as it did. -/
def queryprintComparesSpec : ChangeSpec := { name := "queryprintCompares", fn := fun _ => fun
  | [d1, d2] => { results := [.lit (.bool true)], args := [d1, d2] }
  | _ => none }
def queryprintComparesRow : OpenClaim := { program := "ythjiclhfhjdjpaagreatdoor", sum := "98642203beb865cd3ca0485df9f3f2efefa50fabcd500b4ba5a0bb8a7f7b4a1d", func := "supergraph/supergraphlaw09.QueryprintCompares", spec := "queryprintCompares", inPlace := ["internal/abi.NoEscape", "internal/bytealg.MakeNoZero", "internal/bytealg.abigen_runtime_cmpstring"], unfollowed := true, recurses := true, named := ["internal/strconv.uint64pow10", "math/bits.deBruijn32tab", "math/bits.deBruijn64tab"], loops := true, apart := false, laid := [("math/bits.deBruijn32tab", laid_math_bits_deBruijn32tab), ("math/bits.deBruijn64tab", laid_math_bits_deBruijn64tab), ("internal/strconv.uint64pow10", laid_internal_strconv_uint64pow10)] }
def QueryprintComparesSaid : Prop := queryprintComparesRow.holds Tryz.pinned (OpenSpec.ofChange queryprintComparesSpec)

/-- ITS FALSE NEIGHBOUR: 'it returns false'. Refute it at one input. -/
def queryprintComparesWrong : ChangeSpec := { name := "queryprintCompares", fn := fun _ => fun
  | [d1, d2] => { results := [.lit (.bool false)], args := [d1, d2] }
  | _ => none }
def QueryprintComparesWrongFalsely : Prop := queryprintComparesRow.holds Tryz.pinned (OpenSpec.ofChange queryprintComparesWrong)

/-- 'supergraphlaw09.QueryprintReturns': WHATEVER THE INPUT: true; the input reads as it did. -/
def queryprintReturnsSpec : ChangeSpec := { name := "queryprintReturns", fn := fun _ => fun
  | [d] => { results := [.lit (.bool true)], args := [d] }
  | _ => none }
def queryprintReturnsRow : OpenClaim := { program := "ythjiclhfhjdjpaagreatdoor", sum := "98642203beb865cd3ca0485df9f3f2efefa50fabcd500b4ba5a0bb8a7f7b4a1d", func := "supergraph/supergraphlaw09.QueryprintReturns", spec := "queryprintReturns", inPlace := ["internal/abi.NoEscape", "internal/bytealg.MakeNoZero", "internal/bytealg.abigen_runtime_cmpstring", "internal/bytealg.IndexByteString", "internal/bytealg.IndexString"], unfollowed := true, recurses := true, named := ["internal/strconv.uint64pow10", "math/bits.deBruijn32tab", "math/bits.deBruijn64tab", "strconv.ErrSyntax", "strconv.ErrRange", "internal/bytealg.MaxLen"], loops := true, apart := false, laid := [("math/bits.deBruijn32tab", laid_math_bits_deBruijn32tab), ("math/bits.deBruijn64tab", laid_math_bits_deBruijn64tab), ("internal/strconv.uint64pow10", laid_internal_strconv_uint64pow10), ("strconv.ErrRange", laid_strconv_ErrRange), ("strconv.ErrSyntax", laid_strconv_ErrSyntax)] }
def QueryprintReturnsSaid : Prop := queryprintReturnsRow.holds Tryz.pinned (OpenSpec.ofChange queryprintReturnsSpec)

/-- ITS FALSE NEIGHBOUR: 'it returns false'. Refute it at one input. -/
def queryprintReturnsWrong : ChangeSpec := { name := "queryprintReturns", fn := fun _ => fun
  | [d] => { results := [.lit (.bool false)], args := [d] }
  | _ => none }
def QueryprintReturnsWrongFalsely : Prop := queryprintReturnsRow.holds Tryz.pinned (OpenSpec.ofChange queryprintReturnsWrong)

/-- 'supergraphlaw08.QueryParse': WHATEVER THE INPUT: true; the input reads as it did. -/
def queryParseSpec : ChangeSpec := { name := "queryParse", fn := fun _ => fun
  | [d] => { results := [.lit (.bool true)], args := [d] }
  | _ => none }
def queryParseRow : OpenClaim := { program := "ythjiclhfhjdjpaagreatdoor", sum := "98642203beb865cd3ca0485df9f3f2efefa50fabcd500b4ba5a0bb8a7f7b4a1d", func := "supergraph/supergraphlaw08.QueryParse", spec := "queryParse", inPlace := ["internal/bytealg.IndexByteString", "internal/bytealg.IndexString", "internal/abi.NoEscape", "internal/bytealg.abigen_runtime_cmpstring"], unfollowed := true, recurses := true, named := ["strconv.ErrSyntax", "strconv.ErrRange", "internal/strconv.uint64pow10", "math/bits.deBruijn32tab", "math/bits.deBruijn64tab", "internal/bytealg.MaxLen"], apart := false, laid := [("math/bits.deBruijn32tab", laid_math_bits_deBruijn32tab), ("math/bits.deBruijn64tab", laid_math_bits_deBruijn64tab), ("internal/strconv.uint64pow10", laid_internal_strconv_uint64pow10), ("strconv.ErrRange", laid_strconv_ErrRange), ("strconv.ErrSyntax", laid_strconv_ErrSyntax)] }
def QueryParseSaid : Prop := queryParseRow.holds Tryz.pinned (OpenSpec.ofChange queryParseSpec)

/-- ITS FALSE NEIGHBOUR: 'it returns false'. Refute it at one input. -/
def queryParseWrong : ChangeSpec := { name := "queryParse", fn := fun _ => fun
  | [d] => { results := [.lit (.bool false)], args := [d] }
  | _ => none }
def QueryParseWrongFalsely : Prop := queryParseRow.holds Tryz.pinned (OpenSpec.ofChange queryParseWrong)

/-- 'supergraphlaw08.QueryRight': WHATEVER THE INPUT: true; the input reads as it did. -/
def queryRightSpec : ChangeSpec := { name := "queryRight", fn := fun _ => fun
  | [d] => { results := [.lit (.bool true)], args := [d] }
  | _ => none }
def queryRightRow : OpenClaim := { program := "ythjiclhfhjdjpaagreatdoor", sum := "98642203beb865cd3ca0485df9f3f2efefa50fabcd500b4ba5a0bb8a7f7b4a1d", func := "supergraph/supergraphlaw08.QueryRight", spec := "queryRight", inPlace := ["internal/bytealg.IndexByteString", "internal/bytealg.IndexString", "internal/abi.NoEscape", "internal/bytealg.abigen_runtime_cmpstring"], unfollowed := true, recurses := true, named := ["strconv.ErrSyntax", "strconv.ErrRange", "internal/strconv.uint64pow10", "math/bits.deBruijn32tab", "math/bits.deBruijn64tab", "internal/bytealg.MaxLen"], loops := true, apart := false, laid := [("math/bits.deBruijn32tab", laid_math_bits_deBruijn32tab), ("math/bits.deBruijn64tab", laid_math_bits_deBruijn64tab), ("internal/strconv.uint64pow10", laid_internal_strconv_uint64pow10), ("strconv.ErrRange", laid_strconv_ErrRange), ("strconv.ErrSyntax", laid_strconv_ErrSyntax)] }
def QueryRightSaid : Prop := queryRightRow.holds Tryz.pinned (OpenSpec.ofChange queryRightSpec)

/-- ITS FALSE NEIGHBOUR: 'it returns false'. Refute it at one input. -/
def queryRightWrong : ChangeSpec := { name := "queryRight", fn := fun _ => fun
  | [d] => { results := [.lit (.bool false)], args := [d] }
  | _ => none }
def QueryRightWrongFalsely : Prop := queryRightRow.holds Tryz.pinned (OpenSpec.ofChange queryRightWrong)

/-- 'supergraphlaw08.QueryParsed': WHATEVER THE INPUT: true; the input reads as it did. -/
def queryParsedSpec : ChangeSpec := { name := "queryParsed", fn := fun _ => fun
  | [d] => { results := [.lit (.bool true)], args := [d] }
  | _ => none }
def queryParsedRow : OpenClaim := { program := "ythjiclhfhjdjpaagreatdoor", sum := "98642203beb865cd3ca0485df9f3f2efefa50fabcd500b4ba5a0bb8a7f7b4a1d", func := "supergraph/supergraphlaw08.QueryParsed", spec := "queryParsed", inPlace := ["internal/bytealg.IndexByteString", "internal/bytealg.IndexString", "internal/abi.NoEscape", "internal/bytealg.abigen_runtime_cmpstring"], unfollowed := true, recurses := true, named := ["strconv.ErrSyntax", "strconv.ErrRange", "internal/strconv.uint64pow10", "math/bits.deBruijn32tab", "math/bits.deBruijn64tab", "internal/bytealg.MaxLen"], apart := false, laid := [("math/bits.deBruijn32tab", laid_math_bits_deBruijn32tab), ("math/bits.deBruijn64tab", laid_math_bits_deBruijn64tab), ("internal/strconv.uint64pow10", laid_internal_strconv_uint64pow10), ("strconv.ErrRange", laid_strconv_ErrRange), ("strconv.ErrSyntax", laid_strconv_ErrSyntax)] }
def QueryParsedSaid : Prop := queryParsedRow.holds Tryz.pinned (OpenSpec.ofChange queryParsedSpec)

/-- ITS FALSE NEIGHBOUR: 'it returns false'. Refute it at one input. -/
def queryParsedWrong : ChangeSpec := { name := "queryParsed", fn := fun _ => fun
  | [d] => { results := [.lit (.bool false)], args := [d] }
  | _ => none }
def QueryParsedWrongFalsely : Prop := queryParsedRow.holds Tryz.pinned (OpenSpec.ofChange queryParsedWrong)

/-- 'supergraphlaw08.QueryJoins': WHATEVER THE INPUT: true; the input reads as it did. -/
def queryJoinsSpec : ChangeSpec := { name := "queryJoins", fn := fun _ => fun
  | [d1, d2] => { results := [.lit (.bool true)], args := [d1, d2] }
  | _ => none }
def queryJoinsRow : OpenClaim := { program := "ythjiclhfhjdjpaagreatdoor", sum := "98642203beb865cd3ca0485df9f3f2efefa50fabcd500b4ba5a0bb8a7f7b4a1d", func := "supergraph/supergraphlaw08.QueryJoins", spec := "queryJoins", inPlace := ["internal/bytealg.IndexByteString", "internal/bytealg.IndexString", "internal/abi.NoEscape", "internal/bytealg.abigen_runtime_cmpstring"], unfollowed := true, recurses := true, named := ["strconv.ErrSyntax", "strconv.ErrRange", "internal/strconv.uint64pow10", "math/bits.deBruijn32tab", "math/bits.deBruijn64tab", "internal/bytealg.MaxLen"], apart := false, laid := [("math/bits.deBruijn32tab", laid_math_bits_deBruijn32tab), ("math/bits.deBruijn64tab", laid_math_bits_deBruijn64tab), ("internal/strconv.uint64pow10", laid_internal_strconv_uint64pow10), ("strconv.ErrRange", laid_strconv_ErrRange), ("strconv.ErrSyntax", laid_strconv_ErrSyntax)] }
def QueryJoinsSaid : Prop := queryJoinsRow.holds Tryz.pinned (OpenSpec.ofChange queryJoinsSpec)

/-- ITS FALSE NEIGHBOUR: 'it returns false'. Refute it at one input. -/
def queryJoinsWrong : ChangeSpec := { name := "queryJoins", fn := fun _ => fun
  | [d1, d2] => { results := [.lit (.bool false)], args := [d1, d2] }
  | _ => none }
def QueryJoinsWrongFalsely : Prop := queryJoinsRow.holds Tryz.pinned (OpenSpec.ofChange queryJoinsWrong)

/-- 'supergraphlaw08.QueryTokens': WHATEVER THE INPUT: true; the input reads as it did. -/
def queryTokensSpec : ChangeSpec := { name := "queryTokens", fn := fun _ => fun
  | [d] => { results := [.lit (.bool true)], args := [d] }
  | _ => none }
def queryTokensRow : OpenClaim := { program := "ythjiclhfhjdjpaagreatdoor", sum := "98642203beb865cd3ca0485df9f3f2efefa50fabcd500b4ba5a0bb8a7f7b4a1d", func := "supergraph/supergraphlaw08.QueryTokens", spec := "queryTokens", inPlace := ["internal/bytealg.IndexByteString", "internal/bytealg.IndexString", "internal/abi.NoEscape", "internal/bytealg.abigen_runtime_cmpstring", "internal/bytealg.MakeNoZero"], unfollowed := true, recurses := true, named := ["strconv.ErrSyntax", "strconv.ErrRange", "internal/strconv.uint64pow10", "math/bits.deBruijn32tab", "math/bits.deBruijn64tab", "internal/bytealg.MaxLen"], apart := false, laid := [("math/bits.deBruijn32tab", laid_math_bits_deBruijn32tab), ("math/bits.deBruijn64tab", laid_math_bits_deBruijn64tab), ("internal/strconv.uint64pow10", laid_internal_strconv_uint64pow10), ("strconv.ErrRange", laid_strconv_ErrRange), ("strconv.ErrSyntax", laid_strconv_ErrSyntax)] }
def QueryTokensSaid : Prop := queryTokensRow.holds Tryz.pinned (OpenSpec.ofChange queryTokensSpec)

/-- ITS FALSE NEIGHBOUR: 'it returns false'. Refute it at one input. -/
def queryTokensWrong : ChangeSpec := { name := "queryTokens", fn := fun _ => fun
  | [d] => { results := [.lit (.bool false)], args := [d] }
  | _ => none }
def QueryTokensWrongFalsely : Prop := queryTokensRow.holds Tryz.pinned (OpenSpec.ofChange queryTokensWrong)

/- THE SECOND FORM. 'bulk': how many values and letters a reading holds, each counted each time it is reached (what is shared counts as often as it is met; a slice's spare places count too). A statement '..UptoSaid' is the law's where the arguments, and the package variables that the reading takes, are together of bulk at most 1048576: NARROWER than '..Said'. Prove '..Said' where nothing that the law and all that it calls make is longer than what came in: it says more and counts as full. Else prove '..UptoSaid'. A law counts once. -/
mutual
def uptoBulk {H : Type} : DataW H → Nat
  | .lit (.string bytes) => bytes.length + 1
  | .lit _ => 1
  | .nil => 1
  | .ptr d => uptoBulk d + 1
  | .slice elems spare => uptoBulkAll elems + uptoBulkAll spare + 1
  | .agg parts => uptoBulkAll parts + 1
  | .iface _ d => uptoBulk d + 1
  | .map entries => uptoBulkEntries entries + 1
  | .held _ => 1
def uptoBulkAll {H : Type} : List (DataW H) → Nat
  | [] => 0
  | d :: r => uptoBulk d + uptoBulkAll r
def uptoBulkEntries {H : Type} : List (Lit × DataW H) → Nat
  | [] => 0
  | x :: r => uptoBulkEntry x + uptoBulkEntries r
def uptoBulkEntry {H : Type} : Lit × DataW H → Nat
  | (.string bytes, d) => bytes.length + uptoBulk d + 1
  | (_, d) => uptoBulk d + 1
 end
def uptoSmall : (H : Type) → List (DataW H) → Bool := fun _ ds => decide (uptoBulkAll ds ≤ 1048576)
def OpenSpec.upto (s : _root_.Go.ChangeSpec) : _root_.Go.OpenSpec := { _root_.Go.OpenSpec.ofChange s with cond := some uptoSmall }

/-- 'supergraphlaw31.FetchtextQueries', WHERE WHAT IT READS IS OF BULK AT MOST 1048576: true; the input reads as it did. -/
def fetchtextQueriesUptoRow : OpenClaim := { program := "ythjiclhfhjdjpaagreatdoor", sum := "98642203beb865cd3ca0485df9f3f2efefa50fabcd500b4ba5a0bb8a7f7b4a1d", func := "supergraph/supergraphlaw31.FetchtextQueries", spec := "fetchtextQueries", inPlace := ["internal/abi.NoEscape", "internal/bytealg.MakeNoZero", "internal/bytealg.IndexByteString", "internal/bytealg.IndexString"], recurses := true, named := ["internal/strconv.uint64pow10", "math/bits.deBruijn32tab", "math/bits.deBruijn64tab", "internal/bytealg.MaxLen"], loops := true, apart := false, laid := [("math/bits.deBruijn32tab", laid_math_bits_deBruijn32tab), ("math/bits.deBruijn64tab", laid_math_bits_deBruijn64tab), ("internal/strconv.uint64pow10", laid_internal_strconv_uint64pow10)], narrowed := true }
def FetchtextQueriesUptoSaid : Prop := fetchtextQueriesUptoRow.holds Tryz.pinned (OpenSpec.upto fetchtextQueriesSpec)

/-- 'supergraphlaw31.FetchtextShows', WHERE WHAT IT READS IS OF BULK AT MOST 1048576: true; the input reads as it did. -/
def fetchtextShowsUptoRow : OpenClaim := { program := "ythjiclhfhjdjpaagreatdoor", sum := "98642203beb865cd3ca0485df9f3f2efefa50fabcd500b4ba5a0bb8a7f7b4a1d", func := "supergraph/supergraphlaw31.FetchtextShows", spec := "fetchtextShows", inPlace := ["internal/abi.NoEscape", "internal/bytealg.MakeNoZero", "internal/bytealg.IndexByteString", "internal/bytealg.IndexString"], recurses := true, named := ["internal/strconv.uint64pow10", "math/bits.deBruijn32tab", "math/bits.deBruijn64tab", "internal/bytealg.MaxLen"], loops := true, apart := false, laid := [("math/bits.deBruijn32tab", laid_math_bits_deBruijn32tab), ("math/bits.deBruijn64tab", laid_math_bits_deBruijn64tab), ("internal/strconv.uint64pow10", laid_internal_strconv_uint64pow10)], narrowed := true }
def FetchtextShowsUptoSaid : Prop := fetchtextShowsUptoRow.holds Tryz.pinned (OpenSpec.upto fetchtextShowsSpec)

/-- 'supergraphlaw31.FetchtextTexts', WHERE WHAT IT READS IS OF BULK AT MOST 1048576: true; the input reads as it did. -/
def fetchtextTextsUptoRow : OpenClaim := { program := "ythjiclhfhjdjpaagreatdoor", sum := "98642203beb865cd3ca0485df9f3f2efefa50fabcd500b4ba5a0bb8a7f7b4a1d", func := "supergraph/supergraphlaw31.FetchtextTexts", spec := "fetchtextTexts", inPlace := ["internal/abi.NoEscape", "internal/bytealg.MakeNoZero", "internal/bytealg.IndexByteString", "internal/bytealg.IndexString"], unfollowed := true, recurses := true, named := ["internal/strconv.uint64pow10", "math/bits.deBruijn32tab", "math/bits.deBruijn64tab", "internal/bytealg.MaxLen", "strconv.ErrSyntax", "strconv.ErrRange"], loops := true, apart := false, laid := [("math/bits.deBruijn32tab", laid_math_bits_deBruijn32tab), ("math/bits.deBruijn64tab", laid_math_bits_deBruijn64tab), ("internal/strconv.uint64pow10", laid_internal_strconv_uint64pow10), ("strconv.ErrRange", laid_strconv_ErrRange), ("strconv.ErrSyntax", laid_strconv_ErrSyntax)], narrowed := true }
def FetchtextTextsUptoSaid : Prop := fetchtextTextsUptoRow.holds Tryz.pinned (OpenSpec.upto fetchtextTextsSpec)

/-- 'supergraphlaw09.QueryprintWrites', WHERE WHAT IT READS IS OF BULK AT MOST 1048576: true; the input reads as it did. -/
def queryprintWritesUptoRow : OpenClaim := { program := "ythjiclhfhjdjpaagreatdoor", sum := "98642203beb865cd3ca0485df9f3f2efefa50fabcd500b4ba5a0bb8a7f7b4a1d", func := "supergraph/supergraphlaw09.QueryprintWrites", spec := "queryprintWrites", inPlace := ["internal/abi.NoEscape", "internal/bytealg.MakeNoZero", "internal/bytealg.abigen_runtime_cmpstring"], unfollowed := true, recurses := true, named := ["internal/strconv.uint64pow10", "math/bits.deBruijn32tab", "math/bits.deBruijn64tab"], loops := true, apart := false, laid := [("math/bits.deBruijn32tab", laid_math_bits_deBruijn32tab), ("math/bits.deBruijn64tab", laid_math_bits_deBruijn64tab), ("internal/strconv.uint64pow10", laid_internal_strconv_uint64pow10)], narrowed := true }
def QueryprintWritesUptoSaid : Prop := queryprintWritesUptoRow.holds Tryz.pinned (OpenSpec.upto queryprintWritesSpec)

/-- 'supergraphlaw09.QueryprintCompares', WHERE WHAT IT READS IS OF BULK AT MOST 1048576: true; the input reads as it did. -/
def queryprintComparesUptoRow : OpenClaim := { program := "ythjiclhfhjdjpaagreatdoor", sum := "98642203beb865cd3ca0485df9f3f2efefa50fabcd500b4ba5a0bb8a7f7b4a1d", func := "supergraph/supergraphlaw09.QueryprintCompares", spec := "queryprintCompares", inPlace := ["internal/abi.NoEscape", "internal/bytealg.MakeNoZero", "internal/bytealg.abigen_runtime_cmpstring"], unfollowed := true, recurses := true, named := ["internal/strconv.uint64pow10", "math/bits.deBruijn32tab", "math/bits.deBruijn64tab"], loops := true, apart := false, laid := [("math/bits.deBruijn32tab", laid_math_bits_deBruijn32tab), ("math/bits.deBruijn64tab", laid_math_bits_deBruijn64tab), ("internal/strconv.uint64pow10", laid_internal_strconv_uint64pow10)], narrowed := true }
def QueryprintComparesUptoSaid : Prop := queryprintComparesUptoRow.holds Tryz.pinned (OpenSpec.upto queryprintComparesSpec)

/-- 'supergraphlaw09.QueryprintReturns', WHERE WHAT IT READS IS OF BULK AT MOST 1048576: true; the input reads as it did. -/
def queryprintReturnsUptoRow : OpenClaim := { program := "ythjiclhfhjdjpaagreatdoor", sum := "98642203beb865cd3ca0485df9f3f2efefa50fabcd500b4ba5a0bb8a7f7b4a1d", func := "supergraph/supergraphlaw09.QueryprintReturns", spec := "queryprintReturns", inPlace := ["internal/abi.NoEscape", "internal/bytealg.MakeNoZero", "internal/bytealg.abigen_runtime_cmpstring", "internal/bytealg.IndexByteString", "internal/bytealg.IndexString"], unfollowed := true, recurses := true, named := ["internal/strconv.uint64pow10", "math/bits.deBruijn32tab", "math/bits.deBruijn64tab", "strconv.ErrSyntax", "strconv.ErrRange", "internal/bytealg.MaxLen"], loops := true, apart := false, laid := [("math/bits.deBruijn32tab", laid_math_bits_deBruijn32tab), ("math/bits.deBruijn64tab", laid_math_bits_deBruijn64tab), ("internal/strconv.uint64pow10", laid_internal_strconv_uint64pow10), ("strconv.ErrRange", laid_strconv_ErrRange), ("strconv.ErrSyntax", laid_strconv_ErrSyntax)], narrowed := true }
def QueryprintReturnsUptoSaid : Prop := queryprintReturnsUptoRow.holds Tryz.pinned (OpenSpec.upto queryprintReturnsSpec)

/-- 'supergraphlaw08.QueryParse', WHERE WHAT IT READS IS OF BULK AT MOST 1048576: true; the input reads as it did. -/
def queryParseUptoRow : OpenClaim := { program := "ythjiclhfhjdjpaagreatdoor", sum := "98642203beb865cd3ca0485df9f3f2efefa50fabcd500b4ba5a0bb8a7f7b4a1d", func := "supergraph/supergraphlaw08.QueryParse", spec := "queryParse", inPlace := ["internal/bytealg.IndexByteString", "internal/bytealg.IndexString", "internal/abi.NoEscape", "internal/bytealg.abigen_runtime_cmpstring"], unfollowed := true, recurses := true, named := ["strconv.ErrSyntax", "strconv.ErrRange", "internal/strconv.uint64pow10", "math/bits.deBruijn32tab", "math/bits.deBruijn64tab", "internal/bytealg.MaxLen"], apart := false, laid := [("math/bits.deBruijn32tab", laid_math_bits_deBruijn32tab), ("math/bits.deBruijn64tab", laid_math_bits_deBruijn64tab), ("internal/strconv.uint64pow10", laid_internal_strconv_uint64pow10), ("strconv.ErrRange", laid_strconv_ErrRange), ("strconv.ErrSyntax", laid_strconv_ErrSyntax)], narrowed := true }
def QueryParseUptoSaid : Prop := queryParseUptoRow.holds Tryz.pinned (OpenSpec.upto queryParseSpec)

/-- 'supergraphlaw08.QueryRight', WHERE WHAT IT READS IS OF BULK AT MOST 1048576: true; the input reads as it did. -/
def queryRightUptoRow : OpenClaim := { program := "ythjiclhfhjdjpaagreatdoor", sum := "98642203beb865cd3ca0485df9f3f2efefa50fabcd500b4ba5a0bb8a7f7b4a1d", func := "supergraph/supergraphlaw08.QueryRight", spec := "queryRight", inPlace := ["internal/bytealg.IndexByteString", "internal/bytealg.IndexString", "internal/abi.NoEscape", "internal/bytealg.abigen_runtime_cmpstring"], unfollowed := true, recurses := true, named := ["strconv.ErrSyntax", "strconv.ErrRange", "internal/strconv.uint64pow10", "math/bits.deBruijn32tab", "math/bits.deBruijn64tab", "internal/bytealg.MaxLen"], loops := true, apart := false, laid := [("math/bits.deBruijn32tab", laid_math_bits_deBruijn32tab), ("math/bits.deBruijn64tab", laid_math_bits_deBruijn64tab), ("internal/strconv.uint64pow10", laid_internal_strconv_uint64pow10), ("strconv.ErrRange", laid_strconv_ErrRange), ("strconv.ErrSyntax", laid_strconv_ErrSyntax)], narrowed := true }
def QueryRightUptoSaid : Prop := queryRightUptoRow.holds Tryz.pinned (OpenSpec.upto queryRightSpec)

/-- 'supergraphlaw08.QueryParsed', WHERE WHAT IT READS IS OF BULK AT MOST 1048576: true; the input reads as it did. -/
def queryParsedUptoRow : OpenClaim := { program := "ythjiclhfhjdjpaagreatdoor", sum := "98642203beb865cd3ca0485df9f3f2efefa50fabcd500b4ba5a0bb8a7f7b4a1d", func := "supergraph/supergraphlaw08.QueryParsed", spec := "queryParsed", inPlace := ["internal/bytealg.IndexByteString", "internal/bytealg.IndexString", "internal/abi.NoEscape", "internal/bytealg.abigen_runtime_cmpstring"], unfollowed := true, recurses := true, named := ["strconv.ErrSyntax", "strconv.ErrRange", "internal/strconv.uint64pow10", "math/bits.deBruijn32tab", "math/bits.deBruijn64tab", "internal/bytealg.MaxLen"], apart := false, laid := [("math/bits.deBruijn32tab", laid_math_bits_deBruijn32tab), ("math/bits.deBruijn64tab", laid_math_bits_deBruijn64tab), ("internal/strconv.uint64pow10", laid_internal_strconv_uint64pow10), ("strconv.ErrRange", laid_strconv_ErrRange), ("strconv.ErrSyntax", laid_strconv_ErrSyntax)], narrowed := true }
def QueryParsedUptoSaid : Prop := queryParsedUptoRow.holds Tryz.pinned (OpenSpec.upto queryParsedSpec)

/-- 'supergraphlaw08.QueryJoins', WHERE WHAT IT READS IS OF BULK AT MOST 1048576: true; the input reads as it did. -/
def queryJoinsUptoRow : OpenClaim := { program := "ythjiclhfhjdjpaagreatdoor", sum := "98642203beb865cd3ca0485df9f3f2efefa50fabcd500b4ba5a0bb8a7f7b4a1d", func := "supergraph/supergraphlaw08.QueryJoins", spec := "queryJoins", inPlace := ["internal/bytealg.IndexByteString", "internal/bytealg.IndexString", "internal/abi.NoEscape", "internal/bytealg.abigen_runtime_cmpstring"], unfollowed := true, recurses := true, named := ["strconv.ErrSyntax", "strconv.ErrRange", "internal/strconv.uint64pow10", "math/bits.deBruijn32tab", "math/bits.deBruijn64tab", "internal/bytealg.MaxLen"], apart := false, laid := [("math/bits.deBruijn32tab", laid_math_bits_deBruijn32tab), ("math/bits.deBruijn64tab", laid_math_bits_deBruijn64tab), ("internal/strconv.uint64pow10", laid_internal_strconv_uint64pow10), ("strconv.ErrRange", laid_strconv_ErrRange), ("strconv.ErrSyntax", laid_strconv_ErrSyntax)], narrowed := true }
def QueryJoinsUptoSaid : Prop := queryJoinsUptoRow.holds Tryz.pinned (OpenSpec.upto queryJoinsSpec)

/-- 'supergraphlaw08.QueryTokens', WHERE WHAT IT READS IS OF BULK AT MOST 1048576: true; the input reads as it did. -/
def queryTokensUptoRow : OpenClaim := { program := "ythjiclhfhjdjpaagreatdoor", sum := "98642203beb865cd3ca0485df9f3f2efefa50fabcd500b4ba5a0bb8a7f7b4a1d", func := "supergraph/supergraphlaw08.QueryTokens", spec := "queryTokens", inPlace := ["internal/bytealg.IndexByteString", "internal/bytealg.IndexString", "internal/abi.NoEscape", "internal/bytealg.abigen_runtime_cmpstring", "internal/bytealg.MakeNoZero"], unfollowed := true, recurses := true, named := ["strconv.ErrSyntax", "strconv.ErrRange", "internal/strconv.uint64pow10", "math/bits.deBruijn32tab", "math/bits.deBruijn64tab", "internal/bytealg.MaxLen"], apart := false, laid := [("math/bits.deBruijn32tab", laid_math_bits_deBruijn32tab), ("math/bits.deBruijn64tab", laid_math_bits_deBruijn64tab), ("internal/strconv.uint64pow10", laid_internal_strconv_uint64pow10), ("strconv.ErrRange", laid_strconv_ErrRange), ("strconv.ErrSyntax", laid_strconv_ErrSyntax)], narrowed := true }
def QueryTokensUptoSaid : Prop := queryTokensUptoRow.holds Tryz.pinned (OpenSpec.upto queryTokensSpec)

end Rows
end Go.Proofs.YthjiclhfhjdjpaaGreatDoor
