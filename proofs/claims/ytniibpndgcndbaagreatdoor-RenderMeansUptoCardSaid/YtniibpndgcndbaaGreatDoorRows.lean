/-
  NARROWER THAN 'FOR EVERY INPUT', by the rows' own cells (each row's printed sentence says how): VetTells: loops, laid · VetMore: loops, laid · VetSizes: loops, laid · VetWithin: loops, laid · RenderFills: loops, laid · RenderMeans: loops, laid · RenderParts: loops, laid · RenderSafe: loops, laid · RenderPlain: loops, laid.
  DERIVED. THE GIVEN ROWS OF THIS SEAT. 9 by the template 'for every input the law returns true; each argument reads behind the call as it read before'; 0 by the template 'total and deterministic' (their statements: YtniibpndgcndbaaGreatDoorTotals.lean).
  GIVEN WITH THE SEED: the statements are not yours to turn. If you find one false, say at which input.
  Laid BY PROGRAM, IN A SANDBOX (cutbox-rows.mjs): the forced cells as the released guide's own fill.sh prints them over the translation 9dc404d0dd927ad5… (all of the seat's roots in one cut). By AI agents, Wed Nov 11 2026. No macro, syntax, notation, axiom, sorry.
-/
import Derived.Test.YtniibpndgcndbaaGreatDoorChecked
import GoSem.PinnedTables
import GoSem.Claim
import GoSem.ClaimJoined
import GoSem.ClaimMapViews
import Derived.JoinedTies
import Derived.KernelRfl
namespace Go.Proofs.YtniibpndgcndbaaGreatDoor
/- THE CELL 'sum', in the pinned program and in every row, IS THE sha256 OF THE DUMP (.gsa) THAT YtniibpndgcndbaaGreatDoorProg.lean LOADS. Nothing in Lean hashes anything: it is a label: what it is worth is what the hold of that sum in a sandbox is worth. -/
noncomputable def Tryz.pinned : Pinned := { name := "ytniibpndgcndbaagreatdoor", sum := "9dc404d0dd927ad5fd3fd0b306be239920639c85b66d3e49c3b5e078068ba5e3", checked := Tryz.checked }
namespace Rows
def none {H : Type} : Left H := { results := [], args := [] }

/- WHAT THE LISTED PACKAGE-LEVEL VARIABLES READ AS WHEN THE CALL BEGINS. Each datum BY PROGRAM (the guide's laid-datum.mjs) off the statement by which the dump's own 'gosem.cut.vars' lays the variable. In a bare row this is a premise. The card (YtniibpndgcndbaaGreatDoorCards.lean) ties it to the program's text. -/
def laid_unicode_utf8_acceptRanges {H : Type} : DataW H := .agg [.agg [.lit (.int .u8 128), .lit (.int .u8 191)], .agg [.lit (.int .u8 160), .lit (.int .u8 191)], .agg [.lit (.int .u8 128), .lit (.int .u8 159)], .agg [.lit (.int .u8 144), .lit (.int .u8 191)], .agg [.lit (.int .u8 128), .lit (.int .u8 143)], .agg [.lit (.int .u8 0), .lit (.int .u8 0)], .agg [.lit (.int .u8 0), .lit (.int .u8 0)], .agg [.lit (.int .u8 0), .lit (.int .u8 0)], .agg [.lit (.int .u8 0), .lit (.int .u8 0)], .agg [.lit (.int .u8 0), .lit (.int .u8 0)], .agg [.lit (.int .u8 0), .lit (.int .u8 0)], .agg [.lit (.int .u8 0), .lit (.int .u8 0)], .agg [.lit (.int .u8 0), .lit (.int .u8 0)], .agg [.lit (.int .u8 0), .lit (.int .u8 0)], .agg [.lit (.int .u8 0), .lit (.int .u8 0)], .agg [.lit (.int .u8 0), .lit (.int .u8 0)]]
def laid_bellman_tree_errPair {H : Type} : DataW H := .iface "*errors.errorString" (.ptr (.agg [.lit (.string [110, 111, 32, 112, 97, 105, 114])]))
/-- One of Go's own tables, pinned by name: the form's constant. -/
def laid_unicode_utf8_first : DataW Unit := Go.Pinned.utf8First
def laid_math_bits_deBruijn32tab {H : Type} : DataW H := .agg [.lit (.int .u8 0), .lit (.int .u8 1), .lit (.int .u8 28), .lit (.int .u8 2), .lit (.int .u8 29), .lit (.int .u8 14), .lit (.int .u8 24), .lit (.int .u8 3), .lit (.int .u8 30), .lit (.int .u8 22), .lit (.int .u8 20), .lit (.int .u8 15), .lit (.int .u8 25), .lit (.int .u8 17), .lit (.int .u8 4), .lit (.int .u8 8), .lit (.int .u8 31), .lit (.int .u8 27), .lit (.int .u8 13), .lit (.int .u8 23), .lit (.int .u8 21), .lit (.int .u8 19), .lit (.int .u8 16), .lit (.int .u8 7), .lit (.int .u8 26), .lit (.int .u8 12), .lit (.int .u8 18), .lit (.int .u8 6), .lit (.int .u8 11), .lit (.int .u8 5), .lit (.int .u8 10), .lit (.int .u8 9)]
def laid_math_bits_deBruijn64tab {H : Type} : DataW H := .agg [.lit (.int .u8 0), .lit (.int .u8 1), .lit (.int .u8 56), .lit (.int .u8 2), .lit (.int .u8 57), .lit (.int .u8 49), .lit (.int .u8 28), .lit (.int .u8 3), .lit (.int .u8 61), .lit (.int .u8 58), .lit (.int .u8 42), .lit (.int .u8 50), .lit (.int .u8 38), .lit (.int .u8 29), .lit (.int .u8 17), .lit (.int .u8 4), .lit (.int .u8 62), .lit (.int .u8 47), .lit (.int .u8 59), .lit (.int .u8 36), .lit (.int .u8 45), .lit (.int .u8 43), .lit (.int .u8 51), .lit (.int .u8 22), .lit (.int .u8 53), .lit (.int .u8 39), .lit (.int .u8 33), .lit (.int .u8 30), .lit (.int .u8 24), .lit (.int .u8 18), .lit (.int .u8 12), .lit (.int .u8 5), .lit (.int .u8 63), .lit (.int .u8 55), .lit (.int .u8 48), .lit (.int .u8 27), .lit (.int .u8 60), .lit (.int .u8 41), .lit (.int .u8 37), .lit (.int .u8 16), .lit (.int .u8 46), .lit (.int .u8 35), .lit (.int .u8 44), .lit (.int .u8 21), .lit (.int .u8 52), .lit (.int .u8 32), .lit (.int .u8 23), .lit (.int .u8 11), .lit (.int .u8 54), .lit (.int .u8 26), .lit (.int .u8 40), .lit (.int .u8 15), .lit (.int .u8 34), .lit (.int .u8 20), .lit (.int .u8 31), .lit (.int .u8 10), .lit (.int .u8 25), .lit (.int .u8 14), .lit (.int .u8 19), .lit (.int .u8 9), .lit (.int .u8 13), .lit (.int .u8 8), .lit (.int .u8 7), .lit (.int .u8 6)]
def laid_internal_strconv_uint64pow10 {H : Type} : DataW H := .agg [.lit (.int .u64 1), .lit (.int .u64 10), .lit (.int .u64 100), .lit (.int .u64 1000), .lit (.int .u64 10000), .lit (.int .u64 100000), .lit (.int .u64 1000000), .lit (.int .u64 10000000), .lit (.int .u64 100000000), .lit (.int .u64 1000000000), .lit (.int .u64 10000000000), .lit (.int .u64 100000000000), .lit (.int .u64 1000000000000), .lit (.int .u64 10000000000000), .lit (.int .u64 100000000000000), .lit (.int .u64 1000000000000000), .lit (.int .u64 10000000000000000), .lit (.int .u64 100000000000000000), .lit (.int .u64 1000000000000000000), .lit (.int .u64 10000000000000000000)]
def laid_errors_errorType {H : Type} : DataW H := .iface "internal/reflectlite.rtype" (.agg [.ptr (.lit (.string [101, 114, 114, 111, 114]))])
def laid_bellman_render_reasons {H : Type} : DataW H := .agg [.lit (.int .i64 3), .lit (.int .i64 7), .lit (.int .i64 12)]

/-- 'bellmanlaw12.VetTells': WHATEVER THE INPUT: true; the input reads as it did. -/
def vetTellsSpec : ChangeSpec := { name := "vetTells", fn := fun _ => fun
  | [d1, d2] => { results := [.lit (.bool true)], args := [d1, d2] }
  | _ => none }
def vetTellsRow : OpenClaim := { program := "ytniibpndgcndbaagreatdoor", sum := "9dc404d0dd927ad5fd3fd0b306be239920639c85b66d3e49c3b5e078068ba5e3", func := "bellman/bellmanlaw12.VetTells", spec := "vetTells", inPlace := ["internal/bytealg.IndexByteString", "internal/bytealg.IndexString", "internal/bytealg.CountString", "internal/reflectlite.TypeOf"], unfollowed := true, recurses := true, named := ["internal/bytealg.MaxLen", "unicode/utf8.first", "unicode/utf8.acceptRanges", "bellman/tree.errPair"], loops := true, apart := false, laid := [("unicode/utf8.acceptRanges", laid_unicode_utf8_acceptRanges), ("bellman/tree.errPair", laid_bellman_tree_errPair), ("unicode/utf8.first", laid_unicode_utf8_first)] }
def VetTellsSaid : Prop := vetTellsRow.holds Tryz.pinned (OpenSpec.ofChange vetTellsSpec)

/-- ITS FALSE NEIGHBOUR: 'it returns false'. Refute it at one input. -/
def vetTellsWrong : ChangeSpec := { name := "vetTells", fn := fun _ => fun
  | [d1, d2] => { results := [.lit (.bool false)], args := [d1, d2] }
  | _ => none }
def VetTellsWrongFalsely : Prop := vetTellsRow.holds Tryz.pinned (OpenSpec.ofChange vetTellsWrong)

/-- 'bellmanlaw12.VetMore': WHATEVER THE INPUT: true; the input reads as it did. -/
def vetMoreSpec : ChangeSpec := { name := "vetMore", fn := fun _ => fun
  | [d1, d2, d3] => { results := [.lit (.bool true)], args := [d1, d2, d3] }
  | _ => none }
def vetMoreRow : OpenClaim := { program := "ytniibpndgcndbaagreatdoor", sum := "9dc404d0dd927ad5fd3fd0b306be239920639c85b66d3e49c3b5e078068ba5e3", func := "bellman/bellmanlaw12.VetMore", spec := "vetMore", inPlace := ["internal/bytealg.IndexByteString", "internal/bytealg.IndexString", "internal/bytealg.CountString", "internal/reflectlite.TypeOf"], unfollowed := true, recurses := true, named := ["internal/bytealg.MaxLen", "unicode/utf8.first", "unicode/utf8.acceptRanges", "bellman/tree.errPair"], loops := true, apart := false, laid := [("unicode/utf8.acceptRanges", laid_unicode_utf8_acceptRanges), ("bellman/tree.errPair", laid_bellman_tree_errPair), ("unicode/utf8.first", laid_unicode_utf8_first)] }
def VetMoreSaid : Prop := vetMoreRow.holds Tryz.pinned (OpenSpec.ofChange vetMoreSpec)

/-- ITS FALSE NEIGHBOUR: 'it returns false'. Refute it at one input. -/
def vetMoreWrong : ChangeSpec := { name := "vetMore", fn := fun _ => fun
  | [d1, d2, d3] => { results := [.lit (.bool false)], args := [d1, d2, d3] }
  | _ => none }
def VetMoreWrongFalsely : Prop := vetMoreRow.holds Tryz.pinned (OpenSpec.ofChange vetMoreWrong)

/-- 'bellmanlaw12.VetSizes': WHATEVER THE INPUT: true; the input reads as it did. -/
def vetSizesSpec : ChangeSpec := { name := "vetSizes", fn := fun _ => fun
  | [d1, d2] => { results := [.lit (.bool true)], args := [d1, d2] }
  | _ => none }
def vetSizesRow : OpenClaim := { program := "ytniibpndgcndbaagreatdoor", sum := "9dc404d0dd927ad5fd3fd0b306be239920639c85b66d3e49c3b5e078068ba5e3", func := "bellman/bellmanlaw12.VetSizes", spec := "vetSizes", inPlace := ["internal/bytealg.IndexByteString", "internal/bytealg.IndexString", "internal/bytealg.CountString", "internal/reflectlite.TypeOf"], unfollowed := true, recurses := true, named := ["internal/bytealg.MaxLen", "unicode/utf8.first", "unicode/utf8.acceptRanges", "bellman/tree.errPair"], loops := true, apart := false, laid := [("unicode/utf8.acceptRanges", laid_unicode_utf8_acceptRanges), ("bellman/tree.errPair", laid_bellman_tree_errPair), ("unicode/utf8.first", laid_unicode_utf8_first)] }
def VetSizesSaid : Prop := vetSizesRow.holds Tryz.pinned (OpenSpec.ofChange vetSizesSpec)

/-- ITS FALSE NEIGHBOUR: 'it returns false'. Refute it at one input. -/
def vetSizesWrong : ChangeSpec := { name := "vetSizes", fn := fun _ => fun
  | [d1, d2] => { results := [.lit (.bool false)], args := [d1, d2] }
  | _ => none }
def VetSizesWrongFalsely : Prop := vetSizesRow.holds Tryz.pinned (OpenSpec.ofChange vetSizesWrong)

/-- 'bellmanlaw12.VetWithin': WHATEVER THE INPUT: true; the input reads as it did. -/
def vetWithinSpec : ChangeSpec := { name := "vetWithin", fn := fun _ => fun
  | [d] => { results := [.lit (.bool true)], args := [d] }
  | _ => none }
def vetWithinRow : OpenClaim := { program := "ytniibpndgcndbaagreatdoor", sum := "9dc404d0dd927ad5fd3fd0b306be239920639c85b66d3e49c3b5e078068ba5e3", func := "bellman/bellmanlaw12.VetWithin", spec := "vetWithin", inPlace := ["internal/bytealg.IndexByteString", "internal/bytealg.IndexString", "internal/bytealg.CountString", "internal/reflectlite.TypeOf"], unfollowed := true, recurses := true, named := ["internal/bytealg.MaxLen", "unicode/utf8.first", "unicode/utf8.acceptRanges", "bellman/tree.errPair"], loops := true, apart := false, laid := [("unicode/utf8.acceptRanges", laid_unicode_utf8_acceptRanges), ("bellman/tree.errPair", laid_bellman_tree_errPair), ("unicode/utf8.first", laid_unicode_utf8_first)] }
def VetWithinSaid : Prop := vetWithinRow.holds Tryz.pinned (OpenSpec.ofChange vetWithinSpec)

/-- ITS FALSE NEIGHBOUR: 'it returns false'. Refute it at one input. -/
def vetWithinWrong : ChangeSpec := { name := "vetWithin", fn := fun _ => fun
  | [d] => { results := [.lit (.bool false)], args := [d] }
  | _ => none }
def VetWithinWrongFalsely : Prop := vetWithinRow.holds Tryz.pinned (OpenSpec.ofChange vetWithinWrong)

/-- 'bellmanlaw14.RenderFills': WHATEVER THE INPUT: true; the input reads as it did. -/
def renderFillsSpec : ChangeSpec := { name := "renderFills", fn := fun _ => fun
  | [d1, d2, d3, d4] => { results := [.lit (.bool true)], args := [d1, d2, d3, d4] }
  | _ => none }
def renderFillsRow : OpenClaim := { program := "ytniibpndgcndbaagreatdoor", sum := "9dc404d0dd927ad5fd3fd0b306be239920639c85b66d3e49c3b5e078068ba5e3", func := "bellman/bellmanlaw14.RenderFills", spec := "renderFills", inPlace := ["internal/bytealg.IndexByteString", "internal/bytealg.IndexString", "internal/abi.NoEscape", "internal/reflectlite.ValueOf", "(internal/reflectlite.Value).Type", "(internal/reflectlite.Value).IsNil", "internal/reflectlite.TypeOf", "(internal/reflectlite.Value).Elem", "(internal/reflectlite.Value).Set", "internal/bytealg.CountString"], unfollowed := true, recurses := true, named := ["internal/bytealg.MaxLen", "internal/strconv.uint64pow10", "math/bits.deBruijn32tab", "math/bits.deBruijn64tab", "bellman/render.reasons", "errors.errorType", "unicode/utf8.first", "unicode/utf8.acceptRanges", "bellman/tree.errPair"], loops := true, apart := false, laid := [("math/bits.deBruijn32tab", laid_math_bits_deBruijn32tab), ("math/bits.deBruijn64tab", laid_math_bits_deBruijn64tab), ("internal/strconv.uint64pow10", laid_internal_strconv_uint64pow10), ("unicode/utf8.acceptRanges", laid_unicode_utf8_acceptRanges), ("errors.errorType", laid_errors_errorType), ("bellman/tree.errPair", laid_bellman_tree_errPair), ("bellman/render.reasons", laid_bellman_render_reasons), ("unicode/utf8.first", laid_unicode_utf8_first)] }
def RenderFillsSaid : Prop := renderFillsRow.holds Tryz.pinned (OpenSpec.ofChange renderFillsSpec)

/-- ITS FALSE NEIGHBOUR: 'it returns false'. Refute it at one input. -/
def renderFillsWrong : ChangeSpec := { name := "renderFills", fn := fun _ => fun
  | [d1, d2, d3, d4] => { results := [.lit (.bool false)], args := [d1, d2, d3, d4] }
  | _ => none }
def RenderFillsWrongFalsely : Prop := renderFillsRow.holds Tryz.pinned (OpenSpec.ofChange renderFillsWrong)

/-- 'bellmanlaw14.RenderMeans': WHATEVER THE INPUT: true; the input reads as it did. -/
def renderMeansSpec : ChangeSpec := { name := "renderMeans", fn := fun _ => fun
  | [d1, d2, d3] => { results := [.lit (.bool true)], args := [d1, d2, d3] }
  | _ => none }
def renderMeansRow : OpenClaim := { program := "ytniibpndgcndbaagreatdoor", sum := "9dc404d0dd927ad5fd3fd0b306be239920639c85b66d3e49c3b5e078068ba5e3", func := "bellman/bellmanlaw14.RenderMeans", spec := "renderMeans", inPlace := ["internal/bytealg.IndexByteString", "internal/bytealg.IndexString", "internal/bytealg.CountString", "internal/reflectlite.TypeOf", "internal/abi.NoEscape", "internal/reflectlite.ValueOf", "(internal/reflectlite.Value).Type", "(internal/reflectlite.Value).IsNil", "(internal/reflectlite.Value).Elem", "(internal/reflectlite.Value).Set"], unfollowed := true, recurses := true, named := ["internal/bytealg.MaxLen", "unicode/utf8.first", "unicode/utf8.acceptRanges", "bellman/tree.errPair", "internal/strconv.uint64pow10", "math/bits.deBruijn32tab", "math/bits.deBruijn64tab", "bellman/render.reasons", "errors.errorType"], loops := true, apart := false, laid := [("math/bits.deBruijn32tab", laid_math_bits_deBruijn32tab), ("math/bits.deBruijn64tab", laid_math_bits_deBruijn64tab), ("internal/strconv.uint64pow10", laid_internal_strconv_uint64pow10), ("unicode/utf8.acceptRanges", laid_unicode_utf8_acceptRanges), ("errors.errorType", laid_errors_errorType), ("bellman/tree.errPair", laid_bellman_tree_errPair), ("bellman/render.reasons", laid_bellman_render_reasons), ("unicode/utf8.first", laid_unicode_utf8_first)] }
def RenderMeansSaid : Prop := renderMeansRow.holds Tryz.pinned (OpenSpec.ofChange renderMeansSpec)

/-- ITS FALSE NEIGHBOUR: 'it returns false'. Refute it at one input. -/
def renderMeansWrong : ChangeSpec := { name := "renderMeans", fn := fun _ => fun
  | [d1, d2, d3] => { results := [.lit (.bool false)], args := [d1, d2, d3] }
  | _ => none }
def RenderMeansWrongFalsely : Prop := renderMeansRow.holds Tryz.pinned (OpenSpec.ofChange renderMeansWrong)

/-- 'bellmanlaw14.RenderParts': WHATEVER THE INPUT: true; the input reads as it did. -/
def renderPartsSpec : ChangeSpec := { name := "renderParts", fn := fun _ => fun
  | [d1, d2, d3, d4] => { results := [.lit (.bool true)], args := [d1, d2, d3, d4] }
  | _ => none }
def renderPartsRow : OpenClaim := { program := "ytniibpndgcndbaagreatdoor", sum := "9dc404d0dd927ad5fd3fd0b306be239920639c85b66d3e49c3b5e078068ba5e3", func := "bellman/bellmanlaw14.RenderParts", spec := "renderParts", inPlace := ["internal/bytealg.IndexByteString", "internal/bytealg.IndexString", "internal/bytealg.CountString", "internal/reflectlite.TypeOf", "internal/abi.NoEscape", "internal/reflectlite.ValueOf", "(internal/reflectlite.Value).Type", "(internal/reflectlite.Value).IsNil", "(internal/reflectlite.Value).Elem", "(internal/reflectlite.Value).Set"], unfollowed := true, recurses := true, named := ["internal/bytealg.MaxLen", "unicode/utf8.first", "unicode/utf8.acceptRanges", "bellman/tree.errPair", "internal/strconv.uint64pow10", "math/bits.deBruijn32tab", "math/bits.deBruijn64tab", "bellman/render.reasons", "errors.errorType"], loops := true, apart := false, laid := [("math/bits.deBruijn32tab", laid_math_bits_deBruijn32tab), ("math/bits.deBruijn64tab", laid_math_bits_deBruijn64tab), ("internal/strconv.uint64pow10", laid_internal_strconv_uint64pow10), ("unicode/utf8.acceptRanges", laid_unicode_utf8_acceptRanges), ("errors.errorType", laid_errors_errorType), ("bellman/tree.errPair", laid_bellman_tree_errPair), ("bellman/render.reasons", laid_bellman_render_reasons), ("unicode/utf8.first", laid_unicode_utf8_first)] }
def RenderPartsSaid : Prop := renderPartsRow.holds Tryz.pinned (OpenSpec.ofChange renderPartsSpec)

/-- ITS FALSE NEIGHBOUR: 'it returns false'. Refute it at one input. -/
def renderPartsWrong : ChangeSpec := { name := "renderParts", fn := fun _ => fun
  | [d1, d2, d3, d4] => { results := [.lit (.bool false)], args := [d1, d2, d3, d4] }
  | _ => none }
def RenderPartsWrongFalsely : Prop := renderPartsRow.holds Tryz.pinned (OpenSpec.ofChange renderPartsWrong)

/-- 'bellmanlaw14.RenderSafe': WHATEVER THE INPUT: true; the input reads as it did. -/
def renderSafeSpec : ChangeSpec := { name := "renderSafe", fn := fun _ => fun
  | [d1, d2, d3] => { results := [.lit (.bool true)], args := [d1, d2, d3] }
  | _ => none }
def renderSafeRow : OpenClaim := { program := "ytniibpndgcndbaagreatdoor", sum := "9dc404d0dd927ad5fd3fd0b306be239920639c85b66d3e49c3b5e078068ba5e3", func := "bellman/bellmanlaw14.RenderSafe", spec := "renderSafe", inPlace := ["internal/bytealg.IndexByteString", "internal/bytealg.IndexString", "internal/bytealg.CountString", "internal/reflectlite.TypeOf", "internal/abi.NoEscape", "internal/reflectlite.ValueOf", "(internal/reflectlite.Value).Type", "(internal/reflectlite.Value).IsNil", "(internal/reflectlite.Value).Elem", "(internal/reflectlite.Value).Set"], unfollowed := true, recurses := true, named := ["internal/bytealg.MaxLen", "unicode/utf8.first", "unicode/utf8.acceptRanges", "bellman/tree.errPair", "internal/strconv.uint64pow10", "math/bits.deBruijn32tab", "math/bits.deBruijn64tab", "bellman/render.reasons", "errors.errorType"], loops := true, apart := false, laid := [("math/bits.deBruijn32tab", laid_math_bits_deBruijn32tab), ("math/bits.deBruijn64tab", laid_math_bits_deBruijn64tab), ("internal/strconv.uint64pow10", laid_internal_strconv_uint64pow10), ("unicode/utf8.acceptRanges", laid_unicode_utf8_acceptRanges), ("errors.errorType", laid_errors_errorType), ("bellman/tree.errPair", laid_bellman_tree_errPair), ("bellman/render.reasons", laid_bellman_render_reasons), ("unicode/utf8.first", laid_unicode_utf8_first)] }
def RenderSafeSaid : Prop := renderSafeRow.holds Tryz.pinned (OpenSpec.ofChange renderSafeSpec)

/-- ITS FALSE NEIGHBOUR: 'it returns false'. Refute it at one input. -/
def renderSafeWrong : ChangeSpec := { name := "renderSafe", fn := fun _ => fun
  | [d1, d2, d3] => { results := [.lit (.bool false)], args := [d1, d2, d3] }
  | _ => none }
def RenderSafeWrongFalsely : Prop := renderSafeRow.holds Tryz.pinned (OpenSpec.ofChange renderSafeWrong)

/-- 'bellmanlaw14.RenderPlain': WHATEVER THE INPUT: true; the input reads as it did. -/
def renderPlainSpec : ChangeSpec := { name := "renderPlain", fn := fun _ => fun
  | [d1, d2] => { results := [.lit (.bool true)], args := [d1, d2] }
  | _ => none }
def renderPlainRow : OpenClaim := { program := "ytniibpndgcndbaagreatdoor", sum := "9dc404d0dd927ad5fd3fd0b306be239920639c85b66d3e49c3b5e078068ba5e3", func := "bellman/bellmanlaw14.RenderPlain", spec := "renderPlain", inPlace := ["internal/bytealg.IndexByteString", "internal/bytealg.IndexString", "internal/bytealg.CountString", "internal/reflectlite.TypeOf", "internal/abi.NoEscape", "internal/reflectlite.ValueOf", "(internal/reflectlite.Value).Type", "(internal/reflectlite.Value).IsNil", "(internal/reflectlite.Value).Elem", "(internal/reflectlite.Value).Set", "internal/bytealg.MakeNoZero"], unfollowed := true, recurses := true, named := ["internal/bytealg.MaxLen", "unicode/utf8.first", "unicode/utf8.acceptRanges", "bellman/tree.errPair", "internal/strconv.uint64pow10", "math/bits.deBruijn32tab", "math/bits.deBruijn64tab", "bellman/render.reasons", "errors.errorType"], loops := true, apart := false, laid := [("math/bits.deBruijn32tab", laid_math_bits_deBruijn32tab), ("math/bits.deBruijn64tab", laid_math_bits_deBruijn64tab), ("internal/strconv.uint64pow10", laid_internal_strconv_uint64pow10), ("unicode/utf8.acceptRanges", laid_unicode_utf8_acceptRanges), ("errors.errorType", laid_errors_errorType), ("bellman/tree.errPair", laid_bellman_tree_errPair), ("bellman/render.reasons", laid_bellman_render_reasons), ("unicode/utf8.first", laid_unicode_utf8_first)] }
def RenderPlainSaid : Prop := renderPlainRow.holds Tryz.pinned (OpenSpec.ofChange renderPlainSpec)

/-- ITS FALSE NEIGHBOUR: 'it returns false'. Refute it at one input. -/
def renderPlainWrong : ChangeSpec := { name := "renderPlain", fn := fun _ => fun
  | [d1, d2] => { results := [.lit (.bool false)], args := [d1, d2] }
  | _ => none }
def RenderPlainWrongFalsely : Prop := renderPlainRow.holds Tryz.pinned (OpenSpec.ofChange renderPlainWrong)

/- THE SECOND FORM. 'bulk': how many values and letters a reading holds, each counted each time it is reached (what is shared counts as often as it is met; a slice's spare places count too). A statement '..UptoSaid' is the law's where the arguments, and the package variables that the reading takes, are together of bulk at most 1048576: NARROWER than '..Said'. Prove '..Said' where nothing that the law and all that it calls make is longer than what came in: it says more and counts as full. Else prove '..UptoSaid'. A law counts once. -/
mutual
def uptoBulk {H : Type} : DataW H → Nat
  | .lit (.string bytes) => bytes.length + 1
  | .lit _ => 1
  | .nil => 1
  | .ptr d => uptoBulk d + 1
  | .slice elems spare => uptoBulkAll elems + uptoBulkAll spare + 1
  | .agg parts => uptoBulkAll parts + 1
  | .iface _ d => uptoBulk d + 1
  | .map entries => uptoBulkEntries entries + 1
  | .held _ => 1
def uptoBulkAll {H : Type} : List (DataW H) → Nat
  | [] => 0
  | d :: r => uptoBulk d + uptoBulkAll r
def uptoBulkEntries {H : Type} : List (Lit × DataW H) → Nat
  | [] => 0
  | x :: r => uptoBulkEntry x + uptoBulkEntries r
def uptoBulkEntry {H : Type} : Lit × DataW H → Nat
  | (.string bytes, d) => bytes.length + uptoBulk d + 1
  | (_, d) => uptoBulk d + 1
 end
def uptoSmall : (H : Type) → List (DataW H) → Bool := fun _ ds => decide (uptoBulkAll ds ≤ 1048576)
def OpenSpec.upto (s : _root_.Go.ChangeSpec) : _root_.Go.OpenSpec := { _root_.Go.OpenSpec.ofChange s with cond := some uptoSmall }

/-- 'bellmanlaw12.VetTells', WHERE WHAT IT READS IS OF BULK AT MOST 1048576: true; the input reads as it did. -/
def vetTellsUptoRow : OpenClaim := { program := "ytniibpndgcndbaagreatdoor", sum := "9dc404d0dd927ad5fd3fd0b306be239920639c85b66d3e49c3b5e078068ba5e3", func := "bellman/bellmanlaw12.VetTells", spec := "vetTells", inPlace := ["internal/bytealg.IndexByteString", "internal/bytealg.IndexString", "internal/bytealg.CountString", "internal/reflectlite.TypeOf"], unfollowed := true, recurses := true, named := ["internal/bytealg.MaxLen", "unicode/utf8.first", "unicode/utf8.acceptRanges", "bellman/tree.errPair"], loops := true, apart := false, laid := [("unicode/utf8.acceptRanges", laid_unicode_utf8_acceptRanges), ("bellman/tree.errPair", laid_bellman_tree_errPair), ("unicode/utf8.first", laid_unicode_utf8_first)], narrowed := true }
def VetTellsUptoSaid : Prop := vetTellsUptoRow.holds Tryz.pinned (OpenSpec.upto vetTellsSpec)

/-- 'bellmanlaw12.VetMore', WHERE WHAT IT READS IS OF BULK AT MOST 1048576: true; the input reads as it did. -/
def vetMoreUptoRow : OpenClaim := { program := "ytniibpndgcndbaagreatdoor", sum := "9dc404d0dd927ad5fd3fd0b306be239920639c85b66d3e49c3b5e078068ba5e3", func := "bellman/bellmanlaw12.VetMore", spec := "vetMore", inPlace := ["internal/bytealg.IndexByteString", "internal/bytealg.IndexString", "internal/bytealg.CountString", "internal/reflectlite.TypeOf"], unfollowed := true, recurses := true, named := ["internal/bytealg.MaxLen", "unicode/utf8.first", "unicode/utf8.acceptRanges", "bellman/tree.errPair"], loops := true, apart := false, laid := [("unicode/utf8.acceptRanges", laid_unicode_utf8_acceptRanges), ("bellman/tree.errPair", laid_bellman_tree_errPair), ("unicode/utf8.first", laid_unicode_utf8_first)], narrowed := true }
def VetMoreUptoSaid : Prop := vetMoreUptoRow.holds Tryz.pinned (OpenSpec.upto vetMoreSpec)

/-- 'bellmanlaw12.VetSizes', WHERE WHAT IT READS IS OF BULK AT MOST 1048576: true; the input reads as it did. -/
def vetSizesUptoRow : OpenClaim := { program := "ytniibpndgcndbaagreatdoor", sum := "9dc404d0dd927ad5fd3fd0b306be239920639c85b66d3e49c3b5e078068ba5e3", func := "bellman/bellmanlaw12.VetSizes", spec := "vetSizes", inPlace := ["internal/bytealg.IndexByteString", "internal/bytealg.IndexString", "internal/bytealg.CountString", "internal/reflectlite.TypeOf"], unfollowed := true, recurses := true, named := ["internal/bytealg.MaxLen", "unicode/utf8.first", "unicode/utf8.acceptRanges", "bellman/tree.errPair"], loops := true, apart := false, laid := [("unicode/utf8.acceptRanges", laid_unicode_utf8_acceptRanges), ("bellman/tree.errPair", laid_bellman_tree_errPair), ("unicode/utf8.first", laid_unicode_utf8_first)], narrowed := true }
def VetSizesUptoSaid : Prop := vetSizesUptoRow.holds Tryz.pinned (OpenSpec.upto vetSizesSpec)

/-- 'bellmanlaw12.VetWithin', WHERE WHAT IT READS IS OF BULK AT MOST 1048576: true; the input reads as it did. -/
def vetWithinUptoRow : OpenClaim := { program := "ytniibpndgcndbaagreatdoor", sum := "9dc404d0dd927ad5fd3fd0b306be239920639c85b66d3e49c3b5e078068ba5e3", func := "bellman/bellmanlaw12.VetWithin", spec := "vetWithin", inPlace := ["internal/bytealg.IndexByteString", "internal/bytealg.IndexString", "internal/bytealg.CountString", "internal/reflectlite.TypeOf"], unfollowed := true, recurses := true, named := ["internal/bytealg.MaxLen", "unicode/utf8.first", "unicode/utf8.acceptRanges", "bellman/tree.errPair"], loops := true, apart := false, laid := [("unicode/utf8.acceptRanges", laid_unicode_utf8_acceptRanges), ("bellman/tree.errPair", laid_bellman_tree_errPair), ("unicode/utf8.first", laid_unicode_utf8_first)], narrowed := true }
def VetWithinUptoSaid : Prop := vetWithinUptoRow.holds Tryz.pinned (OpenSpec.upto vetWithinSpec)

/-- 'bellmanlaw14.RenderFills', WHERE WHAT IT READS IS OF BULK AT MOST 1048576: true; the input reads as it did. -/
def renderFillsUptoRow : OpenClaim := { program := "ytniibpndgcndbaagreatdoor", sum := "9dc404d0dd927ad5fd3fd0b306be239920639c85b66d3e49c3b5e078068ba5e3", func := "bellman/bellmanlaw14.RenderFills", spec := "renderFills", inPlace := ["internal/bytealg.IndexByteString", "internal/bytealg.IndexString", "internal/abi.NoEscape", "internal/reflectlite.ValueOf", "(internal/reflectlite.Value).Type", "(internal/reflectlite.Value).IsNil", "internal/reflectlite.TypeOf", "(internal/reflectlite.Value).Elem", "(internal/reflectlite.Value).Set", "internal/bytealg.CountString"], unfollowed := true, recurses := true, named := ["internal/bytealg.MaxLen", "internal/strconv.uint64pow10", "math/bits.deBruijn32tab", "math/bits.deBruijn64tab", "bellman/render.reasons", "errors.errorType", "unicode/utf8.first", "unicode/utf8.acceptRanges", "bellman/tree.errPair"], loops := true, apart := false, laid := [("math/bits.deBruijn32tab", laid_math_bits_deBruijn32tab), ("math/bits.deBruijn64tab", laid_math_bits_deBruijn64tab), ("internal/strconv.uint64pow10", laid_internal_strconv_uint64pow10), ("unicode/utf8.acceptRanges", laid_unicode_utf8_acceptRanges), ("errors.errorType", laid_errors_errorType), ("bellman/tree.errPair", laid_bellman_tree_errPair), ("bellman/render.reasons", laid_bellman_render_reasons), ("unicode/utf8.first", laid_unicode_utf8_first)], narrowed := true }
def RenderFillsUptoSaid : Prop := renderFillsUptoRow.holds Tryz.pinned (OpenSpec.upto renderFillsSpec)

/-- 'bellmanlaw14.RenderMeans', WHERE WHAT IT READS IS OF BULK AT MOST 1048576: true; the input reads as it did. -/
def renderMeansUptoRow : OpenClaim := { program := "ytniibpndgcndbaagreatdoor", sum := "9dc404d0dd927ad5fd3fd0b306be239920639c85b66d3e49c3b5e078068ba5e3", func := "bellman/bellmanlaw14.RenderMeans", spec := "renderMeans", inPlace := ["internal/bytealg.IndexByteString", "internal/bytealg.IndexString", "internal/bytealg.CountString", "internal/reflectlite.TypeOf", "internal/abi.NoEscape", "internal/reflectlite.ValueOf", "(internal/reflectlite.Value).Type", "(internal/reflectlite.Value).IsNil", "(internal/reflectlite.Value).Elem", "(internal/reflectlite.Value).Set"], unfollowed := true, recurses := true, named := ["internal/bytealg.MaxLen", "unicode/utf8.first", "unicode/utf8.acceptRanges", "bellman/tree.errPair", "internal/strconv.uint64pow10", "math/bits.deBruijn32tab", "math/bits.deBruijn64tab", "bellman/render.reasons", "errors.errorType"], loops := true, apart := false, laid := [("math/bits.deBruijn32tab", laid_math_bits_deBruijn32tab), ("math/bits.deBruijn64tab", laid_math_bits_deBruijn64tab), ("internal/strconv.uint64pow10", laid_internal_strconv_uint64pow10), ("unicode/utf8.acceptRanges", laid_unicode_utf8_acceptRanges), ("errors.errorType", laid_errors_errorType), ("bellman/tree.errPair", laid_bellman_tree_errPair), ("bellman/render.reasons", laid_bellman_render_reasons), ("unicode/utf8.first", laid_unicode_utf8_first)], narrowed := true }
def RenderMeansUptoSaid : Prop := renderMeansUptoRow.holds Tryz.pinned (OpenSpec.upto renderMeansSpec)

/-- 'bellmanlaw14.RenderParts', WHERE WHAT IT READS IS OF BULK AT MOST 1048576: true; the input reads as it did. -/
def renderPartsUptoRow : OpenClaim := { program := "ytniibpndgcndbaagreatdoor", sum := "9dc404d0dd927ad5fd3fd0b306be239920639c85b66d3e49c3b5e078068ba5e3", func := "bellman/bellmanlaw14.RenderParts", spec := "renderParts", inPlace := ["internal/bytealg.IndexByteString", "internal/bytealg.IndexString", "internal/bytealg.CountString", "internal/reflectlite.TypeOf", "internal/abi.NoEscape", "internal/reflectlite.ValueOf", "(internal/reflectlite.Value).Type", "(internal/reflectlite.Value).IsNil", "(internal/reflectlite.Value).Elem", "(internal/reflectlite.Value).Set"], unfollowed := true, recurses := true, named := ["internal/bytealg.MaxLen", "unicode/utf8.first", "unicode/utf8.acceptRanges", "bellman/tree.errPair", "internal/strconv.uint64pow10", "math/bits.deBruijn32tab", "math/bits.deBruijn64tab", "bellman/render.reasons", "errors.errorType"], loops := true, apart := false, laid := [("math/bits.deBruijn32tab", laid_math_bits_deBruijn32tab), ("math/bits.deBruijn64tab", laid_math_bits_deBruijn64tab), ("internal/strconv.uint64pow10", laid_internal_strconv_uint64pow10), ("unicode/utf8.acceptRanges", laid_unicode_utf8_acceptRanges), ("errors.errorType", laid_errors_errorType), ("bellman/tree.errPair", laid_bellman_tree_errPair), ("bellman/render.reasons", laid_bellman_render_reasons), ("unicode/utf8.first", laid_unicode_utf8_first)], narrowed := true }
def RenderPartsUptoSaid : Prop := renderPartsUptoRow.holds Tryz.pinned (OpenSpec.upto renderPartsSpec)

/-- 'bellmanlaw14.RenderSafe', WHERE WHAT IT READS IS OF BULK AT MOST 1048576: true; the input reads as it did. -/
def renderSafeUptoRow : OpenClaim := { program := "ytniibpndgcndbaagreatdoor", sum := "9dc404d0dd927ad5fd3fd0b306be239920639c85b66d3e49c3b5e078068ba5e3", func := "bellman/bellmanlaw14.RenderSafe", spec := "renderSafe", inPlace := ["internal/bytealg.IndexByteString", "internal/bytealg.IndexString", "internal/bytealg.CountString", "internal/reflectlite.TypeOf", "internal/abi.NoEscape", "internal/reflectlite.ValueOf", "(internal/reflectlite.Value).Type", "(internal/reflectlite.Value).IsNil", "(internal/reflectlite.Value).Elem", "(internal/reflectlite.Value).Set"], unfollowed := true, recurses := true, named := ["internal/bytealg.MaxLen", "unicode/utf8.first", "unicode/utf8.acceptRanges", "bellman/tree.errPair", "internal/strconv.uint64pow10", "math/bits.deBruijn32tab", "math/bits.deBruijn64tab", "bellman/render.reasons", "errors.errorType"], loops := true, apart := false, laid := [("math/bits.deBruijn32tab", laid_math_bits_deBruijn32tab), ("math/bits.deBruijn64tab", laid_math_bits_deBruijn64tab), ("internal/strconv.uint64pow10", laid_internal_strconv_uint64pow10), ("unicode/utf8.acceptRanges", laid_unicode_utf8_acceptRanges), ("errors.errorType", laid_errors_errorType), ("bellman/tree.errPair", laid_bellman_tree_errPair), ("bellman/render.reasons", laid_bellman_render_reasons), ("unicode/utf8.first", laid_unicode_utf8_first)], narrowed := true }
def RenderSafeUptoSaid : Prop := renderSafeUptoRow.holds Tryz.pinned (OpenSpec.upto renderSafeSpec)

/-- 'bellmanlaw14.RenderPlain', WHERE WHAT IT READS IS OF BULK AT MOST 1048576: true; the input reads as it did. -/
def renderPlainUptoRow : OpenClaim := { program := "ytniibpndgcndbaagreatdoor", sum := "9dc404d0dd927ad5fd3fd0b306be239920639c85b66d3e49c3b5e078068ba5e3", func := "bellman/bellmanlaw14.RenderPlain", spec := "renderPlain", inPlace := ["internal/bytealg.IndexByteString", "internal/bytealg.IndexString", "internal/bytealg.CountString", "internal/reflectlite.TypeOf", "internal/abi.NoEscape", "internal/reflectlite.ValueOf", "(internal/reflectlite.Value).Type", "(internal/reflectlite.Value).IsNil", "(internal/reflectlite.Value).Elem", "(internal/reflectlite.Value).Set", "internal/bytealg.MakeNoZero"], unfollowed := true, recurses := true, named := ["internal/bytealg.MaxLen", "unicode/utf8.first", "unicode/utf8.acceptRanges", "bellman/tree.errPair", "internal/strconv.uint64pow10", "math/bits.deBruijn32tab", "math/bits.deBruijn64tab", "bellman/render.reasons", "errors.errorType"], loops := true, apart := false, laid := [("math/bits.deBruijn32tab", laid_math_bits_deBruijn32tab), ("math/bits.deBruijn64tab", laid_math_bits_deBruijn64tab), ("internal/strconv.uint64pow10", laid_internal_strconv_uint64pow10), ("unicode/utf8.acceptRanges", laid_unicode_utf8_acceptRanges), ("errors.errorType", laid_errors_errorType), ("bellman/tree.errPair", laid_bellman_tree_errPair), ("bellman/render.reasons", laid_bellman_render_reasons), ("unicode/utf8.first", laid_unicode_utf8_first)], narrowed := true }
def RenderPlainUptoSaid : Prop := renderPlainUptoRow.holds Tryz.pinned (OpenSpec.upto renderPlainSpec)

end Rows
end Go.Proofs.YtniibpndgcndbaaGreatDoor
