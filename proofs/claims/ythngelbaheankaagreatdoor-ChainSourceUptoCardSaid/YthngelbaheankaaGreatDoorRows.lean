/-
  NARROWER THAN 'FOR EVERY INPUT', by the rows' own cells (each row's printed sentence says how): RenderFills: loops, laid · ChainAsks: laid · ChainLists: laid · ChainFound: laid · ChainLong: laid · ChainSource: laid · RenderAsks: loops, laid.
  DERIVED. THE GIVEN ROWS OF THIS SEAT. 7 by the template 'for every input the law returns true; each argument reads behind the call as it read before'; 0 by the template 'total and deterministic' (their statements: YthngelbaheankaaGreatDoorTotals.lean).
  GIVEN WITH THE SEED: the statements are not yours to turn. If you find one false, say at which input.
  Laid BY PROGRAM, IN A SANDBOX (cutbox-rows.mjs): the forced cells as the released guide's own fill.sh prints them over the translation cc876dc8c40392f6… (all of the seat's roots in one cut). By AI agents, Wed Nov 11 2026. No macro, syntax, notation, axiom, sorry.
-/
import Derived.Test.YthngelbaheankaaGreatDoorChecked
import GoSem.PinnedTables
import GoSem.Claim
import GoSem.ClaimJoined
import GoSem.ClaimMapViews
import Derived.JoinedTies
import Derived.KernelRfl
namespace Go.Proofs.YthngelbaheankaaGreatDoor
/- THE CELL 'sum', in the pinned program and in every row, IS THE sha256 OF THE DUMP (.gsa) THAT YthngelbaheankaaGreatDoorProg.lean LOADS. Nothing in Lean hashes anything: it is a label: what it is worth is what the hold of that sum in a sandbox is worth. -/
noncomputable def Tryz.pinned : Pinned := { name := "ythngelbaheankaagreatdoor", sum := "cc876dc8c40392f6f90569aac4858849038eff0f208d0f3d1f4cb209d4fdfda1", checked := Tryz.checked }
namespace Rows
def none {H : Type} : Left H := { results := [], args := [] }

/- WHAT THE LISTED PACKAGE-LEVEL VARIABLES READ AS WHEN THE CALL BEGINS. Each datum BY PROGRAM (the guide's laid-datum.mjs) off the statement by which the dump's own 'gosem.cut.vars' lays the variable. In a bare row this is a premise. The card (YthngelbaheankaaGreatDoorCards.lean) ties it to the program's text. -/
def laid_math_bits_deBruijn32tab {H : Type} : DataW H := .agg [.lit (.int .u8 0), .lit (.int .u8 1), .lit (.int .u8 28), .lit (.int .u8 2), .lit (.int .u8 29), .lit (.int .u8 14), .lit (.int .u8 24), .lit (.int .u8 3), .lit (.int .u8 30), .lit (.int .u8 22), .lit (.int .u8 20), .lit (.int .u8 15), .lit (.int .u8 25), .lit (.int .u8 17), .lit (.int .u8 4), .lit (.int .u8 8), .lit (.int .u8 31), .lit (.int .u8 27), .lit (.int .u8 13), .lit (.int .u8 23), .lit (.int .u8 21), .lit (.int .u8 19), .lit (.int .u8 16), .lit (.int .u8 7), .lit (.int .u8 26), .lit (.int .u8 12), .lit (.int .u8 18), .lit (.int .u8 6), .lit (.int .u8 11), .lit (.int .u8 5), .lit (.int .u8 10), .lit (.int .u8 9)]
def laid_math_bits_deBruijn64tab {H : Type} : DataW H := .agg [.lit (.int .u8 0), .lit (.int .u8 1), .lit (.int .u8 56), .lit (.int .u8 2), .lit (.int .u8 57), .lit (.int .u8 49), .lit (.int .u8 28), .lit (.int .u8 3), .lit (.int .u8 61), .lit (.int .u8 58), .lit (.int .u8 42), .lit (.int .u8 50), .lit (.int .u8 38), .lit (.int .u8 29), .lit (.int .u8 17), .lit (.int .u8 4), .lit (.int .u8 62), .lit (.int .u8 47), .lit (.int .u8 59), .lit (.int .u8 36), .lit (.int .u8 45), .lit (.int .u8 43), .lit (.int .u8 51), .lit (.int .u8 22), .lit (.int .u8 53), .lit (.int .u8 39), .lit (.int .u8 33), .lit (.int .u8 30), .lit (.int .u8 24), .lit (.int .u8 18), .lit (.int .u8 12), .lit (.int .u8 5), .lit (.int .u8 63), .lit (.int .u8 55), .lit (.int .u8 48), .lit (.int .u8 27), .lit (.int .u8 60), .lit (.int .u8 41), .lit (.int .u8 37), .lit (.int .u8 16), .lit (.int .u8 46), .lit (.int .u8 35), .lit (.int .u8 44), .lit (.int .u8 21), .lit (.int .u8 52), .lit (.int .u8 32), .lit (.int .u8 23), .lit (.int .u8 11), .lit (.int .u8 54), .lit (.int .u8 26), .lit (.int .u8 40), .lit (.int .u8 15), .lit (.int .u8 34), .lit (.int .u8 20), .lit (.int .u8 31), .lit (.int .u8 10), .lit (.int .u8 25), .lit (.int .u8 14), .lit (.int .u8 19), .lit (.int .u8 9), .lit (.int .u8 13), .lit (.int .u8 8), .lit (.int .u8 7), .lit (.int .u8 6)]
def laid_internal_strconv_uint64pow10 {H : Type} : DataW H := .agg [.lit (.int .u64 1), .lit (.int .u64 10), .lit (.int .u64 100), .lit (.int .u64 1000), .lit (.int .u64 10000), .lit (.int .u64 100000), .lit (.int .u64 1000000), .lit (.int .u64 10000000), .lit (.int .u64 100000000), .lit (.int .u64 1000000000), .lit (.int .u64 10000000000), .lit (.int .u64 100000000000), .lit (.int .u64 1000000000000), .lit (.int .u64 10000000000000), .lit (.int .u64 100000000000000), .lit (.int .u64 1000000000000000), .lit (.int .u64 10000000000000000), .lit (.int .u64 100000000000000000), .lit (.int .u64 1000000000000000000), .lit (.int .u64 10000000000000000000)]
def laid_unicode_utf8_acceptRanges {H : Type} : DataW H := .agg [.agg [.lit (.int .u8 128), .lit (.int .u8 191)], .agg [.lit (.int .u8 160), .lit (.int .u8 191)], .agg [.lit (.int .u8 128), .lit (.int .u8 159)], .agg [.lit (.int .u8 144), .lit (.int .u8 191)], .agg [.lit (.int .u8 128), .lit (.int .u8 143)], .agg [.lit (.int .u8 0), .lit (.int .u8 0)], .agg [.lit (.int .u8 0), .lit (.int .u8 0)], .agg [.lit (.int .u8 0), .lit (.int .u8 0)], .agg [.lit (.int .u8 0), .lit (.int .u8 0)], .agg [.lit (.int .u8 0), .lit (.int .u8 0)], .agg [.lit (.int .u8 0), .lit (.int .u8 0)], .agg [.lit (.int .u8 0), .lit (.int .u8 0)], .agg [.lit (.int .u8 0), .lit (.int .u8 0)], .agg [.lit (.int .u8 0), .lit (.int .u8 0)], .agg [.lit (.int .u8 0), .lit (.int .u8 0)], .agg [.lit (.int .u8 0), .lit (.int .u8 0)]]
def laid_errors_errorType {H : Type} : DataW H := .iface "internal/reflectlite.rtype" (.agg [.ptr (.lit (.string [101, 114, 114, 111, 114]))])
def laid_bellman_tree_errPair {H : Type} : DataW H := .iface "*errors.errorString" (.ptr (.agg [.lit (.string [110, 111, 32, 112, 97, 105, 114])]))
def laid_bellman_render_reasons {H : Type} : DataW H := .agg [.lit (.int .i64 3), .lit (.int .i64 7), .lit (.int .i64 12)]
/-- One of Go's own tables, pinned by name: the form's constant. -/
def laid_unicode_utf8_first : DataW Unit := Go.Pinned.utf8First
def laid_bellman_esc_names {H : Type} : DataW H := .agg [.lit (.string []), .lit (.string [112, 117, 115, 104]), .lit (.string [101, 109, 97, 105, 108]), .lit (.string [115, 109, 115])]
def laid_bellman_chain_asked {H : Type} : DataW H := .agg [.lit (.string [117, 115, 101, 114]), .lit (.string [99, 111, 117, 110, 116]), .lit (.string [105, 116, 101, 109, 115]), .lit (.string [114, 97, 110, 107]), .lit (.string [99, 97, 116, 101, 103, 111, 114, 121])]

/-- 'bellmanlaw14.RenderFills': WHATEVER THE INPUT: true; the input reads as it did. -/
def renderFillsSpec : ChangeSpec := { name := "renderFills", fn := fun _ => fun
  | [d1, d2, d3, d4] => { results := [.lit (.bool true)], args := [d1, d2, d3, d4] }
  | _ => none }
def renderFillsRow : OpenClaim := { program := "ythngelbaheankaagreatdoor", sum := "cc876dc8c40392f6f90569aac4858849038eff0f208d0f3d1f4cb209d4fdfda1", func := "bellman/bellmanlaw14.RenderFills", spec := "renderFills", inPlace := ["internal/bytealg.IndexByteString", "internal/bytealg.IndexString", "internal/abi.NoEscape", "internal/reflectlite.ValueOf", "(internal/reflectlite.Value).Type", "(internal/reflectlite.Value).IsNil", "internal/reflectlite.TypeOf", "(internal/reflectlite.Value).Elem", "(internal/reflectlite.Value).Set", "internal/bytealg.CountString"], unfollowed := true, recurses := true, named := ["internal/bytealg.MaxLen", "internal/strconv.uint64pow10", "math/bits.deBruijn32tab", "math/bits.deBruijn64tab", "bellman/render.reasons", "errors.errorType", "unicode/utf8.first", "unicode/utf8.acceptRanges", "bellman/tree.errPair"], loops := true, apart := false, laid := [("math/bits.deBruijn32tab", laid_math_bits_deBruijn32tab), ("math/bits.deBruijn64tab", laid_math_bits_deBruijn64tab), ("internal/strconv.uint64pow10", laid_internal_strconv_uint64pow10), ("unicode/utf8.acceptRanges", laid_unicode_utf8_acceptRanges), ("errors.errorType", laid_errors_errorType), ("bellman/tree.errPair", laid_bellman_tree_errPair), ("bellman/render.reasons", laid_bellman_render_reasons), ("unicode/utf8.first", laid_unicode_utf8_first)] }
def RenderFillsSaid : Prop := renderFillsRow.holds Tryz.pinned (OpenSpec.ofChange renderFillsSpec)

/-- ITS FALSE NEIGHBOUR: 'it returns false'. Refute it at one input. -/
def renderFillsWrong : ChangeSpec := { name := "renderFills", fn := fun _ => fun
  | [d1, d2, d3, d4] => { results := [.lit (.bool false)], args := [d1, d2, d3, d4] }
  | _ => none }
def RenderFillsWrongFalsely : Prop := renderFillsRow.holds Tryz.pinned (OpenSpec.ofChange renderFillsWrong)

/-- 'bellmanlaw18.ChainAsks': WHATEVER THE INPUT: true; the input reads as it did. -/
def chainAsksSpec : ChangeSpec := { name := "chainAsks", fn := fun _ => fun
  | [d1, d2] => { results := [.lit (.bool true)], args := [d1, d2] }
  | _ => none }
def chainAsksRow : OpenClaim := { program := "ythngelbaheankaagreatdoor", sum := "cc876dc8c40392f6f90569aac4858849038eff0f208d0f3d1f4cb209d4fdfda1", func := "bellman/bellmanlaw18.ChainAsks", spec := "chainAsks", inPlace := ["internal/bytealg.IndexByteString", "internal/bytealg.IndexString", "internal/bytealg.CountString", "internal/reflectlite.TypeOf", "internal/reflectlite.ValueOf", "(internal/reflectlite.Value).Type", "(internal/reflectlite.Value).IsNil", "(internal/reflectlite.Value).Elem", "(internal/reflectlite.Value).Set", "slices.overlaps[bellman/api.Category]"], unfollowed := true, recurses := true, named := ["bellman/esc.names", "bellman/chain.asked", "internal/bytealg.MaxLen", "unicode/utf8.first", "unicode/utf8.acceptRanges", "bellman/tree.errPair", "errors.errorType"], apart := false, laid := [("unicode/utf8.acceptRanges", laid_unicode_utf8_acceptRanges), ("errors.errorType", laid_errors_errorType), ("bellman/esc.names", laid_bellman_esc_names), ("bellman/tree.errPair", laid_bellman_tree_errPair), ("bellman/chain.asked", laid_bellman_chain_asked), ("unicode/utf8.first", laid_unicode_utf8_first)] }
def ChainAsksSaid : Prop := chainAsksRow.holds Tryz.pinned (OpenSpec.ofChange chainAsksSpec)

/-- ITS FALSE NEIGHBOUR: 'it returns false'. Refute it at one input. -/
def chainAsksWrong : ChangeSpec := { name := "chainAsks", fn := fun _ => fun
  | [d1, d2] => { results := [.lit (.bool false)], args := [d1, d2] }
  | _ => none }
def ChainAsksWrongFalsely : Prop := chainAsksRow.holds Tryz.pinned (OpenSpec.ofChange chainAsksWrong)

/-- 'bellmanlaw18.ChainLists': WHATEVER THE INPUT: true; the input reads as it did. -/
def chainListsSpec : ChangeSpec := { name := "chainLists", fn := fun _ => fun
  | [d1, d2, d3] => { results := [.lit (.bool true)], args := [d1, d2, d3] }
  | _ => none }
def chainListsRow : OpenClaim := { program := "ythngelbaheankaagreatdoor", sum := "cc876dc8c40392f6f90569aac4858849038eff0f208d0f3d1f4cb209d4fdfda1", func := "bellman/bellmanlaw18.ChainLists", spec := "chainLists", inPlace := ["internal/bytealg.IndexByteString", "internal/bytealg.IndexString", "internal/bytealg.CountString", "internal/reflectlite.TypeOf", "internal/reflectlite.ValueOf", "(internal/reflectlite.Value).Type", "(internal/reflectlite.Value).IsNil", "(internal/reflectlite.Value).Elem", "(internal/reflectlite.Value).Set", "slices.overlaps[bellman/api.Category]"], unfollowed := true, recurses := true, named := ["bellman/esc.names", "bellman/chain.asked", "internal/bytealg.MaxLen", "unicode/utf8.first", "unicode/utf8.acceptRanges", "bellman/tree.errPair", "errors.errorType"], apart := false, laid := [("unicode/utf8.acceptRanges", laid_unicode_utf8_acceptRanges), ("errors.errorType", laid_errors_errorType), ("bellman/esc.names", laid_bellman_esc_names), ("bellman/tree.errPair", laid_bellman_tree_errPair), ("bellman/chain.asked", laid_bellman_chain_asked), ("unicode/utf8.first", laid_unicode_utf8_first)] }
def ChainListsSaid : Prop := chainListsRow.holds Tryz.pinned (OpenSpec.ofChange chainListsSpec)

/-- ITS FALSE NEIGHBOUR: 'it returns false'. Refute it at one input. -/
def chainListsWrong : ChangeSpec := { name := "chainLists", fn := fun _ => fun
  | [d1, d2, d3] => { results := [.lit (.bool false)], args := [d1, d2, d3] }
  | _ => none }
def ChainListsWrongFalsely : Prop := chainListsRow.holds Tryz.pinned (OpenSpec.ofChange chainListsWrong)

/-- 'bellmanlaw18.ChainFound': WHATEVER THE INPUT: true; the input reads as it did. -/
def chainFoundSpec : ChangeSpec := { name := "chainFound", fn := fun _ => fun
  | [d1, d2, d3] => { results := [.lit (.bool true)], args := [d1, d2, d3] }
  | _ => none }
def chainFoundRow : OpenClaim := { program := "ythngelbaheankaagreatdoor", sum := "cc876dc8c40392f6f90569aac4858849038eff0f208d0f3d1f4cb209d4fdfda1", func := "bellman/bellmanlaw18.ChainFound", spec := "chainFound", inPlace := ["internal/bytealg.IndexByteString", "internal/bytealg.IndexString", "internal/bytealg.CountString", "internal/reflectlite.TypeOf", "internal/reflectlite.ValueOf", "(internal/reflectlite.Value).Type", "(internal/reflectlite.Value).IsNil", "(internal/reflectlite.Value).Elem", "(internal/reflectlite.Value).Set", "slices.overlaps[bellman/api.Category]"], unfollowed := true, recurses := true, named := ["bellman/esc.names", "bellman/chain.asked", "internal/bytealg.MaxLen", "unicode/utf8.first", "unicode/utf8.acceptRanges", "bellman/tree.errPair", "errors.errorType"], apart := false, laid := [("unicode/utf8.acceptRanges", laid_unicode_utf8_acceptRanges), ("errors.errorType", laid_errors_errorType), ("bellman/esc.names", laid_bellman_esc_names), ("bellman/tree.errPair", laid_bellman_tree_errPair), ("bellman/chain.asked", laid_bellman_chain_asked), ("unicode/utf8.first", laid_unicode_utf8_first)] }
def ChainFoundSaid : Prop := chainFoundRow.holds Tryz.pinned (OpenSpec.ofChange chainFoundSpec)

/-- ITS FALSE NEIGHBOUR: 'it returns false'. Refute it at one input. -/
def chainFoundWrong : ChangeSpec := { name := "chainFound", fn := fun _ => fun
  | [d1, d2, d3] => { results := [.lit (.bool false)], args := [d1, d2, d3] }
  | _ => none }
def ChainFoundWrongFalsely : Prop := chainFoundRow.holds Tryz.pinned (OpenSpec.ofChange chainFoundWrong)

/-- 'bellmanlaw18.ChainLong': WHATEVER THE INPUT: true; the input reads as it did. -/
def chainLongSpec : ChangeSpec := { name := "chainLong", fn := fun _ => fun
  | [d] => { results := [.lit (.bool true)], args := [d] }
  | _ => none }
def chainLongRow : OpenClaim := { program := "ythngelbaheankaagreatdoor", sum := "cc876dc8c40392f6f90569aac4858849038eff0f208d0f3d1f4cb209d4fdfda1", func := "bellman/bellmanlaw18.ChainLong", spec := "chainLong", inPlace := ["internal/bytealg.IndexByteString", "internal/bytealg.IndexString", "internal/bytealg.CountString", "internal/reflectlite.TypeOf", "internal/reflectlite.ValueOf", "(internal/reflectlite.Value).Type", "(internal/reflectlite.Value).IsNil", "(internal/reflectlite.Value).Elem", "(internal/reflectlite.Value).Set", "slices.overlaps[bellman/api.Category]"], unfollowed := true, recurses := true, named := ["bellman/esc.names", "bellman/chain.asked", "internal/bytealg.MaxLen", "unicode/utf8.first", "unicode/utf8.acceptRanges", "bellman/tree.errPair", "errors.errorType"], apart := false, laid := [("unicode/utf8.acceptRanges", laid_unicode_utf8_acceptRanges), ("errors.errorType", laid_errors_errorType), ("bellman/esc.names", laid_bellman_esc_names), ("bellman/tree.errPair", laid_bellman_tree_errPair), ("bellman/chain.asked", laid_bellman_chain_asked), ("unicode/utf8.first", laid_unicode_utf8_first)] }
def ChainLongSaid : Prop := chainLongRow.holds Tryz.pinned (OpenSpec.ofChange chainLongSpec)

/-- ITS FALSE NEIGHBOUR: 'it returns false'. Refute it at one input. -/
def chainLongWrong : ChangeSpec := { name := "chainLong", fn := fun _ => fun
  | [d] => { results := [.lit (.bool false)], args := [d] }
  | _ => none }
def ChainLongWrongFalsely : Prop := chainLongRow.holds Tryz.pinned (OpenSpec.ofChange chainLongWrong)

/-- 'bellmanlaw18.ChainSource': WHATEVER THE INPUT: true; the input reads as it did. -/
def chainSourceSpec : ChangeSpec := { name := "chainSource", fn := fun _ => fun
  | [d1, d2] => { results := [.lit (.bool true)], args := [d1, d2] }
  | _ => none }
def chainSourceRow : OpenClaim := { program := "ythngelbaheankaagreatdoor", sum := "cc876dc8c40392f6f90569aac4858849038eff0f208d0f3d1f4cb209d4fdfda1", func := "bellman/bellmanlaw18.ChainSource", spec := "chainSource", inPlace := ["internal/bytealg.IndexByteString", "internal/bytealg.IndexString", "internal/bytealg.CountString", "internal/reflectlite.TypeOf", "internal/reflectlite.ValueOf", "(internal/reflectlite.Value).Type", "(internal/reflectlite.Value).IsNil", "(internal/reflectlite.Value).Elem", "(internal/reflectlite.Value).Set", "slices.overlaps[bellman/api.Category]", "internal/abi.NoEscape", "internal/bytealg.MakeNoZero"], unfollowed := true, recurses := true, named := ["bellman/esc.names", "bellman/chain.asked", "internal/bytealg.MaxLen", "unicode/utf8.first", "unicode/utf8.acceptRanges", "bellman/tree.errPair", "errors.errorType"], apart := false, laid := [("unicode/utf8.acceptRanges", laid_unicode_utf8_acceptRanges), ("errors.errorType", laid_errors_errorType), ("bellman/esc.names", laid_bellman_esc_names), ("bellman/tree.errPair", laid_bellman_tree_errPair), ("bellman/chain.asked", laid_bellman_chain_asked), ("unicode/utf8.first", laid_unicode_utf8_first)] }
def ChainSourceSaid : Prop := chainSourceRow.holds Tryz.pinned (OpenSpec.ofChange chainSourceSpec)

/-- ITS FALSE NEIGHBOUR: 'it returns false'. Refute it at one input. -/
def chainSourceWrong : ChangeSpec := { name := "chainSource", fn := fun _ => fun
  | [d1, d2] => { results := [.lit (.bool false)], args := [d1, d2] }
  | _ => none }
def ChainSourceWrongFalsely : Prop := chainSourceRow.holds Tryz.pinned (OpenSpec.ofChange chainSourceWrong)

/-- 'bellmanlaw14.RenderAsks': WHATEVER THE INPUT: true; the input reads as it did. -/
def renderAsksSpec : ChangeSpec := { name := "renderAsks", fn := fun _ => fun
  | [d1, d2, d3, d4, d5] => { results := [.lit (.bool true)], args := [d1, d2, d3, d4, d5] }
  | _ => none }
def renderAsksRow : OpenClaim := { program := "ythngelbaheankaagreatdoor", sum := "cc876dc8c40392f6f90569aac4858849038eff0f208d0f3d1f4cb209d4fdfda1", func := "bellman/bellmanlaw14.RenderAsks", spec := "renderAsks", inPlace := ["internal/bytealg.IndexByteString", "internal/bytealg.IndexString", "internal/bytealg.CountString", "internal/reflectlite.TypeOf", "internal/abi.NoEscape", "internal/reflectlite.ValueOf", "(internal/reflectlite.Value).Type", "(internal/reflectlite.Value).IsNil", "(internal/reflectlite.Value).Elem", "(internal/reflectlite.Value).Set", "slices.overlaps[string]", "slices.overlaps[bellman/api.Value]"], unfollowed := true, recurses := true, named := ["internal/bytealg.MaxLen", "unicode/utf8.first", "unicode/utf8.acceptRanges", "bellman/tree.errPair", "internal/strconv.uint64pow10", "math/bits.deBruijn32tab", "math/bits.deBruijn64tab", "bellman/render.reasons", "errors.errorType"], loops := true, apart := false, laid := [("math/bits.deBruijn32tab", laid_math_bits_deBruijn32tab), ("math/bits.deBruijn64tab", laid_math_bits_deBruijn64tab), ("internal/strconv.uint64pow10", laid_internal_strconv_uint64pow10), ("unicode/utf8.acceptRanges", laid_unicode_utf8_acceptRanges), ("errors.errorType", laid_errors_errorType), ("bellman/tree.errPair", laid_bellman_tree_errPair), ("bellman/render.reasons", laid_bellman_render_reasons), ("unicode/utf8.first", laid_unicode_utf8_first)] }
def RenderAsksSaid : Prop := renderAsksRow.holds Tryz.pinned (OpenSpec.ofChange renderAsksSpec)

/-- ITS FALSE NEIGHBOUR: 'it returns false'. Refute it at one input. -/
def renderAsksWrong : ChangeSpec := { name := "renderAsks", fn := fun _ => fun
  | [d1, d2, d3, d4, d5] => { results := [.lit (.bool false)], args := [d1, d2, d3, d4, d5] }
  | _ => none }
def RenderAsksWrongFalsely : Prop := renderAsksRow.holds Tryz.pinned (OpenSpec.ofChange renderAsksWrong)

/- THE SECOND FORM. 'bulk': how many values and letters a reading holds, each counted each time it is reached (what is shared counts as often as it is met; a slice's spare places count too). A statement '..UptoSaid' is the law's where the arguments, and the package variables that the reading takes, are together of bulk at most 1048576: NARROWER than '..Said'. Prove '..Said' where nothing that the law and all that it calls make is longer than what came in: it says more and counts as full. Else prove '..UptoSaid'. A law counts once. -/
mutual
def uptoBulk {H : Type} : DataW H → Nat
  | .lit (.string bytes) => bytes.length + 1
  | .lit _ => 1
  | .nil => 1
  | .ptr d => uptoBulk d + 1
  | .slice elems spare => uptoBulkAll elems + uptoBulkAll spare + 1
  | .agg parts => uptoBulkAll parts + 1
  | .iface _ d => uptoBulk d + 1
  | .map entries => uptoBulkEntries entries + 1
  | .held _ => 1
def uptoBulkAll {H : Type} : List (DataW H) → Nat
  | [] => 0
  | d :: r => uptoBulk d + uptoBulkAll r
def uptoBulkEntries {H : Type} : List (Lit × DataW H) → Nat
  | [] => 0
  | x :: r => uptoBulkEntry x + uptoBulkEntries r
def uptoBulkEntry {H : Type} : Lit × DataW H → Nat
  | (.string bytes, d) => bytes.length + uptoBulk d + 1
  | (_, d) => uptoBulk d + 1
 end
def uptoSmall : (H : Type) → List (DataW H) → Bool := fun _ ds => decide (uptoBulkAll ds ≤ 1048576)
def OpenSpec.upto (s : _root_.Go.ChangeSpec) : _root_.Go.OpenSpec := { _root_.Go.OpenSpec.ofChange s with cond := some uptoSmall }

/-- 'bellmanlaw14.RenderFills', WHERE WHAT IT READS IS OF BULK AT MOST 1048576: true; the input reads as it did. -/
def renderFillsUptoRow : OpenClaim := { program := "ythngelbaheankaagreatdoor", sum := "cc876dc8c40392f6f90569aac4858849038eff0f208d0f3d1f4cb209d4fdfda1", func := "bellman/bellmanlaw14.RenderFills", spec := "renderFills", inPlace := ["internal/bytealg.IndexByteString", "internal/bytealg.IndexString", "internal/abi.NoEscape", "internal/reflectlite.ValueOf", "(internal/reflectlite.Value).Type", "(internal/reflectlite.Value).IsNil", "internal/reflectlite.TypeOf", "(internal/reflectlite.Value).Elem", "(internal/reflectlite.Value).Set", "internal/bytealg.CountString"], unfollowed := true, recurses := true, named := ["internal/bytealg.MaxLen", "internal/strconv.uint64pow10", "math/bits.deBruijn32tab", "math/bits.deBruijn64tab", "bellman/render.reasons", "errors.errorType", "unicode/utf8.first", "unicode/utf8.acceptRanges", "bellman/tree.errPair"], loops := true, apart := false, laid := [("math/bits.deBruijn32tab", laid_math_bits_deBruijn32tab), ("math/bits.deBruijn64tab", laid_math_bits_deBruijn64tab), ("internal/strconv.uint64pow10", laid_internal_strconv_uint64pow10), ("unicode/utf8.acceptRanges", laid_unicode_utf8_acceptRanges), ("errors.errorType", laid_errors_errorType), ("bellman/tree.errPair", laid_bellman_tree_errPair), ("bellman/render.reasons", laid_bellman_render_reasons), ("unicode/utf8.first", laid_unicode_utf8_first)], narrowed := true }
def RenderFillsUptoSaid : Prop := renderFillsUptoRow.holds Tryz.pinned (OpenSpec.upto renderFillsSpec)

/-- 'bellmanlaw18.ChainAsks', WHERE WHAT IT READS IS OF BULK AT MOST 1048576: true; the input reads as it did. -/
def chainAsksUptoRow : OpenClaim := { program := "ythngelbaheankaagreatdoor", sum := "cc876dc8c40392f6f90569aac4858849038eff0f208d0f3d1f4cb209d4fdfda1", func := "bellman/bellmanlaw18.ChainAsks", spec := "chainAsks", inPlace := ["internal/bytealg.IndexByteString", "internal/bytealg.IndexString", "internal/bytealg.CountString", "internal/reflectlite.TypeOf", "internal/reflectlite.ValueOf", "(internal/reflectlite.Value).Type", "(internal/reflectlite.Value).IsNil", "(internal/reflectlite.Value).Elem", "(internal/reflectlite.Value).Set", "slices.overlaps[bellman/api.Category]"], unfollowed := true, recurses := true, named := ["bellman/esc.names", "bellman/chain.asked", "internal/bytealg.MaxLen", "unicode/utf8.first", "unicode/utf8.acceptRanges", "bellman/tree.errPair", "errors.errorType"], apart := false, laid := [("unicode/utf8.acceptRanges", laid_unicode_utf8_acceptRanges), ("errors.errorType", laid_errors_errorType), ("bellman/esc.names", laid_bellman_esc_names), ("bellman/tree.errPair", laid_bellman_tree_errPair), ("bellman/chain.asked", laid_bellman_chain_asked), ("unicode/utf8.first", laid_unicode_utf8_first)], narrowed := true }
def ChainAsksUptoSaid : Prop := chainAsksUptoRow.holds Tryz.pinned (OpenSpec.upto chainAsksSpec)

/-- 'bellmanlaw18.ChainLists', WHERE WHAT IT READS IS OF BULK AT MOST 1048576: true; the input reads as it did. -/
def chainListsUptoRow : OpenClaim := { program := "ythngelbaheankaagreatdoor", sum := "cc876dc8c40392f6f90569aac4858849038eff0f208d0f3d1f4cb209d4fdfda1", func := "bellman/bellmanlaw18.ChainLists", spec := "chainLists", inPlace := ["internal/bytealg.IndexByteString", "internal/bytealg.IndexString", "internal/bytealg.CountString", "internal/reflectlite.TypeOf", "internal/reflectlite.ValueOf", "(internal/reflectlite.Value).Type", "(internal/reflectlite.Value).IsNil", "(internal/reflectlite.Value).Elem", "(internal/reflectlite.Value).Set", "slices.overlaps[bellman/api.Category]"], unfollowed := true, recurses := true, named := ["bellman/esc.names", "bellman/chain.asked", "internal/bytealg.MaxLen", "unicode/utf8.first", "unicode/utf8.acceptRanges", "bellman/tree.errPair", "errors.errorType"], apart := false, laid := [("unicode/utf8.acceptRanges", laid_unicode_utf8_acceptRanges), ("errors.errorType", laid_errors_errorType), ("bellman/esc.names", laid_bellman_esc_names), ("bellman/tree.errPair", laid_bellman_tree_errPair), ("bellman/chain.asked", laid_bellman_chain_asked), ("unicode/utf8.first", laid_unicode_utf8_first)], narrowed := true }
def ChainListsUptoSaid : Prop := chainListsUptoRow.holds Tryz.pinned (OpenSpec.upto chainListsSpec)

/-- 'bellmanlaw18.ChainFound', WHERE WHAT IT READS IS OF BULK AT MOST 1048576: true; the input reads as it did. -/
def chainFoundUptoRow : OpenClaim := { program := "ythngelbaheankaagreatdoor", sum := "cc876dc8c40392f6f90569aac4858849038eff0f208d0f3d1f4cb209d4fdfda1", func := "bellman/bellmanlaw18.ChainFound", spec := "chainFound", inPlace := ["internal/bytealg.IndexByteString", "internal/bytealg.IndexString", "internal/bytealg.CountString", "internal/reflectlite.TypeOf", "internal/reflectlite.ValueOf", "(internal/reflectlite.Value).Type", "(internal/reflectlite.Value).IsNil", "(internal/reflectlite.Value).Elem", "(internal/reflectlite.Value).Set", "slices.overlaps[bellman/api.Category]"], unfollowed := true, recurses := true, named := ["bellman/esc.names", "bellman/chain.asked", "internal/bytealg.MaxLen", "unicode/utf8.first", "unicode/utf8.acceptRanges", "bellman/tree.errPair", "errors.errorType"], apart := false, laid := [("unicode/utf8.acceptRanges", laid_unicode_utf8_acceptRanges), ("errors.errorType", laid_errors_errorType), ("bellman/esc.names", laid_bellman_esc_names), ("bellman/tree.errPair", laid_bellman_tree_errPair), ("bellman/chain.asked", laid_bellman_chain_asked), ("unicode/utf8.first", laid_unicode_utf8_first)], narrowed := true }
def ChainFoundUptoSaid : Prop := chainFoundUptoRow.holds Tryz.pinned (OpenSpec.upto chainFoundSpec)

/-- 'bellmanlaw18.ChainLong', WHERE WHAT IT READS IS OF BULK AT MOST 1048576: true; the input reads as it did. -/
def chainLongUptoRow : OpenClaim := { program := "ythngelbaheankaagreatdoor", sum := "cc876dc8c40392f6f90569aac4858849038eff0f208d0f3d1f4cb209d4fdfda1", func := "bellman/bellmanlaw18.ChainLong", spec := "chainLong", inPlace := ["internal/bytealg.IndexByteString", "internal/bytealg.IndexString", "internal/bytealg.CountString", "internal/reflectlite.TypeOf", "internal/reflectlite.ValueOf", "(internal/reflectlite.Value).Type", "(internal/reflectlite.Value).IsNil", "(internal/reflectlite.Value).Elem", "(internal/reflectlite.Value).Set", "slices.overlaps[bellman/api.Category]"], unfollowed := true, recurses := true, named := ["bellman/esc.names", "bellman/chain.asked", "internal/bytealg.MaxLen", "unicode/utf8.first", "unicode/utf8.acceptRanges", "bellman/tree.errPair", "errors.errorType"], apart := false, laid := [("unicode/utf8.acceptRanges", laid_unicode_utf8_acceptRanges), ("errors.errorType", laid_errors_errorType), ("bellman/esc.names", laid_bellman_esc_names), ("bellman/tree.errPair", laid_bellman_tree_errPair), ("bellman/chain.asked", laid_bellman_chain_asked), ("unicode/utf8.first", laid_unicode_utf8_first)], narrowed := true }
def ChainLongUptoSaid : Prop := chainLongUptoRow.holds Tryz.pinned (OpenSpec.upto chainLongSpec)

/-- 'bellmanlaw18.ChainSource', WHERE WHAT IT READS IS OF BULK AT MOST 1048576: true; the input reads as it did. -/
def chainSourceUptoRow : OpenClaim := { program := "ythngelbaheankaagreatdoor", sum := "cc876dc8c40392f6f90569aac4858849038eff0f208d0f3d1f4cb209d4fdfda1", func := "bellman/bellmanlaw18.ChainSource", spec := "chainSource", inPlace := ["internal/bytealg.IndexByteString", "internal/bytealg.IndexString", "internal/bytealg.CountString", "internal/reflectlite.TypeOf", "internal/reflectlite.ValueOf", "(internal/reflectlite.Value).Type", "(internal/reflectlite.Value).IsNil", "(internal/reflectlite.Value).Elem", "(internal/reflectlite.Value).Set", "slices.overlaps[bellman/api.Category]", "internal/abi.NoEscape", "internal/bytealg.MakeNoZero"], unfollowed := true, recurses := true, named := ["bellman/esc.names", "bellman/chain.asked", "internal/bytealg.MaxLen", "unicode/utf8.first", "unicode/utf8.acceptRanges", "bellman/tree.errPair", "errors.errorType"], apart := false, laid := [("unicode/utf8.acceptRanges", laid_unicode_utf8_acceptRanges), ("errors.errorType", laid_errors_errorType), ("bellman/esc.names", laid_bellman_esc_names), ("bellman/tree.errPair", laid_bellman_tree_errPair), ("bellman/chain.asked", laid_bellman_chain_asked), ("unicode/utf8.first", laid_unicode_utf8_first)], narrowed := true }
def ChainSourceUptoSaid : Prop := chainSourceUptoRow.holds Tryz.pinned (OpenSpec.upto chainSourceSpec)

/-- 'bellmanlaw14.RenderAsks', WHERE WHAT IT READS IS OF BULK AT MOST 1048576: true; the input reads as it did. -/
def renderAsksUptoRow : OpenClaim := { program := "ythngelbaheankaagreatdoor", sum := "cc876dc8c40392f6f90569aac4858849038eff0f208d0f3d1f4cb209d4fdfda1", func := "bellman/bellmanlaw14.RenderAsks", spec := "renderAsks", inPlace := ["internal/bytealg.IndexByteString", "internal/bytealg.IndexString", "internal/bytealg.CountString", "internal/reflectlite.TypeOf", "internal/abi.NoEscape", "internal/reflectlite.ValueOf", "(internal/reflectlite.Value).Type", "(internal/reflectlite.Value).IsNil", "(internal/reflectlite.Value).Elem", "(internal/reflectlite.Value).Set", "slices.overlaps[string]", "slices.overlaps[bellman/api.Value]"], unfollowed := true, recurses := true, named := ["internal/bytealg.MaxLen", "unicode/utf8.first", "unicode/utf8.acceptRanges", "bellman/tree.errPair", "internal/strconv.uint64pow10", "math/bits.deBruijn32tab", "math/bits.deBruijn64tab", "bellman/render.reasons", "errors.errorType"], loops := true, apart := false, laid := [("math/bits.deBruijn32tab", laid_math_bits_deBruijn32tab), ("math/bits.deBruijn64tab", laid_math_bits_deBruijn64tab), ("internal/strconv.uint64pow10", laid_internal_strconv_uint64pow10), ("unicode/utf8.acceptRanges", laid_unicode_utf8_acceptRanges), ("errors.errorType", laid_errors_errorType), ("bellman/tree.errPair", laid_bellman_tree_errPair), ("bellman/render.reasons", laid_bellman_render_reasons), ("unicode/utf8.first", laid_unicode_utf8_first)], narrowed := true }
def RenderAsksUptoSaid : Prop := renderAsksUptoRow.holds Tryz.pinned (OpenSpec.upto renderAsksSpec)

end Rows
end Go.Proofs.YthngelbaheankaaGreatDoor
