/-
  NARROWER THAN 'FOR EVERY INPUT', by the rows' own cells (each row's printed sentence says how): CivilMonths: laid · CivilOn: laid · CivilNth: laid · EscTexts: laid · EscChannels: laid · EscBack: laid · EscSafe: laid · EscParts: laid · ZonePlain: laid.
  DERIVED. THE GIVEN ROWS OF THIS SEAT. 9 by the template 'for every input the law returns true; each argument reads behind the call as it read before'; 0 by the template 'total and deterministic' (their statements: YtcbdihhnoicabaaDoorTotals.lean).
  GIVEN WITH THE SEED: the statements are not yours to turn. If you find one false, say at which input.
  Laid BY PROGRAM, IN A SANDBOX (cutbox-rows.mjs): the forced cells as the released guide's own fill.sh prints them over the translation 5b93b5db94ef2e48… (all of the seat's roots in one cut). By AI agents, Wed Nov 11 2026. No macro, syntax, notation, axiom, sorry.
-/
import Derived.Test.YtcbdihhnoicabaaDoorChecked
import GoSem.Claim
import GoSem.ClaimJoined
import GoSem.ClaimMapViews
import Derived.JoinedTies
import Derived.KernelRfl
namespace Go.Proofs.YtcbdihhnoicabaaDoor
/- THE CELL 'sum', in the pinned program and in every row, IS THE sha256 OF THE DUMP (.gsa) THAT YtcbdihhnoicabaaDoorProg.lean LOADS. Nothing in Lean hashes anything: it is a label: what it is worth is what the hold of that sum in a sandbox is worth. -/
noncomputable def Tryd.pinned : Pinned := { name := "ytcbdihhnoicabaadoor", sum := "5b93b5db94ef2e4862ae9aadc76b8694b2c46e29a4f34f4257593c957a614c19", checked := Tryd.checked }
namespace Rows
def none {H : Type} : Left H := { results := [], args := [] }

/- WHAT THE LISTED PACKAGE-LEVEL VARIABLES READ AS WHEN THE CALL BEGINS. Each datum BY PROGRAM (the guide's laid-datum.mjs) off the statement by which the dump's own 'gosem.cut.vars' lays the variable. In a bare row this is a premise. The card (YtcbdihhnoicabaaDoorCards.lean) ties it to the program's text. -/
def laid_bellman_civil_before {H : Type} : DataW H := .agg [.lit (.int .i64 0), .lit (.int .i64 31), .lit (.int .i64 59), .lit (.int .i64 90), .lit (.int .i64 120), .lit (.int .i64 151), .lit (.int .i64 181), .lit (.int .i64 212), .lit (.int .i64 243), .lit (.int .i64 273), .lit (.int .i64 304), .lit (.int .i64 334), .lit (.int .i64 365)]
def laid_bellman_esc_names {H : Type} : DataW H := .agg [.lit (.string []), .lit (.string [112, 117, 115, 104]), .lit (.string [101, 109, 97, 105, 108]), .lit (.string [115, 109, 115])]

/-- 'bellmanlaw05.CivilMonths': WHATEVER THE INPUT: true; the input reads as it did. -/
def civilMonthsSpec : ChangeSpec := { name := "civilMonths", fn := fun _ => fun
  | [d1, d2, d3, d4, d5] => { results := [.lit (.bool true)], args := [d1, d2, d3, d4, d5] }
  | _ => none }
def civilMonthsRow : OpenClaim := { program := "ytcbdihhnoicabaadoor", sum := "5b93b5db94ef2e4862ae9aadc76b8694b2c46e29a4f34f4257593c957a614c19", func := "bellman/bellmanlaw05.CivilMonths", spec := "civilMonths", named := ["bellman/civil.before"], apart := false, laid := [("bellman/civil.before", laid_bellman_civil_before)] }
def CivilMonthsSaid : Prop := civilMonthsRow.holds Tryd.pinned (OpenSpec.ofChange civilMonthsSpec)

/-- ITS FALSE NEIGHBOUR: 'it returns false'. Refute it at one input. -/
def civilMonthsWrong : ChangeSpec := { name := "civilMonths", fn := fun _ => fun
  | [d1, d2, d3, d4, d5] => { results := [.lit (.bool false)], args := [d1, d2, d3, d4, d5] }
  | _ => none }
def CivilMonthsWrongFalsely : Prop := civilMonthsRow.holds Tryd.pinned (OpenSpec.ofChange civilMonthsWrong)

/-- 'bellmanlaw05.CivilOn': WHATEVER THE INPUT: true; the input reads as it did. -/
def civilOnSpec : ChangeSpec := { name := "civilOn", fn := fun _ => fun
  | [d] => { results := [.lit (.bool true)], args := [d] }
  | _ => none }
def civilOnRow : OpenClaim := { program := "ytcbdihhnoicabaadoor", sum := "5b93b5db94ef2e4862ae9aadc76b8694b2c46e29a4f34f4257593c957a614c19", func := "bellman/bellmanlaw05.CivilOn", spec := "civilOn", named := ["bellman/civil.before"], apart := false, laid := [("bellman/civil.before", laid_bellman_civil_before)] }
def CivilOnSaid : Prop := civilOnRow.holds Tryd.pinned (OpenSpec.ofChange civilOnSpec)

/-- ITS FALSE NEIGHBOUR: 'it returns false'. Refute it at one input. -/
def civilOnWrong : ChangeSpec := { name := "civilOn", fn := fun _ => fun
  | [d] => { results := [.lit (.bool false)], args := [d] }
  | _ => none }
def CivilOnWrongFalsely : Prop := civilOnRow.holds Tryd.pinned (OpenSpec.ofChange civilOnWrong)

/-- 'bellmanlaw05.CivilNth': WHATEVER THE INPUT: true; the input reads as it did. -/
def civilNthSpec : ChangeSpec := { name := "civilNth", fn := fun _ => fun
  | [d1, d2, d3, d4] => { results := [.lit (.bool true)], args := [d1, d2, d3, d4] }
  | _ => none }
def civilNthRow : OpenClaim := { program := "ytcbdihhnoicabaadoor", sum := "5b93b5db94ef2e4862ae9aadc76b8694b2c46e29a4f34f4257593c957a614c19", func := "bellman/bellmanlaw05.CivilNth", spec := "civilNth", named := ["bellman/civil.before"], apart := false, laid := [("bellman/civil.before", laid_bellman_civil_before)] }
def CivilNthSaid : Prop := civilNthRow.holds Tryd.pinned (OpenSpec.ofChange civilNthSpec)

/-- ITS FALSE NEIGHBOUR: 'it returns false'. Refute it at one input. -/
def civilNthWrong : ChangeSpec := { name := "civilNth", fn := fun _ => fun
  | [d1, d2, d3, d4] => { results := [.lit (.bool false)], args := [d1, d2, d3, d4] }
  | _ => none }
def CivilNthWrongFalsely : Prop := civilNthRow.holds Tryd.pinned (OpenSpec.ofChange civilNthWrong)

/-- 'bellmanlaw13.EscTexts': WHATEVER THE INPUT: true; the input reads as it did. -/
def escTextsSpec : ChangeSpec := { name := "escTexts", fn := fun _ => fun
  | [d1, d2, d3] => { results := [.lit (.bool true)], args := [d1, d2, d3] }
  | _ => none }
def escTextsRow : OpenClaim := { program := "ytcbdihhnoicabaadoor", sum := "5b93b5db94ef2e4862ae9aadc76b8694b2c46e29a4f34f4257593c957a614c19", func := "bellman/bellmanlaw13.EscTexts", spec := "escTexts", inPlace := ["internal/abi.NoEscape", "internal/bytealg.IndexByteString"], unfollowed := true, recurses := true, named := ["bellman/esc.names"], apart := false, laid := [("bellman/esc.names", laid_bellman_esc_names)] }
def EscTextsSaid : Prop := escTextsRow.holds Tryd.pinned (OpenSpec.ofChange escTextsSpec)

/-- ITS FALSE NEIGHBOUR: 'it returns false'. Refute it at one input. -/
def escTextsWrong : ChangeSpec := { name := "escTexts", fn := fun _ => fun
  | [d1, d2, d3] => { results := [.lit (.bool false)], args := [d1, d2, d3] }
  | _ => none }
def EscTextsWrongFalsely : Prop := escTextsRow.holds Tryd.pinned (OpenSpec.ofChange escTextsWrong)

/-- 'bellmanlaw13.EscChannels': WHATEVER THE INPUT: true; the input reads as it did. -/
def escChannelsSpec : ChangeSpec := { name := "escChannels", fn := fun _ => fun
  | [d1, d2] => { results := [.lit (.bool true)], args := [d1, d2] }
  | _ => none }
def escChannelsRow : OpenClaim := { program := "ytcbdihhnoicabaadoor", sum := "5b93b5db94ef2e4862ae9aadc76b8694b2c46e29a4f34f4257593c957a614c19", func := "bellman/bellmanlaw13.EscChannels", spec := "escChannels", inPlace := ["internal/abi.NoEscape", "internal/bytealg.IndexByteString"], unfollowed := true, recurses := true, named := ["bellman/esc.names"], apart := false, laid := [("bellman/esc.names", laid_bellman_esc_names)] }
def EscChannelsSaid : Prop := escChannelsRow.holds Tryd.pinned (OpenSpec.ofChange escChannelsSpec)

/-- ITS FALSE NEIGHBOUR: 'it returns false'. Refute it at one input. -/
def escChannelsWrong : ChangeSpec := { name := "escChannels", fn := fun _ => fun
  | [d1, d2] => { results := [.lit (.bool false)], args := [d1, d2] }
  | _ => none }
def EscChannelsWrongFalsely : Prop := escChannelsRow.holds Tryd.pinned (OpenSpec.ofChange escChannelsWrong)

/-- 'bellmanlaw13.EscBack': WHATEVER THE INPUT: true; the input reads as it did. -/
def escBackSpec : ChangeSpec := { name := "escBack", fn := fun _ => fun
  | [d1, d2, d3] => { results := [.lit (.bool true)], args := [d1, d2, d3] }
  | _ => none }
def escBackRow : OpenClaim := { program := "ytcbdihhnoicabaadoor", sum := "5b93b5db94ef2e4862ae9aadc76b8694b2c46e29a4f34f4257593c957a614c19", func := "bellman/bellmanlaw13.EscBack", spec := "escBack", inPlace := ["internal/abi.NoEscape", "internal/bytealg.IndexByteString"], unfollowed := true, recurses := true, named := ["bellman/esc.names"], apart := false, laid := [("bellman/esc.names", laid_bellman_esc_names)] }
def EscBackSaid : Prop := escBackRow.holds Tryd.pinned (OpenSpec.ofChange escBackSpec)

/-- ITS FALSE NEIGHBOUR: 'it returns false'. Refute it at one input. -/
def escBackWrong : ChangeSpec := { name := "escBack", fn := fun _ => fun
  | [d1, d2, d3] => { results := [.lit (.bool false)], args := [d1, d2, d3] }
  | _ => none }
def EscBackWrongFalsely : Prop := escBackRow.holds Tryd.pinned (OpenSpec.ofChange escBackWrong)

/-- 'bellmanlaw13.EscSafe': WHATEVER THE INPUT: true; the input reads as it did. -/
def escSafeSpec : ChangeSpec := { name := "escSafe", fn := fun _ => fun
  | [d1, d2] => { results := [.lit (.bool true)], args := [d1, d2] }
  | _ => none }
def escSafeRow : OpenClaim := { program := "ytcbdihhnoicabaadoor", sum := "5b93b5db94ef2e4862ae9aadc76b8694b2c46e29a4f34f4257593c957a614c19", func := "bellman/bellmanlaw13.EscSafe", spec := "escSafe", inPlace := ["internal/abi.NoEscape", "internal/bytealg.IndexByteString"], unfollowed := true, recurses := true, named := ["bellman/esc.names"], apart := false, laid := [("bellman/esc.names", laid_bellman_esc_names)] }
def EscSafeSaid : Prop := escSafeRow.holds Tryd.pinned (OpenSpec.ofChange escSafeSpec)

/-- ITS FALSE NEIGHBOUR: 'it returns false'. Refute it at one input. -/
def escSafeWrong : ChangeSpec := { name := "escSafe", fn := fun _ => fun
  | [d1, d2] => { results := [.lit (.bool false)], args := [d1, d2] }
  | _ => none }
def EscSafeWrongFalsely : Prop := escSafeRow.holds Tryd.pinned (OpenSpec.ofChange escSafeWrong)

/-- 'bellmanlaw13.EscParts': WHATEVER THE INPUT: true; the input reads as it did. -/
def escPartsSpec : ChangeSpec := { name := "escParts", fn := fun _ => fun
  | [d1, d2, d3] => { results := [.lit (.bool true)], args := [d1, d2, d3] }
  | _ => none }
def escPartsRow : OpenClaim := { program := "ytcbdihhnoicabaadoor", sum := "5b93b5db94ef2e4862ae9aadc76b8694b2c46e29a4f34f4257593c957a614c19", func := "bellman/bellmanlaw13.EscParts", spec := "escParts", inPlace := ["internal/abi.NoEscape", "internal/bytealg.IndexByteString"], unfollowed := true, recurses := true, named := ["bellman/esc.names"], apart := false, laid := [("bellman/esc.names", laid_bellman_esc_names)] }
def EscPartsSaid : Prop := escPartsRow.holds Tryd.pinned (OpenSpec.ofChange escPartsSpec)

/-- ITS FALSE NEIGHBOUR: 'it returns false'. Refute it at one input. -/
def escPartsWrong : ChangeSpec := { name := "escParts", fn := fun _ => fun
  | [d1, d2, d3] => { results := [.lit (.bool false)], args := [d1, d2, d3] }
  | _ => none }
def EscPartsWrongFalsely : Prop := escPartsRow.holds Tryd.pinned (OpenSpec.ofChange escPartsWrong)

/-- 'bellmanlaw06.ZonePlain': WHATEVER THE INPUT: true; the input reads as it did. -/
def zonePlainSpec : ChangeSpec := { name := "zonePlain", fn := fun _ => fun
  | [d1, d2] => { results := [.lit (.bool true)], args := [d1, d2] }
  | _ => none }
def zonePlainRow : OpenClaim := { program := "ytcbdihhnoicabaadoor", sum := "5b93b5db94ef2e4862ae9aadc76b8694b2c46e29a4f34f4257593c957a614c19", func := "bellman/bellmanlaw06.ZonePlain", spec := "zonePlain", named := ["bellman/civil.before"], apart := false, laid := [("bellman/civil.before", laid_bellman_civil_before)] }
def ZonePlainSaid : Prop := zonePlainRow.holds Tryd.pinned (OpenSpec.ofChange zonePlainSpec)

/-- ITS FALSE NEIGHBOUR: 'it returns false'. Refute it at one input. -/
def zonePlainWrong : ChangeSpec := { name := "zonePlain", fn := fun _ => fun
  | [d1, d2] => { results := [.lit (.bool false)], args := [d1, d2] }
  | _ => none }
def ZonePlainWrongFalsely : Prop := zonePlainRow.holds Tryd.pinned (OpenSpec.ofChange zonePlainWrong)

/- THE SECOND FORM. 'bulk': how many values and letters a reading holds, each counted each time it is reached (what is shared counts as often as it is met; a slice's spare places count too). A statement '..UptoSaid' is the law's where the arguments, and the package variables that the reading takes, are together of bulk at most 1048576: NARROWER than '..Said'. Prove '..Said' where nothing that the law and all that it calls make is longer than what came in: it says more and counts as full. Else prove '..UptoSaid'. A law counts once. -/
mutual
def uptoBulk {H : Type} : DataW H → Nat
  | .lit (.string bytes) => bytes.length + 1
  | .lit _ => 1
  | .nil => 1
  | .ptr d => uptoBulk d + 1
  | .slice elems spare => uptoBulkAll elems + uptoBulkAll spare + 1
  | .agg parts => uptoBulkAll parts + 1
  | .iface _ d => uptoBulk d + 1
  | .map entries => uptoBulkEntries entries + 1
  | .held _ => 1
def uptoBulkAll {H : Type} : List (DataW H) → Nat
  | [] => 0
  | d :: r => uptoBulk d + uptoBulkAll r
def uptoBulkEntries {H : Type} : List (Lit × DataW H) → Nat
  | [] => 0
  | x :: r => uptoBulkEntry x + uptoBulkEntries r
def uptoBulkEntry {H : Type} : Lit × DataW H → Nat
  | (.string bytes, d) => bytes.length + uptoBulk d + 1
  | (_, d) => uptoBulk d + 1
 end
def uptoSmall : (H : Type) → List (DataW H) → Bool := fun _ ds => decide (uptoBulkAll ds ≤ 1048576)
def OpenSpec.upto (s : _root_.Go.ChangeSpec) : _root_.Go.OpenSpec := { _root_.Go.OpenSpec.ofChange s with cond := some uptoSmall }

/-- 'bellmanlaw05.CivilMonths', WHERE WHAT IT READS IS OF BULK AT MOST 1048576: true; the input reads as it did. -/
def civilMonthsUptoRow : OpenClaim := { program := "ytcbdihhnoicabaadoor", sum := "5b93b5db94ef2e4862ae9aadc76b8694b2c46e29a4f34f4257593c957a614c19", func := "bellman/bellmanlaw05.CivilMonths", spec := "civilMonths", named := ["bellman/civil.before"], apart := false, laid := [("bellman/civil.before", laid_bellman_civil_before)], narrowed := true }
def CivilMonthsUptoSaid : Prop := civilMonthsUptoRow.holds Tryd.pinned (OpenSpec.upto civilMonthsSpec)

/-- 'bellmanlaw05.CivilOn', WHERE WHAT IT READS IS OF BULK AT MOST 1048576: true; the input reads as it did. -/
def civilOnUptoRow : OpenClaim := { program := "ytcbdihhnoicabaadoor", sum := "5b93b5db94ef2e4862ae9aadc76b8694b2c46e29a4f34f4257593c957a614c19", func := "bellman/bellmanlaw05.CivilOn", spec := "civilOn", named := ["bellman/civil.before"], apart := false, laid := [("bellman/civil.before", laid_bellman_civil_before)], narrowed := true }
def CivilOnUptoSaid : Prop := civilOnUptoRow.holds Tryd.pinned (OpenSpec.upto civilOnSpec)

/-- 'bellmanlaw05.CivilNth', WHERE WHAT IT READS IS OF BULK AT MOST 1048576: true; the input reads as it did. -/
def civilNthUptoRow : OpenClaim := { program := "ytcbdihhnoicabaadoor", sum := "5b93b5db94ef2e4862ae9aadc76b8694b2c46e29a4f34f4257593c957a614c19", func := "bellman/bellmanlaw05.CivilNth", spec := "civilNth", named := ["bellman/civil.before"], apart := false, laid := [("bellman/civil.before", laid_bellman_civil_before)], narrowed := true }
def CivilNthUptoSaid : Prop := civilNthUptoRow.holds Tryd.pinned (OpenSpec.upto civilNthSpec)

/-- 'bellmanlaw13.EscTexts', WHERE WHAT IT READS IS OF BULK AT MOST 1048576: true; the input reads as it did. -/
def escTextsUptoRow : OpenClaim := { program := "ytcbdihhnoicabaadoor", sum := "5b93b5db94ef2e4862ae9aadc76b8694b2c46e29a4f34f4257593c957a614c19", func := "bellman/bellmanlaw13.EscTexts", spec := "escTexts", inPlace := ["internal/abi.NoEscape", "internal/bytealg.IndexByteString"], unfollowed := true, recurses := true, named := ["bellman/esc.names"], apart := false, laid := [("bellman/esc.names", laid_bellman_esc_names)], narrowed := true }
def EscTextsUptoSaid : Prop := escTextsUptoRow.holds Tryd.pinned (OpenSpec.upto escTextsSpec)

/-- 'bellmanlaw13.EscChannels', WHERE WHAT IT READS IS OF BULK AT MOST 1048576: true; the input reads as it did. -/
def escChannelsUptoRow : OpenClaim := { program := "ytcbdihhnoicabaadoor", sum := "5b93b5db94ef2e4862ae9aadc76b8694b2c46e29a4f34f4257593c957a614c19", func := "bellman/bellmanlaw13.EscChannels", spec := "escChannels", inPlace := ["internal/abi.NoEscape", "internal/bytealg.IndexByteString"], unfollowed := true, recurses := true, named := ["bellman/esc.names"], apart := false, laid := [("bellman/esc.names", laid_bellman_esc_names)], narrowed := true }
def EscChannelsUptoSaid : Prop := escChannelsUptoRow.holds Tryd.pinned (OpenSpec.upto escChannelsSpec)

/-- 'bellmanlaw13.EscBack', WHERE WHAT IT READS IS OF BULK AT MOST 1048576: true; the input reads as it did. -/
def escBackUptoRow : OpenClaim := { program := "ytcbdihhnoicabaadoor", sum := "5b93b5db94ef2e4862ae9aadc76b8694b2c46e29a4f34f4257593c957a614c19", func := "bellman/bellmanlaw13.EscBack", spec := "escBack", inPlace := ["internal/abi.NoEscape", "internal/bytealg.IndexByteString"], unfollowed := true, recurses := true, named := ["bellman/esc.names"], apart := false, laid := [("bellman/esc.names", laid_bellman_esc_names)], narrowed := true }
def EscBackUptoSaid : Prop := escBackUptoRow.holds Tryd.pinned (OpenSpec.upto escBackSpec)

/-- 'bellmanlaw13.EscSafe', WHERE WHAT IT READS IS OF BULK AT MOST 1048576: true; the input reads as it did. -/
def escSafeUptoRow : OpenClaim := { program := "ytcbdihhnoicabaadoor", sum := "5b93b5db94ef2e4862ae9aadc76b8694b2c46e29a4f34f4257593c957a614c19", func := "bellman/bellmanlaw13.EscSafe", spec := "escSafe", inPlace := ["internal/abi.NoEscape", "internal/bytealg.IndexByteString"], unfollowed := true, recurses := true, named := ["bellman/esc.names"], apart := false, laid := [("bellman/esc.names", laid_bellman_esc_names)], narrowed := true }
def EscSafeUptoSaid : Prop := escSafeUptoRow.holds Tryd.pinned (OpenSpec.upto escSafeSpec)

/-- 'bellmanlaw13.EscParts', WHERE WHAT IT READS IS OF BULK AT MOST 1048576: true; the input reads as it did. -/
def escPartsUptoRow : OpenClaim := { program := "ytcbdihhnoicabaadoor", sum := "5b93b5db94ef2e4862ae9aadc76b8694b2c46e29a4f34f4257593c957a614c19", func := "bellman/bellmanlaw13.EscParts", spec := "escParts", inPlace := ["internal/abi.NoEscape", "internal/bytealg.IndexByteString"], unfollowed := true, recurses := true, named := ["bellman/esc.names"], apart := false, laid := [("bellman/esc.names", laid_bellman_esc_names)], narrowed := true }
def EscPartsUptoSaid : Prop := escPartsUptoRow.holds Tryd.pinned (OpenSpec.upto escPartsSpec)

/-- 'bellmanlaw06.ZonePlain', WHERE WHAT IT READS IS OF BULK AT MOST 1048576: true; the input reads as it did. -/
def zonePlainUptoRow : OpenClaim := { program := "ytcbdihhnoicabaadoor", sum := "5b93b5db94ef2e4862ae9aadc76b8694b2c46e29a4f34f4257593c957a614c19", func := "bellman/bellmanlaw06.ZonePlain", spec := "zonePlain", named := ["bellman/civil.before"], apart := false, laid := [("bellman/civil.before", laid_bellman_civil_before)], narrowed := true }
def ZonePlainUptoSaid : Prop := zonePlainUptoRow.holds Tryd.pinned (OpenSpec.upto zonePlainSpec)

end Rows
end Go.Proofs.YtcbdihhnoicabaaDoor
