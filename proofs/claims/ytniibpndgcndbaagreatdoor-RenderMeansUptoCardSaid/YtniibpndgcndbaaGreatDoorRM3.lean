/- Part 3 of the proof (texts of this claim, merged in build order; what the claim does not need has been left out). -/
import Derived.Test.YtniibpndgcndbaaGreatDoorRM2
import Derived.BigQuiet
import Derived.Deep.QuietTactic
import Derived.Deep.RegionHeld3
import Derived.Deep.RegionWith
import Derived.Ground.Names2Prog
import Derived.Ground.SlgfProg
import Derived.Ground.SlgnProg
import Derived.IntWalk
import Derived.LaidEql
import Derived.Laws.BitsAllLaws
import Derived.Lib.AppendIntMem
import Derived.Lib.Hide
import Derived.Lib.IndexBytes
import Derived.Lib.LaidTab
import Derived.Lib.Split
import Derived.LoopIn
import Derived.LoopNIn
import Derived.Outline
import Derived.OwnWalkIn
import Derived.RangeFuncBound
import Derived.RangeFuncBox
import Derived.RangeFuncCalls
import Derived.RangeFuncLeaves
import Derived.RangeFuncNested
import Derived.RowKitTokens
import Derived.Shelf.Abstract
import Derived.Shelf.LaysM
import Derived.Shelf.RegionOpen
import Derived.Shelf.Slices.Cells
import Derived.Shelf.Slices.Clone
import Derived.Shelf.Slices.CompactS
import Derived.Shelf.Slices.In.SortNone
import Derived.Shelf.Slices.Turned
import Derived.Shelf.SlicesE.Clone
import Derived.Shelf.SlicesE.Compact
import Derived.Shelf.SlicesE.DeleteFunc
import Derived.Shelf.SlicesE.Index
import Derived.Shelf.SlicesE.IndexFunc
import Derived.Shelf.Small.Bits
import Derived.Shelf.Sort.Plain
import Derived.Shelf.Spec.SearchS
import Derived.Shelf.Strconv.Itoa0
import Derived.Shelf.Strconv.Itoa1
import Derived.Shelf.Strconv.Itoa2
import Derived.Shelf.Strconv.Itoa3
import Derived.Shelf.Strconv.Itoa4
import Derived.Shelf.Strings.Builder1
import Derived.Shelf.Strings.Builder2
import Derived.Shelf.Strings.Builder2Cap
import Derived.Shelf.Strings.BuilderCap
import Derived.Shelf.Strings.BuilderF
import Derived.Shelf.Strings.BuilderK
import Derived.Shelf.Strings.Count
import Derived.Shelf.Strings.Cut
import Derived.Shelf.Strings.Explode
import Derived.Shelf.Strings.OnBuilder
import Derived.Shelf.Strings.Prefix
import Derived.Shelf.Strings.RuneCount
import Derived.Shelf.Strings.Search1
import Derived.Shelf.Strings.Search2
import Derived.Shelf.Strings.Search3
import Derived.Shelf.Strings.Shaped
import Derived.Shelf.Strings.Split
import Derived.Shelf.Strings.SplitShaped
import Derived.Shelf.Unicode.Decode
import Derived.Shelf.Unicode.DecodeAny
import Derived.Shelf.Unicode.DecodeSlow
import Derived.Sort.Walk0
import Derived.Stop.Asserts
import Derived.TacticsInMore
import Derived.Test.YtniibpndgcndbaaGreatDoorProg
import Derived.WalkKit
import Derived.WalkLawsBesides
set_option linter.unusedVariables false
set_option linter.unusedSimpArgs false
namespace Go.Proofs
open Go.Shelf
def Tryz.lays169_ren : Go.Shelf.Ren := ⟨fun | 169 => 57 | n => n, fun | 70 => 75 | 9 => 9 | 0 => 0 | 72 => 78 | 37 => 76 | 127 => 125 | 3 => 3 | 5 => 5 | n => n, fun | n => n⟩
theorem Tryz.lays169 : Go.Proofs.Lays.n169 Tryz.prog Tryz.lays169_ren := {
  mixed := by kernel_rfl
  f169 := Tryz.func57.trans (congrArg some (by kernel_rfl))
  t0 := Tryz.underlying0
  a0 := Tryz.isAgg0
  z0 := Tryz.sizeOf0
  v0 := Tryz.zeroValue0
  t3 := Tryz.underlying3
  a3 := Tryz.isAgg3
  z3 := Tryz.sizeOf3
  v3 := Tryz.zeroValue3
  t9 := Tryz.underlying9
  a9 := Tryz.isAgg9
  z9 := Tryz.sizeOf9
  v9 := Tryz.zeroValue9
  t37 := Tryz.underlying76
  a37 := Tryz.isAgg76
  z37 := Tryz.sizeOf76
  v37 := Tryz.zeroValue76
  t70 := Tryz.underlying75
  a70 := Tryz.isAgg75
  z70 := Tryz.sizeOf75
  v70 := Tryz.zeroValue75
  t72 := Tryz.underlying78
  a72 := Tryz.isAgg78
  z72 := Tryz.sizeOf78
  v72 := Tryz.zeroValue78
  t127 := Tryz.underlying125
  a127 := Tryz.isAgg125
  z127 := Tryz.sizeOf125
  v127 := Tryz.zeroValue125 }
theorem Tryz.Builder_Extra_169 : Builder.Extra Tryz.prog Tryz.lays169_ren := {
  sizeBuilder := by kernel_rfl
  liesBuilder := by kernel_rfl
  t5 := Tryz.underlying5
  a5 := Tryz.isAgg5
  z5 := Tryz.sizeOf5
  v5 := Tryz.zeroValue5
  infoByte := by kernel_rfl
  cellsByte := by kernel_rfl
  sizeByte := by kernel_rfl
  neB5 := by decide }
open Go.RowKit in
/-- (*strings.Builder).String: "String returns the accumulated string.": WHATEVER THE BUILDER HOLDS; THE FORM '_f': OF A BUILDER THAT MAY HAVE BEEN READ BEFORE; AND IT IS A BUILDER STILL, holding the same bytes: it can be written on. (LAID: no walk: one application.) -/
theorem Tryz.Builder_String_any_f (B b : Nat) (l : List UInt8) (w : World) (h : Lib.IsBuilderF 78 5 B b (Lib.byteCells l) w) (hBw : B ≤ w.heap.size) :
    Calls Tryz.prog 57 #[.pointer (some ⟨b, 0, none⟩)] w fun e w' => e = .returned (.string ⟨l.toArray⟩) ∧ (Lib.IsBuilderF 78 5 B b (Lib.byteCells l) w' ∧ Below B w w') := Any.Builder_String_any_f Tryz.lays169 Tryz.Builder_Extra_169 B b l w h hBw
def Tryz.laysM246_ren : Go.Shelf.Ren := ⟨fun | 246 => 198 | 283 => 204 | 284 => 205 | 285 => 206 | 286 => 207 | 129 => 110 | 317 => 209 | 318 => 210 | 319 => 211 | 320 => 212 | 337 => 213 | 338 => 214 | n => n, fun | 2 => 2 | 3 => 3 | 9 => 9 | 4 => 4 | 171 => 252 | 0 => 0 | 53 => 158 | 37 => 76 | 5 => 5 | 173 => 254 | 212 => 257 | 51 => 156 | 20 => 20 | 213 => 258 | 46 => 111 | 232 => 264 | 233 => 265 | n => n, fun | 17 => 4 | 18 => 7 | 19 => 8 | n => n⟩
def Tryz.laysM173_ren : Go.Shelf.Ren := ⟨fun | 173 => 186 | 246 => 198 | 283 => 204 | 284 => 205 | 285 => 206 | 286 => 207 | 129 => 110 | 317 => 209 | 318 => 210 | 319 => 211 | 320 => 212 | 337 => 213 | 338 => 214 | n => n, fun | 2 => 2 | 3 => 3 | 9 => 9 | 4 => 4 | 171 => 252 | 0 => 0 | 53 => 158 | 37 => 76 | 5 => 5 | 173 => 254 | 212 => 257 | 51 => 156 | 20 => 20 | 213 => 258 | 46 => 111 | 232 => 264 | 233 => 265 | n => n, fun | 17 => 4 | 18 => 7 | 19 => 8 | n => n⟩
theorem Tryz.laysM173 : Go.Proofs.LaysM.n173 Tryz.prog Tryz.laysM173_ren := {
  mixed := by kernel_rfl
  f129 := Tryz.func110.trans (congrArg some (by kernel_rfl))
  f173 := Tryz.func186.trans (congrArg some (by kernel_rfl))
  f246 := Tryz.func198.trans (congrArg some (by kernel_rfl))
  f283 := Tryz.func204.trans (congrArg some (by kernel_rfl))
  f284 := Tryz.func205.trans (congrArg some (by kernel_rfl))
  f285 := Tryz.func206.trans (congrArg some (by kernel_rfl))
  f286 := Tryz.func207.trans (congrArg some (by kernel_rfl))
  f317 := Tryz.func209.trans (congrArg some (by kernel_rfl))
  f318 := Tryz.func210.trans (congrArg some (by kernel_rfl))
  f319 := Tryz.func211.trans (congrArg some (by kernel_rfl))
  f320 := Tryz.func212.trans (congrArg some (by kernel_rfl))
  f337 := Tryz.func213.trans (congrArg some (by kernel_rfl))
  f338 := Tryz.func214.trans (congrArg some (by kernel_rfl))
  t0 := Tryz.underlying0
  a0 := Tryz.isAgg0
  z0 := Tryz.sizeOf0
  v0 := Tryz.zeroValue0
  t2 := Tryz.underlying2
  a2 := Tryz.isAgg2
  z2 := Tryz.sizeOf2
  v2 := Tryz.zeroValue2
  t3 := Tryz.underlying3
  a3 := Tryz.isAgg3
  z3 := Tryz.sizeOf3
  v3 := Tryz.zeroValue3
  t4 := Tryz.underlying4
  a4 := Tryz.isAgg4
  z4 := Tryz.sizeOf4
  v4 := Tryz.zeroValue4
  t5 := Tryz.underlying5
  a5 := Tryz.isAgg5
  z5 := Tryz.sizeOf5
  v5 := Tryz.zeroValue5
  t9 := Tryz.underlying9
  a9 := Tryz.isAgg9
  z9 := Tryz.sizeOf9
  v9 := Tryz.zeroValue9
  t20 := Tryz.underlying20
  a20 := Tryz.isAgg20
  z20 := Tryz.sizeOf20
  v20 := Tryz.zeroValue20
  t37 := Tryz.underlying76
  a37 := Tryz.isAgg76
  z37 := Tryz.sizeOf76
  v37 := Tryz.zeroValue76
  t46 := Tryz.underlying111
  a46 := Tryz.isAgg111
  z46 := Tryz.sizeOf111
  v46 := Tryz.zeroValue111
  t51 := Tryz.underlying156
  a51 := Tryz.isAgg156
  z51 := Tryz.sizeOf156
  v51 := Tryz.zeroValue156
  t53 := Tryz.underlying158
  a53 := Tryz.isAgg158
  z53 := Tryz.sizeOf158
  v53 := Tryz.zeroValue158
  t171 := Tryz.underlying252
  a171 := Tryz.isAgg252
  z171 := Tryz.sizeOf252
  v171 := Tryz.zeroValue252
  t173 := Tryz.underlying254
  a173 := Tryz.isAgg254
  z173 := Tryz.sizeOf254
  v173 := Tryz.zeroValue254
  t212 := Tryz.underlying257
  a212 := Tryz.isAgg257
  z212 := Tryz.sizeOf257
  v212 := Tryz.zeroValue257
  t213 := Tryz.underlying258
  a213 := Tryz.isAgg258
  z213 := Tryz.sizeOf258
  t232 := Tryz.underlying264
  a232 := Tryz.isAgg264
  z232 := Tryz.sizeOf264
  v232 := Tryz.zeroValue264
  t233 := Tryz.underlying265
  a233 := Tryz.isAgg265
  z233 := Tryz.sizeOf265
  v233 := Tryz.zeroValue265
  g17 := by kernel_rfl
  g18 := by kernel_rfl
  g19 := by kernel_rfl
  i0 := by kernel_rfl
  i2 := by kernel_rfl
  i3 := by kernel_rfl
  i4 := by kernel_rfl
  i5 := by kernel_rfl
  i9 := by kernel_rfl
  i20 := by kernel_rfl
  i37 := by kernel_rfl
  i46 := by kernel_rfl
  i51 := by kernel_rfl
  i53 := by kernel_rfl
  i171 := by kernel_rfl
  i173 := by kernel_rfl
  i212 := by kernel_rfl
  i232 := by kernel_rfl
  i233 := by kernel_rfl
  m17 := by kernel_rfl
  m18 := by kernel_rfl
  m19 := by kernel_rfl }
open Go.RowKit Go.Sort Go.Lib in
/-- strconv.FormatInt: "FormatInt returns the string representation of i in the given base": AT BASE 10: i's decimal numeral, for every int64. (LAID: no walk: one application.) -/
theorem Tryz.strconv_FormatInt_10 (n : Int) (h0 : -9223372036854775808 ≤ n) (h1 : n ≤ 9223372036854775807) (w : World) (htab : Lib.TabIs Tryz.prog w "internal/strconv.uint64pow10" .u64 Lib.pow10Tab) :
    Calls Tryz.prog 186 #[.int .i64 n, .int .i64 10] w fun e w' => e = .returned (.string ⟨(Lib.itoa n).toArray⟩) ∧ ∃ k os, w' = grow (w.drewN k) os := Any.strconv_FormatInt_10 Tryz.laysM173 n h0 h1 w htab
def Tryz.lays219_ren : Go.Shelf.Ren := ⟨fun | 219 => 171 | 217 => 190 | 225 => 191 | 224 => 192 | 267 => 193 | 266 => 199 | 314 => 200 | n => n, fun | 9 => 9 | 3 => 3 | 4 => 4 | 5 => 5 | 46 => 111 | 146 => 246 | 51 => 156 | n => n, fun | 1 => 3 | n => n⟩
def Tryz.lays144_ren : Go.Shelf.Ren := ⟨fun | 144 => 168 | 143 => 187 | 219 => 171 | 217 => 190 | 225 => 191 | 224 => 192 | 267 => 193 | 266 => 199 | 314 => 200 | n => n, fun | 9 => 9 | 4 => 4 | 3 => 3 | 5 => 5 | 46 => 111 | 146 => 246 | 51 => 156 | n => n, fun | 1 => 3 | n => n⟩
theorem Tryz.lays144 : Go.Proofs.Lays.n144 Tryz.prog Tryz.lays144_ren := {
  mixed := by kernel_rfl
  f143 := Tryz.func187.trans (congrArg some (by kernel_rfl))
  f144 := Tryz.func168.trans (congrArg some (by kernel_rfl))
  f217 := Tryz.func190.trans (congrArg some (by kernel_rfl))
  f219 := Tryz.func171.trans (congrArg some (by kernel_rfl))
  f224 := Tryz.func192.trans (congrArg some (by kernel_rfl))
  f225 := Tryz.func191.trans (congrArg some (by kernel_rfl))
  f266 := Tryz.func199.trans (congrArg some (by kernel_rfl))
  f267 := Tryz.func193.trans (congrArg some (by kernel_rfl))
  f314 := Tryz.func200.trans (congrArg some (by kernel_rfl))
  t3 := Tryz.underlying3
  a3 := Tryz.isAgg3
  z3 := Tryz.sizeOf3
  v3 := Tryz.zeroValue3
  t4 := Tryz.underlying4
  a4 := Tryz.isAgg4
  z4 := Tryz.sizeOf4
  v4 := Tryz.zeroValue4
  t5 := Tryz.underlying5
  a5 := Tryz.isAgg5
  z5 := Tryz.sizeOf5
  v5 := Tryz.zeroValue5
  t9 := Tryz.underlying9
  a9 := Tryz.isAgg9
  z9 := Tryz.sizeOf9
  v9 := Tryz.zeroValue9
  t46 := Tryz.underlying111
  a46 := Tryz.isAgg111
  z46 := Tryz.sizeOf111
  v46 := Tryz.zeroValue111
  t51 := Tryz.underlying156
  a51 := Tryz.isAgg156
  z51 := Tryz.sizeOf156
  v51 := Tryz.zeroValue156
  t146 := Tryz.underlying246
  a146 := Tryz.isAgg246
  z146 := Tryz.sizeOf246
  v146 := Tryz.zeroValue246
  g1 := by kernel_rfl }
open Go.RowKit Go.Lib in
/-- strings.Contains: "Contains reports whether substr is within s.": IT RETURNS 'Lib.contains s substr'; the world is as it was. (LAID: no walk: one application.) -/
theorem Tryz.strings_Contains (s sub : ByteArray) (m : Int) (w : World) (hs : s.size < 4294967281) (hm : w.cell? ⟨3, 0, none⟩ = some (.int .i64 m)) :
    Calls Tryz.prog 168 #[.string s, .string sub] w fun e w' => e = .returned (.bool (Lib.contains s.data.toList sub.data.toList)) ∧ w' = w := Any.strings_Contains Tryz.lays144 s sub m w hs hm
def Tryz.lays145_ren : Go.Shelf.Ren := ⟨fun | 145 => 94 | 220 => 138 | 219 => 171 | 217 => 190 | 225 => 191 | 224 => 192 | 267 => 193 | 266 => 199 | 314 => 200 | n => n, fun | 9 => 9 | 4 => 4 | 59 => 134 | 3 => 3 | 5 => 5 | 46 => 111 | 146 => 246 | 51 => 156 | n => n, fun | 1 => 3 | n => n⟩
theorem Tryz.lays145 : Go.Proofs.Lays.n145 Tryz.prog Tryz.lays145_ren := {
  mixed := by kernel_rfl
  f145 := Tryz.func94.trans (congrArg some (by kernel_rfl))
  f217 := Tryz.func190.trans (congrArg some (by kernel_rfl))
  f219 := Tryz.func171.trans (congrArg some (by kernel_rfl))
  f220 := Tryz.func138.trans (congrArg some (by kernel_rfl))
  f224 := Tryz.func192.trans (congrArg some (by kernel_rfl))
  f225 := Tryz.func191.trans (congrArg some (by kernel_rfl))
  f266 := Tryz.func199.trans (congrArg some (by kernel_rfl))
  f267 := Tryz.func193.trans (congrArg some (by kernel_rfl))
  f314 := Tryz.func200.trans (congrArg some (by kernel_rfl))
  t3 := Tryz.underlying3
  a3 := Tryz.isAgg3
  z3 := Tryz.sizeOf3
  v3 := Tryz.zeroValue3
  t4 := Tryz.underlying4
  a4 := Tryz.isAgg4
  z4 := Tryz.sizeOf4
  v4 := Tryz.zeroValue4
  t5 := Tryz.underlying5
  a5 := Tryz.isAgg5
  z5 := Tryz.sizeOf5
  v5 := Tryz.zeroValue5
  t9 := Tryz.underlying9
  a9 := Tryz.isAgg9
  z9 := Tryz.sizeOf9
  v9 := Tryz.zeroValue9
  t46 := Tryz.underlying111
  a46 := Tryz.isAgg111
  z46 := Tryz.sizeOf111
  v46 := Tryz.zeroValue111
  t51 := Tryz.underlying156
  a51 := Tryz.isAgg156
  z51 := Tryz.sizeOf156
  v51 := Tryz.zeroValue156
  t59 := Tryz.underlying134
  a59 := Tryz.isAgg134
  z59 := Tryz.sizeOf134
  v59 := Tryz.zeroValue134
  t146 := Tryz.underlying246
  a146 := Tryz.isAgg246
  z146 := Tryz.sizeOf246
  v146 := Tryz.zeroValue246
  g1 := by kernel_rfl }
open Go.RowKit Go.Lib in
/-- strings.Cut: "Cut slices s around the first instance of sep, returning the text before and after sep. The found result reports whether sep appears in s. If sep does not appear in s, cut returns s, "", false.": IT RETURNS 'Lib.cut s sep'; the world is as it was but for the count of draws. (LAID: no walk: one application.) -/
theorem Tryz.strings_Cut (s sep : ByteArray) (m : Int) (w : World) (hs : s.size < 4294967281) (hm : w.cell? ⟨3, 0, none⟩ = some (.int .i64 m)) :
    Calls Tryz.prog 94 #[.string s, .string sep] w fun e w' => e = .returned (.tuple #[.string ⟨(Lib.cut s.data.toList sep.data.toList).1.toArray⟩, .string ⟨(Lib.cut s.data.toList sep.data.toList).2.1.toArray⟩, .bool (Lib.cut s.data.toList sep.data.toList).2.2]) ∧ ∃ n, w' = w.drewN n := Any.strings_Cut Tryz.lays145 s sep m w hs hm
def Tryz.lays207_ren : Go.Shelf.Ren := ⟨fun | 207 => 188 | n => n, fun | 9 => 9 | 4 => 4 | 3 => 3 | n => n, fun | n => n⟩
def Tryz.lays100_ren : Go.Shelf.Ren := ⟨fun | 100 => 169 | 207 => 188 | n => n, fun | 9 => 9 | 4 => 4 | 3 => 3 | n => n, fun | n => n⟩
theorem Tryz.lays100 : Go.Proofs.Lays.n100 Tryz.prog Tryz.lays100_ren := {
  mixed := by kernel_rfl
  f100 := Tryz.func169.trans (congrArg some (by kernel_rfl))
  f207 := Tryz.func188.trans (congrArg some (by kernel_rfl))
  t3 := Tryz.underlying3
  a3 := Tryz.isAgg3
  z3 := Tryz.sizeOf3
  v3 := Tryz.zeroValue3
  t4 := Tryz.underlying4
  a4 := Tryz.isAgg4
  z4 := Tryz.sizeOf4
  v4 := Tryz.zeroValue4
  t9 := Tryz.underlying9
  a9 := Tryz.isAgg9
  z9 := Tryz.sizeOf9
  v9 := Tryz.zeroValue9 }
open Go.RowKit Go.Lib in
/-- strings.HasSuffix: "HasSuffix reports whether the string s ends with suffix.": IT RETURNS 'Lib.hasSuffix s suffix'; the world is as it was. ('hs': no Go string is longer: a caller has it of every string that it was handed.) (LAID: no walk: one application.) -/
theorem Tryz.strings_HasSuffix (s p : ByteArray) (w : World) (hs : s.size ≤ 9223372036854775807) :
    Calls Tryz.prog 169 #[.string s, .string p] w fun e w' => e = .returned (.bool (Lib.hasSuffix s.data.toList p.data.toList)) ∧ w' = w := Any.strings_HasSuffix Tryz.lays100 s p w hs
def Tryz.lays221_ren : Go.Shelf.Ren := ⟨fun | 221 => 172 | 268 => 194 | 138 => 195 | 143 => 187 | 195 => 201 | 197 => 202 | 218 => 203 | 219 => 171 | 260 => 208 | 217 => 190 | 225 => 191 | 224 => 192 | 267 => 193 | 266 => 199 | 314 => 200 | n => n, fun | 9 => 9 | 3 => 3 | 31 => 23 | 4 => 4 | 0 => 0 | 105 => 249 | 21 => 21 | 5 => 5 | 46 => 111 | 119 => 260 | 139 => 263 | 138 => 262 | 146 => 246 | 51 => 156 | n => n, fun | 1 => 3 | 3 => 5 | 4 => 6 | n => n⟩
def Tryz.lays146_ren : Go.Shelf.Ren := ⟨fun | 146 => 140 | 221 => 172 | 268 => 194 | 138 => 195 | 143 => 187 | 195 => 201 | 197 => 202 | 218 => 203 | 219 => 171 | 260 => 208 | 217 => 190 | 225 => 191 | 224 => 192 | 267 => 193 | 266 => 199 | 314 => 200 | n => n, fun | 9 => 9 | 31 => 23 | 3 => 3 | 4 => 4 | 0 => 0 | 105 => 249 | 21 => 21 | 5 => 5 | 46 => 111 | 119 => 260 | 139 => 263 | 138 => 262 | 146 => 246 | 51 => 156 | n => n, fun | 1 => 3 | 3 => 5 | 4 => 6 | n => n⟩
theorem Tryz.lays146 : Go.Proofs.Lays.n146 Tryz.prog Tryz.lays146_ren := {
  mixed := by kernel_rfl
  f138 := Tryz.func195.trans (congrArg some (by kernel_rfl))
  f143 := Tryz.func187.trans (congrArg some (by kernel_rfl))
  f146 := Tryz.func140.trans (congrArg some (by kernel_rfl))
  f195 := Tryz.func201.trans (congrArg some (by kernel_rfl))
  f197 := Tryz.func202.trans (congrArg some (by kernel_rfl))
  f217 := Tryz.func190.trans (congrArg some (by kernel_rfl))
  f218 := Tryz.func203.trans (congrArg some (by kernel_rfl))
  f219 := Tryz.func171.trans (congrArg some (by kernel_rfl))
  f221 := Tryz.func172.trans (congrArg some (by kernel_rfl))
  f224 := Tryz.func192.trans (congrArg some (by kernel_rfl))
  f225 := Tryz.func191.trans (congrArg some (by kernel_rfl))
  f260 := Tryz.func208.trans (congrArg some (by kernel_rfl))
  f266 := Tryz.func199.trans (congrArg some (by kernel_rfl))
  f267 := Tryz.func193.trans (congrArg some (by kernel_rfl))
  f268 := Tryz.func194.trans (congrArg some (by kernel_rfl))
  f314 := Tryz.func200.trans (congrArg some (by kernel_rfl))
  t0 := Tryz.underlying0
  a0 := Tryz.isAgg0
  z0 := Tryz.sizeOf0
  v0 := Tryz.zeroValue0
  t3 := Tryz.underlying3
  a3 := Tryz.isAgg3
  z3 := Tryz.sizeOf3
  v3 := Tryz.zeroValue3
  t4 := Tryz.underlying4
  a4 := Tryz.isAgg4
  z4 := Tryz.sizeOf4
  v4 := Tryz.zeroValue4
  t5 := Tryz.underlying5
  a5 := Tryz.isAgg5
  z5 := Tryz.sizeOf5
  v5 := Tryz.zeroValue5
  t9 := Tryz.underlying9
  a9 := Tryz.isAgg9
  z9 := Tryz.sizeOf9
  v9 := Tryz.zeroValue9
  t21 := Tryz.underlying21
  a21 := Tryz.isAgg21
  z21 := Tryz.sizeOf21
  v21 := Tryz.zeroValue21
  t31 := Tryz.underlying23
  a31 := Tryz.isAgg23
  z31 := Tryz.sizeOf23
  v31 := Tryz.zeroValue23
  t46 := Tryz.underlying111
  a46 := Tryz.isAgg111
  z46 := Tryz.sizeOf111
  v46 := Tryz.zeroValue111
  t51 := Tryz.underlying156
  a51 := Tryz.isAgg156
  z51 := Tryz.sizeOf156
  v51 := Tryz.zeroValue156
  t105 := Tryz.underlying249
  a105 := Tryz.isAgg249
  z105 := Tryz.sizeOf249
  v105 := Tryz.zeroValue249
  t119 := Tryz.underlying260
  a119 := Tryz.isAgg260
  z119 := Tryz.sizeOf260
  t138 := Tryz.underlying262
  a138 := Tryz.isAgg262
  z138 := Tryz.sizeOf262
  v138 := Tryz.zeroValue262
  t139 := Tryz.underlying263
  a139 := Tryz.isAgg263
  z139 := Tryz.sizeOf263
  v139 := Tryz.zeroValue263
  t146 := Tryz.underlying246
  a146 := Tryz.isAgg246
  z146 := Tryz.sizeOf246
  v146 := Tryz.zeroValue246
  g1 := by kernel_rfl
  g3 := by kernel_rfl
  g4 := by kernel_rfl }
open Go.RowKit Go.Lib in
/-- strings.Split. (LAID: no walk: one application.) -/
theorem Tryz.strings_Split (s sep : ByteArray) (m : Int) (w : World) (hs : s.size < 4294967281) (hm : w.cell? ⟨3, 0, none⟩ = some (.int .i64 m)) (h1 : 1 ≤ sep.size) :
    Calls Tryz.prog 140 #[.string s, .string sep] w fun e w' =>
      e = .returned (.slice (some ⟨w.heap.size, 0, none⟩) (Lib.countB s sep + 1) (Lib.countB s sep + 1)) ∧ w' = w.alloc (.cells ((Lib.splitB sep 0 (Lib.countB s sep) s).map Value.string).toArray 9) := Any.strings_Split Tryz.lays146 (by kernel_rfl) s sep m w hs hm h1
def Tryz.laysSlH8_f51_ren : Go.Shelf.Ren := ⟨fun | 8 => 51 | 6 => 77 | n => n, fun | 22 => 23 | 23 => 9 | 25 => 73 | 4 => 4 | 3 => 3 | 0 => 0 | n => n, fun | n => n⟩
theorem Tryz.laysSlH8_f51 : Go.Proofs.SlLaysH.n8 Tryz.prog Tryz.laysSlH8_f51_ren := {
  mixed := by kernel_rfl
  f6 := ⟨Tryz.f77.name, by decide, Tryz.func77.trans (congrArg some (by kernel_rfl))⟩
  f8 := ⟨Tryz.f51.name, by decide, Tryz.func51.trans (congrArg some (by kernel_rfl))⟩
  t0 := Tryz.underlying0
  a0 := Tryz.isAgg0
  z0 := Tryz.sizeOf0
  v0 := Tryz.zeroValue0
  t3 := Tryz.underlying3
  a3 := Tryz.isAgg3
  z3 := Tryz.sizeOf3
  v3 := Tryz.zeroValue3
  t4 := Tryz.underlying4
  a4 := Tryz.isAgg4
  z4 := Tryz.sizeOf4
  v4 := Tryz.zeroValue4
  t22 := Tryz.underlying23
  a22 := Tryz.isAgg23
  z22 := Tryz.sizeOf23
  v22 := Tryz.zeroValue23
  a23 := Tryz.isAgg9
  z23 := Tryz.sizeOf9
  t25 := Tryz.underlying73
  a25 := Tryz.isAgg73
  z25 := Tryz.sizeOf73
  v25 := Tryz.zeroValue73 }
open Go.RowKit Go.Lib in
/-- slices.ContainsFunc: "ContainsFunc reports whether at least one element e of s satisfies f(e).": ITS CALLEE slices.IndexFunc IS MET BY ITS OWN CONTRACT. (LAID AT THE INSTANCE 'slices.ContainsFunc[[]string,string]': no walk: one application.) -/
theorem Tryz.slices_ContainsFunc {α : Type} [Inhabited α] (enc : α → Value) (p : α → Bool) (g : Nat) (lb : Array Value) (eg : ∀ args w, (callFunc g args).run Tryz.prog w = .ok (.enter g args) w) (b off n c : Nat) (zs : List α) (w : World) (hp : PredAt Tryz.prog g lb enc p w) (hz : n ≤ zs.length) (hbig : n ≤ 9223372036854775807) (hc : ∀ j, j < zs.length → w.cell? ⟨b, off + j, none⟩ = some (enc zs[j]!)) :
    Calls Tryz.prog 51 #[.slice (some ⟨b, off, none⟩) n c, .func (.func g) #[] lb] w fun e w' => e = .returned (.bool ((zs.take n).any p)) ∧ ∃ q, w' = w.drewN q := AnyE.slices_ContainsFunc Tryz.laysSlH8_f51 enc p g lb eg b off n c zs w hp hz hbig hc
def Tryz.laysSlH10_f139_ren : Go.Shelf.Ren := ⟨fun | 10 => 139 | 6 => 77 | n => n, fun | 22 => 23 | 23 => 9 | 25 => 73 | 3 => 3 | 4 => 4 | 0 => 0 | n => n, fun | n => n⟩
theorem Tryz.laysSlH10_f139 : Go.Proofs.SlLaysH.n10 Tryz.prog Tryz.laysSlH10_f139_ren := {
  mixed := by kernel_rfl
  f6 := ⟨Tryz.f77.name, by decide, Tryz.func77.trans (congrArg some (by kernel_rfl))⟩
  f10 := ⟨Tryz.f139.name, by decide, Tryz.func139.trans (congrArg some (by kernel_rfl))⟩
  t0 := Tryz.underlying0
  a0 := Tryz.isAgg0
  z0 := Tryz.sizeOf0
  v0 := Tryz.zeroValue0
  t3 := Tryz.underlying3
  a3 := Tryz.isAgg3
  z3 := Tryz.sizeOf3
  v3 := Tryz.zeroValue3
  t4 := Tryz.underlying4
  a4 := Tryz.isAgg4
  z4 := Tryz.sizeOf4
  v4 := Tryz.zeroValue4
  t22 := Tryz.underlying23
  a22 := Tryz.isAgg23
  z22 := Tryz.sizeOf23
  v22 := Tryz.zeroValue23
  a23 := Tryz.isAgg9
  z23 := Tryz.sizeOf9
  t25 := Tryz.underlying73
  a25 := Tryz.isAgg73
  z25 := Tryz.sizeOf73
  v25 := Tryz.zeroValue73 }
open Go.RowKit Go.Lib Go.Sort in
theorem Tryz.slices_DeleteFunc {α : Type} [Inhabited α] (enc : α → Value) (hO : OneCell enc) (p : α → Bool) (g : Nat) (lb : Array Value) (eg : ∀ args w, (callFunc g args).run Tryz.prog w = .ok (.enter g args) w) (zr : α) (v23 : ∀ w, (zeroValue 9).run Tryz.prog w = .ok (enc zr) w) (blk off cap : Nat) (d : Array α) (w : World) (hp : PredAt Tryz.prog g lb enc p w) (hpo : PredOver Tryz.prog g lb enc p blk off d.size w) (hH : Holds enc w blk off d) (hsz : d.size ≤ 9223372036854775807) (hcap : d.size ≤ cap) :
    Calls Tryz.prog 139 #[.slice (some ⟨blk, off, none⟩) d.size cap, .func (.func g) #[] lb] w fun e w' => e = .returned (.slice (some ⟨blk, off, none⟩) (d.toList.filter fun x => !p x).length cap) ∧ ∃ q, w' = putRow enc (Sort.ahead w q) blk off ((d.toList.filter fun x => !p x) ++ List.replicate (d.size - (d.toList.filter fun x => !p x).length) zr).toArray := AnyE.slices_DeleteFunc Tryz.laysSlH10_f139 enc hO p g lb eg zr v23 blk off cap d w hp hpo hH hsz hcap
end Go.Proofs
namespace Go.Proofs.YtniibpndgcndbaaGreatDoor.Tpl
open Go.RowKit Go.Proofs.YtniibpndgcndbaaGreatDoor.PB Go.Proofs.YtniibpndgcndbaaGreatDoor.Short Go.Proofs.YtniibpndgcndbaaGreatDoorW.PrintWords Go.Proofs.YtniibpndgcndbaaGreatDoorW.PrintLast Go.Proofs.YtniibpndgcndbaaGreatDoorW.PrintMore Nodes
def Glob (w : World) : Prop := (∃ m, w.cell? ⟨3, 0, none⟩ = some (.int .i64 m)) ∧ ∃ a : Addr, w.cell? ⟨1, 0, none⟩ = some (.iface 266 (.pointer (some a)))
theorem Glob.below {w w' : World} (h : Glob w) (hb : Below w.heap.size w w') : Glob w' := by obtain ⟨⟨m, hm⟩, ⟨a, ha⟩⟩ := h; exact ⟨⟨m, pw_cell_below hb hm⟩, ⟨a, pw_cell_below hb ha⟩⟩
theorem globS {w X : World} (h : Glob w) [s : Stp w X] : Glob X := h.below s.out
theorem row_form {w : World} {A : Option Addr} {p : List ByteArray} (h : Kd.string.C w A p.length p) (hp : 0 < p.length) : ∃ b off, A = some ⟨b, off, none⟩ ∧ ∀ j, j < p.length → w.cell? ⟨b, off + j, none⟩ = some (.string (p.getD j ByteArray.empty)) := by
  obtain ⟨ad, e, hc⟩ := h.2.2 hp
  have cell : ∀ j (hj : j < p.length), w.cell? (ad.add j) = some (.string p[j]) := by
    intro j hj
    obtain ⟨cs, hl, hk, hcell⟩ := hc j _ (List.getElem?_eq_getElem hj)
    have hk' : cs = [.string p[j]] := hk
    subst hk'
    have h0 := hcell 0 _ rfl
    simpa [Kd.string, Kd.scalar] using h0
  have c0 := cell 0 hp
  have hs : ad.spot = none := by
    simp only [Addr.add, if_true] at c0
    unfold World.cell? at c0
    split at c0
    · cases hsp : ad.spot with
      | none => rfl
      | some _ => rw [hsp] at c0; simp at c0
    · cases c0
  obtain ⟨b, off, sp⟩ := ad
  simp only at hs
  subst hs
  refine ⟨b, off, e, fun j hj => ?_⟩
  have := cell j hj
  rw [List.getD_eq_getElem?_getD, List.getElem?_eq_getElem hj, Option.getD_some, ← this]
  unfold Addr.add
  split
  · rename_i h; subst h; rfl
  · rfl
theorem eg_right : ∀ args w, (callFunc 189 args).run Tryz.prog w = .ok (.enter 189 args) w := enters_of Tryz.func189 (by kernel_rfl) rfl
theorem not_name (s : S) (hs : s.length ≤ 1048576) (W : World) : FnGives Tryz.prog 189 #[] #[.string (bs s)] (.bool (!nameP s)) W := by
  obtain ⟨k, hk⟩ := name_f s hs
  unfold FnGives
  have c := value_Name.calls k (bs s) _ W hk
  cases h : nameP s
  all_goals
    rw [h] at c
    go_enter Tryz.func189, Tryz.ntmps189
    go_wp2_with fail
    refine c.mono ?_
    rintro e w1 ⟨rfl, ⟨q, rfl⟩⟩
    go_wp2
    go_ret
    exact ⟨rfl, q, rfl⟩
abbrev SmS := { s : S // s.length ≤ 1048576 }
instance : Inhabited SmS := ⟨⟨[], by decide⟩⟩
def smsv (x : SmS) : Value := .string (bs x.1)
theorem pred_right (w : World) : PredAt Tryz.prog 189 #[] smsv (fun x => !nameP x.1) w := fun W x _ => not_name x.1 x.2 W
def toSm (p : List S) (h : ∀ s, s ∈ p → s.length ≤ 1048576) : List SmS := p.pmap (fun s hs => ⟨s, hs⟩) h
theorem toSm_len (p : List S) (h) : (toSm p h).length = p.length := by simp [toSm]
theorem toSm_any (p : List S) (h) (f : S → Bool) : (toSm p h).any (fun x => f x.1) = p.any f := by
  unfold toSm
  induction p with
  | nil => rfl
  | cons s r ih => simp only [List.pmap_cons, List.any_cons]; rw [ih]
theorem toSm_get (p : List S) (h) (j : Nat) (hj : j < p.length) : smsv (toSm p h)[j]! = .string ((p.map bs).getD j ByteArray.empty) := by
  have : j < (toSm p h).length := by rw [toSm_len]; exact hj
  rw [getElem!_pos (toSm p h) j this]
  simp [smsv, toSm, List.getD, hj]
set_option maxHeartbeats 1000000 in
set_option maxRecDepth 100000 in
theorem right_any (A : Option Addr) (c : Nat) (p : List S) (w : World) (hC : Kd.string.C w A p.length (p.map bs)) (hp : p.length ≤ 1048576) (hs : ∀ s, s ∈ p → s.length ≤ 1048576) :
    Calls Tryz.prog 170 #[.slice A p.length c] w fun e w' => e = .returned (.bool (pathP p)) ∧ ∃ q, w' = w.drewN q := by
  by_cases c1 : p.length < 1
  · have e : pathP p = false := by unfold pathP; simp; intro h; omega
    rw [e]
    go_enter Tryz.func170, Tryz.ntmps170
    go_wp2_with fail
    go_ret
    exact ⟨rfl, 0, rfl⟩
  by_cases c2 : 4 < p.length
  · have e : pathP p = false := by unfold pathP; simp; intro h h2; omega
    rw [e]
    go_enter Tryz.func170, Tryz.ntmps170
    go_wp2_with fail
    go_ret
    exact ⟨rfl, 0, rfl⟩
  obtain ⟨b, off, rfl, hcell⟩ := row_form (by simpa using hC) (show 0 < (p.map bs).length by simp; omega)
  have hcell' : ∀ j, j < (toSm p hs).length → w.cell? ⟨b, off + j, none⟩ = some (smsv (toSm p hs)[j]!) := by
    intro j hj
    rw [toSm_len] at hj
    rw [toSm_get p hs j hj]
    exact hcell j (by simpa using hj)
  have hcon := Aside0.mk (fun q => Tryz.slices_ContainsFunc smsv (fun x => !nameP x.1) 189 #[] eg_right b off p.length c (toSm p hs) (w.drewN q) (pred_right _) (by rw [toSm_len]; exact Nat.le_refl _) (by omega) hcell')
  have hany : ((toSm p hs).take p.length).any (fun x => !nameP x.1) = !p.all nameP := by
    rw [List.take_of_length_le (by rw [toSm_len]; exact Nat.le_refl _), toSm_any p hs (fun s => !nameP s)]
    rw [← List.not_all_eq_any_not]
  have h0 : w.cell? ⟨b, off, none⟩ = some (.string (bs (p.getD 0 []))) := by
    have := hcell 0 (by simp; omega)
    rw [List.getD_eq_getElem?_getD, List.getElem?_map] at this
    rw [show off + 0 = off from rfl] at this
    rw [this]
    simp [List.getD, show 0 < p.length by omega]
  have hpp : pathP p = (!(p.length == 1 && special (p.getD 0 [])) && p.all nameP) := by
    unfold pathP; rw [decide_eq_true (show 1 ≤ p.length by omega), decide_eq_true (show p.length ≤ 4 by omega)]; rfl
  rw [hpp]
  clear hpp
  have hown := scan_own.calls 5 (bs (p.getD 0 [])) _ w (own_f _)
  have hsp := own_special (p.getD 0 [])
  rw [hsp]
  clear hsp
  generalize p.getD 0 [] = s0 at *
  generalize ownP s0 = o at *
  have hall : (!((!p.all nameP))) = p.all nameP := by simp
  by_cases c3 : p.length = 1
  · have e1 : (p.length == 1) = true := by simp [c3]
    rw [e1]
    clear e1
    have e1 : ((p.length : Int) == 1) = true := by simp [c3]
    by_cases co : o = 2
    · subst co
      rw [show (!(true && ((2 : Nat) != 2)) && p.all nameP) = p.all nameP from by simp]
      generalize p.all nameP = r at *
      go_enter Tryz.func170, Tryz.ntmps170
      go_wp2_with fail
      refine hown.mono ?_
      rintro e w1 ⟨rfl, ⟨q, rfl⟩⟩
      go_wp2_with fail
      have h1 := hcon.out q
      rw [c3] at h1 hany
      refine h1.mono ?_
      rintro e w2 ⟨rfl, ⟨q2, rfl⟩⟩
      rw [hany]
      go_wp2
      go_ret
      exact ⟨by first | rfl | simp, q + q2, rfl⟩
    · have e2 : ((o : Int) != 2) = true := by rw [bne_iff_ne]; omega
      have e3 : (o != 2) = true := by rw [bne_iff_ne]; omega
      rw [e3]
      go_enter Tryz.func170, Tryz.ntmps170
      go_wp2_with fail
      refine hown.mono ?_
      rintro e w1 ⟨rfl, ⟨q, rfl⟩⟩
      go_wp2_with fail
      go_ret
      exact ⟨by simp, q, rfl⟩
  · have e1 : (p.length == 1) = false := by simp [c3]
    rw [e1]
    clear e1
    have e1 : ((p.length : Int) == 1) = false := by rw [beq_eq_false_iff_ne]; omega
    rw [show (!(false && (o != 2)) && p.all nameP) = p.all nameP from by simp]
    generalize p.all nameP = r at *
    go_enter Tryz.func170, Tryz.ntmps170
    go_wp2_with fail
    refine (hcon.out 0).mono ?_
    rintro e w2 ⟨rfl, ⟨q2, rfl⟩⟩
    rw [hany]
    go_wp2
    go_ret
    exact ⟨by first | rfl | simp, q2, rfl⟩
theorem hasOpen_any (s : S) (hs : s.length ≤ 1048576) (w : World) (hG : Glob w) : Calls Tryz.prog 168 #[.string (bs s), .string ⟨#[123, 123]⟩] w fun e w' => e = .returned (.bool (hasOpen s)) ∧ w' = w := by
  obtain ⟨⟨m, hm⟩, _⟩ := hG
  exact Tryz.strings_Contains (bs s) ⟨#[123, 123]⟩ m w (by rw [bs_size]; omega) hm
def endsB (s : S) : Bool := s.getLast? == some 123
theorem suffix1 (s : S) : Lib.hasSuffix s [123] = endsB s := by
  unfold Lib.hasSuffix endsB
  rcases List.eq_nil_or_concat s with rfl | ⟨l, x, rfl⟩
  · rfl
  · simp [List.isSuffixOf]
    first | rfl | (rw [Bool.eq_iff_iff]; simp; exact eq_comm)
theorem suffix_any (s : S) (hs : s.length ≤ 1048576) (w : World) : Calls Tryz.prog 169 #[.string (bs s), .string ⟨#[123]⟩] w fun e w' => e = .returned (.bool (endsB s)) ∧ w' = w := by
  rw [← suffix1]
  exact Tryz.strings_HasSuffix (bs s) ⟨#[123]⟩ w (by rw [bs_size]; omega)
set_option maxHeartbeats 1000000 in
set_option maxRecDepth 100000 in
theorem fine_any (A : Option Addr) (c : Nat) (x : Tok) (next txt : Bool) (w : World) (hG : Glob w) (hk : x.k < 256) (ht : x.t.length ≤ 1048576) (hC : Kd.string.C w A x.p.length (x.p.map bs)) (hp : x.p.length ≤ 1048576) (hs : ∀ s, s ∈ x.p → s.length ≤ 1048576) :
    Calls Tryz.prog 137 #[.agg #[.int .u8 x.k, .string (bs x.t), .slice A x.p.length c], .bool next, .bool txt] w fun e w' => e = .returned (.bool (fineP x next txt)) ∧ Below w.heap.size w w' := by
  obtain ⟨k, t, p⟩ := x
  simp only at *
  unfold fineP
  simp only
  by_cases k1 : k = 1
  · subst k1
    rw [if_pos rfl]
    have HG := Aside0.mk hG
    have HS := Aside0.mk hs
    clear hG hC hs
    have hopen := fun W (hW : Glob W) => hasOpen_any t ht W hW
    have hsuf := fun W => suffix_any t ht W
    generalize hasOpen t = o at *
    rw [show (t.getLast? == some 123) = endsB t from rfl]
    generalize endsB t = z at *
    have e0 : (bs t).toList.isEmpty = t.isEmpty := by rw [bs_list]
    generalize t.isEmpty = y at *
    have e1 : ((p.length : Int) == 0) = (p.length == 0) := by rw [Bool.eq_iff_iff]; simp
    generalize (p.length == 0) = n at *
    have hy : y = true ∨ y = false ∧ n = false ∨ y = false ∧ n = true ∧ o = true ∨ y = false ∧ n = true ∧ o = false ∧ txt = true ∨ y = false ∧ n = true ∧ o = false ∧ txt = false ∧ next = false ∨ y = false ∧ n = true ∧ o = false ∧ txt = false ∧ next = true := by
      cases y <;> cases n <;> cases o <;> cases txt <;> cases next <;> simp
    rcases hy with rfl | ⟨rfl, rfl⟩ | ⟨rfl, rfl, rfl⟩ | ⟨rfl, rfl, rfl, rfl⟩ | ⟨rfl, rfl, rfl, rfl, rfl⟩ | ⟨rfl, rfl, rfl, rfl, rfl⟩
    all_goals
      go_enter Tryz.func137, Tryz.ntmps137
      go_wp2_with fail
      go_quiet (first | (go_at_call 168; exact Calls.quiet_of_same (hopen _ (by exact globS HG.out))) | (go_at_call 169; exact Calls.quiet_of_same (hsuf _)))
      go_wp2
      go_ret
      exact ⟨by simp, belS (Below.refl _ _)⟩
  rw [if_neg k1]
  have n1 : ((k : Int) == 1) = false := by rw [beq_eq_false_iff_ne]; omega
  have e0 : (bs t).toList.isEmpty = t.isEmpty := by rw [bs_list]
  have e1 : ((p.length : Int) == 0) = (p.length == 0) := by rw [Bool.eq_iff_iff]; simp
  generalize (p.length == 0) = n at *
  generalize t.isEmpty = y at *
  by_cases k2 : k = 2 ∨ k = 3 ∨ k = 5
  · rw [if_pos k2]
    have hr := Aside0.mk (fun W hb => right_any A c p W (Kd.C_below hC hb) hp hs)
    clear hG hC hs e1
    generalize pathP p = z at *
    have hb : ((k : Int) == 2) = true ∨ (((k : Int) == 2) = false ∧ ((k : Int) == 3) = true) ∨ (((k : Int) == 2) = false ∧ ((k : Int) == 3) = false ∧ ((k : Int) == 5) = true) := by
      rcases k2 with rfl | rfl | rfl
      · exact .inl rfl
      · exact .inr (.inl ⟨rfl, rfl⟩)
      · exact .inr (.inr ⟨rfl, rfl, rfl⟩)
    clear k2
    cases y with
    | false =>
      rcases hb with b1 | ⟨b1, b2⟩ | ⟨b1, b2, b3⟩
      all_goals
        go_enter Tryz.func137, Tryz.ntmps137
        go_wp2_with fail
        go_ret
        exact ⟨by simp, belS (Below.refl _ _)⟩
    | true =>
      rcases hb with b1 | ⟨b1, b2⟩ | ⟨b1, b2, b3⟩
      all_goals
        go_enter Tryz.func137, Tryz.ntmps137
        go_wp2_with fail
        refine (hr.out _ (belS (Below.refl _ _))).mono ?_
        rintro e w1 ⟨rfl, ⟨q, rfl⟩⟩
        go_wp2
        go_ret
        exact ⟨by simp, belS (Below.refl _ _)⟩
  · rw [if_neg k2]
    have n2 : ((k : Int) == 2) = false := by rw [beq_eq_false_iff_ne]; omega
    have n3 : ((k : Int) == 3) = false := by rw [beq_eq_false_iff_ne]; omega
    have n5 : ((k : Int) == 5) = false := by rw [beq_eq_false_iff_ne]; omega
    clear hG hC hs
    by_cases k4 : k = 4 ∨ k = 6
    · rw [if_pos k4]
      have hb : ((k : Int) == 4) = true ∨ (((k : Int) == 4) = false ∧ ((k : Int) == 6) = true) := by
        rcases k4 with rfl | rfl
        · exact .inl rfl
        · exact .inr ⟨rfl, rfl⟩
      clear k4 k2 k1
      rcases hb with b1 | ⟨b1, b2⟩
      all_goals
        cases y
        all_goals
          go_enter Tryz.func137, Tryz.ntmps137
          go_wp2_with fail
          go_ret
          exact ⟨by simp, belS (Below.refl _ _)⟩
    · rw [if_neg k4]
      have n4 : ((k : Int) == 4) = false := by rw [beq_eq_false_iff_ne]; omega
      have n6 : ((k : Int) == 6) = false := by rw [beq_eq_false_iff_ne]; omega
      clear k4 k2 k1
      go_enter Tryz.func137, Tryz.ntmps137
      go_wp2_with fail
      go_ret
      exact ⟨by simp, belS (Below.refl _ _)⟩
end Go.Proofs.YtniibpndgcndbaaGreatDoor.Tpl
set_option linter.unusedSimpArgs false
namespace Go.Proofs.YtniibpndgcndbaaGreatDoor.Tpl
open Go.RowKit Go.Proofs.YtniibpndgcndbaaGreatDoor.PB Go.Proofs.YtniibpndgcndbaaGreatDoor.Short Go.Proofs.YtniibpndgcndbaaGreatDoorW.PrintWords Go.Proofs.YtniibpndgcndbaaGreatDoorW.PrintLast Go.Proofs.YtniibpndgcndbaaGreatDoorW.PrintMore Nodes
attribute [local go_sem ↓] Go.wp_at_zero Go.wp_at_succ
def Tok.sm (x : Tok) : Prop := x.k < 256 ∧ x.t.length ≤ 1048576 ∧ x.p.length ≤ 1048576 ∧ ∀ s, s ∈ x.p → s.length ≤ 1048576
def RdT (w : World) (A : Option Addr) (c : Nat) (l : List Tok) : Prop := kT.C w A l.length (tokv l) ∧ l.length ≤ c
theorem RdT.below {w w1 : World} {A : Option Addr} {c : Nat} {l : List Tok} (h : RdT w A c l) (hb : Below w.heap.size w w1) : RdT w1 A c l := ⟨Kd.C_below h.1 hb, h.2⟩
theorem RdT.at {w : World} {A : Option Addr} {c : Nat} {l : List Tok} (h : RdT w A c l) {i : Nat} {x : Tok} (hx : l[i]? = some x) :
    ∃ ad A2 c2, A = some ad ∧ w.cell? (ad.add (i * 3)) = some (.int .u8 x.k) ∧ w.cell? ⟨(ad.add (i * 3)).block, (ad.add (i * 3)).off + 1, none⟩ = some (.string (bs x.t)) ∧ w.cell? ⟨(ad.add (i * 3)).block, (ad.add (i * 3)).off + 2, none⟩ = some (.slice A2 x.p.length c2) ∧
      Kd.string.C w A2 x.p.length (x.p.map bs) ∧ x.p.length ≤ c2 := by
  have hi := (List.getElem?_eq_some_iff.1 hx).1
  obtain ⟨ad, A2, c2, e, x0, x1, x2, l2, i2⟩ := at_T101 h.1 (i : Int) (by omega) (by omega)
  have e0 : rd_T101 (tokv l) (i : Int) = Tok.of x := by
    unfold rd_T101 tokv
    simp [List.getD, hx]
  rw [e0] at x0 x1 x2 l2 i2
  simp only [Int.toNat_natCast, Tok.of, List.length_map] at x0 x1 x2 l2 i2
  exact ⟨ad, A2, c2, e, x0, x1, x2, i2, l2⟩
theorem toksP_drop {l : List Tok} {i : Nat} {x : Tok} (hx : l[i]? = some x) : toksP (l.drop i) = (fineP x (decide (i + 1 < l.length)) (match l[i + 1]? with | none => false | some y => y.k == 1) && toksP (l.drop (i + 1))) := by
  have hi := (List.getElem?_eq_some_iff.1 hx).1
  have e : l.drop i = x :: l.drop (i + 1) := by rw [List.drop_eq_getElem_cons hi]; congr 1; exact Option.some.inj ((List.getElem?_eq_getElem hi).symm.trans hx)
  rw [e]
  conv => lhs; unfold toksP
  congr 1
  by_cases h : i + 1 < l.length
  · have e2 := List.drop_eq_getElem_cons h
    rw [e2, List.getElem?_eq_getElem h, decide_eq_true h]
    rfl
  · rw [List.drop_eq_nil_of_le (by omega), List.getElem?_eq_none (by omega), decide_eq_false h]
    rfl
def chkT5 : Bool × List (List Nat × List Nat) := (true, [([], []), ([], []), ([], []), ([2], [2]), ([3], [3]), ([3], [3]), ([5, 3], [3, 5]), ([4, 6, 3], [3, 4, 6]), ([7, 3], [3, 7]), ([8, 3], [3, 8]), ([9, 3], [3, 9]), ([3, 10], [3, 10]), ([0, 1, 11, 3], [0, 1, 11]), ([12], [12])])
def chkB5 : List Nat := [0, 0, 0, 4, 12, 12, 44, 124, 252, 508, 1020, 2044, 4095, 8191]
theorem chktab5 : rtab .any (opsOf Tryz.f93 5) = chkT5 := by kernel_rfl
theorem chkbits5 : waitsOk chkT5.2 chkB5 = true := by kernel_rfl
set_option maxHeartbeats 2000000 in
set_option maxRecDepth 100000 in
theorem check_any (A : Option Addr) (c : Nat) (l : List Tok) (w : World) (hG : Glob w) (hR : RdT w A c l) (hl : l.length ≤ 1048576) (hs : ∀ x, x ∈ l → x.sm) :
    Calls Tryz.prog 93 #[.slice A l.length c] w fun e w' => e = .returned (.int .i64 (if toksP l = true then 0 else 2)) ∧ Below w.heap.size w w' := by
  obtain ⟨r, hr⟩ : ∃ r : Int, (if toksP l = true then 0 else 2) = r := ⟨_, rfl⟩
  rw [hr]
  have Hr := Aside0.mk hr
  clear hr
  have HR := Aside0.mk hR
  have HG := Aside0.mk hG
  have HS := Aside0.mk hs
  clear hR hG hs
  go_enter Tryz.func93, Tryz.ntmps93
  go_wp2
  go_loopw [8] (fun v wr => ∃ i : Nat, v = .int .i64 i ∧ i ≤ l.length ∧ Aside0 (toksP l = toksP (l.drop i)) ∧ Aside0 (Below w.heap.size w wr))
    (fun v _ => l.length - (intOf v).toNat)
  case atStart => exact ⟨0, rfl, Nat.zero_le _, ⟨by simp⟩, ⟨Below.refl _ _⟩⟩
  case round =>
    obtain ⟨i, rfl, hi, HE, HB⟩ := hrel
    by_cases hlt : i < l.length
    · obtain ⟨x, hx⟩ : ∃ x, l[i]? = some x := ⟨_, List.getElem?_eq_getElem hlt⟩
      have hsx := HS.out x (List.mem_of_getElem? hx)
      obtain ⟨ad, A2, c2, rfl, y0, y1, y2, i2, l2⟩ := HR.out.at hx
      replace y0 := (HB.out.cell (World.block_lt_of_cell? _ _ y0)).trans y0
      replace y1 := (HB.out.cell (World.block_lt_of_cell? _ _ y1)).trans y1
      replace y2 := (HB.out.cell (World.block_lt_of_cell? _ _ y2)).trans y2
      have hd := toksP_drop hx
      rw [← HE.out] at hd
      obtain ⟨k, t, p⟩ := x
      simp only at y0 y1 y2 i2 l2
      have HSX := Aside0.mk hsx
      clear hsx
      by_cases hn : i + 1 < l.length
      · obtain ⟨y, hy⟩ : ∃ y, l[i + 1]? = some y := ⟨_, List.getElem?_eq_getElem hn⟩
        obtain ⟨ad', _, _, e, z0, _, _, _, _⟩ := HR.out.at hy
        cases e
        replace z0 := (HB.out.cell (World.block_lt_of_cell? _ _ z0)).trans z0
        rw [hy, decide_eq_true hn] at hd
        simp only at hd
        obtain ⟨ky, ty, py⟩ := y
        simp only at z0 hd
        clear hx hy
        have hb1 : decide ((i : Int) + 1 < (l.length : Int)) = true := by rw [decide_eq_true_eq]; omega
        have hb2 : (0 : Int) ≤ (i : Int) + 1 := by omega
        have hb3 : (i : Int) + 1 < (l.length : Int) := by omega
        have hwr : IntKind.i64.wrap ((i : Int) + 1) = (i : Int) + 1 := by rw [i64_w]; unfold wrap64; omega
        have hky : ((ky : Int) == 1) = (ky == 1) := by rw [Bool.eq_iff_iff, beq_iff_eq, beq_iff_eq]; omega
        have hf := Aside0.mk (fun W hb => fine_any A2 c2 ⟨k, t, p⟩ true (ky == 1) W (HG.out.below hb) HSX.out.1 HSX.out.2.1 (Kd.C_below i2 hb) HSX.out.2.2.1 HSX.out.2.2.2)
        generalize (ky == 1) = kb at *
        generalize hF : fineP ⟨k, t, p⟩ true kb = fb at *
        go_wp2_with fail
        obtain ⟨g, hg⟩ : ∃ g, wr.heap.size = g := ⟨_, rfl⟩
        have BK := Aside0.mk (blk_new wr (.cells #[.int .u8 k, .string (bs t), .slice A2 p.length c2] 101))
        have HBw := Aside0.mk (below_alloc HB.out (.cells #[.int .u8 k, .string (bs t), .slice A2 p.length c2] 101))
        replace z0 := pw_cell_below (below_alloc (Below.refl wr.heap.size wr) (.cells #[.int .u8 k, .string (bs t), .slice A2 p.length c2] 101)) z0
        generalize wr.alloc (.cells #[.int .u8 k, .string (bs t), .slice A2 p.length c2] 101) = W at BK HBw z0 ⊢
        rw [hg] at BK ⊢
        obtain ⟨m0, m1, m2, n0, n1, n2⟩ := cells_3 BK.out
        clear y0 y1 y2 HB
        go_region_held3 (fun w' => w'.cell? ⟨g, 0, none⟩ = some (.int .u8 k) ∧ w'.cell? ⟨g, 1, none⟩ = some (.string (bs t)) ∧ w'.cell? ⟨g, 2, none⟩ = some (.slice A2 p.length c2) ∧ w'.cell? (ad.add ((i + 1) * 3)) = some (.int .u8 ky))
          (first
            | go_keep
            | (have q := cells_3 (blk_below (w := W.drew) BK.out hb4); exact ⟨q.1, q.2.1, q.2.2.1, pw_cell_below hb4 z0⟩))
          (first
            | ((go_at_call 137; refine (hf.out _ (below_drew1 HBw.out)).mono ?_; rintro e w1 ⟨rfl, hb4⟩)))
        have HB1 := Aside0.mk (below_step (below_drew1 HBw.out) hb4)
        clear hb4 hf z0
        cases fb with
        | false =>
          go_wp2
          go_ret
          exact ⟨by rw [← Hr.out, hd]; simp, HB1.out⟩
        | true =>
          go_wp2
          go_roundw
          case rel => exact ⟨i + 1, by simp, by omega, ⟨by rw [hd]; simp⟩, HB1⟩
          case measure => simp [intOf]; omega
      · rw [List.getElem?_eq_none (by omega), decide_eq_false hn] at hd
        simp only at hd
        clear hx
        have hb1 : decide ((i : Int) + 1 < (l.length : Int)) = false := by rw [decide_eq_false_iff_not]; omega
        have hf := Aside0.mk (fun W hb => fine_any A2 c2 ⟨k, t, p⟩ false false W (HG.out.below hb) HSX.out.1 HSX.out.2.1 (Kd.C_below i2 hb) HSX.out.2.2.1 HSX.out.2.2.2)
        generalize hF : fineP ⟨k, t, p⟩ false false = fb at *
        go_wp2_with fail
        obtain ⟨g, hg⟩ : ∃ g, wr.heap.size = g := ⟨_, rfl⟩
        have BK := Aside0.mk (blk_new wr (.cells #[.int .u8 k, .string (bs t), .slice A2 p.length c2] 101))
        have HBw := Aside0.mk (below_alloc HB.out (.cells #[.int .u8 k, .string (bs t), .slice A2 p.length c2] 101))
        generalize wr.alloc (.cells #[.int .u8 k, .string (bs t), .slice A2 p.length c2] 101) = W at BK HBw ⊢
        rw [hg] at BK ⊢
        obtain ⟨m0, m1, m2, n0, n1, n2⟩ := cells_3 BK.out
        clear y0 y1 y2 HB
        have HBD := Aside0.mk (below_drew1 HBw.out)
        have BKD := Aside0.mk (blk_drew BK.out)
        refine start_ (n := 14) (S := fun w' => w'.cell? ⟨g, 0, none⟩ = some (.int .u8 k) ∧ w'.cell? ⟨g, 1, none⟩ = some (.string (bs t)) ∧ w'.cell? ⟨g, 2, none⟩ = some (.slice A2 p.length c2)) (ds := []) #[false, false, false, false, false, false, false, false, false, false, false, false, false, false] (by kernel_rfl) rfl rfl ⟨m0, m1, m2⟩ (fun hHeld => ?_)
        refine with_tabW chktab5 chkbits5 (fun HT_ HW_ => ?_)
        clear m0 m1 m2 n0 n1 n2 BK HBw
        generalize W.drew = W2 at BKD HBD hHeld ⊢
        refine pure_ (i := 1) (N := some 19) (v := ?_) (a' := ?_) #[false, true, false, false, false, false, false, false, false, false, false, false, false, false] rfl rfl (any_of HT_.out (by kernel_rfl)) (fun _ _ _ h => h) (Or.inl ⟨by rfl, ?_⟩) ?_ ?_
        rotate_left
        · intro w'
          go_simp
          with_reducible rfl
        rotate_left
        · simp only [Act.put, List.setIfInBounds_toArray, List.set_cons_zero, List.set_cons_succ, i64_w, i32_w]
          rfl
        refine pure_ (i := 2) (N := some 20) (v := ?_) (a' := ?_) #[false, true, true, false, false, false, false, false, false, false, false, false, false, false] rfl rfl (any_of HT_.out (by kernel_rfl)) (fun _ _ _ h => h) (Or.inl ⟨by rfl, ?_⟩) ?_ ?_
        rotate_left
        · intro w'
          go_simp
          with_reducible rfl
        rotate_left
        · simp only [Act.put, List.setIfInBounds_toArray, List.set_cons_zero, List.set_cons_succ, i64_w, i32_w]
          rfl
        refine pure_ (i := 3) (N := some 21) (v := ?_) (a' := ?_) #[false, true, true, true, false, false, false, false, false, false, false, false, false, false] rfl rfl (any_of HT_.out (by kernel_rfl)) (fun _ _ _ h => h) (Or.inl ⟨by rfl, ?_⟩) ?_ ?_
        rotate_left
        · intro w'
          go_simp
          with_reducible rfl
        rotate_left
        · simp only [Act.put, List.setIfInBounds_toArray, List.set_cons_zero, List.set_cons_succ, i64_w, i32_w]
          rfl
        refine pure_ (i := 4) (N := some 22) (v := undef) (a' := ?_) #[false, true, true, true, true, false, false, false, false, false, false, false, false, false] rfl rfl (any_of HT_.out (by kernel_rfl)) (fun _ _ _ h => h) (Or.inr ⟨by rfl, rfl⟩) ?_ ?_
        rotate_left
        · simp only [Act.put, List.setIfInBounds_toArray, List.set_cons_zero, List.set_cons_succ, i64_w, i32_w]
          rfl
        refine pure_ (i := 5) (N := some 23) (v := undef) (a' := ?_) #[false, true, true, true, true, true, false, false, false, false, false, false, false, false] rfl rfl (any_of HT_.out (by kernel_rfl)) (fun _ _ _ h => h) (Or.inr ⟨by rfl, rfl⟩) ?_ ?_
        rotate_left
        · simp only [Act.put, List.setIfInBounds_toArray, List.set_cons_zero, List.set_cons_succ, i64_w, i32_w]
          rfl
        refine pure_ (i := 6) (N := some 24) (v := undef) (a' := ?_) #[false, true, true, true, true, true, true, false, false, false, false, false, false, false] rfl rfl (any_of HT_.out (by kernel_rfl)) (fun _ _ _ h => h) (Or.inr ⟨by rfl, rfl⟩) ?_ ?_
        rotate_left
        · simp only [Act.put, List.setIfInBounds_toArray, List.set_cons_zero, List.set_cons_succ, i64_w, i32_w]
          rfl
        refine pure_ (i := 7) (N := some 25) (v := undef) (a' := ?_) #[false, true, true, true, true, true, true, true, false, false, false, false, false, false] rfl rfl (any_of HT_.out (by kernel_rfl)) (fun _ _ _ h => h) (Or.inr ⟨by rfl, rfl⟩) ?_ ?_
        rotate_left
        · simp only [Act.put, List.setIfInBounds_toArray, List.set_cons_zero, List.set_cons_succ, i64_w, i32_w]
          rfl
        refine pure_ (i := 8) (N := some 26) (v := undef) (a' := ?_) #[false, true, true, true, true, true, true, true, true, false, false, false, false, false] rfl rfl (any_of HT_.out (by kernel_rfl)) (fun _ _ _ h => h) (Or.inr ⟨by rfl, rfl⟩) ?_ ?_
        rotate_left
        · simp only [Act.put, List.setIfInBounds_toArray, List.set_cons_zero, List.set_cons_succ, i64_w, i32_w]
          rfl
        refine pure_ (i := 9) (N := some 27) (v := undef) (a' := ?_) #[false, true, true, true, true, true, true, true, true, true, false, false, false, false] rfl rfl (any_of HT_.out (by kernel_rfl)) (fun _ _ _ h => h) (Or.inr ⟨by rfl, rfl⟩) ?_ ?_
        rotate_left
        · simp only [Act.put, List.setIfInBounds_toArray, List.set_cons_zero, List.set_cons_succ, i64_w, i32_w]
          rfl
        refine pure_ (i := 10) (N := some 28) (v := undef) (a' := ?_) #[false, true, true, true, true, true, true, true, true, true, true, false, false, false] rfl rfl (any_of HT_.out (by kernel_rfl)) (fun _ _ _ h => h) (Or.inr ⟨by rfl, rfl⟩) ?_ ?_
        rotate_left
        · simp only [Act.put, List.setIfInBounds_toArray, List.set_cons_zero, List.set_cons_succ, i64_w, i32_w]
          rfl
        refine pure_ (i := 11) (N := some 29) (v := ?_) (a' := ?_) #[false, true, true, true, true, true, true, true, true, true, true, true, false, false] rfl rfl (any_of HT_.out (by kernel_rfl)) (fun _ _ _ h => h) (Or.inl ⟨by rfl, ?_⟩) ?_ ?_
        rotate_left
        · intro w'
          go_simp
          with_reducible rfl
        rotate_left
        · simp only [Act.put, List.setIfInBounds_toArray, List.set_cons_zero, List.set_cons_succ, i64_w, i32_w]
          rfl
        refine take_ (i := 0) (N := some 18) (v := ?_) (a' := ?_) #[true, true, true, true, true, true, true, true, true, true, true, true, false, false] rfl rfl (take_ofW HT_.out HW_.out (by kernel_rfl)) (fun _ _ _ h => h) (Or.inl ⟨by rfl, ?_⟩) hHeld ?_ ?_
        rotate_left
        · rintro w' ⟨s0, s1, s2⟩
          go_simp
          with_reducible rfl
        rotate_left
        · simp only [Act.put, List.setIfInBounds_toArray, List.set_cons_zero, List.set_cons_succ, i64_w, i32_w]
          rfl
        refine one_ (i := 12) (N := some 30) #[true, true, true, true, true, true, true, true, true, true, true, true, true, false] rfl rfl (one_of HT_.out (by kernel_rfl)) (by decide) (fun K hK => ?_)
        refine goes_ Tryz.func137 (by kernel_rfl) rfl #[.agg #[.int .u8 k, .string (bs t), .slice A2 p.length c2], .bool false, .bool false] (by rfl) rfl rfl (by (try simp only [List.map_toArray, List.map_cons, List.map_nil]); first | done | rfl) ?_
        refine (hf.out _ HBD.out).mono ?_
        rintro e w1 ⟨rfl, hb4⟩
        refine ⟨_, rfl, ?_⟩
        have q := cells_3 (blk_below BKD.out hb4)
        refine hK.out _ _ ⟨q.1, q.2.1, q.2.2.1⟩ (fun hHeld => ?_)
        clear hK K
        refine norm_ (a' := ?_) ?_ ?_
        rotate_left
        · show Act.put _ (some 30) _ = _
          simp only [Act.put, List.setIfInBounds_toArray, List.set_cons_zero, List.set_cons_succ, i64_w, i32_w]
          rfl
        refine pure_ (i := 13) (N := some 31) (v := ?_) (a' := ?_) #[true, true, true, true, true, true, true, true, true, true, true, true, true, true] rfl rfl (any_of HT_.out (by kernel_rfl)) (fun _ _ _ h => h) (Or.inl ⟨by rfl, ?_⟩) ?_ ?_
        rotate_left
        · intro w'
          go_simp
          with_reducible rfl
        rotate_left
        · simp only [Act.put, List.setIfInBounds_toArray, List.set_cons_zero, List.set_cons_succ, i64_w, i32_w]
          rfl
        refine done_ (done_of HT_.out (by kernel_rfl)) ?_
        have HB1 := Aside0.mk (below_step HBD.out hb4)
        clear hb4 hf q
        cases fb with
        | false =>
          go_wp2
          go_ret
          exact ⟨by rw [← Hr.out, hd]; simp, HB1.out⟩
        | true =>
          go_wp2
          go_roundw
          case rel => exact ⟨i + 1, by simp, by omega, ⟨by rw [hd]; simp⟩, HB1⟩
          case measure => simp [intOf]; omega
    · obtain rfl : i = l.length := by omega
      go_wp2
      go_ret
      exact ⟨by rw [← Hr.out, HE.out]; simp [toksP], HB.out⟩
end Go.Proofs.YtniibpndgcndbaaGreatDoor.Tpl
namespace Go.Proofs.YtniibpndgcndbaaGreatDoor.Tpl
open Go.RowKit Go.Proofs.YtniibpndgcndbaaGreatDoor.PB Go.Proofs.YtniibpndgcndbaaGreatDoor.Short Go.Proofs.YtniibpndgcndbaaGreatDoorW.PrintWords Go.Proofs.YtniibpndgcndbaaGreatDoorW.PrintLast Go.Proofs.YtniibpndgcndbaaGreatDoorW.PrintMore Nodes
theorem toks_sm (l : Nodes) (h : l.sm) : ∀ x, x ∈ l.toks → x.sm := by
  induction l with
  | nil => intro x hx; simp [toks] at hx
  | cons k t p a b r iha ihb ihr =>
    obtain ⟨s1, s2, s3, s4, s5, s6, s7, s8, s9⟩ := h
    intro x hx
    have h4 : (⟨4, [], []⟩ : Tok).sm := ⟨by decide, by decide, by decide, fun s hs => by simp at hs⟩
    have h6 : (⟨6, [], []⟩ : Tok).sm := ⟨by decide, by decide, by decide, fun s hs => by simp at hs⟩
    simp only [toks, List.mem_cons, List.mem_append] at hx
    rcases hx with rfl | hx | hx
    · exact ⟨s1, s2, s3, s4⟩
    · by_cases hk : k = 3 ∨ k = 5
      · rw [if_pos hk] at hx
        simp only [List.mem_append, List.mem_singleton] at hx
        rcases hx with hx | hx | rfl
        · exact iha s7 x hx
        · cases hb : b.isNil with
          | true => rw [hb] at hx; simp at hx
          | false =>
            rw [hb] at hx
            simp only [Bool.false_eq_true, if_false, List.mem_cons] at hx
            rcases hx with rfl | hx
            · exact h4
            · exact ihb s8 x hx
        · exact h6
      · rw [if_neg hk] at hx; simp at hx
    · exact ihr s9 x hx
theorem rdT_of_R {w : World} {base : Nat} {ok : Nat → Prop} {v : Value} {l : List Tok} (h : kT.R 101 w base ok v (tokv l)) : ∃ A c, v = .slice A l.length c ∧ RdT w A c l := by
  obtain ⟨A, c, e, hl, hc⟩ := Kd.R_reads h
  have e2 : (tokv l).length = l.length := by simp [tokv]
  rw [e2] at e hl hc
  exact ⟨A, c, e, hc, hl⟩
set_option maxHeartbeats 1000000 in
set_option maxRecDepth 100000 in
theorem tokens_any (l : Nodes) (A : Option Addr) (c : Nat) (w : World) (hG : Glob w) (hs : l.sm) (hR : Rd w A c l) (hl : l.len ≤ 1048576) (hc : l.cnt ≤ 1048576) :
    Calls Tryz.prog 64 #[.slice A l.len c] w fun e w' => ∃ v, e = .returned (.tuple #[v, .int .i64 (if l.chk = true then 0 else 2)]) ∧ ((l.chk = true → kT.R 101 w' w.heap.size (fun k => w.heap.size ≤ k) v (tokv l.toks)) ∧ (l.chk = false → v = .slice none 0 0)) ∧ Below w.heap.size w w' := by
  have hf := fits_any l A c w hs hR hl hc
  obtain ⟨r, hr⟩ : ∃ r : Int, (if l.chk = true then 0 else 2) = r := ⟨_, rfl⟩
  rw [hr]
  have Hr := Aside0.mk hr
  have HR := Aside0.mk hR
  have HS := Aside0.mk hs
  have HG := Aside0.mk hG
  clear hr hR hs hG
  cases hfp : l.fitsP with
  | false =>
    rw [hfp] at hf
    have hch : l.chk = false := by unfold chk; rw [hfp]; rfl
    go_enter Tryz.func64, Tryz.ntmps64
    go_wp2_with fail
    refine hf.mono ?_
    rintro e w1 ⟨rfl, hb⟩
    go_wp2
    go_ret2
    exact ⟨_, by rw [← Hr.out, hch]; rfl, ⟨fun h => (by rw [hch] at h; cases h), fun _ => rfl⟩, hb⟩
  | true =>
    rw [hfp] at hf
    have hcn : l.cnt ≤ 256 := by unfold fitsP at hfp; simp at hfp; exact hfp.2
    have hlen := toks_len l
    have hchk : l.chk = toksP l.toks := by unfold chk; rw [hfp]; rfl
    go_enter Tryz.func64, Tryz.ntmps64
    go_wp2_with fail
    refine hf.mono ?_
    rintro e w1 ⟨rfl, hb⟩
    go_wp2_with fail
    refine (put_any w l.cnt l A c [] (.slice none 0 0) (fun k => w.heap.size ≤ k) w1 (Nat.le_refl _) (by simp; omega) HS.out HR.out hb (fun _ h => h) (fun k hk => Nat.le_trans hb.size hk) (Kd.R_nil _ _ _ _ _)).mono ?_
    rintro e w2 ⟨v, rfl, hO, hK⟩
    rw [List.nil_append] at hO
    have hb2 := hb.trans (hK.below (B := w.heap.size) (fun _ h => h) hb.size)
    obtain ⟨A2, c2, rfl, hRT⟩ := rdT_of_R hO
    have hO' := Aside0.mk hO
    have hb2' := Aside0.mk hb2
    clear hO hK hb
    go_wp2_with fail
    refine (check_any A2 c2 l.toks w2 (HG.out.below hb2) hRT (by simp only [tokv, List.length_map] at hlen; omega) (toks_sm l HS.out)).mono ?_
    rintro e w3 ⟨rfl, hb3⟩
    cases htp : toksP l.toks with
    | false =>
      rw [htp] at hchk
      go_wp2
      go_ret2
      exact ⟨_, by rw [← Hr.out, hchk]; rfl, ⟨fun h => (by rw [hchk] at h; cases h), fun _ => rfl⟩, below_step hb2'.out hb3⟩
    | true =>
      rw [htp] at hchk
      go_wp2
      go_ret2
      exact ⟨_, by rw [← Hr.out, hchk]; rfl, ⟨fun _ => Kd.R_below hO'.out hb3, fun h => (by rw [hchk] at h; cases h)⟩, below_step hb2'.out hb3⟩
theorem chk_any (l : Nodes) (A : Option Addr) (c : Nat) (w : World) (hG : Glob w) (hs : l.sm) (hR : Rd w A c l) (hl : l.len ≤ 1048576) (hc : l.cnt ≤ 1048576) :
    Calls Tryz.prog 34 #[.slice A l.len c] w fun e w' => e = .returned (.int .i64 (if l.chk = true then 0 else 2)) ∧ Below w.heap.size w w' := by
  have h := tokens_any l A c w hG hs hR hl hc
  generalize (if l.chk = true then (0 : Int) else 2) = r at *
  clear hG hs hR
  go_enter Tryz.func34, Tryz.ntmps34
  go_wp2_with fail
  refine h.mono ?_
  rintro e w1 ⟨v, rfl, _, hb⟩
  go_wp2
  go_ret
  exact ⟨rfl, hb⟩
end Go.Proofs.YtniibpndgcndbaaGreatDoor.Tpl
namespace Go.Proofs.YtniibpndgcndbaaGreatDoor.Tpl
open Go.RowKit Go.Proofs Go.Shelf Go.Proofs.YtniibpndgcndbaaGreatDoor.PB Go.Proofs.YtniibpndgcndbaaGreatDoor.Short Go.Proofs.YtniibpndgcndbaaGreatDoorW.PrintWords Go.Proofs.YtniibpndgcndbaaGreatDoorW.PrintLast Go.Proofs.YtniibpndgcndbaaGreatDoorW.PrintMore Nodes
attribute [local go_sem] Oper.semAt_some
structure Lk where
  k : Nat
  t : S
  A2 : Option Addr
  c2 : Nat
  p : List S
  A3 : Option Addr
  n3 : Nat
  c3 : Nat
  A4 : Option Addr
  n4 : Nat
  c4 : Nat
  lv : Nat
  wi : Bool
def Lk.enc (x : Lk) : Value := .agg #[.int .u8 x.k, .string (bs x.t), .slice x.A2 x.p.length x.c2, .slice x.A3 x.n3 x.c3, .slice x.A4 x.n4 x.c4, .int .i64 x.lv, .bool x.wi]
def Lk.er (x : Lk) : Look := ⟨x.k, x.t, x.p, x.lv, x.wi⟩
def GLk (w0 : World) := { x : Lk // (Kd.string.C w0 x.A2 x.p.length (x.p.map bs) ∧ x.p.length ≤ x.c2) ∧ x.t.length ≤ 1048576 ∧ x.lv ≤ 2000000 }
def KpN (n₀ : Nat) (W W' : World) : Prop := Below n₀ W W' ∧ ∀ (i : Nat) (cs : Array Value), W.heap[i]? = some (.cells cs 37 (0, 0)) → W'.heap[i]? = some (.cells cs 37 (0, 0))
theorem KpN.refl (n₀ : Nat) (W : World) : KpN n₀ W W := ⟨Below.refl _ _, fun _ _ h => h⟩
theorem KpN.trans {n₀ : Nat} {A B C : World} (h : KpN n₀ A B) (k : KpN n₀ B C) : KpN n₀ A C := ⟨h.1.trans k.1, fun i cs hi => k.2 i cs (h.2 i cs hi)⟩
theorem KpN.alloc {n₀ : Nat} {A B : World} (h : KpN n₀ A B) (hn : n₀ ≤ B.heap.size) (o : Obj) : KpN n₀ A (B.alloc o) := ⟨h.1.alloc hn o, fun i cs hi => blk_alloc (h.2 i cs hi) o⟩
theorem KpN.of_below {n₀ : Nat} {W W' : World} (h : Below W.heap.size W W') (hn : n₀ ≤ W.heap.size) : KpN n₀ W W' := ⟨h.mono hn, fun _ _ hi => blk_below hi h⟩
theorem KpN.set {n₀ : Nat} {W W' : World} {B : Nat} {t : TypeId} {v : Value} (h : KpN n₀ W W') (hb : Boxed W' B t v) (ht : t ≠ 37) (hn : n₀ ≤ B) (u : Value) : KpN n₀ W (W'.setCell ⟨B, 0, none⟩ u) :=
  ⟨h.1.setCell (p := ⟨B, 0, none⟩) hn _, fun i cs hi => blk_far (h.2 i cs hi) (fun e => by have e' : i = B := e; subst e'; have := (h.2 i cs hi).symm.trans hb; injection this with this; injection this with _ this; exact ht this.symm) u⟩
theorem KeepsOthers.of_below {W W' : World} (h : Below W.heap.size W W') : KeepsOthers W W' := ⟨h.size, fun _ _ hk _ => blk_below hk h⟩
theorem KpN.b {n₀ : Nat} {w : World} (hn : n₀ ≤ w.heap.size) (W : World) (l : Nat) (o o' : Obj) (hl : w.heap.size ≤ l) (h : W.heap[l]? = some o) (hc : o.isCells = false) (hw : o.isWalk = false) : KpN n₀ W (W.putObj l o') :=
  ⟨belowK_b hn W l o o' hl h hc hw, fun i cs hi => by
    rw [World.putObj_heap_other (fun e => by subst e; rw [h] at hi; cases hi; simp [Obj.isCells] at hc)]
    exact hi⟩
section
variable {w0 : World} {ys ys2 ys3 q : List (GLk w0)} {X : GLk w0} {k : Nat} {t : S} {A2 : Option Addr} {c2 : Nat} {p : List S} {A3 : Option Addr} {n3 c3 : Nat} {A4 : Option Addr} {n4 c4 : Nat} {lv : Nat} {wi kf : Bool} {a b r : Nodes} {hh : (Kd.string.C w0 A2 p.length (p.map bs) ∧ p.length ≤ c2) ∧ t.length ≤ 1048576 ∧ lv ≤ 2000000}
end
end Go.Proofs.YtniibpndgcndbaaGreatDoor.Tpl
namespace Go.Proofs.YtniibpndgcndbaaGreatDoor.Tpl
open Go.RowKit Go.Proofs Go.Shelf Go.Proofs.YtniibpndgcndbaaGreatDoor.PB Go.Proofs.YtniibpndgcndbaaGreatDoor.Short Go.Proofs.YtniibpndgcndbaaGreatDoorW.PrintWords Go.Proofs.YtniibpndgcndbaaGreatDoorW.PrintLast Go.Proofs.YtniibpndgcndbaaGreatDoorW.PrintMore Nodes
def RdS (w : World) (A : Option Addr) (c : Nat) (p : List S) : Prop := Kd.string.C w A p.length (p.map bs) ∧ p.length ≤ c
end Go.Proofs.YtniibpndgcndbaaGreatDoor.Tpl
namespace Go.Proofs.YtniibpndgcndbaaGreatDoor.Tpl
open Go.RowKit Go.Proofs.YtniibpndgcndbaaGreatDoor.PB Go.Proofs.YtniibpndgcndbaaGreatDoor.Short Go.Proofs.YtniibpndgcndbaaGreatDoorW.PrintWords Go.Proofs.YtniibpndgcndbaaGreatDoorW.PrintLast Go.Proofs.YtniibpndgcndbaaGreatDoorW.PrintMore
abbrev SV := S43
abbrev kV : Kd SV := k43
namespace Vals
def of : Vals → List SV
  | nil => []
  | cons k t n i m r => ⟨k, bs t, n, i.of, m.map bs⟩ :: r.of
theorem of_len (l : Vals) : l.of.length = l.len := by
  induction l with
  | nil => rfl
  | cons k t n i m r _ ih => simp [of, len, ih]
theorem drop_zero (l : Vals) : l.drop 0 = l := by cases l <;> rfl
theorem drop_len (l : Vals) : ∀ i, (l.drop i).len = l.len - i := by
  induction l with
  | nil => intro i; cases i <;> simp [drop, len]
  | cons k t n a m r _ ih => intro i; cases i <;> simp [drop, len, ih]
theorem drop_step {l : Vals} : ∀ {j k t n i m r}, l.drop j = cons k t n i m r → j < l.len ∧ l.drop (j + 1) = r ∧ rd_T43 l.of j = ⟨k, bs t, n, i.of, m.map bs⟩ := by
  induction l with
  | nil => intro j k t n i m r h; cases j <;> simp [drop] at h
  | cons k' t' n' i' m' r' _ ih =>
    intro j k t n i m r h
    cases j with
    | zero =>
      simp only [drop, cons.injEq] at h
      obtain ⟨rfl, rfl, rfl, rfl, rfl, rfl⟩ := h
      exact ⟨by simp [len], by simp [drop], rfl⟩
    | succ j =>
      obtain ⟨h1, h2, h3⟩ := ih h
      refine ⟨by simp [len]; exact h1, h2, ?_⟩
      rw [← h3]
      unfold rd_T43
      have e : ((j : Int) + 1).toNat = (j : Int).toNat + 1 := by omega
      simp [of, e]
theorem drop_nil {l : Vals} {i : Nat} (h : l.drop i = nil) : l.len ≤ i := by
  have := drop_len l i
  rw [h] at this
  simp only [len] at this
  omega
theorem sm_drop {l : Vals} (h : l.sm) : ∀ i, (l.drop i).sm := by
  induction l with
  | nil => intro i; cases i <;> exact trivial
  | cons k t n a m r _ ih =>
    intro i
    cases i with
    | zero => exact h
    | succ i => exact ih h.2.2.2.2.2.2.2 i
theorem cnt_drop (l : Vals) : ∀ i, (l.drop i).cnt ≤ l.cnt := by
  induction l with
  | nil => intro i; cases i <;> simp [drop]
  | cons k t n a m r _ ih =>
    intro i
    cases i with
    | zero => exact Nat.le_refl _
    | succ i => have := ih i; simp only [drop, cnt]; omega
def Rd (w : World) (A : Option Addr) (c : Nat) (l : Vals) : Prop := kV.C w A l.len l.of ∧ l.len ≤ c
theorem Rd.below {w w1 : World} {A : Option Addr} {c : Nat} {l : Vals} (h : Rd w A c l) (hb : Below w.heap.size w w1) : Rd w1 A c l := ⟨Kd.C_below h.1 hb, h.2⟩
theorem Rd.at {w : World} {A : Option Addr} {c : Nat} {l : Vals} (h : Rd w A c l) {j : Nat} {k t n i m r} (hd : l.drop j = cons k t n i m r) :
    ∃ ad A3 c3 A4 c4, A = some ad ∧ w.cell? (ad.add (j * 5)) = some (.int .u8 k) ∧ w.cell? ⟨(ad.add (j * 5)).block, (ad.add (j * 5)).off + 1, none⟩ = some (.string (bs t)) ∧ w.cell? ⟨(ad.add (j * 5)).block, (ad.add (j * 5)).off + 2, none⟩ = some (.int .i64 n) ∧
      w.cell? ⟨(ad.add (j * 5)).block, (ad.add (j * 5)).off + 3, none⟩ = some (.slice A3 i.len c3) ∧ w.cell? ⟨(ad.add (j * 5)).block, (ad.add (j * 5)).off + 4, none⟩ = some (.slice A4 m.length c4) ∧ Rd w A3 c3 i ∧ RdS w A4 c4 m := by
  obtain ⟨h1, _, h3⟩ := drop_step hd
  have hq : ((j : Int) < l.len) := by omega
  obtain ⟨ad, A3, c3, A4, c4, e, x0, x1, x2, x3, x4, l3, i3, l4, i4⟩ := at_T43 h.1 (j : Int) (by omega) hq
  rw [h3] at x0 x1 x2 x3 x4 l3 i3 l4 i4
  simp only [Int.toNat_natCast, List.length_map, of_len] at x0 x1 x2 x3 x4 l3 i3 l4 i4
  exact ⟨ad, A3, c3, A4, c4, e, x0, x1, x2, x3, x4, ⟨i3, l3⟩, ⟨by simpa using i4, l4⟩⟩
end Vals
end Go.Proofs.YtniibpndgcndbaaGreatDoor.Tpl
namespace Go.Proofs.YtniibpndgcndbaaGreatDoor.Tpl
set_option linter.unusedSimpArgs false
open Go.RowKit Go.Proofs.YtniibpndgcndbaaGreatDoor.PB Go.Proofs.YtniibpndgcndbaaGreatDoor.Short Go.Proofs.YtniibpndgcndbaaGreatDoorW.PrintWords Go.Proofs.YtniibpndgcndbaaGreatDoorW.PrintLast Go.Proofs.YtniibpndgcndbaaGreatDoorW.PrintMore Nodes
theorem w_sub1 (n : Nat) (h : n ≤ 1000) (h0 : n ≠ 0) : wrap64 ((n : Int) - 1) = ((n - 1 : Nat) : Int) := by unfold wrap64; omega
end Go.Proofs.YtniibpndgcndbaaGreatDoor.Tpl
namespace Go.Proofs.YtniibpndgcndbaaGreatDoor.Tpl
set_option linter.unusedSimpArgs false
open Go.RowKit Go.Proofs.YtniibpndgcndbaaGreatDoor.PB Go.Proofs.YtniibpndgcndbaaGreatDoor.Short Go.Proofs.YtniibpndgcndbaaGreatDoorW.PrintWords Go.Proofs.YtniibpndgcndbaaGreatDoorW.PrintLast Go.Proofs.YtniibpndgcndbaaGreatDoorW.PrintMore Nodes
theorem same_l0 (p q : List S) (h : p.length = q.length) (hp : p.length ≤ 1048576) : ∀ d i, p.length - i = d → i ≤ p.length → bellmanref01_SameTexts.l0 (d + 1) (p.map bs) (q.map bs) (p.length : Int) (i : Int) = some (decide (p.drop i = q.drop i)) := by
  intro d
  induction d with
  | zero =>
    intro i h1 h2
    rw [bellmanref01_SameTexts.l0, if_neg (by omega), List.drop_eq_nil_of_le (by omega), List.drop_eq_nil_of_le (by omega)]; rfl
  | succ d ih =>
    intro i h1 h2
    have hi : i < p.length := by omega
    have hq : i < q.length := by omega
    have e1 : p.drop i = p.getD i [] :: p.drop (i + 1) := by rw [List.drop_eq_getElem_cons hi]; simp [List.getD, hi]
    have e2 : q.drop i = q.getD i [] :: q.drop (i + 1) := by rw [List.drop_eq_getElem_cons hq]; simp [List.getD, hq]
    rw [bellmanref01_SameTexts.l0, if_pos (by omega), if_pos (by omega), if_pos (by rw [List.length_map]; omega), if_pos (by rw [List.length_map]; omega), rd_map p i hi, rd_map q i hq, bs_list, bs_list, w64 i (by omega), e1, e2]
    by_cases c : p.getD i [] = q.getD i []
    · rw [if_pos c, ih (i + 1) (by omega) (by omega), c]; simp
    · rw [if_neg c]; congr 1; symm; rw [decide_eq_false_iff_not]; intro h; exact c (List.cons.inj h).1
theorem same_f (p q : List S) (hp : p.length ≤ 1048576) : ∃ k, bellmanref01_SameTexts.f k (p.map bs) (q.map bs) = some (decide (p = q)) := by
  by_cases h : p.length = q.length
  · have e := same_l0 p q h hp _ 0 rfl (Nat.zero_le _)
    refine ⟨p.length - 0 + 1, ?_⟩
    unfold bellmanref01_SameTexts.f
    rw [if_pos (by simp [h]), List.length_map]
    exact e
  · refine ⟨0, ?_⟩
    unfold bellmanref01_SameTexts.f
    rw [if_neg (by simp; omega)]
    have : p ≠ q := fun e => h (by rw [e])
    simp [this]
end Go.Proofs.YtniibpndgcndbaaGreatDoor.Tpl
namespace Go.Proofs.YtniibpndgcndbaaGreatDoor.Tpl
set_option linter.unusedSimpArgs false
open Go.RowKit Go.Proofs.YtniibpndgcndbaaGreatDoor.PB Go.Proofs.YtniibpndgcndbaaGreatDoor.Short Go.Proofs.YtniibpndgcndbaaGreatDoorW.PrintWords Go.Proofs.YtniibpndgcndbaaGreatDoorW.PrintLast Go.Proofs.YtniibpndgcndbaaGreatDoorW.PrintMore Nodes
theorem Ev.ip {α : Type} {c : Prop} [Decidable c] {a b : Nat → Option α} {r : α} (h : c) (k : Ev a r) : Ev (fun n => if c then a n else b n) r := by
  obtain ⟨K, e⟩ := k; exact ⟨K, fun n hn => (if_pos h).trans (e n hn)⟩
theorem Ev.im {α : Type} {c : Prop} [Decidable c] {a b : Nat → Option α} {r : α} (h : ¬ c) (k : Ev b r) : Ev (fun n => if c then a n else b n) r := by
  obtain ⟨K, e⟩ := k; exact ⟨K, fun n hn => (if_neg h).trans (e n hn)⟩
theorem Ev.eq {α : Type} {a : Nat → Option α} {r r' : α} (k : Ev a r) (h : r = r') : Ev a r' := h ▸ k
theorem Ev.val {α : Type} {r r' : α} (h : r = r') : Ev (fun _ => some r) r' := h ▸ Ev.now r
theorem tokv_len (l : List Tok) : (tokv l).length = l.length := by simp [tokv]
theorem beqI (a : Nat) (b : Nat) : (((a : Nat) : Int) == ((b : Nat) : Int)) = (a == b) := by rw [Bool.eq_iff_iff, beq_iff_eq, beq_iff_eq]; omega
end Go.Proofs.YtniibpndgcndbaaGreatDoor.Tpl
namespace Go.Proofs.YtniibpndgcndbaaGreatDoor.Tpl
set_option linter.unusedSimpArgs false
open Go.RowKit Go.Proofs Go.Proofs.YtniibpndgcndbaaGreatDoor.PB Go.Proofs.YtniibpndgcndbaaGreatDoor.Short Go.Proofs.YtniibpndgcndbaaGreatDoorW.PrintWords Go.Proofs.YtniibpndgcndbaaGreatDoorW.PrintLast Go.Proofs.YtniibpndgcndbaaGreatDoorW.PrintMore
theorem name_ev (s : S) (hs : s.length ≤ 1048576) : Ev (fun k => value_Name.f k (bs s)) (if nameP s = true then 0 else 13) := by
  obtain ⟨k, hk⟩ := name_f s hs
  exact Ev.of (value_Name.mono _) hk
theorem rd_bs {m : List S} {i : Nat} (hi : i < m.length) : rdOf ByteArray.empty (m.map bs) (i : Int) = bs (m.getD i []) := by
  unfold rdOf
  simp [List.getD, hi]
theorem rising_l (m : List S) (hl : m.length ≤ 1048576) (hs : ∀ s, s ∈ m → s.length ≤ 1048576) : ∀ d i, m.length - i = d → i ≤ m.length →
    Ev (fun k => value_rising.l0 k (m.map bs) (m.map bs) (m.length : Int) (i : Int)) (Vals.risingQ (if i = 0 then none else some (m.getD (i - 1) [])) (m.drop i)) := by
  intro d
  induction d with
  | zero =>
    intro i h1 h2
    refine Ev.step (fun k => by rw [value_rising.l0]) ?_
    refine Ev.im (by omega) ?_
    exact Ev.val (by rw [List.drop_eq_nil_of_le (by omega)]; rfl)
  | succ d ih =>
    intro i h1 h2
    have hi : i < m.length := by omega
    have hw := w64 i (by omega)
    have e := ih (i + 1) (by omega) (by omega)
    have hd : m.drop i = m.getD i [] :: m.drop (i + 1) := by rw [List.drop_eq_getElem_cons hi]; simp [List.getD, hi]
    have hm : m.getD i [] ∈ m := by have : m.getD i [] = m[i] := by simp [List.getD, hi]
                                    rw [this]; exact List.getElem_mem hi
    rw [if_neg (Nat.succ_ne_zero i), Nat.add_sub_cancel] at e
    rw [hd]
    refine Ev.step (fun k => by rw [value_rising.l0, rd_bs hi, hw]) ?_
    refine Ev.ip (by omega) (Ev.ip (by omega) (Ev.ip (by rw [List.length_map]; omega) ?_))
    refine Ev.bind (name_ev _ (hs _ hm)) ?_
    unfold Vals.risingQ
    cases hn : nameP (m.getD i []) with
    | false => exact Ev.im (by simp) (Ev.val (by simp))
    | true =>
      refine Ev.ip (by simp) ?_
      cases i with
      | zero =>
        refine Ev.im (by omega) ?_
        exact Ev.eq e (by simp)
      | succ j =>
        have hj : j < m.length := by omega
        have hw2 : wrap64 (((j + 1 : Nat) : Int) - 1) = (j : Int) := by unfold wrap64; omega
        refine Ev.ip (by omega) ?_
        rw [hw2]
        refine Ev.ip (by omega) (Ev.ip (by rw [List.length_map]; omega) ?_)
        rw [rd_bs hj, bytesLess_eq, bs_list, bs_list]
        rw [if_neg (Nat.succ_ne_zero j), Nat.add_sub_cancel]
        by_cases hlt : m.getD j [] < m.getD (j + 1) []
        · refine Ev.ip (by simp only [decide_eq_true_eq]; exact hlt) ?_
          exact Ev.eq e (by show _ = (true && decide (m.getD j [] < m.getD (j + 1) []) && _); rw [decide_eq_true hlt]; rfl)
        · refine Ev.im (by simp only [decide_eq_true_eq]; exact hlt) ?_
          exact Ev.val (by show false = (true && decide (m.getD j [] < m.getD (j + 1) []) && _); rw [decide_eq_false hlt]; rfl)
theorem rising_ev (m : List S) (hl : m.length ≤ 1048576) (hs : ∀ s, s ∈ m → s.length ≤ 1048576) : Ev (fun k => value_rising.f k (m.map bs)) (Vals.risingP m) := by
  have h := rising_l m hl hs m.length 0 (by omega) (Nat.zero_le _)
  unfold value_rising.f
  rw [List.length_map]
  exact Ev.eq h rfl
theorem andNot_one (a : Int) (h1 : -9223372036854775808 ≤ a) (h2 : a ≤ 9223372036854775807) : Go.bits .andNot .i64 a 1 = 0 ↔ a = 0 ∨ a = 1 := by
  have e : Go.bits .andNot .i64 a 1 = IntKind.i64.wrap ((BitVec.ofInt 64 a &&& ~~~BitVec.ofInt 64 1).toNat : Int) := rfl
  have t : (BitVec.ofInt 64 a).toNat = (a % 18446744073709551616).toNat := by simp [BitVec.toNat_ofInt]
  have n1 : (~~~BitVec.ofInt 64 1).toNat = 18446744073709551614 := by decide
  rw [e, BitVec.toNat_and, t, n1, nat_hi64_1, IntKind.wrap_i64]
  omega
theorem leafV_ev (k : Nat) (t : S) (n : Int) (i : Vals) (m : List S) (hn : -9223372036854775808 ≤ n ∧ n ≤ 9223372036854775807) (hi : i.len ≤ 1048576) (hl : m.length ≤ 1048576) (hs : ∀ s, s ∈ m → s.length ≤ 1048576) :
    Ev (fun q => value_leaf.f q k (bs t) n i.of (m.map bs)) (Vals.leafV k t n i.len m) := by
  have w1 : wrap64 ((i.len : Int) + m.length) = i.len + m.length := by unfold wrap64; omega
  have q0 : ((((i.len : Int) + m.length)) == 0) = (i.len + m.length == 0) := by rw [Bool.eq_iff_iff, beq_iff_eq, beq_iff_eq]; omega
  have qt : (bs t).toList = [] ↔ t.isEmpty = true := by rw [bs_list]; cases t <;> simp
  unfold value_leaf.f Vals.leafV
  simp only [Vals.of_len, List.length_map, w1, q0, bs_size, qt]
  by_cases k1 : k = 1
  · subst k1
    refine Ev.ip (by rfl) ?_
    rw [if_pos rfl]
    by_cases c1 : t.length ≤ 4096
    · refine Ev.ip (by omega) ?_
      by_cases c2 : n = 0
      · exact Ev.ip c2 (Ev.val (by simp [c1, c2]))
      · exact Ev.im c2 (Ev.val (by simp [c1, c2]))
    · exact Ev.im (by omega) (Ev.val (by simp [c1]))
  refine Ev.im (by omega) ?_
  rw [if_neg k1]
  by_cases k3 : k = 3
  · subst k3
    refine Ev.ip (by rfl) ?_
    rw [if_pos rfl]
    have hb := andNot_one n hn.1 hn.2
    by_cases c1 : n = 0 ∨ n = 1
    · refine Ev.ip (hb.2 c1) ?_
      have c1' : (n == 0 || n == 1) = true := by simpa using c1
      by_cases c2 : t.isEmpty = true
      · exact Ev.ip c2 (Ev.val (by rw [c1', c2]; simp))
      · exact Ev.im c2 (Ev.val (by simp only [Bool.not_eq_true] at c2; rw [c1', c2]; simp))
    · refine Ev.im (fun h => c1 (hb.1 h)) (Ev.val ?_)
      have c1' : (n == 0 || n == 1) = false := by simpa using c1
      rw [c1']; simp
  refine Ev.im (by omega) ?_
  rw [if_neg k3]
  by_cases k2 : k = 2
  · subst k2
    refine Ev.ip (by rfl) ?_
    rw [if_pos rfl]
    by_cases c2 : t.isEmpty = true
    · exact Ev.ip c2 (Ev.val (by rw [c2]; simp))
    · exact Ev.im c2 (Ev.val (by simp only [Bool.not_eq_true] at c2; rw [c2]; simp))
  refine Ev.im (by omega) ?_
  rw [if_neg k2]
  by_cases k5 : k = 5
  · subst k5
    refine Ev.ip (by rfl) ?_
    rw [if_pos rfl]
    by_cases c2 : t.isEmpty = true
    · refine Ev.ip c2 ?_
      by_cases c3 : n = 0
      · refine Ev.ip c3 ?_
        by_cases c4 : m.length = i.len
        · refine Ev.ip (by omega) ?_
          refine Ev.bind (rising_ev m hl hs) ?_
          exact Ev.val (by rw [c2, c3, c4]; simp)
        · exact Ev.im (by omega) (Ev.val (by simp [c4]))
      · exact Ev.im c3 (Ev.val (by simp [c3]))
    · exact Ev.im c2 (Ev.val (by simp only [Bool.not_eq_true] at c2; rw [c2]; simp))
  refine Ev.im (by omega) ?_
  rw [if_neg k5]
  by_cases k4 : k = 4
  · subst k4
    refine Ev.ip (by rfl) ?_
    rw [if_pos rfl]
    by_cases c2 : t.isEmpty = true
    · refine Ev.ip c2 ?_
      by_cases c3 : n = 0
      · exact Ev.ip c3 (Ev.val (by rw [c2, c3, Bool.eq_iff_iff]; simp))
      · exact Ev.im c3 (Ev.val (by simp [c3]))
    · exact Ev.im c2 (Ev.val (by simp only [Bool.not_eq_true] at c2; rw [c2]; simp))
  refine Ev.im (by omega) ?_
  rw [if_neg k4]
  exact Ev.val rfl
end Go.Proofs.YtniibpndgcndbaaGreatDoor.Tpl
namespace Go.Proofs.YtniibpndgcndbaaGreatDoor.Tpl
open Go.RowKit Go.Proofs Go.Proofs.YtniibpndgcndbaaGreatDoor.PB Go.Proofs.YtniibpndgcndbaaGreatDoor.Short Go.Proofs.YtniibpndgcndbaaGreatDoorW.PrintWords Go.Proofs.YtniibpndgcndbaaGreatDoorW.PrintLast Go.Proofs.YtniibpndgcndbaaGreatDoorW.PrintMore Nodes
attribute [local go_sem ↓] Go.wp_at_zero Go.wp_at_succ
theorem lit_R (xs : List ByteArray) (W : World) (base : Nat) (ok : Nat → Prop) (h : base ≤ W.heap.size) (hx : xs.length ≤ 1048576) (hok : ok W.heap.size) : Kd.string.R 9 (W.alloc (.cells (xs.map Value.string).toArray 9)) base ok (.slice (some ⟨W.heap.size, 0, none⟩) xs.length xs.length) xs := by
  refine Kd.R_of_own ?_ (fun k hk => by simp [Value.ownBlock] at hk; subst hk; exact hok)
  have h2 := World.ownsRow_lit (base := base) (e := 9) (size := 1) W (xs.map Value.string).toArray xs.length h (by simp [maxLen]; omega) (by simp)
  simpa [encs] using h2
theorem C_drop {w : World} {b off n i : Nat} {l : List ByteArray} (h : Kd.string.C w (some ⟨b, off, none⟩) n l) (hi : i ≤ n) : Kd.string.C w (some ⟨b, off + i, none⟩) (n - i) (l.drop i) := by
  have hl := h.1
  refine ⟨by rw [List.length_drop]; omega, by have := h.2.1; omega, fun h0 => ?_⟩
  obtain ⟨ad, e, hc⟩ := h.2.2 (by omega)
  cases e
  refine ⟨_, rfl, fun j x hj => ?_⟩
  rw [List.getElem?_drop] at hj
  obtain ⟨cs, h1, h2, h3⟩ := hc (i + j) x hj
  refine ⟨cs, h1, h2, fun q v hv => ?_⟩
  have := h3 q v hv
  rw [← this]
  congr 1
  simp only [show Kd.string.sz = 1 from rfl, Nat.mul_one, Addr.add]
  split <;> split <;> (try split) <;> simp_all <;> omega
theorem RdS.below {w w1 : World} {A : Option Addr} {c : Nat} {p : List S} (h : RdS w A c p) (hb : Below w.heap.size w w1) : RdS w1 A c p := ⟨Kd.C_below h.1 hb, h.2⟩
theorem C_none (w : World) (A : Option Addr) (m : Nat) (h : m = 0) : Kd.string.C w A m [] := by
  subst h; exact ⟨rfl, by simp, fun h => absurd h (Nat.lt_irrefl 0)⟩
end Go.Proofs.YtniibpndgcndbaaGreatDoor.Tpl
namespace Go.Proofs.YtniibpndgcndbaaGreatDoor.Tpl
open Go.RowKit Go.Proofs Go.Proofs.YtniibpndgcndbaaGreatDoor.PB Go.Proofs.YtniibpndgcndbaaGreatDoor.Short Go.Proofs.YtniibpndgcndbaaGreatDoorW.PrintWords Go.Proofs.YtniibpndgcndbaaGreatDoorW.PrintLast Go.Proofs.YtniibpndgcndbaaGreatDoorW.PrintMore Vals
theorem leafV_any (k : Nat) (t : S) (n : Int) (i : Vals) (m : List S) (A3 : Option Addr) (c3 : Nat) (A4 : Option Addr) (c4 : Nat) (W : World) (hn : -9223372036854775808 ≤ n ∧ n ≤ 9223372036854775807) (hi : i.len ≤ 1048576) (hl : m.length ≤ 1048576) (hs : ∀ s, s ∈ m → s.length ≤ 1048576) (hR : Vals.Rd W A3 c3 i) (hM : RdS W A4 c4 m) :
    Calls Tryz.prog 99 #[.agg #[.int .u8 k, .string (bs t), .int .i64 n, .slice A3 i.len c3, .slice A4 m.length c4]] W fun e w' => e = .returned (.bool (leafV k t n i.len m)) ∧ Below W.heap.size W w' := by
  obtain ⟨q, hq⟩ := (leafV_ev k t n i m hn hi hl hs).rounds
  have h := value_leaf.calls q k (bs t) n A3 c3 i.of A4 c4 (m.map bs) _ W (by rw [of_len]; exact hR.1) (by rw [of_len]; exact hR.2) (by rw [List.length_map]; exact hM.1) (by rw [List.length_map]; exact hM.2) hq
  rw [of_len, List.length_map] at h
  exact h
theorem inV_one_bad (k : Nat) (t : S) (n : Int) (i : Vals) (m : List S) (lv : Nat) (x : Int) (h : lv = 0 ∨ x - 1 < 0 ∨ leafV k t n i.len m = false) : inV (cons k t n i m nil) lv (x, false) = (x - 1, true) := by
  unfold inV
  simp only [Bool.false_eq_true, if_false]
  rw [if_pos]
  · rfl
  · rcases h with h | h | h <;> simp [h]
theorem inV_one_ok (k : Nat) (t : S) (n : Int) (i : Vals) (m : List S) (lv : Nat) (x : Int) (h1 : lv ≠ 0) (h2 : 0 ≤ x - 1) (h3 : leafV k t n i.len m = true) : inV (cons k t n i m nil) lv (x, false) = inV i (lv - 1) (x - 1, false) := by
  conv => lhs; unfold inV
  simp only [Bool.false_eq_true, if_false]
  rw [if_neg]
  · cases inV i (lv - 1) (x - 1, false); rfl
  · simp [h1, h3]; omega
theorem inV_head (k : Nat) (t : S) (n : Int) (i : Vals) (m : List S) (r : Vals) (lv : Nat) (x : Int) : inV (cons k t n i m r) lv (x, false) = inV r lv (inV (cons k t n i m Vals.nil) lv (x, false)) := by
  conv => lhs; unfold inV
  conv => rhs; rhs; unfold inV
  simp only [Bool.false_eq_true, if_false]
  rfl
theorem inV_le (l : Vals) : ∀ lv c, (inV l lv c).1 ≤ c.1 ∧ c.1 - l.cnt ≤ (inV l lv c).1 := by
  induction l with
  | nil => intro lv c; simp [inV, cnt]
  | cons k t n i m r ihi ihr =>
    intro lv c
    unfold inV
    by_cases h : c.2 = true
    · rw [if_pos h]; simp only [cnt]; omega
    · rw [if_neg h]
      simp only
      split
      · have := ihr lv (c.1 - 1, true); simp only [cnt] at this ⊢; omega
      · have h1 := ihi (lv - 1) (c.1 - 1, false)
        have h2 := ihr lv (inV i (lv - 1) (c.1 - 1, false))
        simp only [cnt] at h1 h2 ⊢
        omega
theorem inV_one_le (k : Nat) (t : S) (n : Int) (i : Vals) (m : List S) (lv : Nat) (x : Int) : (inV (cons k t n i m Vals.nil) lv (x, false)).1 ≤ x ∧ x - (1 + i.cnt) ≤ (inV (cons k t n i m Vals.nil) lv (x, false)).1 := by
  have := inV_le (cons k t n i m Vals.nil) lv (x, false)
  simp only [cnt] at this
  omega
abbrev vBox (k : Nat) (t : S) (n : Int) (A3 : Option Addr) (l3 c3 : Nat) (A4 : Option Addr) (l4 c4 : Nat) : Obj := .cells #[.int .u8 k, .string (bs t), .int .i64 n, .slice A3 l3 c3, .slice A4 l4 c4] 43
set_option maxHeartbeats 4000000 in
set_option maxRecDepth 100000 in
theorem vin_any (w0 : World) (g : Nat) (hg0 : w0.heap.size ≤ g) (M : Nat) : ∀ (k : Nat) (t : S) (n : Int) (i : Vals) (m : List S) (A3 : Option Addr) (c3 : Nat) (A4 : Option Addr) (c4 lv : Nat) (x : Int) (w : World), i.cnt < M → (cons k t n i m nil).sm → Vals.Rd w0 A3 c3 i → RdS w0 A4 c4 m → lv ≤ 8 → -1000000000 + i.cnt + 1 ≤ x → x ≤ 1000000000 → Below w0.heap.size w0 w → w.heap[g]? = some (.cells #[.int .i64 x, .bool false] 105 (0, 0)) →
    Calls Tryz.prog 68 #[.pointer (some ⟨g, 0, none⟩), .agg #[.int .u8 k, .string (bs t), .int .i64 n, .slice A3 i.len c3, .slice A4 m.length c4], .int .i64 lv] w fun e w' => e = .returned (.tuple #[]) ∧ w'.heap[g]? = some (.cells #[.int .i64 (inV (cons k t n i m nil) lv (x, false)).1, .bool (inV (cons k t n i m nil) lv (x, false)).2] 105 (0, 0)) ∧ Below w0.heap.size w0 w' ∧ KeepBut w w' g none := by
  induction M with
  | zero => intro k t n i m A3 c3 A4 c4 lv x w h; omega
  | succ M ih =>
    intro k t n i m A3 c3 A4 c4 lv x w hm hs hR hRm hlv hx0 hx1 hB hg
    obtain ⟨s1, s2, s3, s4, s5, s6, s7, _⟩ := hs
    have HR := Aside0.mk hR
    have HRM := Aside0.mk hRm
    have HB := Aside0.mk hB
    have HG := Aside0.mk hg
    have HS := Aside0.mk s7
    have hgl : g < w.heap.size := blk_lt hg
    have hGA := blk_alloc hg (vBox k t n A3 i.len c3 A4 m.length c4)
    have hNA := blk_new w (vBox k t n A3 i.len c3 A4 m.length c4)
    obtain ⟨z0, z1, f0, f1⟩ := cells_2 hg
    obtain ⟨m0, m1, m2, m3, m4, n0, n1, n2, n3, n4⟩ := cells_5 hNA
    clear hR hRm hB hg
    by_cases cA : lv = 0 ∨ x - 1 < 0
    · have e1 := inV_one_bad k t n i m lv x (by rcases cA with h | h <;> simp [h])
      rw [e1]
      clear e1
      have hl : ((lv : Int) == 0) = true ∨ ((lv : Int) == 0) = false := by cases ((lv : Int) == 0) <;> simp
      rcases hl with hl | hl
      all_goals
        go_enter Tryz.func68, Tryz.ntmps68
        go_wp2
        refine bodyPost_ret (results_none rfl _ _ _) rfl ?_
        exact ⟨rfl, blk_alloc (blk_put (blk_put HG.out 0 _ rfl) 1 _ rfl) _, below_alloc (below_set (below_set HB.out hg0) hg0) _, keep_alloc (((KeepBut.refl _ _ _).set_ _ _).set_ _ _) _⟩
    · simp only [not_or] at cA
      obtain ⟨hlv0, hxx⟩ := cA
      have hl : ((lv : Int) == 0) = false := by rw [beq_eq_false_iff_ne]; omega
      have hx3 : 0 ≤ x - 1 := by omega
      go_enter Tryz.func68, Tryz.ntmps68
      go_wp2_with fail
      have HB1 := Aside0.mk (below_alloc (below_set (j := 0) (v := .int .i64 (x - 1)) HB.out hg0) (vBox k t n A3 i.len c3 A4 m.length c4))
      have HG1 := Aside0.mk (blk_alloc (blk_put HG.out 0 (.int .i64 (x - 1)) rfl) (vBox k t n A3 i.len c3 A4 m.length c4))
      have HN1 := Aside0.mk (blk_new (w.setCell ⟨g, 0, none⟩ (.int .i64 (x - 1))) (vBox k t n A3 i.len c3 A4 m.length c4))
      rw [World.size_setCell] at HN1
      have HK1 := Aside0.mk (keep_alloc ((KeepBut.refl w g none).set_ 0 (.int .i64 (x - 1))) (vBox k t n A3 i.len c3 A4 m.length c4))
      generalize hW : (w.setCell ⟨g, 0, none⟩ (.int .i64 (x - 1))).alloc (vBox k t n A3 i.len c3 A4 m.length c4) = W at HB1 HG1 HN1 HK1
      refine (leafV_any k t n i m A3 c3 A4 c4 W s3 s4 s5 s6 (HR.out.below HB1.out) (RdS.below HRM.out HB1.out)).mono ?_
      rintro e w1 ⟨rfl, hb1⟩
      replace HG1 := Aside0.mk (blk_below HG1.out hb1)
      replace HN1 := Aside0.mk (blk_below HN1.out hb1)
      replace HB1 := Aside0.mk (below_step HB1.out hb1)
      replace HK1 := Aside0.mk (HK1.out.trans (KeepBut.of_below hb1 g none) (.inl rfl))
      have hne : w.heap.size ≠ g := by omega
      clear hb1 hW z0 z1 f0 f1 m0 m1 m2 m3 m4 n0 n1 n2 n3 n4 hGA hNA
      obtain ⟨z0, z1, f0, f1⟩ := cells_2 HG1.out
      obtain ⟨m0, m1, m2, m3, m4, n0, n1, n2, n3, n4⟩ := cells_5 HN1.out
      have hgl1 : g < w1.heap.size := blk_lt HG1.out
      cases hlf : leafV k t n i.len m with
      | false =>
        go_wp2
        refine bodyPost_ret (results_none rfl _ _ _) rfl ?_
        rw [inV_one_bad k t n i m lv x (.inr (.inr hlf))]
        exact ⟨rfl, blk_put HG1.out 1 _ rfl, below_set HB1.out hg0, HK1.out.set_ _ _⟩
      | true =>
        have e2 := inV_one_ok k t n i m lv x hlv0 hx3 hlf
        have E2 := Aside0.mk e2
        clear e2
        have hm' := hm
        have hlv1 : (lv : Int) - 1 = ((lv - 1 : Nat) : Int) := by omega
        go_wp2
        go_loopw [45] (fun v wr => ∃ (j : Nat) (x1 : Int), v = .int .i64 j ∧ j ≤ i.len ∧ x1 ≤ 1000000000 ∧ Aside0 (-1000000000 + (i.drop j).cnt ≤ x1) ∧ Aside0 (inV i (lv - 1) (x - 1, false) = inV (i.drop j) (lv - 1) (x1, false)) ∧ Aside0 (wr.heap[g]? = some (.cells #[.int .i64 x1, .bool false] 105 (0, 0))) ∧ Aside0 (Below w0.heap.size w0 wr) ∧ Aside0 (KeepBut w wr g none))
          (fun v _ => i.len - (intOf v).toNat)
        case atStart => exact ⟨0, x - 1, rfl, Nat.zero_le _, by omega, by rw [drop_zero]; exact ⟨by omega⟩, by rw [drop_zero]; exact ⟨rfl⟩, ⟨blk_put HG1.out 1 _ rfl⟩, ⟨below_set HB1.out hg0⟩, ⟨HK1.out.set_ _ _⟩⟩
        case round =>
          obtain ⟨j, x1, rfl, hj, hx2, HX, HE, HGr, HBr, HKr⟩ := hrel
          cases hd : i.drop j with
          | nil =>
            have h1 := drop_nil hd
            obtain rfl : j = i.len := by omega
            rw [hd] at HE
            clear hd
            go_wp2
            go_end0
            rw [E2.out, HE.out]
            exact ⟨rfl, HGr.out, HBr.out, HKr.out⟩
          | cons k' t' n' i' m' r' =>
            obtain ⟨h1, h2, _⟩ := drop_step hd
            obtain ⟨ad, A3', c3', A4', c4', rfl, y0, y1, y2, y3, y4, R3, R4⟩ := HR.out.at hd
            replace y0 := (HBr.out.cell (World.block_lt_of_cell? _ _ y0)).trans y0
            replace y1 := (HBr.out.cell (World.block_lt_of_cell? _ _ y1)).trans y1
            replace y2 := (HBr.out.cell (World.block_lt_of_cell? _ _ y2)).trans y2
            replace y3 := (HBr.out.cell (World.block_lt_of_cell? _ _ y3)).trans y3
            replace y4 := (HBr.out.cell (World.block_lt_of_cell? _ _ y4)).trans y4
            have hsm : (cons k' t' n' i' m' r').sm := hd ▸ sm_drop HS.out j
            have hsm1 : (cons k' t' n' i' m' Vals.nil).sm := by obtain ⟨a1, a2, a3, a4, a5, a6, a7, _⟩ := hsm; exact ⟨a1, a2, a3, a4, a5, a6, a7, trivial⟩
            have hcj := cnt_drop i j
            have hx := HX.out
            rw [hd] at hx hcj
            simp only [cnt] at hx hcj
            have hgr : g < wr.heap.size := blk_lt HGr.out
            clear z0 z1 f0 f1 m0 m1 m2 m3 m4 n0 n1 n2 n3 n4
            obtain ⟨z0, z1, f0, f1⟩ := cells_2 HGr.out
            have hstep : inV (cons k' t' n' i' m' r') (lv - 1) (x1, false) = inV r' (lv - 1) (inV (cons k' t' n' i' m' Vals.nil) (lv - 1) (x1, false)) := inV_head k' t' n' i' m' r' (lv - 1) x1
            have hle := inV_one_le k' t' n' i' m' (lv - 1) x1
            rw [hd, hstep] at HE
            have HD := Aside0.mk h2
            have HE' := Aside0.mk HE.out
            clear HE hstep hd h2
            go_wp2_with fail
            refine (ih k' t' n' i' m' A3' c3' A4' c4' (lv - 1) x1 _ (by omega) hsm1 R3 R4 (by omega) (by omega) (by omega) (below_alloc HBr.out _) (blk_alloc HGr.out _)).mono ?_
            rintro e w2 ⟨rfl, hg2, hb2, hk2⟩
            have HG2 := Aside0.mk hg2
            have HB2 := Aside0.mk hb2
            have HK2 := Aside0.mk (HKr.out.trans ((keep_alloc (KeepBut.refl _ _ _) _).trans hk2 (.inl rfl)) (.inl rfl))
            clear hg2 hb2 hk2 z0 z1 f0 f1 y0 y1 y2 y3 y4
            obtain ⟨y, b, hyb⟩ : ∃ y b, inV (cons k' t' n' i' m' Vals.nil) (lv - 1) (x1, false) = (y, b) := ⟨_, _, rfl⟩
            rw [hyb] at HG2 HE' hle
            simp only at HG2 hle
            clear hyb
            obtain ⟨z0, z1, f0, f1⟩ := cells_2 HG2.out
            have hg2' : g < w2.heap.size := blk_lt HG2.out
            cases b with
            | true =>
              go_wp2
              refine bodyPost_ret (results_none rfl _ _ _) rfl ?_
              rw [E2.out, HE'.out, inV_bad r' _ _ rfl]
              exact ⟨rfl, HG2.out, HB2.out, HK2.out⟩
            | false =>
              go_wp2
              go_roundw
              case rel => exact ⟨j + 1, y, by simp, by omega, by omega, ⟨by rw [HD.out]; omega⟩, ⟨by rw [HE'.out, HD.out]⟩, HG2, HB2, HK2⟩
              case measure => simp [intOf]; omega
end Go.Proofs.YtniibpndgcndbaaGreatDoor.Tpl
namespace Go.Proofs.YtniibpndgcndbaaGreatDoor.Tpl
open Go.RowKit Go.Proofs Go.Proofs.YtniibpndgcndbaaGreatDoor.PB Go.Proofs.YtniibpndgcndbaaGreatDoor.Short Go.Proofs.YtniibpndgcndbaaGreatDoorW.PrintWords Go.Proofs.YtniibpndgcndbaaGreatDoorW.PrintLast Go.Proofs.YtniibpndgcndbaaGreatDoorW.PrintMore Vals
set_option maxRecDepth 100000 in
theorem vchk_any (k : Nat) (t : S) (n : Int) (i : Vals) (m : List S) (A3 : Option Addr) (c3 : Nat) (A4 : Option Addr) (c4 : Nat) (w : World) (hs : (cons k t n i m Vals.nil).sm) (hR : Vals.Rd w A3 c3 i) (hM : RdS w A4 c4 m) (hc : i.cnt ≤ 1048576) :
    Calls Tryz.prog 38 #[.agg #[.int .u8 k, .string (bs t), .int .i64 n, .slice A3 i.len c3, .slice A4 m.length c4]] w fun e w' => e = .returned (.int .i64 (if chkV k t n i m = true then 0 else 2)) ∧ Below w.heap.size w w' := by
  obtain ⟨v, hv⟩ : ∃ v : Int, (if chkV k t n i m = true then 0 else 2) = v := ⟨_, rfl⟩
  rw [hv]
  have HV := Aside0.mk hv
  have HR := Aside0.mk hR
  have HM := Aside0.mk hM
  have HS := Aside0.mk hs
  clear hR hM hs hv
  go_enter Tryz.func38, Tryz.ntmps38
  go_wp2_with fail
  have hg := blk_new (w.alloc (vBox k t n A3 i.len c3 A4 m.length c4)) (.cells #[.int .i64 256, .bool false] 105)
  rw [World.size_alloc] at hg
  have hb := below_alloc (below_alloc (Below.refl w.heap.size w) (vBox k t n A3 i.len c3 A4 m.length c4)) (.cells #[.int .i64 256, .bool false] 105)
  refine (vin_any w (w.heap.size + 1) (Nat.le_succ _) (i.cnt + 1) k t n i m A3 c3 A4 c4 8 256 _ (Nat.lt_succ_self _) HS.out HR.out HM.out (by omega) (by omega) (by omega) hb hg).mono ?_
  rintro e w1 ⟨rfl, hg1, hb1, _⟩
  clear hg hb
  obtain ⟨z0, z1, f0, f1⟩ := cells_2 hg1
  rw [inV_fits] at z1
  have HB1 := Aside0.mk hb1
  have hgl := blk_lt hg1
  clear hb1 hg1 z0 f0 f1
  cases hf : chkV k t n i m
  all_goals
    rw [show fitsV (cons k t n i m Vals.nil) = _ from hf] at z1
    have HF := Aside0.mk hf
    clear hf
    simp only [Bool.not_false, Bool.not_true] at z1
    go_wp2
    go_ret
    exact ⟨by rw [← HV.out, HF.out]; rfl, HB1.out⟩
end Go.Proofs.YtniibpndgcndbaaGreatDoor.Tpl
namespace Go.Proofs.YtniibpndgcndbaaGreatDoor.Tpl
open Go.RowKit Go.Proofs Go.Proofs.YtniibpndgcndbaaGreatDoor.PB Go.Proofs.YtniibpndgcndbaaGreatDoor.Short Go.Proofs.YtniibpndgcndbaaGreatDoorW.PrintWords Go.Proofs.YtniibpndgcndbaaGreatDoorW.PrintLast Go.Proofs.YtniibpndgcndbaaGreatDoorW.PrintMore Vals
set_option maxHeartbeats 1000000 in
set_option maxRecDepth 100000 in
theorem vholds_any (k : Nat) (t : S) (n : Int) (i : Vals) (m : List S) (A3 : Option Addr) (c3 : Nat) (A4 : Option Addr) (c4 : Nat) (w : World) (hs : (cons k t n i m Vals.nil).sm) (hR : Vals.Rd w A3 c3 i) (hM : RdS w A4 c4 m) (hc : i.cnt ≤ 1048576) :
    Calls Tryz.prog 121 #[.agg #[.int .u8 k, .string (bs t), .int .i64 n, .slice A3 i.len c3, .slice A4 m.length c4]] w fun e w' => e = .returned (.tuple #[.bool (holdsV k t n i m), .int .i64 (if chkV k t n i m = true then 0 else 2)]) ∧ Below w.heap.size w w' := by
  have hb0 := below_alloc (Below.refl w.heap.size w) (vBox k t n A3 i.len c3 A4 m.length c4)
  have hn0 := blk_new w (vBox k t n A3 i.len c3 A4 m.length c4)
  have hA := vchk_any k t n i m A3 c3 A4 c4 (w.alloc (vBox k t n A3 i.len c3 A4 m.length c4)) hs (hR.below hb0) (RdS.below hM hb0) hc
  have HB0 := Aside0.mk hb0
  have HN0 := Aside0.mk hn0
  clear hR hM hs hb0 hn0
  obtain ⟨hv, he⟩ : ∃ v : Bool, holdsV k t n i m = v := ⟨_, rfl⟩
  rw [he]
  unfold holdsV at he
  cases hch : chkV k t n i m with
  | false =>
    rw [hch] at hA he
    have HE := Aside0.mk he
    clear he hch
    go_enter Tryz.func121, Tryz.ntmps121
    go_wp2_with fail
    refine hA.mono ?_
    rintro e w1 ⟨rfl, hb⟩
    have HB1 := Aside0.mk (below_step HB0.out hb)
    clear hb hA
    go_wp2
    go_ret2
    exact ⟨by rw [← HE.out]; rfl, HB1.out⟩
  | true =>
    rw [hch] at hA he
    have HE := Aside0.mk he
    clear he hch
    go_enter Tryz.func121, Tryz.ntmps121
    go_wp2_with fail
    refine hA.mono ?_
    rintro e w1 ⟨rfl, hb⟩
    have HB1 := Aside0.mk (below_step HB0.out hb)
    have hn1 := blk_below HN0.out hb
    obtain ⟨m0, m1, m2, m3, m4, n0, n1, n2, n3, n4⟩ := cells_5 hn1
    clear hb hA hn1
    have hl := bs_list t
    by_cases c1 : t = []
    · subst c1
      by_cases c2 : n = 0
      · subst c2
        go_wp2
        go_ret2
        exact ⟨by rw [← HE.out]; simp, HB1.out⟩
      · have c3 : (n == 0) = false := by simpa using c2
        have c4' : (n != 0) = true := by simpa using c2
        go_wp2
        go_ret2
        exact ⟨by rw [← HE.out, c4']; simp, HB1.out⟩
    · have c3 : t.isEmpty = false := by cases t <;> simp_all
      have c4' : (t == []) = false := by cases t <;> simp_all
      have c5 : (bs t).toList.isEmpty = false := by rw [hl]; exact c3
      have c6 : ((bs t).toList == []) = false := by rw [hl]; exact c4'
      go_wp2
      go_ret2
      exact ⟨by rw [← HE.out, c3]; simp, HB1.out⟩
end Go.Proofs.YtniibpndgcndbaaGreatDoor.Tpl
namespace Go.Proofs.YtniibpndgcndbaaGreatDoor.Tpl
open Go.RowKit Go.Proofs Go.Proofs.YtniibpndgcndbaaGreatDoor.PB Go.Proofs.YtniibpndgcndbaaGreatDoor.Short Go.Proofs.YtniibpndgcndbaaGreatDoorW.PrintWords Go.Proofs.YtniibpndgcndbaaGreatDoorW.PrintLast Go.Proofs.YtniibpndgcndbaaGreatDoorW.PrintMore Vals
theorem heapV : Kd.Heap kV := Kd.heap_fix (fun _ hd => Kd.heap_iso _ (Kd.heap_pair (Kd.heap_int _) (Kd.heap_pair Kd.heap_string (Kd.heap_pair (Kd.heap_int _) (Kd.heap_pair (Kd.heap_slice _ hd) (Kd.heap_slice _ Kd.heap_string))))))
def FdV (w : World) (ok : Nat → Prop) (A : Option Addr) (c : Nat) (l : Vals) : Prop := Kd.F kV w ok A l.len l.of ∧ l.len ≤ c
def FdS (w : World) (ok : Nat → Prop) (A : Option Addr) (c : Nat) (l : List S) : Prop := Kd.F Kd.string w ok A l.length (l.map bs) ∧ l.length ≤ c
theorem Rd.fd {w : World} {A : Option Addr} {c : Nat} {l : Vals} (h : Vals.Rd w A c l) : FdV w (fun k => k < w.heap.size) A c l := ⟨Kd.C_F heapV h.1, h.2⟩
theorem RdS.fd {w : World} {A : Option Addr} {c : Nat} {l : List S} (h : RdS w A c l) : FdS w (fun k => k < w.heap.size) A c l := ⟨Kd.C_F Kd.heap_string h.1, h.2⟩
theorem FdV.rd {w : World} {ok : Nat → Prop} {A : Option Addr} {c : Nat} {l : Vals} (h : FdV w ok A c l) : Vals.Rd w A c l := ⟨Kd.F_now h.1, h.2⟩
theorem FdS.rd {w : World} {ok : Nat → Prop} {A : Option Addr} {c : Nat} {l : List S} (h : FdS w ok A c l) : RdS w A c l := ⟨Kd.F_now h.1, h.2⟩
abbrev NV (w : World) (base : Nat) (ok : Nat → Prop) (v : Value) (l : Vals) : Prop := Kd.N kV 43 w base ok v l.of
theorem infoV : (Tryz.prog.info? 43).map (fun i => (i.zero, i.size, i.bytes)) = some (some (.agg #[.int .u8 0, .string ⟨#[]⟩, .int .i64 0, .slice none 0 0, .slice none 0 0]), 5, 80) := by kernel_rfl
theorem nv_empty (w : World) (ok : Nat → Prop) (hok : ok w.heap.size) : NV (w.alloc (.cells #[] 43)) w.heap.size ok (.slice (some ⟨w.heap.size, 0, none⟩) 0 0) Vals.nil := by
  refine Kd.R_N ⟨fun k hk => by simp [Value.ownBlock] at hk; subst hk; exact hok, [], ?_, Reps.none _ _⟩
  exact World.ownsRow_made w #[] 0 (Nat.le_refl _) (Nat.zero_le _) rfl
set_option maxHeartbeats 1000000 in
set_option maxRecDepth 100000 in
theorem cloneV_any (A : Option Addr) (c : Nat) (l : Vals) (w : World) (ok : Nat → Prop) (hF : FdV w ok A c l) (hn : l.len ≤ 1048576) (hf : ∀ k, w.heap.size ≤ k → ok k) :
    Calls Tryz.prog 165 #[.slice A l.len c] w fun e w' => ∃ Av cv, e = .returned (.slice Av l.len cv) ∧ NV w' w.heap.size ok (.slice Av l.len cv) l ∧ Below w.heap.size w w' := by
  have q24 : ∀ (w : World) (a : Option Addr) (n c n' c' : Nat), (binOp .eql 41 (.slice a n c) (.slice none n' c')).run Tryz.prog w = .ok (.bool a.isNone) w := fun w a n c n' c' => Lib.run_eql_slice_nil w _ _ a n c n' c' Tryz.underlying41
  cases A with
  | none =>
    have h0 : l.len = 0 := by
      have h := (Kd.F_now hF.1).2.2
      rcases Nat.eq_zero_or_pos l.len with h1 | h1
      · exact h1
      · obtain ⟨ad, e, _⟩ := h h1; cases e
    have h1 : l = Vals.nil := by cases l with | nil => rfl | cons => simp [Vals.len] at h0
    subst h1
    clear hF
    go_enter Tryz.func165, Tryz.ntmps165
    go_wp2
    go_ret
    exact ⟨_, _, rfl, Kd.N_nil _ _ _ _ _, Below.refl _ _⟩
  | some ad =>
    have HF := Aside0.mk hF
    have HE := Aside0.mk (nv_empty w ok (hf _ (Nat.le_refl _)))
    clear hF
    go_enter Tryz.func165, Tryz.ntmps165
    have hl : ([] : List SV).length + l.len ≤ 1048576 := by simp; omega
    have HL : Aside0 ((([] : List SV).length + l.len) * 80 ≤ 140737488355328) := ⟨by omega⟩
    have HFr : Aside0 (∀ k, (w.alloc (.cells #[] 43)).heap.size ≤ k → ok k) := ⟨fun k hk => hf k (by rw [World.size_alloc] at hk; omega)⟩
    have HS : Aside0 (w.heap.size ≤ (w.alloc (.cells #[] 43)).heap.size) := ⟨by rw [World.size_alloc]; omega⟩
    have HK : Aside0 (∀ k, (ok k ∧ k < w.heap.size) → ok k ∧ some k ≠ (Value.slice (some ⟨w.heap.size, 0, none⟩) 0 0).ownBlock) := ⟨fun k hk => ⟨hk.1, fun e => by simp [Value.ownBlock] at e; omega⟩⟩
    clear hf hl
    go_wp2_with (at_builtin; refine Kd.N_append_rows kV (w0 := w) w.heap.size rfl _ _ 41 43 _ 80 rfl Tryz.underlying41 infoV rfl (by decide) (by decide) (.slice (some ⟨w.heap.size, 0, none⟩) 0 0) [] l.of (some ad) l.len c ok (fun k => ok k ∧ k < w.heap.size) rfl rfl HE.out (Kd.F_below (Kd.F_bound HF.out.1) (below_alloc (Below.refl _ _) _)) HK.out HFr.out (below_alloc (Below.refl _ _) _) HS.out HL.out ?_; intro v1 w1 hN hB hg hat)
    obtain ⟨Av, cv, rfl⟩ := Kd.N_slice hN
    rw [List.nil_append, of_len] at *
    go_ret
    exact ⟨Av, cv, rfl, hN, hB⟩
theorem FdV.below {w0 w : World} {ok : Nat → Prop} {A : Option Addr} {c : Nat} {l : Vals} (h : FdV w0 ok A c l) (hb : Below w0.heap.size w0 w) : FdV w ok A c l := ⟨Kd.F_below h.1 hb, h.2⟩
theorem FdV.mono {w : World} {ok ok' : Nat → Prop} {A : Option Addr} {c : Nat} {l : Vals} (h : FdV w ok A c l) (hk : ∀ k, ok k → ok' k) : FdV w ok' A c l := ⟨Kd.F_mono h.1 hk, h.2⟩
theorem FdS.below {w0 w : World} {ok : Nat → Prop} {A : Option Addr} {c : Nat} {l : List S} (h : FdS w0 ok A c l) (hb : Below w0.heap.size w0 w) : FdS w ok A c l := ⟨Kd.F_below h.1 hb, h.2⟩
abbrev zBox : Obj := .cells #[.int .u8 0, .string ⟨#[]⟩, .int .i64 0, .slice none 0 0, .slice none 0 0] 43
abbrev put5 (W : World) (g o : Nat) (a0 a1 a2 a3 a4 : Value) : World := ((((W.setCell ⟨g, o, none⟩ a0).setCell ⟨g, o + 1, none⟩ a1).setCell ⟨g, o + 2, none⟩ a2).setCell ⟨g, o + 3, none⟩ a3).setCell ⟨g, o + 4, none⟩ a4
theorem put5_far {W : World} {g o : Nat} {a0 a1 a2 a3 a4 : Value} {k : Nat} (h : k ≠ g) : (put5 W g o a0 a1 a2 a3 a4).heap[k]? = W.heap[k]? := by
  unfold put5
  rw [Below.heap_setCell _ _ _ _ h, Below.heap_setCell _ _ _ _ h, Below.heap_setCell _ _ _ _ h, Below.heap_setCell _ _ _ _ h, Below.heap_setCell _ _ _ _ h]
theorem put5_below {w W : World} {g o : Nat} {a0 a1 a2 a3 a4 : Value} (h : Below w.heap.size w W) (hg : w.heap.size ≤ g) : Below w.heap.size w (put5 W g o a0 a1 a2 a3 a4) := below_set (below_set (below_set (below_set (below_set h hg) hg) hg) hg) hg
theorem put5_blk {W : World} {g t : Nat} {a0 a1 a2 a3 a4 b0 b1 b2 b3 b4 : Value} (h : W.heap[g]? = some (.cells #[a0, a1, a2, a3, a4] t (0, 0))) : (put5 W g 0 b0 b1 b2 b3 b4).heap[g]? = some (.cells #[b0, b1, b2, b3, b4] t (0, 0)) := blk_put (blk_put (blk_put (blk_put (blk_put h 0 _ rfl) 1 _ rfl) 2 _ rfl) 3 _ rfl) 4 _ rfl
theorem rd_drop {l : Vals} {j k t n i m r} (h : l.drop j = cons k t n i m r) : l.of.getD (j : Int).toNat z43 = ⟨k, bs t, n, i.of, m.map bs⟩ := (drop_step h).2.2
theorem NV_at {W : World} {base cap : Nat} {ok : Nat → Prop} {A : Option Addr} {l : Vals} {j k t n i m r} (h : NV W base ok (.slice A l.len cap) l) (hd : l.drop j = cons k t n i m r) :
    ∃ g A3 c3 A4 c4, A = some ⟨g, 0, none⟩ ∧ base ≤ g ∧ g < W.heap.size ∧ ok g ∧ (∃ cells, W.heap[g]? = some (.cells cells 43 (0, 0))) ∧ W.cell? ⟨g, j * 5, none⟩ = some (.int .u8 k) ∧ W.cell? ⟨g, j * 5 + 1, none⟩ = some (.string (bs t)) ∧ W.cell? ⟨g, j * 5 + 2, none⟩ = some (.int .i64 n) ∧
      W.cell? ⟨g, j * 5 + 3, none⟩ = some (.slice A3 i.len c3) ∧ W.cell? ⟨g, j * 5 + 4, none⟩ = some (.slice A4 m.length c4) ∧ W.frozen? ⟨g, j * 5, none⟩ = false ∧ W.frozen? ⟨g, j * 5 + 1, none⟩ = false ∧ W.frozen? ⟨g, j * 5 + 2, none⟩ = false ∧ W.frozen? ⟨g, j * 5 + 3, none⟩ = false ∧ W.frozen? ⟨g, j * 5 + 4, none⟩ = false ∧
      FdV W (fun q => ok q ∧ q ≠ g) A3 c3 i ∧ FdS W (fun q => ok q ∧ q ≠ g) A4 c4 m := by
  have hl := (drop_step hd).1
  obtain ⟨g, cap', e, hg1, hg2, hgc⟩ := Kd.N_form h (by rw [of_len]; omega)
  rw [of_len] at e
  injection e with e1 e2 e3
  subst e1
  have hok : ok g := h.1 g (by simp [Value.ownBlock])
  obtain ⟨c, hc1, hc2, hc3, hc4⟩ := Kd.N_elem h z43 (j : Int) (by omega) (by omega)
  rw [rd_drop hd] at hc2
  obtain ⟨A3, c3, A4, c4, rfl, l3, F3, l4, F4⟩ := k43_openF hc2
  simp only [List.length_map, of_len] at l3 F3 l4 F4 hc3
  have hs : Kd.sz kV = 5 := rfl
  refine ⟨g, A3, c3, A4, c4, rfl, hg1, hg2, hok, hgc, ?_⟩
  simp only [Int.toNat_natCast, hs] at hc3 hc4
  exact ⟨hc3 0 _ rfl, hc3 1 _ rfl, hc3 2 _ rfl, hc3 3 _ rfl, hc3 4 _ rfl, hc4 0, hc4 1, hc4 2, hc4 3, hc4 4, ⟨F3, l3⟩, ⟨F4, l4⟩⟩
theorem NV_set {W : World} {base cap g : Nat} {ok okp : Nat → Prop} {l : Vals} {j k t n i m r} (h : NV W base ok (.slice (some ⟨g, 0, none⟩) l.len cap) l) (hd : l.drop j = cons k t n i m r) {A3 : Option Addr} {c3 : Nat} {A4 : Option Addr} {c4 : Nat} (hV : FdV W okp A3 c3 i) (hS : FdS W okp A4 c4 m) (hk : ∀ q, okp q → ok q ∧ q ≠ g) :
    NV (put5 W g (j * 5) (.int .u8 k) (.string (bs t)) (.int .i64 n) (.slice A3 i.len c3) (.slice A4 m.length c4)) base ok (.slice (some ⟨g, 0, none⟩) l.len cap) l := by
  have hl := (drop_step hd).1
  obtain ⟨c, hc1, hc2, hc3, hc4⟩ := Kd.N_elem h z43 (j : Int) (by omega) (by omega)
  have hc1' : c.length = 5 := hc1
  have hset := Kd.N_seg (x' := (⟨k, bs t, n, i.of, m.map bs⟩ : SV)) (okp := okp) (j := 0) (seg := [.int .u8 k, .string (bs t), .int .i64 n, .slice A3 i.len c3, .slice A4 m.length c4]) h (j : Int) (by omega) (by omega) hc1 hc3 (Nat.le_refl 5) (by
    rw [List.drop_eq_nil_of_le (by rw [hc1']; exact Nat.le_refl 5), List.take_zero, List.nil_append, List.append_nil]
    have := k43_mkF W okp (⟨k, bs t, n, i.of, m.map bs⟩ : SV) (A3 := A3) (c3 := c3) (by simpa [of_len] using hV.2) (by simpa [of_len] using hV.1) (A4 := A4) (c4 := c4) (by simpa using hS.2) (by simpa using hS.1)
    simpa [of_len] using this) hk
  have h1 := hset.1
  rw [Int.toNat_natCast] at h1
  have e : l.of.set j (⟨k, bs t, n, i.of, m.map bs⟩ : SV) = l.of := by
    have hj : j < l.of.length := by rw [of_len]; exact hl
    have h2 := rd_drop hd
    rw [Int.toNat_natCast, List.getD_eq_getElem?_getD, List.getElem?_eq_getElem hj, Option.getD_some] at h2
    rw [← h2]
    exact List.set_getElem_self hj
  rw [e] at h1
  exact h1
abbrev OwnRet (k : Nat) (t : S) (n : Int) (i : Vals) (m : List S) (ok0 : Nat → Prop) (w : World) (e : Ending) (w' : World) : Prop :=
  ∃ A3 c3 A4 c4, e = .returned (.agg #[.int .u8 k, .string (bs t), .int .i64 n, .slice A3 i.len c3, .slice A4 m.length c4]) ∧ NV w' w.heap.size (fun q => ok0 q ∨ w.heap.size ≤ q) (.slice A3 i.len c3) i ∧ Kd.string.R 9 w' w.heap.size (fun q => w.heap.size ≤ q) (.slice A4 m.length c4) (m.map bs) ∧ Below w.heap.size w w'
end Go.Proofs.YtniibpndgcndbaaGreatDoor.Tpl
namespace Go.Proofs.YtniibpndgcndbaaGreatDoor.Tpl
open Go.RowKit Go.Proofs Go.Proofs.YtniibpndgcndbaaGreatDoor.PB Go.Proofs.YtniibpndgcndbaaGreatDoor.Short Go.Proofs.YtniibpndgcndbaaGreatDoorW.PrintWords Go.Proofs.YtniibpndgcndbaaGreatDoorW.PrintLast Go.Proofs.YtniibpndgcndbaaGreatDoorW.PrintMore Vals
theorem FdV.bound {w : World} {ok : Nat → Prop} {A : Option Addr} {c : Nat} {l : Vals} (h : FdV w ok A c l) : FdV w (fun q => ok q ∧ q < w.heap.size) A c l := ⟨Kd.F_bound h.1, h.2⟩
theorem FdS.mono {w : World} {ok ok' : Nat → Prop} {A : Option Addr} {c : Nat} {l : List S} (h : FdS w ok A c l) (hk : ∀ k, ok k → ok' k) : FdS w ok' A c l := ⟨Kd.F_mono h.1 hk, h.2⟩
theorem NV.fd {w : World} {base cc : Nat} {ok : Nat → Prop} {A : Option Addr} {l : Vals} (h : NV w base ok (.slice A l.len cc) l) : FdV w ok A cc l := ⟨Kd.N_F h, by have := (Kd.N_reads' h).2.1; exact this⟩
theorem RS.fd {w : World} {base cc : Nat} {ok : Nat → Prop} {A : Option Addr} {l : List S} (h : Kd.string.R 9 w base ok (.slice A l.length cc) (l.map bs)) : FdS w ok A cc l := ⟨by have := Kd.R_F h; exact this, (Kd.R_reads' h).2.1⟩
theorem own_lt1 {W w1 : World} {b q : Nat} (h1 : W.drew.heap.size ≤ w1.heap.size) (h2 : W.heap.size = b + 1 + 1) (h3 : w1.heap.size ≤ q) : b + 1 < q := by rw [World.size_drew] at h1; omega
abbrev vObj (k : Nat) (t : S) (n : Int) (i : Vals) (m : List S) (A3 : Option Addr) (c3 : Nat) (A4 : Option Addr) (c4 : Nat) : Obj := .cells #[.int .u8 k, .string (bs t), .int .i64 n, .slice A3 i.len c3, .slice A4 m.length c4] 43 (0, 0)
def OwnMid (k : Nat) (t : S) (n : Int) (i : Vals) (m : List S) (ok : Nat → Prop) (b1 : Nat) (w wx : World) : Prop :=
  ∃ Av cv Bv dv, wx.heap[b1]? = some (vObj k t n i m Bv dv Av cv) ∧ wx.heap[b1 + 1]? = some zBox ∧ NV wx b1 ok (.slice Bv i.len dv) i ∧ Kd.string.R 9 wx b1 (fun q => b1 + 1 < q) (.slice Av m.length cv) (m.map bs) ∧ Below b1 w wx
theorem own_mid {k : Nat} {t : S} {n : Int} {i : Vals} {m : List S} {ok : Nat → Prop} {b1 : Nat} {w W w1 w2 : World} {A3 : Option Addr} {c3 : Nat} {A4 : Option Addr} {c4 : Nat} {Av : Option Addr} {cv : Nat} {Bv : Option Addr} {dv : Nat} (hok1 : ¬ ok b1)
    (Hb1 : w.heap.size = b1) (Hsz : W.heap.size = b1 + 1 + 1) (HB2 : Below w.heap.size w W) (K2 : w2.heap[b1]? = some (vObj k t n i m A3 c3 A4 c4)) (HK2 : W.heap[b1 + 1]? = some zBox) (hv1 : Kd.string.R 9 w1 W.drew.heap.size (fun q => W.drew.heap.size ≤ q) (.slice Av m.length cv) (m.map bs)) (hc1 : Below W.drew.heap.size W.drew w1)
    (hv2 : NV w2 w1.heap.size ok (.slice Bv i.len dv) i) (hc2 : Below w1.heap.size w1 w2) : OwnMid k t n i m ok b1 w ((w2.setCell ⟨b1, 4, none⟩ (.slice Av m.length cv)).setCell ⟨b1, 3, none⟩ (.slice Bv i.len dv)) := by
  have hs1 := hc1.size
  rw [World.size_drew] at hs1
  have hb : Below W.heap.size W w2 := below_step (below_step (below_drew (Below.refl _ _)) hc1) hc2
  refine ⟨Av, cv, Bv, dv, blk_put (blk_put K2 4 _ rfl) 3 _ rfl, ?_, ?_, ?_, ?_⟩
  · exact blk_far (blk_far (blk_below HK2 hb) (p := ⟨b1, 4, none⟩) (by simp) _) (p := ⟨b1, 3, none⟩) (by simp) _
  · have hn : ∀ q, ok q → q ≠ b1 := fun q hq e => hok1 (e ▸ hq)
    exact Kd.N_far (p := ⟨b1, 3, none⟩) (Kd.N_far (p := ⟨b1, 4, none⟩) (Kd.N_lower hv2 (by omega)) hn _) hn _
  · have hn : ∀ q, b1 + 1 < q → q ≠ b1 := fun q hq e => by omega
    exact Kd.R_far (p := ⟨b1, 3, none⟩) (Kd.R_far (p := ⟨b1, 4, none⟩) (Kd.R_lower (Kd.R_mono (Kd.R_below hv1 hc2) (fun q hq => by rw [World.size_drew] at hq; omega)) (by rw [World.size_drew]; omega)) hn _) hn _
  · subst Hb1
    exact below_set (below_set (below_step HB2 hb) (Nat.le_refl _)) (Nat.le_refl _)
theorem own_step {k : Nat} {t : S} {n : Int} {i : Vals} {m : List S} {okk : Nat → Prop} {b1 g gx j : Nat} {w W1 w2 : World} {Bv : Option Addr} {dv : Nat} {Av : Option Addr} {cv : Nat} {B3 : Option Addr} {d3 : Nat} {B4 : Option Addr} {d4 : Nat} {k' : Nat} {t' : S} {n' : Int} {i' : Vals} {m' : List S} {r' : Vals}
    (hok1 : ¬ okk b1) (hok2 : ¬ okk (b1 + 1)) (hok3 : ∀ q, b1 + 1 < q → okk q) (Hb1 : w.heap.size = b1) (hb2 : Below W1.drew.heap.size W1.drew w2) (HN : NV W1 b1 okk (.slice (some ⟨g, 0, none⟩) i.len dv) i) (hd : i.drop j = cons k' t' n' i' m' r')
    (hn2 : NV w2 W1.drew.heap.size (fun q => (okk q ∧ q ≠ g) ∨ W1.drew.heap.size ≤ q) (.slice B3 i'.len d3) i') (hr2 : Kd.string.R 9 w2 W1.drew.heap.size (fun q => W1.drew.heap.size ≤ q) (.slice B4 m'.length d4) (m'.map bs))
    (K1 : W1.heap[b1]? = some (vObj k t n i m Bv dv Av cv)) (K2 : W1.heap[b1 + 1]? = some zBox) (HR : Kd.string.R 9 W1 b1 (fun q => b1 + 1 < q) (.slice Av m.length cv) (m.map bs)) (HB : Below b1 w W1)
    (Hg : ∃ cells, W1.heap[g]? = some (.cells cells 43 (0, 0))) (Hs : W1.heap.size = gx + 1) (hgl : g < gx + 1) (hokg : okk g) (hlt2 : b1 + 1 < gx) (hg1 : b1 ≤ g) :
    (put5 w2 g (j * 5) (.int .u8 k') (.string (bs t')) (.int .i64 n') (.slice B3 i'.len d3) (.slice B4 m'.length d4)).heap[b1]? = some (vObj k t n i m Bv dv Av cv) ∧ (put5 w2 g (j * 5) (.int .u8 k') (.string (bs t')) (.int .i64 n') (.slice B3 i'.len d3) (.slice B4 m'.length d4)).heap[b1 + 1]? = some zBox ∧
    NV (put5 w2 g (j * 5) (.int .u8 k') (.string (bs t')) (.int .i64 n') (.slice B3 i'.len d3) (.slice B4 m'.length d4)) b1 okk (.slice (some ⟨g, 0, none⟩) i.len dv) i ∧ Kd.string.R 9 (put5 w2 g (j * 5) (.int .u8 k') (.string (bs t')) (.int .i64 n') (.slice B3 i'.len d3) (.slice B4 m'.length d4)) b1 (fun q => b1 + 1 < q) (.slice Av m.length cv) (m.map bs) ∧
    Below b1 w (put5 w2 g (j * 5) (.int .u8 k') (.string (bs t')) (.int .i64 n') (.slice B3 i'.len d3) (.slice B4 m'.length d4)) := by
  have hbd : Below W1.heap.size W1 w2 := below_step (below_drew (Below.refl W1.heap.size W1)) hb2
  rw [World.size_drew] at hn2 hr2
  have hne1 : b1 ≠ g := fun e => hok1 (e ▸ hokg)
  have hne2 : b1 + 1 ≠ g := fun e => hok2 (e ▸ hokg)
  refine ⟨(put5_far hne1).trans (blk_below K1 hbd), (put5_far hne2).trans (blk_below K2 hbd), ?_, ?_, ?_⟩
  · refine NV_set (okp := fun q => (okk q ∧ q ≠ g) ∨ W1.heap.size ≤ q) (Kd.N_below HN hbd) hd (NV.fd hn2) ((RS.fd hr2).mono (fun q hq => .inr hq)) (fun q hq => ?_)
    rcases hq with hq | hq
    · exact hq
    · exact ⟨hok3 q (by omega), by omega⟩
  · obtain ⟨cl, hg⟩ := Hg
    have h1 := Kd.R_types (Kd.R_below HR hbd) (blk_below hg hbd) (by decide)
    exact Kd.R_mono (Kd.R_step h1 (fun q hq _ => put5_far hq.2)) (fun q hq => hq.1)
  · subst Hb1
    exact put5_below (HB.trans ⟨hbd.os, hbd.tape, hbd.output, hbd.size, fun q hq => hbd.block q (by omega)⟩) hg1
set_option maxHeartbeats 4000000 in
set_option maxRecDepth 100000 in
theorem own_any (M : Nat) : ∀ (k : Nat) (t : S) (n : Int) (i : Vals) (m : List S) (A3 : Option Addr) (c3 : Nat) (A4 : Option Addr) (c4 : Nat) (ok0 ok1 : Nat → Prop) (w : World), i.cnt < M → (cons k t n i m Vals.nil).sm → FdV w ok0 A3 c3 i → FdS w ok1 A4 c4 m →
    Calls Tryz.prog 133 #[.agg #[.int .u8 k, .string (bs t), .int .i64 n, .slice A3 i.len c3, .slice A4 m.length c4]] w (OwnRet k t n i m ok0 w) := by
  induction M with
  | zero => intro k t n i m A3 c3 A4 c4 ok0 ok1 w h; omega
  | succ M ih =>
    intro k t n i m A3 c3 A4 c4 ok0 ok1 w hm hs hV hS
    obtain ⟨s1, s2, s3, s4, s5, s6, s7, _⟩ := hs
    have HV := Aside0.mk hV.bound
    have HS := Aside0.mk hS
    have HSM := Aside0.mk s7
    have HM := Aside0.mk hm
    clear hV hS s7 hm
    go_enter Tryz.func133, Tryz.ntmps133
    go_upto_region 1 with (fail)
    have hb2 := below_alloc (below_alloc (Below.refl w.heap.size w) (vBox k t n A3 i.len c3 A4 m.length c4)) zBox
    have BK1 := blk_alloc (blk_new w (vBox k t n A3 i.len c3 A4 m.length c4)) zBox
    have BK2 := blk_new (w.alloc (vBox k t n A3 i.len c3 A4 m.length c4)) zBox
    have hsz : ((w.alloc (vBox k t n A3 i.len c3 A4 m.length c4)).alloc zBox).heap.size = w.heap.size + 1 + 1 := by rw [World.size_alloc, World.size_alloc]
    rw [World.size_alloc] at BK2
    have HB2 := Aside0.mk hb2
    generalize ((w.alloc (vBox k t n A3 i.len c3 A4 m.length c4)).alloc zBox) = W at BK1 BK2 hsz HB2 ⊢
    obtain ⟨b1, hb1⟩ : ∃ b, w.heap.size = b := ⟨_, rfl⟩
    have Hb1 := Aside0.mk hb1
    rw [hb1] at BK1 BK2 hsz ⊢
    clear hb2 hb1
    have HK1 := Aside0.mk BK1
    have HK2 := Aside0.mk BK2
    have Hsz := Aside0.mk hsz
    obtain ⟨z0, z1, z2, z3, z4, f0, f1, f2, f3, f4⟩ := cells_5 BK1
    obtain ⟨okk, hokk⟩ : ∃ f : Nat → Prop, f = fun q => (ok0 q ∧ q < b1) ∨ b1 + 1 < q := ⟨_, rfl⟩
    have hok1 : Aside0 (¬ okk b1) := ⟨by rw [hokk]; rintro (h | h) <;> omega⟩
    have hok2 : Aside0 (¬ okk (b1 + 1)) := ⟨by rw [hokk]; rintro (h | h) <;> omega⟩
    have hok3 : Aside0 (∀ q, b1 + 1 < q → okk q) := ⟨fun q hq => by rw [hokk]; exact .inr hq⟩
    have hok4 : Aside0 (∀ q, okk q → ok0 q ∨ b1 ≤ q) := ⟨fun q hq => by rw [hokk] at hq; rcases hq with h | h; exact .inl h.1; exact .inr (by omega)⟩
    have HV2 : Aside0 (FdV W okk A3 c3 i) := ⟨(HV.out.below HB2.out).mono (fun q hq => by rw [hokk]; have h2 := hq.2; rw [Hb1.out] at h2; exact .inl ⟨hq.1, h2⟩)⟩
    clear hokk
    go_cut [5] from 5 (fun s5 wx => OwnMid k t n i m okk b1 w wx)
    case first =>
      go_region_with (first
        | (go_at_call 136; refine (clone_S A4 c4 m _ ?_ s5).mono ?_; exact (HS.out.below (below_step HB2.out (below_drew (Below.refl _ _)))).rd.1; rintro e w1 ⟨Av, cv, rfl, hv1, hc1⟩; have K1 := blk_below HK1.out (below_step (below_drew (Below.refl _ _)) hc1); obtain ⟨y0, y1, y2, y3, y4, g0, g1, g2, g3, g4⟩ := cells_5 K1)
        | (go_at_call 165; refine (cloneV_any A3 c3 i _ okk ?_ s4 ?_).mono ?_; exact (HV2.out.below (below_step (below_drew (Below.refl _ _)) hc1)); exact (fun q hq => hok3.out q (own_lt1 hc1.size Hsz.out hq)); rintro e w2 ⟨Bv, dv, rfl, hv2, hc2⟩; have K2 := blk_below K1 hc2; obtain ⟨x0, x1, x2, x3, x4, q0, q1, q2, q3, q4⟩ := cells_5 K2))
      all_goals
        (go_wp2_with fail)
        go_meet
        exact own_mid hok1.out Hb1.out Hsz.out HB2.out K2 HK2.out hv1 hc1 hv2 hc2
    case rest =>
      obtain ⟨Av, cv, Bv, dv, K1, K2, hN, hR, hBl⟩ := hcut
      clear z0 z1 z2 z3 z4 f0 f1 f2 f3 f4 BK1 BK2 HK1 HK2 Hsz HB2 hsz HV HS HV2
      obtain ⟨z0, z1, z2, z3, z4, f0, f1, f2, f3, f4⟩ := cells_5 K1
      have HK1 := Aside0.mk K1
      have HK2 := Aside0.mk K2
      have HN := Aside0.mk hN
      have HR := Aside0.mk hR
      have HBl := Aside0.mk hBl
      clear K1 K2 hN hR hBl
      go_wp2
      go_loopw [16] (fun v wr => ∃ j : Nat, v = .int .i64 j ∧ j ≤ i.len ∧ Aside0 (wr.heap[b1]? = some (vObj k t n i m Bv dv Av cv)) ∧ Aside0 (wr.heap[b1 + 1]? = some zBox) ∧ Aside0 (NV wr b1 okk (.slice Bv i.len dv) i) ∧ Aside0 (Kd.string.R 9 wr b1 (fun q => b1 + 1 < q) (.slice Av m.length cv) (m.map bs)) ∧ Aside0 (Below b1 w wr)) (fun v _ => i.len - (intOf v).toNat)
      case atStart => exact ⟨0, rfl, Nat.zero_le _, HK1, HK2, HN, HR, HBl⟩
      case round =>
        clear z0 z1 z2 z3 z4 f0 f1 f2 f3 f4 HK1 HK2 HN HR HBl
        obtain ⟨j, rfl, hj, HK1, HK2, HN, HR, HBl⟩ := hrel
        obtain ⟨z0, z1, z2, z3, z4, f0, f1, f2, f3, f4⟩ := cells_5 HK1.out
        have hlt1 : b1 < wr.heap.size := blk_lt HK1.out
        have hlt2 : b1 + 1 < wr.heap.size := blk_lt HK2.out
        cases hd : i.drop j with
        | nil =>
          have h1 := drop_nil hd
          obtain rfl : j = i.len := by omega
          clear hd
          obtain ⟨x0, x1, x2, x3, x4, q0, q1, q2, q3, q4⟩ := cells_5 HK2.out
          go_wp2
          refine bodyPost_ret (results_cell_row rfl _ _ (b1 + 1) 43 #[.int .u8 k, .string (bs t), .int .i64 n, .slice Bv i.len dv, .slice Av m.length cv] (0, 0) _ rfl (put5_blk HK2.out) Tryz.underlying43 rfl (by kernel_rfl)) rfl ?_
          have hle : w.heap.size = b1 := Hb1.out
          subst hle
          refine ⟨Bv, dv, Av, cv, rfl, ?_, ?_, put5_below HBl.out (Nat.le_succ _)⟩
          · exact Kd.N_mono (Kd.N_step HN.out (fun q hq _ => put5_far (fun e => hok2.out (e ▸ hq)))) hok4.out
          · exact Kd.R_mono (Kd.R_step HR.out (fun q hq _ => put5_far (fun e => by omega))) (fun q hq => by omega)
        | cons k' t' n' i' m' r' =>
          obtain ⟨h1, h2, _⟩ := drop_step hd
          obtain ⟨g, A3', c3', A4', c4', rfl, hg1, hg2, hokg, hgc, y0, y1, y2, y3, y4, u0, u1, u2, u3, u4, hF3, hF4⟩ := NV_at HN.out hd
          obtain ⟨a1, a2, a3, a4, a5, a6, a7, a8⟩ : (cons k' t' n' i' m' r').sm := hd ▸ sm_drop HSM.out j
          have hcj := cnt_drop i j
          rw [hd] at hcj
          simp only [cnt] at hcj
          have hcm : i'.cnt < M := by have := HM.out; omega
          have hsm1 : (cons k' t' n' i' m' Vals.nil).sm := ⟨a1, a2, a3, a4, a5, a6, a7, trivial⟩
          have HD := Aside0.mk hd
          have H2 := Aside0.mk h2
          clear hd h2 a1 a2 a3 a4 a5 a6 a7 a8
          go_upto_region 5 with (fail)
          have hbn := below_alloc (Below.refl wr.heap.size wr) (vBox k' t' n' A3' i'.len c3' A4' m'.length c4')
          have BKn := blk_new wr (vBox k' t' n' A3' i'.len c3' A4' m'.length c4')
          have hF3' := Aside0.mk (hF3.below hbn)
          have hF4' := Aside0.mk (hF4.below hbn)
          have HN' := Aside0.mk (Kd.N_below HN.out hbn)
          have HR' := Aside0.mk (Kd.R_below HR.out hbn)
          have HK1' := Aside0.mk (blk_below HK1.out hbn)
          have HK2' := Aside0.mk (blk_below HK2.out hbn)
          have HBl' := Aside0.mk (HBl.out.alloc (Nat.le_of_lt hlt1) (vBox k' t' n' A3' i'.len c3' A4' m'.length c4'))
          have hs1 : (wr.alloc (vBox k' t' n' A3' i'.len c3' A4' m'.length c4')).heap.size = wr.heap.size + 1 := by rw [World.size_alloc]
          have hgl : g < wr.heap.size + 1 := by omega
          have Hgl := Aside0.mk hgl
          have Hgc := Aside0.mk hgc
          have Hgw : Aside0 (∃ cells, (wr.alloc (vBox k' t' n' A3' i'.len c3' A4' m'.length c4')).heap[g]? = some (.cells cells 43 (0, 0))) := ⟨by obtain ⟨cl, h⟩ := hgc; exact ⟨cl, blk_below h hbn⟩⟩
          clear hF3 hF4 HN HR HK1 HK2 HBl z0 z1 z2 z3 z4 f0 f1 f2 f3 f4 y0 y1 y2 y3 y4 u0 u1 u2 u3 u4 hbn hgc Hgc hgl
          generalize wr.alloc (vBox k' t' n' A3' i'.len c3' A4' m'.length c4') = W1 at BKn hF3' hF4' HN' HR' HK1' HK2' HBl' hs1 Hgw ⊢
          obtain ⟨gx, hgx⟩ : ∃ g, wr.heap.size = g := ⟨_, rfl⟩
          rw [hgx] at BKn hs1 Hgl hlt1 hlt2 hg2 ⊢
          clear hgx
          have Hs1 := Aside0.mk hs1
          have HKn := Aside0.mk BKn
          obtain ⟨z0, z1, z2, z3, z4, f0, f1, f2, f3, f4⟩ := cells_5 HK1'.out
          obtain ⟨x0, x1, x2, x3, x4, q0, q1, q2, q3, q4⟩ := cells_5 BKn
          clear BKn
          go_region_with (
            (go_at_call 133; refine (ih k' t' n' i' m' A3' c3' A4' c4' (fun q => okk q ∧ q ≠ g) (fun q => okk q ∧ q ≠ g) _ hcm hsm1 ?_ ?_).mono ?_; exact (hF3'.out.below (below_drew (Below.refl _ _))); exact (hF4'.out.below (below_drew (Below.refl _ _))); rintro e w2 ⟨B3, d3, B4, d4, rfl, hn2, hr2, hb2⟩; have hbd := below_step (below_drew (Below.refl W1.heap.size W1)) hb2; obtain ⟨z0, z1, z2, z3, z4, f0, f1, f2, f3, f4⟩ := cells_5 (blk_below HK1'.out hbd); obtain ⟨g', B3', e3', B4', e4', hge, _, _, _, _, y0, y1, y2, y3, y4, u0, u1, u2, u3, u4, _, _⟩ := NV_at (Kd.N_below HN'.out hbd) HD.out; obtain rfl : g = g' := by injection hge with hge; injection hge))
          all_goals
            have hlu : (gx + 1) ≤ w2.heap.size := by have := hbd.size; omega
            (go_wp2_with fail)
            go_roundw
            case rel =>
              obtain ⟨e1, e2, e3, e4, e5⟩ := own_step hok1.out hok2.out hok3.out Hb1.out hb2 HN'.out HD.out hn2 hr2 HK1'.out HK2'.out HR'.out HBl'.out Hgw.out Hs1.out Hgl.out hokg hlt2 hg1
              exact ⟨j + 1, by simp, by omega, ⟨e1⟩, ⟨e2⟩, ⟨e3⟩, ⟨e4⟩, ⟨e5⟩⟩
            case measure => simp [intOf]; omega
end Go.Proofs.YtniibpndgcndbaaGreatDoor.Tpl
namespace Go.Proofs.YtniibpndgcndbaaGreatDoor.Tpl
open Go.RowKit Go.Proofs Go.Proofs.YtniibpndgcndbaaGreatDoor.PB Go.Proofs.YtniibpndgcndbaaGreatDoor.Short Go.Proofs.YtniibpndgcndbaaGreatDoorW.PrintWords Go.Proofs.YtniibpndgcndbaaGreatDoorW.PrintLast Go.Proofs.YtniibpndgcndbaaGreatDoorW.PrintMore Vals
theorem nan1 (x : ByteArray) (w : World) : Calls Tryz.prog 153 #[.string x] w fun e w' => e = .returned (.bool false) ∧ w' = w := by
  go_enter Tryz.func153, Tryz.ntmps153
  go_wp2
  go_ret
  exact ⟨by simp, rfl⟩
theorem nan2 (x : ByteArray) (w : World) : Calls Tryz.prog 164 #[.string x] w fun e w' => e = .returned (.bool false) ∧ w' = w := by
  go_enter Tryz.func164, Tryz.ntmps164
  go_wp2
  go_ret
  exact ⟨by simp, rfl⟩
theorem less_any (x y : ByteArray) (w : World) : Calls Tryz.prog 106 #[.string x, .string y] w fun e w' => e = .returned (.bool (Op.bytesLess x.toList y.toList)) ∧ w' = w := by
  go_enter Tryz.func106, Tryz.ntmps106
  go_wp2_with (go_at_call 153; refine (nan1 _ _).mono ?_; rintro e w' ⟨rfl, rfl⟩)
  go_ret
  exact ⟨rfl, rfl⟩
set_option maxHeartbeats 4000000 in
set_option maxRecDepth 1000000 in
theorem bs_row (b off n c : Nat) (Sx : Nat → ByteArray) (x : ByteArray) (w : World) (hbig : n < 4611686018427387904) (hc : ∀ j, j < n → w.cell? ⟨b, off + j, none⟩ = some (.string (Sx j))) :
    Calls Tryz.prog 132 #[.slice (some ⟨b, off, none⟩) n c, .string x] w fun e w' =>
      e = .returned (.tuple #[.int .i64 (Lib.bsGo (fun t => Op.bytesLess (Sx t).toList x.toList) n 0 n : Nat), .bool (decide (Lib.bsGo (fun t => Op.bytesLess (Sx t).toList x.toList) n 0 n < n ∧ Sx (Lib.bsGo (fun t => Op.bytesLess (Sx t).toList x.toList) n 0 n) = x))]) ∧ ∃ q, w' = w.drewN q := by
  obtain ⟨I, hI⟩ : ∃ I, Lib.bsGo (fun t => Op.bytesLess (Sx t).toList x.toList) n 0 n = I := ⟨_, rfl⟩
  rw [hI]
  go_enter Tryz.func132, Tryz.ntmps132
  go_wp2
  go_loopg [7, 8] n (fun g s7 s8 wr => ∃ lo hi q : Nat, s7 = .int .i64 lo ∧ s8 = .int .i64 hi ∧ lo ≤ hi ∧ hi ≤ n ∧ hi - lo ≤ g ∧ wr = w.drewN q ∧ Lib.bsGo (fun t => Op.bytesLess (Sx t).toList x.toList) g lo hi = I)
  case atStart => exact ⟨0, n, 0, rfl, rfl, Nat.zero_le _, Nat.le_refl _, by omega, rfl, hI⟩
  case round =>
    obtain ⟨lo, hi, q, rfl, rfl, hlh, hin, hg, rfl, hb⟩ := hrel
    by_cases hlt : lo < hi
    · have cm : w.cell? ⟨b, off + (lo + hi) / 2, none⟩ = some (.string (Sx ((lo + hi) / 2))) := hc _ (by omega)
      clear hc
      obtain ⟨g', rfl⟩ : ∃ g', gk = g' + 1 := ⟨gk - 1, by omega⟩
      simp only [Lib.bsGo, hlt, if_true] at hb
      obtain ⟨y, hy⟩ : ∃ y, Sx ((lo + hi) / 2) = y := ⟨_, rfl⟩
      rw [hy] at cm
      simp only [hy] at hb
      cases hyx : Op.bytesLess y.toList x.toList <;> simp only [hyx, if_true, Bool.false_eq_true, if_false] at hb
      · go_wp2_with (first | (go_at_call 106; refine (less_any _ _ _).mono ?_; rintro e w' ⟨rfl, rfl⟩) | (go_at_call 164; refine (nan2 _ _).mono ?_; rintro e w' ⟨rfl, rfl⟩))
        go_roundg ((lo + hi) / 2 - lo)
        case measure => omega
        case rel => exact ⟨lo, (lo + hi) / 2, _, rfl, by rw [show ((lo : Int) + (hi : Int)) / 2 = (((lo + hi) / 2 : Nat) : Int) by omega], by omega, by omega, Nat.le_refl _, rfl, by rw [← hb]; exact Lib.bsGo_fuel _ _ _ _ _ (Nat.le_refl _) (by omega)⟩
      · go_wp2_with (first | (go_at_call 106; refine (less_any _ _ _).mono ?_; rintro e w' ⟨rfl, rfl⟩) | (go_at_call 164; refine (nan2 _ _).mono ?_; rintro e w' ⟨rfl, rfl⟩))
        go_roundg (hi - ((lo + hi) / 2 + 1))
        case measure => omega
        case rel => exact ⟨(lo + hi) / 2 + 1, hi, _, by rw [show ((lo : Int) + (hi : Int)) / 2 + 1 = (((lo + hi) / 2 + 1 : Nat) : Int) by omega], rfl, by omega, hin, Nat.le_refl _, rfl, by rw [← hb]; exact Lib.bsGo_fuel _ _ _ _ _ (Nat.le_refl _) (by omega)⟩
    · have : hi = lo := by omega
      subst this
      have hIe : I = hi := by
        rw [← hb]
        cases gk <;> simp [Lib.bsGo]
      by_cases hn : hi < n
      · have cl : w.cell? ⟨b, off + hi, none⟩ = some (.string (Sx hi)) := hc _ hn
        clear hc hb hI
        obtain ⟨y, hy⟩ : ∃ y, Sx hi = y := ⟨_, rfl⟩
        rw [hy] at cl
        by_cases hyx : y = x
        · go_wp2_with (first | (go_at_call 164; refine (nan2 _ _).mono ?_; rintro e w' ⟨rfl, rfl⟩))
          go_ret2
          refine ⟨?_, _, rfl⟩
          try rw [hIe]
          rw [hy, decide_eq_true (show hi < n ∧ y = x from ⟨hn, hyx⟩)]
          first | rfl | simp [*]
        · have hne : (y.toList == x.toList) = false := by
            rw [beq_eq_false_iff_ne]
            intro h
            apply hyx
            rw [Lib.toList_data, Lib.toList_data] at h
            cases y with
            | mk yd => cases x with
              | mk xd => exact congrArg ByteArray.mk (Array.toList_inj.1 h)
          go_wp2_with (first | (go_at_call 164; refine (nan2 _ _).mono ?_; rintro e w' ⟨rfl, rfl⟩))
          all_goals
            (go_ret2
             refine ⟨?_, _, rfl⟩
             try rw [hIe]
             rw [hy, decide_eq_false (show ¬ (hi < n ∧ y = x) from fun h => hyx h.2)]
             first | rfl | simp [*])
      · clear hc hb hI
        go_wp2
        go_ret2
        refine ⟨?_, _, rfl⟩
        try rw [hIe]
        rw [decide_eq_false (show ¬ (hi < n ∧ Sx hi = x) from fun h => hn h.1)]
        first | rfl | simp [*]
set_option maxHeartbeats 1000000 in
set_option maxRecDepth 1000000 in
theorem bs_none (a : Option Addr) (c : Nat) (x : ByteArray) (w : World) :
    Calls Tryz.prog 132 #[.slice a 0 c, .string x] w fun e w' => e = .returned (.tuple #[.int .i64 0, .bool false]) ∧ w' = w := by
  go_enter Tryz.func132, Tryz.ntmps132
  go_wp2
  go_loop [7, 8] (fun s7 s8 => s7 = .int .i64 0 ∧ s8 = .int .i64 0) (fun _ _ => 0)
  case atStart => exact ⟨rfl, rfl⟩
  case round =>
    obtain ⟨rfl, rfl⟩ := hrel
    go_wp2
    go_ret2
    exact ⟨rfl, rfl⟩
def posL (m : List S) (s : S) : Nat := m.findIdx (fun x => !decide (x < s))
theorem risingQ_iff (l : List S) : ∀ p, risingQ p l = true → l.Pairwise (· < ·) ∧ (∀ q, p = some q → ∀ x, x ∈ l → q < x) := by
  induction l with
  | nil => intro p _; exact ⟨List.Pairwise.nil, fun q _ x hx => by cases hx⟩
  | cons s r ih =>
    intro p h
    unfold risingQ at h
    simp only [Bool.and_eq_true] at h
    obtain ⟨⟨h1, h2⟩, h3⟩ := h
    obtain ⟨i1, i2⟩ := ih (some s) h3
    refine ⟨List.pairwise_cons.2 ⟨fun y hy => i2 s rfl y hy, i1⟩, fun q hq x hx => ?_⟩
    subst hq
    simp only [decide_eq_true_eq] at h2
    rcases List.mem_cons.1 hx with rfl | hx
    · exact h2
    · exact List.lt_trans h2 (i2 s rfl x hx)
theorem posL_spec (m : List S) (s : S) (h : m.Pairwise (· < ·)) : posL m s ≤ m.length ∧ (∀ j, j < posL m s → m.getD j [] < s) ∧ (∀ j, posL m s ≤ j → j < m.length → ¬ m.getD j [] < s) := by
  unfold posL
  induction m with
  | nil => exact ⟨Nat.le_refl _, fun j hj => absurd hj (Nat.not_lt_zero _), fun j _ hj => absurd hj (Nat.not_lt_zero _)⟩
  | cons x r ih =>
    obtain ⟨h1, h2⟩ := List.pairwise_cons.1 h
    obtain ⟨i1, i2, i3⟩ := ih h2
    rw [List.findIdx_cons]
    by_cases c : x < s
    · simp only [c, decide_true, Bool.not_true, cond_false]
      refine ⟨by simp; exact i1, fun j hj => ?_, fun j hj hl => ?_⟩
      · cases j with
        | zero => exact c
        | succ j => exact i2 j (by omega)
      · cases j with
        | zero => omega
        | succ j => exact i3 j (by omega) (by simp at hl; omega)
    · simp only [c, decide_false, Bool.not_false, cond_true]
      refine ⟨Nat.zero_le _, fun j hj => absurd hj (Nat.not_lt_zero _), fun j _ hl => ?_⟩
      cases j with
      | zero => exact c
      | succ j =>
        simp only [List.length_cons] at hl
        have hj : j < r.length := by omega
        have hm : r.getD j [] ∈ r := by have : r.getD j [] = r[j] := by simp [List.getD, hj]
                                        rw [this]; exact List.getElem_mem hj
        intro hlt
        exact c (List.lt_trans (h1 _ hm) hlt)
theorem posS_posL (m : List S) (s : S) (h : m.Pairwise (· < ·)) : (posL m s < m.length ∧ m.getD (posL m s) [] = s ↔ m.contains s = true) ∧ (m.contains s = true → posS m s = posL m s) := by
  unfold posL posS
  induction m with
  | nil => simp
  | cons x r ih =>
    obtain ⟨h1, h2⟩ := List.pairwise_cons.1 h
    obtain ⟨i1, i2⟩ := ih h2
    rw [List.findIdx_cons, List.findIdx_cons]
    by_cases c : x < s
    · have hne : (x == s) = false := by rw [beq_eq_false_iff_ne]; rintro rfl; exact List.lt_irrefl _ c
      have hne2 : (s == x) = false := by rw [beq_eq_false_iff_ne]; rintro rfl; exact List.lt_irrefl _ c
      simp only [c, decide_true, Bool.not_true, cond_false, hne, List.length_cons, List.contains_cons, hne2, Bool.false_or, List.getD_cons_succ]
      refine ⟨⟨fun h => i1.1 ⟨by omega, h.2⟩, fun h => ?_⟩, fun h => by rw [i2 h]⟩
      obtain ⟨a, b⟩ := i1.2 h
      exact ⟨by omega, b⟩
    · simp only [c, decide_false, Bool.not_false, cond_true, List.length_cons, List.getD_cons_zero, List.contains_cons]
      by_cases e : x = s
      · subst e
        simp
      · have hne : (x == s) = false := by rw [beq_eq_false_iff_ne]; exact e
        have hne2 : (s == x) = false := by rw [beq_eq_false_iff_ne]; exact fun h => e h.symm
        have hnm : r.contains s = false := by
          rw [← Bool.not_eq_true, List.contains_iff_mem]
          intro hm
          exact c (h1 s hm)
        simp [hne2, hnm, e, hne]
        intro hm
        exact absurd (h1 s hm) c
theorem bsGo_cong (f g : Nat → Bool) (n : Nat) (h : ∀ t, t < n → f t = g t) : ∀ (k lo hi : Nat), hi ≤ n → Lib.bsGo f k lo hi = Lib.bsGo g k lo hi
  | 0, _, _, _ => rfl
  | k + 1, lo, hi, hh => by
    unfold Lib.bsGo
    by_cases c : lo < hi
    · rw [if_pos c, if_pos c, h _ (by omega), bsGo_cong f g n h k _ _ hh, bsGo_cong f g n h k _ _ (by omega)]
    · rw [if_neg c, if_neg c]
theorem bs_any (A : Option Addr) (c : Nat) (m : List S) (s : S) (w : World) (hR : RdS w A c m) (hr : risingP m = true) (hl : m.length ≤ 1048576) :
    Calls Tryz.prog 132 #[.slice A m.length c, .string (bs s)] w fun e w' => e = .returned (.tuple #[.int .i64 (posL m s), .bool (m.contains s)]) ∧ ∃ q, w' = w.drewN q := by
  have hp := (risingQ_iff m none hr).1
  obtain ⟨p1, p2, p3⟩ := posL_spec m s hp
  cases m with
  | nil =>
    refine (bs_none A c (bs s) w).mono ?_
    rintro e w' ⟨rfl, rfl⟩
    exact ⟨rfl, 0, rfl⟩
  | cons x r =>
    obtain ⟨b, off, rfl, hc⟩ := row_form (A := A) (p := (x :: r).map bs) (by rw [List.length_map]; exact hR.1) (by simp)
    rw [List.length_map] at hc
    have hg : ∀ j, j < (x :: r).length → ((x :: r).map bs).getD j ByteArray.empty = bs ((x :: r).getD j []) := fun j hj => by
      simp only [List.getD_eq_getElem?_getD, List.getElem?_map]
      rw [List.getElem?_eq_getElem hj]; rfl
    refine (bs_row b off (x :: r).length c (fun j => bs ((x :: r).getD j [])) (bs s) w (by omega) (fun j hj => by rw [hc j hj, hg j hj])).mono ?_
    rintro e w' ⟨rfl, q, rfl⟩
    refine ⟨?_, q, rfl⟩
    have hk : Lib.bsGo (fun t => Op.bytesLess (bs ((x :: r).getD t [])).toList (bs s).toList) (x :: r).length 0 (x :: r).length = posL (x :: r) s := by
      have hsp := Lib.bsGo_spec (fun t => if t < (x :: r).length then Op.bytesLess (bs ((x :: r).getD t [])).toList (bs s).toList else false) (posL (x :: r) s) (fun t ht => ?_) (fun t ht => ?_) (x :: r).length 0 (x :: r).length (by omega) (Nat.zero_le _) p1
      · rw [← hsp]
        exact bsGo_cong _ _ (x :: r).length (fun t ht => by rw [if_pos ht]) _ _ _ (Nat.le_refl _)
      · rw [if_pos (by omega), bytesLess_eq, bs_list, bs_list]; exact decide_eq_true (p2 t ht)
      · by_cases htl : t < (x :: r).length
        · rw [if_pos htl, bytesLess_eq, bs_list, bs_list]; exact decide_eq_false (p3 t ht htl)
        · rw [if_neg htl]
    rw [hk]
    have h2 := (posS_posL (x :: r) s hp).1
    have e2 : decide (posL (x :: r) s < (x :: r).length ∧ bs ((x :: r).getD (posL (x :: r) s) []) = bs s) = (x :: r).contains s := by
      rw [Bool.eq_iff_iff, decide_eq_true_eq, ← h2]
      exact ⟨fun h => ⟨h.1, by have := congrArg ByteArray.toList h.2; rwa [bs_list, bs_list] at this⟩, fun h => ⟨h.1, by rw [h.2]⟩⟩
    rw [e2]
end Go.Proofs.YtniibpndgcndbaaGreatDoor.Tpl
namespace Go.Proofs.YtniibpndgcndbaaGreatDoor.Tpl
open Go.RowKit
def splitC (c : UInt8) : S → List S
  | [] => [[]]
  | x :: r => if x = c then [] :: splitC c r else match splitC c r with | [] => [[x]] | h :: t => (x :: h) :: t
theorem splitC_ne (c : UInt8) (s : S) : splitC c s ≠ [] := by
  cases s with
  | nil => simp [splitC]
  | cons x r => unfold splitC; split; · simp
                split <;> simp
theorem splitC_miss (c : UInt8) (s : S) (h : Lib.index s [c] = -1) : splitC c s = [s] := by
  induction s with
  | nil => rfl
  | cons x r ih =>
    rw [Lib.index] at h
    by_cases hx : x = c
    · subst hx; simp at h
    · have h1 : [c].isPrefixOf (x :: r) = false := by simp [List.isPrefixOf]; exact fun e => hx e.symm
      rw [h1] at h
      have hg := Lib.index_ge r [c]
      have h2 : Lib.index r [c] = -1 := by
        by_cases h2 : Lib.index r [c] = -1
        · exact h2
        · simp [h2] at h; omega
      rw [splitC, if_neg hx, ih h2]
theorem splitC_hit (c : UInt8) (s : S) (i : Nat) (h : Lib.index s [c] = i) : splitC c s = s.take i :: splitC c (s.drop (i + 1)) ∧ i < s.length := by
  induction s generalizing i with
  | nil => simp [Lib.index] at h
  | cons x r ih =>
    rw [Lib.index] at h
    by_cases hx : x = c
    · subst hx
      simp at h
      obtain rfl : i = 0 := by omega
      exact ⟨by simp [splitC], by simp⟩
    · have h1 : [c].isPrefixOf (x :: r) = false := by simp [List.isPrefixOf]; exact fun e => hx e.symm
      rw [h1] at h
      have hg := Lib.index_ge r [c]
      by_cases h2 : Lib.index r [c] = -1
      · simp [h2] at h
      · simp [h2] at h
        obtain ⟨j, hj⟩ : ∃ j : Nat, Lib.index r [c] = j := ⟨(Lib.index r [c]).toNat, by omega⟩
        obtain rfl : i = j + 1 := by omega
        obtain ⟨e, hl⟩ := ih j hj
        refine ⟨?_, by simp; omega⟩
        rw [splitC, if_neg hx, e]; simp
theorem splitK_C (c : UInt8) : ∀ fuel (s : S), s.length < fuel → Lib.splitK [c] 0 (Lib.countFrom [c] fuel s) s = splitC c s := by
  intro fuel
  induction fuel with
  | zero => intro s h; omega
  | succ n ih =>
    intro s h
    unfold Lib.countFrom
    by_cases h1 : Lib.index s [c] = -1
    · rw [if_pos (by simp [h1]), splitC_miss c s h1]; rfl
    · have hg := Lib.index_ge s [c]
      obtain ⟨j, hj⟩ : ∃ j : Nat, Lib.index s [c] = j := ⟨(Lib.index s [c]).toNat, by omega⟩
      obtain ⟨e, hl⟩ := splitC_hit c s j hj
      rw [if_neg (by simp [h1]), Nat.add_comm, Lib.splitK, if_neg (by simp [h1]), hj, e]
      simp only [Int.toNat_natCast, Nat.add_zero, List.length_singleton]
      rw [ih (s.drop (j + 1)) (by rw [List.length_drop]; omega)]
theorem split_C (c : UInt8) (s : S) : Lib.splitK [c] 0 (Lib.count s [c]) s = splitC c s := splitK_C c _ s (Nat.lt_succ_self _)
theorem splitC_size (c : UInt8) (s : S) : (splitC c s).length ≤ s.length + 1 ∧ ∀ x, x ∈ splitC c s → x.length ≤ s.length := by
  induction s with
  | nil => simp [splitC]
  | cons x r ih =>
    unfold splitC
    split
    · refine ⟨by simp; exact ih.1, fun y hy => ?_⟩
      rcases List.mem_cons.1 hy with rfl | hy
      · simp
      · have := ih.2 y hy; simp; omega
    · cases hs : splitC c r with
      | nil => exact absurd hs (splitC_ne c r)
      | cons h t =>
        rw [hs] at ih
        refine ⟨by have := ih.1; simp at this ⊢; omega, fun y hy => ?_⟩
        rcases List.mem_cons.1 hy with rfl | hy
        · have := ih.2 h (by simp); simp; omega
        · have := ih.2 y (by simp [hy]); simp; omega
def wordsP (s : S) : List S := (splitC 32 s).filter (fun x => !x.isEmpty)
theorem wordsP_size (s : S) : (wordsP s).length ≤ s.length + 1 ∧ ∀ x, x ∈ wordsP s → x.length ≤ s.length :=
  ⟨Nat.le_trans (List.length_filter_le _ _) (splitC_size 32 s).1, fun x hx => (splitC_size 32 s).2 x (List.mem_filter.1 hx).1⟩
def pathOf (s : S) : Option (List S) := if pathP (splitC 46 s) = true then some (splitC 46 s) else none
def tagP (s : S) : Option Tok :=
  if (wordsP s).length = 0 ∨ 2 < (wordsP s).length then none
  else if ownP ((wordsP s).getD 0 []) = 4 ∨ ownP ((wordsP s).getD 0 []) = 6 then (if (wordsP s).length = 1 then some ⟨ownP ((wordsP s).getD 0 []), [], []⟩ else none)
  else if (ownP ((wordsP s).getD 0 []) ≠ 2 ∧ (wordsP s).length ≠ 2) ∨ (ownP ((wordsP s).getD 0 []) = 2 ∧ (wordsP s).length ≠ 1) then none
  else match pathOf ((wordsP s).getD ((wordsP s).length - 1) []) with | none => none | some p => some ⟨ownP ((wordsP s).getD 0 []), [], p⟩
def tagY (n : Nat) (x0 x1 : S) : Option Tok :=
  if ownP x0 = 4 ∨ ownP x0 = 6 then (if n = 1 then some ⟨ownP x0, [], []⟩ else none)
  else if (ownP x0 ≠ 2 ∧ n ≠ 2) ∨ (ownP x0 = 2 ∧ n ≠ 1) then none
  else match pathOf x1 with | none => none | some q => some ⟨ownP x0, [], q⟩
def tagX (n : Nat) (x0 x1 : S) : Option Tok := if n = 0 ∨ 2 < n then none else tagY n x0 x1
def tagW (p : List S) : Option Tok := tagX p.length (p.getD 0 []) (p.getD (p.length - 1) [])
theorem tagP_eq (s : S) : tagP s = tagW (wordsP s) := rfl
def txtTok (s : S) : List Tok := if s = [] then [] else [⟨1, s, []⟩]
def toksS : Nat → S → Option (List Tok)
  | 0, _ => none
  | n + 1, s =>
    if s = [] then some [] else
    if (Lib.cut s [123, 123]).2.2 = false then some (txtTok (Lib.cut s [123, 123]).1) else
    if (Lib.cut (Lib.cut s [123, 123]).2.1 [125, 125]).2.2 = false then none else
    match tagP (Lib.cut (Lib.cut s [123, 123]).2.1 [125, 125]).1 with
    | none => none
    | some t => match toksS n (Lib.cut (Lib.cut s [123, 123]).2.1 [125, 125]).2.1 with
      | none => none
      | some r => some (txtTok (Lib.cut s [123, 123]).1 ++ t :: r)
theorem cut_sizes (s : S) (c : UInt8) : (Lib.cut s [c, c]).1.length ≤ s.length ∧ (Lib.cut s [c, c]).2.1.length ≤ s.length ∧ ((Lib.cut s [c, c]).2.2 = true → (Lib.cut s [c, c]).2.1.length + 2 ≤ s.length) := by
  unfold Lib.cut
  split
  · rename_i h
    have := Lib.index_room s [c, c] h
    simp only [List.length_take, List.length_drop, List.length_cons, List.length_nil] at *
    refine ⟨by omega, by omega, fun _ => by omega⟩
  · simp
theorem ownP_lt (s : S) : ownP s < 256 := by
  unfold ownP
  repeat' split
  all_goals omega
theorem pathOf_some {s : S} {p : List S} (h : pathOf s = some p) : p = splitC 46 s ∧ pathP p = true := by
  unfold pathOf at h
  split at h
  · rename_i h2; cases h; exact ⟨rfl, h2⟩
  · cases h
theorem tagP_sm {s : S} {t : Tok} (h : tagP s = some t) (hs : s.length ≤ 1048575) : t.sm := by
  have hw := wordsP_size s
  unfold tagP at h
  split at h
  · cases h
  split at h
  · split at h
    · cases h; exact ⟨ownP_lt _, by simp, by simp, fun x hx => by simp at hx⟩
    · cases h
  split at h
  · cases h
  rename_i h1 h2 h3
  cases hp : pathOf ((wordsP s).getD ((wordsP s).length - 1) []) with
  | none => rw [hp] at h; cases h
  | some p =>
    rw [hp] at h
    cases h
    obtain ⟨rfl, _⟩ := pathOf_some hp
    have hx : ((wordsP s).getD ((wordsP s).length - 1) []).length ≤ s.length := by
      by_cases hl : (wordsP s).length - 1 < (wordsP s).length
      · refine hw.2 _ ?_
        have e : (wordsP s).getD ((wordsP s).length - 1) [] = (wordsP s)[(wordsP s).length - 1] := by simp [List.getD, hl]
        rw [e]; exact List.getElem_mem hl
      · have e : (wordsP s).getD ((wordsP s).length - 1) [] = [] := by simp [List.getD]; omega
        rw [e]; simp
    have hz := splitC_size 46 ((wordsP s).getD ((wordsP s).length - 1) [])
    exact ⟨ownP_lt _, by simp, by simp only; omega, fun x hx => by have := hz.2 x hx; omega⟩
theorem toksS_sm : ∀ (n : Nat) (s : S) (l : List Tok), toksS n s = some l → s.length ≤ 1048575 → (∀ x, x ∈ l → x.sm) ∧ l.length ≤ 2 * s.length := by
  intro n
  induction n with
  | zero => intro s l h; cases h
  | succ n ih =>
    intro s l h hs
    have c1 := cut_sizes s 123
    have c2 := cut_sizes (Lib.cut s [123, 123]).2.1 125
    unfold toksS at h
    split at h
    · cases h; exact ⟨fun x hx => by simp at hx, by simp⟩
    have ht : ∀ x, x ∈ txtTok (Lib.cut s [123, 123]).1 → x.sm := by
      intro x hx
      unfold txtTok at hx
      split at hx
      · simp at hx
      · simp only [List.mem_singleton] at hx
        subst hx
        exact ⟨show 1 < 256 by decide, by simp only; omega, by simp, fun y hy => by simp at hy⟩
    have hl : (txtTok (Lib.cut s [123, 123]).1).length ≤ 1 := by unfold txtTok; split <;> simp
    have hsl : 0 < s.length := by rename_i hne; cases s with | nil => exact absurd rfl hne | cons => simp
    split at h
    · cases h; exact ⟨ht, by omega⟩
    split at h
    · cases h
    rename_i hne h1 h2
    have hb1 : (Lib.cut s [123, 123]).2.2 = true := by simpa using h1
    have hb2 : (Lib.cut (Lib.cut s [123, 123]).2.1 [125, 125]).2.2 = true := by simpa using h2
    cases htg : tagP (Lib.cut (Lib.cut s [123, 123]).2.1 [125, 125]).1 with
    | none => rw [htg] at h; cases h
    | some t =>
      rw [htg] at h
      simp only at h
      cases hr : toksS n (Lib.cut (Lib.cut s [123, 123]).2.1 [125, 125]).2.1 with
      | none => rw [hr] at h; cases h
      | some r =>
        rw [hr] at h
        cases h
        have c3 := c1.2.2 hb1
        have c4 := c2.2.2 hb2
        obtain ⟨i1, i2⟩ := ih _ _ hr (by omega)
        have i3 := tagP_sm htg (by omega)
        refine ⟨fun x hx => ?_, by simp only [List.length_append, List.length_cons]; omega⟩
        rcases List.mem_append.1 hx with hx | hx
        · exact ht x hx
        · rcases List.mem_cons.1 hx with rfl | hx
          · exact i3
          · exact i1 x hx
theorem toksS_fuel : ∀ (n m : Nat) (s : S), s.length < n → s.length < m → toksS n s = toksS m s := by
  intro n
  induction n with
  | zero => intro m s h; omega
  | succ n ih =>
    intro m s h1 h2
    obtain ⟨m, rfl⟩ : ∃ q, m = q + 1 := ⟨m - 1, by omega⟩
    have c1 := cut_sizes s 123
    have c2 := cut_sizes (Lib.cut s [123, 123]).2.1 125
    unfold toksS
    split
    · rfl
    split
    · rfl
    split
    · rfl
    rename_i h3 h4
    have hb1 : (Lib.cut s [123, 123]).2.2 = true := by simpa using h3
    have hb2 : (Lib.cut (Lib.cut s [123, 123]).2.1 [125, 125]).2.2 = true := by simpa using h4
    rw [ih m _ (by have := c1.2.2 hb1; omega) (by have := c1.2.2 hb1; omega)]
end Go.Proofs.YtniibpndgcndbaaGreatDoor.Tpl
namespace Go.Proofs.YtniibpndgcndbaaGreatDoor.Tpl
open Go.RowKit Go.Proofs Go.Proofs.YtniibpndgcndbaaGreatDoor.PB Go.Proofs.YtniibpndgcndbaaGreatDoor.Short Go.Proofs.YtniibpndgcndbaaGreatDoorW.PrintWords Go.Proofs.YtniibpndgcndbaaGreatDoorW.PrintLast Go.Proofs.YtniibpndgcndbaaGreatDoorW.PrintMore Nodes
theorem cellS {w : World} {A : Option Addr} {c : Nat} {p : List S} (hR : RdS w A c p) (i : Nat) (hi : i < p.length) : ∃ b off, A = some ⟨b, off, none⟩ ∧ w.cell? ⟨b, off + i, none⟩ = some (.string (bs (p.getD i []))) := by
  obtain ⟨b, off, e, hc⟩ := row_form (p := p.map bs) (by simpa using hR.1) (by simp; omega)
  refine ⟨b, off, e, ?_⟩
  rw [hc i (by simpa using hi)]
  simp [List.getD, hi]
end Go.Proofs.YtniibpndgcndbaaGreatDoor.Tpl
namespace Go.Proofs.YtniibpndgcndbaaGreatDoor.Tpl
open Go.RowKit Go.Proofs Go.Proofs.YtniibpndgcndbaaGreatDoor.PB Go.Proofs.YtniibpndgcndbaaGreatDoor.Short Go.Proofs.YtniibpndgcndbaaGreatDoorW.PrintWords Go.Proofs.YtniibpndgcndbaaGreatDoorW.PrintLast Go.Proofs.YtniibpndgcndbaaGreatDoorW.PrintMore Nodes
attribute [local go_sem ↓] Go.wp_at_zero Go.wp_at_succ
theorem map_bs_data (l : List ByteArray) (q : List S) (h : l.map (·.data.toList) = q) : l = q.map bs := by
  subst h
  rw [List.map_map]
  conv => lhs; rw [← List.map_id l]
  refine List.map_congr_left fun x _ => ?_
  rfl
theorem split_any (c : UInt8) (s : S) (hs : s.length ≤ 1048576) (w : World) (hG : Glob w) :
    Calls Tryz.prog 140 #[.string (bs s), .string ⟨#[c]⟩] w fun e w' => e = .returned (.slice (some ⟨w.heap.size, 0, none⟩) (splitC c s).length (splitC c s).length) ∧ w' = w.alloc (.cells (((splitC c s).map bs).map Value.string).toArray 9) := by
  obtain ⟨⟨m, hm⟩, _⟩ := hG
  have h := Tryz.strings_Split (bs s) ⟨#[c]⟩ m w (by rw [bs_size]; omega) hm (by simp [ByteArray.size])
  have e1 : Lib.countB (bs s) ⟨#[c]⟩ = Lib.count s [c] := rfl
  have e2 : Lib.splitB ⟨#[c]⟩ 0 (Lib.countB (bs s) ⟨#[c]⟩) (bs s) = (splitC c s).map bs := map_bs_data _ _ (by rw [Lib.splitB_data, e1]; exact split_C c s)
  have e3 : Lib.countB (bs s) ⟨#[c]⟩ + 1 = (splitC c s).length := by
    have := Lib.splitB_all ⟨#[c]⟩ (by simp [ByteArray.size]) 0 _ (bs s) rfl
    rw [← this, e2, List.length_map]
  rw [e3, e2] at h
  exact h
theorem eg_tag : ∀ args w, (callFunc 141 args).run Tryz.prog w = .ok (.enter 141 args) w := enters_of Tryz.func141 (by kernel_rfl) rfl
theorem is_empty (s : S) (W : World) : FnGives Tryz.prog 141 #[] #[.string (bs s)] (.bool s.isEmpty) W := by
  unfold FnGives
  have e0 : (bs s).toList.isEmpty = s.isEmpty := by rw [bs_list]
  generalize s.isEmpty = q at *
  go_enter Tryz.func141, Tryz.ntmps141
  go_wp2
  go_ret
  exact ⟨by simp, 0, rfl⟩
theorem zero_str : ∀ w : World, (zeroValue 9).run Tryz.prog w = .ok (.string (bs [])) w := fun _ => by kernel_rfl
theorem putRow_below {α : Type} [Inhabited α] (enc : α → Value) (w : World) (blk off : Nat) (d : Array α) {B : Nat} (h : B ≤ blk) : Below B w (Go.Sort.putRow enc w blk off d) := by
  refine ⟨rfl, rfl, rfl, by rw [Go.Sort.size_putRow]; exact Nat.le_refl _, fun i hi => ?_⟩
  unfold Go.Sort.putRow Go.Sort.mapBlock
  show (w.heap.modify blk _)[i]? = _
  rw [Array.getElem?_modify, if_neg (by omega)]
theorem C_of_cells {w : World} {b off : Nat} {l : List S} (hl : l.length ≤ 1048577) (h : ∀ j, j < l.length → w.cell? ⟨b, off + j, none⟩ = some (.string (bs (l.getD j [])))) : Kd.string.C w (some ⟨b, off, none⟩) l.length (l.map bs) := by
  refine Kd.C_of_reads (enc := Value.string) (d := ByteArray.empty) (h1 := fun _ => rfl) ⟨by simp, by omega, fun _ => ⟨_, rfl, fun j hj => ?_⟩⟩
  have e : (Addr.add ⟨b, off, none⟩ j) = ⟨b, off + j, none⟩ := by unfold Addr.add; split <;> simp_all
  rw [e, h j hj]
  simp [List.getD, hj]
theorem holds_blk {g : Nat} {p : List S} {w : World} (hb : w.heap[g]? = some (.cells ((p.map bs).map Value.string).toArray 9 (0, 0))) : Go.Sort.Holds (fun s : S => Value.string (bs s)) w g 0 p.toArray := by
  intro j hj
  have hj' : j < p.length := by simpa using hj
  rw [Nat.zero_add]
  refine ⟨(blk_cell hb j).trans ?_, blk_frozen hb j⟩
  rw [getElem!_pos p.toArray j hj]
  simp [hj']
theorem filt_get (p : List S) (f : S → Bool) (n j : Nat) (h : j < (p.filter f).length) : ((p.filter f ++ List.replicate n []).toArray)[j]! = (p.filter f).getD j [] := by
  rw [getElem!_pos _ j (by simp; omega)]
  simp [List.getD, h, List.getElem_append_left h]
theorem delete_any (g : Nat) (p : List S) (w : World) (B : Nat) (hB : B ≤ g) (hb : w.heap[g]? = some (.cells ((p.map bs).map Value.string).toArray 9 (0, 0))) (hp : p.length ≤ 1048577) :
    Calls Tryz.prog 139 #[.slice (some ⟨g, 0, none⟩) p.length p.length, .func (.func 141) #[] #[]] w fun e w' => e = .returned (.slice (some ⟨g, 0, none⟩) (p.filter fun x => !x.isEmpty).length p.length) ∧ RdS w' (some ⟨g, 0, none⟩) p.length (p.filter fun x => !x.isEmpty) ∧ Below B w w' := by
  have h := Tryz.slices_DeleteFunc (fun s : S => Value.string (bs s)) (fun _ => rfl) (fun s => s.isEmpty) 141 #[] eg_tag [] zero_str g 0 p.length p.toArray w (fun W x _ => is_empty x W) (fun _ _ _ x _ => is_empty x _) (holds_blk hb) (by simp; omega) (by simp)
  simp only [List.size_toArray] at h
  refine h.mono ?_
  rintro e w' ⟨rfl, q, rfl⟩
  have hlen : (p.filter fun x => !x.isEmpty).length ≤ p.length := List.length_filter_le _ _
  have hsz : ((p.filter fun x => !x.isEmpty) ++ List.replicate (p.length - (p.filter fun x => !x.isEmpty).length) ([] : S)).toArray.size = p.toArray.size := by simp; omega
  refine ⟨by simp, ⟨C_of_cells (by omega) (fun j hj => ?_), hlen⟩, ?_⟩
  · have h2 := Go.Sort.cell?_putRow (fun s : S => Value.string (bs s)) (Go.Sort.ahead w q) g 0 p.toArray _ (holds_blk hb) hsz j (by rw [hsz]; simp; omega)
    rw [filt_get p _ _ j hj] at h2
    exact h2
  · exact Below.trans (b := Go.Sort.ahead w q) ⟨rfl, rfl, rfl, Nat.le_refl _, fun _ _ => rfl⟩ (putRow_below _ _ _ _ _ hB)
def RowIf (b : Bool) (w' : World) (base : Nat) (v : Value) (p : List S) : Prop := b = true → ∃ A c, v = .slice A p.length c ∧ Kd.string.R 9 w' base (fun k => base ≤ k) v (p.map bs)
theorem RowIf.no {w' : World} {base : Nat} {v : Value} {p : List S} : RowIf false w' base v p := fun h => by cases h
theorem RowIf.yes {b : Bool} {w' : World} {base : Nat} {A : Option Addr} {n c : Nat} {p : List S} (hn : p.length = n) (h : Kd.string.R 9 w' base (fun k => base ≤ k) (.slice A n c) (p.map bs)) : RowIf b w' base (.slice A n c) p := fun _ => ⟨A, c, by rw [hn], h⟩
theorem path_any (s : S) (hs : s.length ≤ 1048575) (w : World) (hG : Glob w) :
    Calls Tryz.prog 143 #[.string (bs s)] w fun e w' => ∃ v, e = .returned (.tuple #[v, .int .i64 (if pathP (splitC 46 s) = true then 0 else 13)]) ∧ RowIf (pathP (splitC 46 s)) w' w.heap.size v (splitC 46 s) ∧ Below w.heap.size w w' := by
  have h := split_any 46 s (by omega) w hG
  have hz := splitC_size 46 s
  generalize splitC 46 s = p at *
  have hl : p.length ≤ 1048576 := by omega
  have hR := lit_R (p.map bs) w w.heap.size (fun k => w.heap.size ≤ k) (Nat.le_refl _) (by simpa using hl) (Nat.le_refl _)
  rw [List.length_map] at hR
  have hr := right_any (some ⟨w.heap.size, 0, none⟩) p.length p (w.alloc (.cells ((p.map bs).map Value.string).toArray 9)) (by have := (Kd.R_reads' hR).2.2; simpa using this) hl (fun x hx => by have := hz.2 x hx; omega)
  have HR := Aside0.mk hR
  clear hR hG hz
  have hB := Aside0.mk (below_alloc (Below.refl w.heap.size w) (.cells ((p.map bs).map Value.string).toArray 9))
  generalize w.heap.size = g at *
  generalize w.alloc (.cells ((p.map bs).map Value.string).toArray 9) = W at *
  generalize pathP p = b at *
  have hN := Aside0.mk hl
  clear hl
  obtain ⟨n, hn⟩ : ∃ n, p.length = n := ⟨_, rfl⟩
  rw [hn] at h hr HR
  have HNN := Aside0.mk hn
  clear hn
  cases b
  all_goals
    go_enter Tryz.func143, Tryz.ntmps143
    go_wp2_with fail
    refine h.mono ?_
    rintro e w1 ⟨rfl, rfl⟩
    go_wp2_with fail
    refine hr.mono ?_
    rintro e w2 ⟨rfl, ⟨q, rfl⟩⟩
    go_wp2
    go_ret2
    first
      | exact ⟨_, rfl, RowIf.no, pw_below_drewN hB.out q⟩
      | exact ⟨_, rfl, RowIf.yes HNN.out (Kd.R_drewN HR.out q), pw_below_drewN hB.out q⟩
end Go.Proofs.YtniibpndgcndbaaGreatDoor.Tpl
namespace Go.Proofs.YtniibpndgcndbaaGreatDoor.Tpl
open Go.RowKit Go.Proofs Go.Proofs.YtniibpndgcndbaaGreatDoor.PB Go.Proofs.YtniibpndgcndbaaGreatDoor.Short Go.Proofs.YtniibpndgcndbaaGreatDoorW.PrintWords Go.Proofs.YtniibpndgcndbaaGreatDoorW.PrintLast Go.Proofs.YtniibpndgcndbaaGreatDoorW.PrintMore Nodes
theorem blk3 {W : World} {g t : Nat} {a0 a1 a2 b0 b1 b2 : Value} (h : W.heap[g]? = some (.cells #[a0, a1, a2] t (0, 0))) : (((W.setCell ⟨g, 0, none⟩ b0).setCell ⟨g, 1, none⟩ b1).setCell ⟨g, 2, none⟩ b2).heap[g]? = some (.cells #[b0, b1, b2] t (0, 0)) := blk_put (blk_put (blk_put h 0 _ rfl) 1 _ rfl) 2 _ rfl
theorem below3 {w W : World} {g : Nat} {b0 b1 b2 : Value} (h : Below w.heap.size w W) (hg : w.heap.size ≤ g) : Below w.heap.size w (((W.setCell ⟨g, 0, none⟩ b0).setCell ⟨g, 1, none⟩ b1).setCell ⟨g, 2, none⟩ b2) := below_set (below_set (below_set h hg) hg) hg
theorem below_ahead' (w : World) (q : Nat) : Below w.heap.size w (w.drewN q) := pw_below_drewN (Below.refl _ _) q
def TokRet (o : Option Tok) (e : Ending) (w' : World) (base : Nat) : Prop :=
  match o with
  | none => e = .returned (.tuple #[.agg #[.int .u8 0, .string ⟨#[]⟩, .slice none 0 0], .int .i64 7])
  | some t => ∃ A c, e = .returned (.tuple #[.agg #[.int .u8 t.k, .string (bs t.t), .slice A t.p.length c], .int .i64 0]) ∧ Kd.string.R 9 w' base (fun k => base ≤ k) (.slice A t.p.length c) (t.p.map bs)
theorem R_set3 {W : World} {g : Nat} {b0 b1 b2 : Value} {base : Nat} {ok : Nat → Prop} {v : Value} {l : List ByteArray} {a0 a1 a2 : Value} (h : Kd.string.R 9 W base ok v l) (hb : W.heap[g]? = some (.cells #[a0, a1, a2] 101 (0, 0))) :
    Kd.string.R 9 (((W.setCell ⟨g, 0, none⟩ b0).setCell ⟨g, 1, none⟩ b1).setCell ⟨g, 2, none⟩ b2) base ok v l := by
  have hne : ∀ q, q ∈ 9 :: Kd.string.E → q ≠ 101 := by decide
  have h1 := Kd.R_set h hb hne 0 b0
  have h2 := Kd.R_set h1 (blk_put hb 0 b0 rfl) hne 1 b1
  exact Kd.R_set h2 (blk_put (blk_put hb 0 b0 rfl) 1 b1 rfl) hne 2 b2
set_option maxHeartbeats 4000000 in
set_option maxRecDepth 100000 in
theorem tag_any (s : S) (hs : s.length ≤ 1048575) (w : World) (hG : Glob w) :
    Calls Tryz.prog 95 #[.string (bs s)] w fun e w' => TokRet (tagP s) e w' w.heap.size ∧ Below w.heap.size w w' := by
  obtain ⟨o, ho⟩ : ∃ o, tagP s = o := ⟨_, rfl⟩
  rw [ho]
  rw [tagP_eq] at ho
  have HO := Aside0.mk ho
  clear ho
  have hwsz := wordsP_size s
  have hsz32 := splitC_size 32 s
  have hsp := fun W (hW : Glob W) => split_any 32 s (by omega) W hW
  have HG := Aside0.mk hG
  clear hG
  go_enter Tryz.func95, Tryz.ntmps95
  go_wp2_with fail
  have hB0 := Aside0.mk (below_alloc (Below.refl w.heap.size w) (.cells #[.int .u8 0, .string ⟨#[]⟩, .slice none 0 0] 101))
  have BK0 := Aside0.mk (blk_new w (.cells #[.int .u8 0, .string ⟨#[]⟩, .slice none 0 0] 101))
  have hgt : w.heap.size < (w.alloc (.cells #[.int .u8 0, .string ⟨#[]⟩, .slice none 0 0] 101)).heap.size := by simp
  generalize w.alloc (.cells #[.int .u8 0, .string ⟨#[]⟩, .slice none 0 0] 101) = W0 at hB0 BK0 hgt ⊢
  obtain ⟨g, hg⟩ : ∃ g, w.heap.size = g := ⟨_, rfl⟩
  rw [hg] at BK0 hgt ⊢
  have hge : w.heap.size ≤ g := Nat.le_of_eq hg
  clear hg
  refine (hsp W0 (HG.out.below hB0.out)).mono ?_
  rintro e W1 ⟨rfl, rfl⟩
  have hB1 := Aside0.mk (below_alloc hB0.out (.cells (((splitC 32 s).map bs).map Value.string).toArray 9))
  have BK1 := Aside0.mk (blk_alloc BK0.out (.cells (((splitC 32 s).map bs).map Value.string).toArray 9))
  have hdel := delete_any W0.heap.size (splitC 32 s) (W0.alloc (.cells (((splitC 32 s).map bs).map Value.string).toArray 9)) (g + 1) hgt (blk_new W0 _) (by omega)
  rw [show (splitC 32 s).filter (fun x => !x.isEmpty) = wordsP s from rfl] at hdel
  clear hB0 BK0 hsp
  generalize W0.alloc (.cells (((splitC 32 s).map bs).map Value.string).toArray 9) = W1 at hB1 BK1 hdel ⊢
  generalize (splitC 32 s).length = n1 at *
  go_wp2_with fail
  refine hdel.mono ?_
  rintro e W2 ⟨rfl, hRd, hb2⟩
  have hB2 := Aside0.mk (hB1.out.trans (hb2.mono (by omega)))
  have BK2 := Aside0.mk ((hb2.block g (by omega)).trans BK1.out)
  clear hB1 BK1 hb2 hdel
  generalize wordsP s = p at *
  obtain ⟨z0, z1, z2, f0, f1, f2⟩ := cells_3 BK2.out
  by_cases h0 : p.length = 0
  · obtain rfl : o = none := by rw [← HO.out]; unfold tagW tagX; rw [if_pos (.inl h0)]
    have e0 : ((p.length : Int) == 0) = true := by rw [beq_iff_eq]; omega
    clear h0
    go_wp2
    refine bodyPost_ret (results_ct rfl _ _ g 101 #[.int .u8 0, .string ⟨#[]⟩, .slice none 0 0] (0, 0) _ rfl (blk3 BK2.out) Tryz.underlying101 rfl (by kernel_rfl)) rfl ?_
    exact ⟨rfl, below3 hB2.out hge⟩
  have e0 : ((p.length : Int) == 0) = false := by rw [beq_eq_false_iff_ne]; omega
  by_cases h2 : 2 < p.length
  · obtain rfl : o = none := by rw [← HO.out]; unfold tagW tagX; rw [if_pos (.inr h2)]
    have e2 : decide ((2 : Int) < (p.length : Int)) = true := by rw [decide_eq_true_eq]; omega
    have e3 : decide (2 < p.length) = true := by rw [decide_eq_true_eq]; omega
    clear h0 h2
    go_wp2
    refine bodyPost_ret (results_ct rfl _ _ g 101 #[.int .u8 0, .string ⟨#[]⟩, .slice none 0 0] (0, 0) _ rfl (blk3 BK2.out) Tryz.underlying101 rfl (by kernel_rfl)) rfl ?_
    exact ⟨rfl, below3 hB2.out hge⟩
  have e2 : decide ((2 : Int) < (p.length : Int)) = false := by rw [decide_eq_false_iff_not]; omega
  have e3 : decide (2 < p.length) = false := by rw [decide_eq_false_iff_not]; omega
  obtain ⟨b, off, hA, hc0⟩ := cellS hRd 0 (by omega)
  cases hA
  obtain ⟨b, off, hA, hc1⟩ := cellS hRd (p.length - 1) (by omega)
  cases hA
  have hl1 : (0 : Int) ≤ (p.length : Int) - 1 := by omega
  have hl2 : (p.length : Int) - 1 < (p.length : Int) := by omega
  have hl3 : 0 < p.length := by omega
  have hx0 : (p.getD (p.length - 1) []).length ≤ s.length := by
    have hlt : p.length - 1 < p.length := by omega
    have e : p.getD (p.length - 1) [] = p[p.length - 1] := by simp [List.getD, hlt]
    rw [e]; exact hwsz.2 _ (List.getElem_mem _)
  replace hc0 : W2.cell? ⟨W0.heap.size, 0, none⟩ = some (.string (bs (p.getD 0 []))) := hc0
  replace hc1 : W2.cell? ⟨W0.heap.size, p.length - 1, none⟩ = some (.string (bs (p.getD (p.length - 1) []))) := by rw [← Nat.zero_add (p.length - 1)]; simpa using hc1
  have HO2 : tagX p.length (p.getD 0 []) (p.getD (p.length - 1) []) = o := HO.out
  generalize p.getD 0 [] = x0 at *
  generalize p.getD (p.length - 1) [] = x1 at *
  have hn12 : p.length = 1 ∨ p.length = 2 := by omega
  clear hwsz hsz32 hRd HO h0 h2
  generalize p.length = n at *
  have hown := ownP_lt x0
  go_wp2_with fail
  refine (scan_own.calls 5 (bs x0) _ _ (own_f _)).mono ?_
  rintro e W3 ⟨rfl, ⟨q3, rfl⟩⟩
  have hbD := below_ahead' W2 q3
  have hB := Aside0.mk (below_step hB2.out hbD)
  have BK := Aside0.mk (blk_below BK2.out hbD)
  have HGD := Aside0.mk (HG.out.below hB.out)
  replace hc1 := pw_cell_below hbD hc1
  generalize W2.drewN q3 = W at *
  clear hB2 BK2 z0 z1 z2 f0 f1 f2 hbD HG hc0
  obtain ⟨z0, z1, z2, f0, f1, f2⟩ := cells_3 BK.out
  have HT : o = tagY n x0 x1 := by rw [← HO2, tagX, if_neg (by omega)]
  unfold tagY at HT
  clear HO2
  generalize ownP x0 = k at *
  by_cases k46 : k = 4 ∨ k = 6
  · rw [if_pos k46] at HT
    have hb : ((k : Int) == 4) = true ∨ (((k : Int) == 4) = false ∧ ((k : Int) == 6) = true) := by
      rcases k46 with rfl | rfl
      · exact .inl rfl
      · exact .inr ⟨rfl, rfl⟩
    clear k46
    rcases hn12 with rfl | rfl
    · obtain rfl := HT
      rcases hb with b1 | ⟨b1, b2⟩
      all_goals
        go_wp2
        refine bodyPost_ret (results_ct rfl _ _ g 101 #[.int .u8 k, .string ⟨#[]⟩, .slice none 0 0] (0, 0) _ rfl (blk3 BK.out) Tryz.underlying101 rfl (by kernel_rfl)) rfl ?_
        exact ⟨⟨none, 0, rfl, Kd.R_nil _ _ _ _ _⟩, below3 hB.out hge⟩
    · obtain rfl := HT
      rcases hb with b1 | ⟨b1, b2⟩
      all_goals
        go_wp2
        refine bodyPost_ret (results_ct rfl _ _ g 101 #[.int .u8 0, .string ⟨#[]⟩, .slice none 0 0] (0, 0) _ rfl (blk3 BK.out) Tryz.underlying101 rfl (by kernel_rfl)) rfl ?_
        exact ⟨rfl, below3 hB.out hge⟩
  rw [if_neg k46] at HT
  have n4 : ((k : Int) == 4) = false := by rw [beq_eq_false_iff_ne]; omega
  have n6 : ((k : Int) == 6) = false := by rw [beq_eq_false_iff_ne]; omega
  by_cases hbad : (k ≠ 2 ∧ n ≠ 2) ∨ (k = 2 ∧ n ≠ 1)
  · rw [if_pos hbad] at HT
    obtain rfl := HT
    have hb : (((k : Int) == 2) = false ∧ ((k : Int) != 2) = true ∧ n = 1) ∨ (k = 2 ∧ n = 2) := by
      rw [beq_eq_false_iff_ne, bne_iff_ne]; omega
    clear hbad k46 hn12
    rcases hb with ⟨b1, b2, rfl⟩ | ⟨rfl, rfl⟩
    all_goals
      go_wp2
      refine bodyPost_ret (results_ct rfl _ _ g 101 #[.int .u8 0, .string ⟨#[]⟩, .slice none 0 0] (0, 0) _ rfl (blk3 BK.out) Tryz.underlying101 rfl (by kernel_rfl)) rfl ?_
      exact ⟨rfl, below3 hB.out hge⟩
  rw [if_neg hbad] at HT
  have hb : (((k : Int) == 2) = false ∧ ((k : Int) != 2) = true ∧ n = 2) ∨ (k = 2 ∧ n = 1) := by
    rw [beq_eq_false_iff_ne, bne_iff_ne]; omega
  have hP := path_any x1 (by omega) W HGD.out
  unfold pathOf at HT
  have HT := Aside0.mk HT
  clear hbad k46 hn12
  generalize hpp : pathP (splitC 46 x1) = pp at *
  rcases hb with ⟨b1, b2, rfl⟩ | ⟨rfl, rfl⟩
  all_goals
    cases pp
    · have ho : o = none := HT.out
      obtain rfl := ho
      go_wp2_with fail
      refine hP.mono ?_
      rintro e W4 ⟨v, rfl, hv, hb4⟩
      have hB4 := Aside0.mk (below_step hB.out hb4)
      have BK4 := Aside0.mk (blk_below BK.out hb4)
      clear hB BK z0 z1 z2 f0 f1 f2 hb4
      obtain ⟨z0, z1, z2, f0, f1, f2⟩ := cells_3 BK4.out
      go_wp2
      refine bodyPost_ret (results_ct rfl _ _ g 101 #[.int .u8 0, .string ⟨#[]⟩, .slice none 0 0] (0, 0) _ rfl (blk3 BK4.out) Tryz.underlying101 rfl (by kernel_rfl)) rfl ?_
      exact ⟨rfl, below3 hB4.out hge⟩
    · have ho : o = some ⟨_, [], splitC 46 x1⟩ := HT.out
      obtain rfl := ho
      go_wp2_with fail
      refine hP.mono ?_
      rintro e W4 ⟨v, rfl, hv, hb4⟩
      obtain ⟨A, c, rfl, hR4⟩ := hv rfl
      have hB4 := Aside0.mk (below_step hB.out hb4)
      have BK4 := Aside0.mk (blk_below BK.out hb4)
      have HR4 := Aside0.mk (Kd.R_mono (Kd.R_lower hR4 hB.out.size) (fun k hk => Nat.le_trans hB.out.size hk))
      clear hB BK z0 z1 z2 f0 f1 f2 hb4 hR4
      obtain ⟨z0, z1, z2, f0, f1, f2⟩ := cells_3 BK4.out
      go_wp2
      refine bodyPost_ret (results_ct rfl _ _ g 101 #[.int .u8 _, .string ⟨#[]⟩, .slice A (splitC 46 x1).length c] (0, 0) _ rfl (blk3 BK4.out) Tryz.underlying101 rfl (by kernel_rfl)) rfl ?_
      exact ⟨⟨A, c, rfl, R_set3 HR4.out BK4.out⟩, below3 hB4.out hge⟩
end Go.Proofs.YtniibpndgcndbaaGreatDoor.Tpl
namespace Go.Proofs.YtniibpndgcndbaaGreatDoor.Tpl
open Go.RowKit Go.Proofs Go.Proofs.YtniibpndgcndbaaGreatDoor.PB Go.Proofs.YtniibpndgcndbaaGreatDoor.Short Go.Proofs.YtniibpndgcndbaaGreatDoorW.PrintWords Go.Proofs.YtniibpndgcndbaaGreatDoorW.PrintLast Go.Proofs.YtniibpndgcndbaaGreatDoorW.PrintMore Vals
abbrev vAgg (x : Val) (A3 : Option Addr) (c3 : Nat) (A4 : Option Addr) (c4 : Nat) : Value := .agg #[.int .u8 x.k, .string (bs x.t), .int .i64 x.n, .slice A3 x.i.len c3, .slice A4 x.m.length c4]
abbrev zAgg : Value := .agg #[.int .u8 0, .string ⟨#[]⟩, .int .i64 0, .slice none 0 0, .slice none 0 0]
def RdV (w : World) (x : Val) (A3 : Option Addr) (c3 : Nat) (A4 : Option Addr) (c4 : Nat) : Prop := Vals.Rd w A3 c3 x.i ∧ RdS w A4 c4 x.m
theorem RdV.below {w w1 : World} {x : Val} {A3 : Option Addr} {c3 : Nat} {A4 : Option Addr} {c4 : Nat} (h : RdV w x A3 c3 A4 c4) (hb : Below w.heap.size w w1) : RdV w1 x A3 c3 A4 c4 := ⟨h.1.below hb, RdS.below h.2 hb⟩
def RV (w : World) (ok : Nat → Prop) (x : Val) (A3 : Option Addr) (c3 : Nat) (A4 : Option Addr) (c4 : Nat) : Prop := FdV w ok A3 c3 x.i ∧ FdS w ok A4 c4 x.m
theorem RV.rd {w : World} {ok : Nat → Prop} {x : Val} {A3 : Option Addr} {c3 : Nat} {A4 : Option Addr} {c4 : Nat} (h : RV w ok x A3 c3 A4 c4) : RdV w x A3 c3 A4 c4 := ⟨h.1.rd, h.2.rd⟩
theorem RV.mono {w : World} {ok ok' : Nat → Prop} {x : Val} {A3 : Option Addr} {c3 : Nat} {A4 : Option Addr} {c4 : Nat} (h : RV w ok x A3 c3 A4 c4) (hk : ∀ k, ok k → ok' k) : RV w ok' x A3 c3 A4 c4 := ⟨⟨Kd.F_mono h.1.1 hk, h.1.2⟩, ⟨Kd.F_mono h.2.1 hk, h.2.2⟩⟩
theorem RV.step {w w1 : World} {ok : Nat → Prop} {x : Val} {A3 : Option Addr} {c3 : Nat} {A4 : Option Addr} {c4 : Nat} (h : RV w ok x A3 c3 A4 c4) (hm : ∀ k, ok k → k < w.heap.size → w1.heap[k]? = w.heap[k]?) : RV w1 (fun k => ok k ∧ k < w.heap.size) x A3 c3 A4 c4 :=
  ⟨⟨Kd.F_step (Kd.F_bound h.1.1) (fun k hk _ => hm k hk.1 hk.2), h.1.2⟩, ⟨Kd.F_step (Kd.F_bound h.2.1) (fun k hk _ => hm k hk.1 hk.2), h.2.2⟩⟩
theorem RV.of_rd {w : World} {x : Val} {A3 : Option Addr} {c3 : Nat} {A4 : Option Addr} {c4 : Nat} (h : RdV w x A3 c3 A4 c4) : RV w (fun k => k < w.heap.size) x A3 c3 A4 c4 := ⟨Tpl.Rd.fd h.1, Tpl.RdS.fd h.2⟩
def FindRet (o : Except Int Val) (ok : Nat → Prop) (w : World) (e : Ending) (w' : World) : Prop :=
  Below w.heap.size w w' ∧ match o with
  | .error k => e = .returned (.tuple #[zAgg, .int .i64 k])
  | .ok x => ∃ A3 c3 A4 c4, e = .returned (.tuple #[vAgg x A3 c3 A4 c4, .int .i64 0]) ∧ RV w' (fun q => ok q ∨ w.heap.size ≤ q) x A3 c3 A4 c4
theorem FdS.bound {w : World} {ok : Nat → Prop} {A : Option Addr} {c : Nat} {l : List S} (h : FdS w ok A c l) : FdS w (fun q => ok q ∧ q < w.heap.size) A c l := ⟨Kd.F_bound h.1, h.2⟩
theorem FdV.at {w : World} {ok : Nat → Prop} {A : Option Addr} {c : Nat} {l : Vals} (h : FdV w ok A c l) {j : Nat} {k t n i m r} (hd : l.drop j = cons k t n i m r) :
    ∃ ad A3 c3 A4 c4, A = some ad ∧ w.cell? (ad.add (j * 5)) = some (.int .u8 k) ∧ w.cell? ⟨(ad.add (j * 5)).block, (ad.add (j * 5)).off + 1, none⟩ = some (.string (bs t)) ∧ w.cell? ⟨(ad.add (j * 5)).block, (ad.add (j * 5)).off + 2, none⟩ = some (.int .i64 n) ∧
      w.cell? ⟨(ad.add (j * 5)).block, (ad.add (j * 5)).off + 3, none⟩ = some (.slice A3 i.len c3) ∧ w.cell? ⟨(ad.add (j * 5)).block, (ad.add (j * 5)).off + 4, none⟩ = some (.slice A4 m.length c4) ∧ FdV w ok A3 c3 i ∧ FdS w ok A4 c4 m := by
  have hl := (drop_step hd).1
  obtain ⟨ad, cs, rfl, _, hK, hc, _⟩ := Kd.F_get h.1 z43 (j : Int) (by omega) (by omega)
  rw [rd_drop hd] at hK
  obtain ⟨A3, c3, A4, c4, rfl, l3, F3, l4, F4⟩ := k43_openF hK
  simp only [List.length_map, of_len] at l3 F3 l4 F4
  have hc' : ∀ q u, [Value.int .u8 k, .string (bs t), .int .i64 n, .slice A3 i.len c3, .slice A4 m.length c4][q]? = some u → w.cell? (ad.add (j * 5 + q)) = some u := by
    intro q u hq
    have h := hc q u (by simpa [of_len] using hq)
    rwa [Int.toNat_natCast] at h
  refine ⟨ad, A3, c3, A4, c4, rfl, hc' 0 _ rfl, by rw [← add_field _ _ 1 (by omega)]; exact hc' 1 _ rfl, by rw [← add_field _ _ 2 (by omega)]; exact hc' 2 _ rfl, by rw [← add_field _ _ 3 (by omega)]; exact hc' 3 _ rfl, by rw [← add_field _ _ 4 (by omega)]; exact hc' 4 _ rfl, ⟨F3, l3⟩, ⟨F4, l4⟩⟩
theorem leaf_rising {k : Nat} {t : S} {n : Int} {il : Nat} {m : List S} (h : leafV k t n il m = true) : risingP m = true ∧ (0 < m.length → m.length = il) := by
  unfold leafV at h
  split at h
  · simp at h; have h0 : m = [] := h.2.2; subst h0; exact ⟨rfl, fun h => by cases h⟩
  split at h
  · simp at h; have h0 : m = [] := h.2.2; subst h0; exact ⟨rfl, fun h => by cases h⟩
  split at h
  · simp at h; have h0 : m = [] := h.2.2; subst h0; exact ⟨rfl, fun h => by cases h⟩
  split at h
  · simp only [Bool.and_eq_true, beq_iff_eq] at h; exact ⟨h.2, fun _ => h.1.2⟩
  split at h
  · simp at h; have h0 : m = [] := h.2; subst h0; exact ⟨rfl, fun h => by cases h⟩
  · cases h
theorem cnt_nth (l : Vals) : ∀ {j x}, l.nth j = some x → x.i.cnt + 1 ≤ l.cnt := by
  induction l with
  | nil => intro j x h; cases j <;> simp [Vals.nth] at h
  | cons k t n i m r _ ih =>
    intro j x hx
    cases j with
    | zero => simp only [Vals.nth, Option.some.injEq] at hx; subst hx; simp only [Vals.cnt]; omega
    | succ j => have := ih hx; simp only [Vals.cnt]; omega
theorem FindP_bad {v : Val} {path : List S} (h : v.ok = false) : FindP v path = .error 2 := by unfold FindP; rw [if_neg (by simp [h])]
theorem FindP_go {v : Val} {path : List S} (h : v.ok = true) : FindP v path = optE (findV v path) := by unfold FindP; rw [if_pos h]
set_option maxHeartbeats 2000000 in
set_option maxRecDepth 100000 in
theorem vfind_any (v : Val) (A3 : Option Addr) (c3 : Nat) (A4 : Option Addr) (c4 : Nat) (Ap : Option Addr) (cp : Nat) (path : List S) (ok : Nat → Prop) (w : World) (hs : v.sm) (hR : RV w ok v A3 c3 A4 c4) (hc : v.i.cnt ≤ 1048576) (hP : RdS w Ap cp path) (hp : path.length ≤ 1048576) :
    Calls Tryz.prog 89 #[vAgg v A3 c3 A4 c4, .slice Ap path.length cp] w (FindRet (FindP v path) ok w) := by
  obtain ⟨k, t, n, i, m⟩ := v
  have HS := Aside0.mk hs
  have HR := Aside0.mk hR
  have HP := Aside0.mk hP
  have HC := Aside0.mk hc
  obtain ⟨ov, hov⟩ : ∃ o, FindP ⟨k, t, n, i, m⟩ path = o := ⟨_, rfl⟩
  rw [hov]
  have hb2 := below_alloc (below_alloc (Below.refl w.heap.size w) (vBox k t n A3 i.len c3 A4 m.length c4)) zBox
  have BK1 := blk_alloc (blk_new w (vBox k t n A3 i.len c3 A4 m.length c4)) zBox
  have BK2 := blk_new (w.alloc (vBox k t n A3 i.len c3 A4 m.length c4)) zBox
  rw [World.size_alloc] at BK2
  have hchk := vchk_any k t n i m A3 c3 A4 c4 _ hs (hR.rd.1.below hb2) (RdS.below hR.rd.2 hb2) hc
  have HB2 := Aside0.mk hb2
  have HOV := Aside0.mk hov
  clear hs hR hP hb2 hov hc
  go_enter Tryz.func89, Tryz.ntmps89
  go_wp2_with fail
  generalize ((w.alloc (vBox k t n A3 i.len c3 A4 m.length c4)).alloc zBox) = W at BK1 BK2 HB2 hchk ⊢
  obtain ⟨b1, hb1⟩ : ∃ b, w.heap.size = b := ⟨_, rfl⟩
  have Hb1 := Aside0.mk hb1
  rw [hb1] at BK1 BK2 ⊢
  clear hb1
  refine hchk.mono ?_
  rintro e w1 ⟨rfl, hb⟩
  have HB1 := Aside0.mk (below_step HB2.out hb)
  have HK1 := Aside0.mk (blk_below BK1 hb)
  have HK2 := Aside0.mk (blk_below BK2 hb)
  have hle1 : w.heap.size ≤ b1 := Nat.le_of_eq Hb1.out
  clear hb BK1 BK2 HB2 hchk
  cases hck : chkV k t n i m with
  | false =>
    have HO : Except.error 2 = ov := (FindP_bad (show Val.ok ⟨k, t, n, i, m⟩ = false from hck)).symm.trans HOV.out
    subst HO
    clear HOV hck
    have hlt2 : b1 + 1 < w1.heap.size := blk_lt HK2.out
    obtain ⟨x0, x1, x2, x3, x4, q0, q1, q2, q3, q4⟩ := cells_5 HK2.out
    go_wp2
    refine bodyPost_ret (results_ct rfl _ _ (b1 + 1) 43 #[.int .u8 0, .string ⟨#[]⟩, .int .i64 0, .slice none 0 0, .slice none 0 0] (0, 0) _ rfl (put5_blk HK2.out) Tryz.underlying43 rfl (by kernel_rfl)) rfl ?_
    exact ⟨put5_below HB1.out (by omega), rfl⟩
  | true =>
    obtain ⟨o, ho⟩ : ∃ o, findV ⟨k, t, n, i, m⟩ path = o := ⟨_, rfl⟩
    have HO : Aside0 (optE o = ov) := ⟨by have h := HOV.out; rw [FindP_go (show Val.ok ⟨k, t, n, i, m⟩ = true from hck), ho] at h; exact h⟩
    have HF := Aside0.mk ho
    have HCK := Aside0.mk hck
    clear HOV ho hck
    obtain ⟨z0, z1, z2, z3, z4, f0, f1, f2, f3, f4⟩ := cells_5 HK1.out
    go_wp2
    go_loopw [19] (fun u wr => ∃ (j : Nat) (x : Val) (B3 : Option Addr) (d3 : Nat) (B4 : Option Addr) (d4 : Nat), u = .int .i64 j ∧ j ≤ path.length ∧ Aside0 (wr.heap[b1]? = some (vObj x.k x.t x.n x.i x.m B3 d3 B4 d4)) ∧ Aside0 (wr.heap[b1 + 1]? = some zBox) ∧ Aside0 (RV w ok x B3 d3 B4 d4) ∧ Aside0 (x.ok = true) ∧ Aside0 x.sm ∧ Aside0 (x.i.cnt ≤ 1048576) ∧ Aside0 (findV x (path.drop j) = o) ∧ Aside0 (Below w.heap.size w wr)) (fun u _ => path.length - (intOf u).toNat)
    case atStart => exact ⟨0, ⟨k, t, n, i, m⟩, A3, c3, A4, c4, rfl, Nat.zero_le _, HK1, HK2, HR, HCK, HS, HC, HF, HB1⟩
    case round =>
      clear z0 z1 z2 z3 z4 f0 f1 f2 f3 f4 HK1 HK2 HR HCK HS HC HF HB1
      obtain ⟨j, x, B3, d3, B4, d4, rfl, hj, HK1, HK2, HR, HCK, HS, HC, HF, HB1⟩ := hrel
      obtain ⟨k, t, n, i, m⟩ := x
      simp only at HK1 HK2 HR HCK HS HC
      obtain ⟨z0, z1, z2, z3, z4, f0, f1, f2, f3, f4⟩ := cells_5 HK1.out
      have hlt1 : b1 < wr.heap.size := blk_lt HK1.out
      have hlt2 : b1 + 1 < wr.heap.size := blk_lt HK2.out
      by_cases hjp : j < path.length
      · have hdr : path.drop j = path.getD j [] :: path.drop (j + 1) := by rw [List.drop_eq_getElem_cons hjp]; simp [List.getD, hjp]
        obtain ⟨bp, op, rfl, hcs⟩ := cellS HP.out j hjp
        replace hcs := pw_cell_below HB1.out hcs
        have HF' : Aside0 (findV ⟨k, t, n, i, m⟩ (path.getD j [] :: path.drop (j + 1)) = o) := ⟨by have h := HF.out; rwa [hdr] at h⟩
        obtain ⟨s, hse⟩ : ∃ s, path.getD j [] = s := ⟨_, rfl⟩
        rw [hse] at hcs HF'
        clear hdr hse HF
        have hlf : leafV k t n i.len m = true ∧ okV i 7 = true ∧ i.cnt ≤ 255 := (chkV_iff _ _ _ _ _).1 HCK.out
        obtain ⟨hri, hlen⟩ := leaf_rising hlf.1
        have hml : m.length ≤ 1048576 := HS.out.2.2.2.2.1
        have hbs := fun W (hb : Below w.heap.size w W) => bs_any B4 d4 m s W (RdS.below HR.out.rd.2 hb) hri hml
        have hps := posS_posL m s (risingQ_iff m none hri).1
        clear hri
        cases hct : m.contains s with
        | false =>
          have HO2 : Aside0 (o = none) := ⟨by rw [← HF'.out, findV]; simp only [hct]; rfl⟩
          rw [hct] at hbs
          clear hct hps HF'
          go_wp2_with fail
          refine (hbs wr HB1.out).mono ?_
          rintro e w2 ⟨rfl, q, rfl⟩
          obtain ⟨x0, x1, x2, x3, x4, q0, q1, q2, q3, q4⟩ := cells_5 HK2.out
          go_wp2
          refine bodyPost_ret (results_ct rfl _ _ (b1 + 1) 43 #[.int .u8 0, .string ⟨#[]⟩, .int .i64 0, .slice none 0 0, .slice none 0 0] (0, 0) _ rfl (put5_blk HK2.out) Tryz.underlying43 rfl (by kernel_rfl)) rfl ?_
          have hov : Except.error 3 = ov := by rw [← HO.out, HO2.out]; rfl
          subst hov
          exact ⟨put5_below (pw_below_drewN HB1.out q) (by omega), rfl⟩
        | true =>
          rw [hct] at hbs
          have hpl : posL m s < m.length := (hps.1.2 hct).1
          have hil : m.length = i.len := hlen (by omega)
          obtain ⟨y, r, hy, hyd⟩ := Vals.nth_some i (j := posL m s) (by omega)
          have HF2 : Aside0 (findV y (path.drop (j + 1)) = o) := ⟨by rw [← HF'.out, findV]; simp only [hct, if_true, hps.2 hct, hy]⟩
          have HY := Aside0.mk hy
          obtain ⟨ad, C3, e3, C4, e4, rfl, y0, y1, y2, y3, y4, R3, R4⟩ := FdV.at HR.out.1 hyd
          replace y0 := pw_cell_below HB1.out y0
          replace y1 := pw_cell_below HB1.out y1
          replace y2 := pw_cell_below HB1.out y2
          replace y3 := pw_cell_below HB1.out y3
          replace y4 := pw_cell_below HB1.out y4
          have hpi : posL m s < i.len := by omega
          obtain ⟨pl, hpe⟩ : ∃ p, posL m s = p := ⟨_, rfl⟩
          rw [hpe] at y0 y1 y2 y3 y4 hpi HY
          simp only [hpe] at hbs
          clear hct hps HF' hy hyd hpl hlen hlf hpe hil
          go_wp2_with fail
          refine (hbs wr HB1.out).mono ?_
          rintro e w2 ⟨rfl, q, rfl⟩
          clear hbs
          have hne : b1 + 1 ≠ b1 := by omega
          go_wp2
          go_roundw
          case rel => exact ⟨j + 1, y, C3, e3, C4, e4, by simp, by omega, ⟨put5_blk HK1.out⟩, ⟨(put5_far hne).trans HK2.out⟩, ⟨R3, R4⟩, ⟨ok_nth HCK.out HY.out⟩, ⟨sm_nth i HS.out.2.2.2.2.2.2.1 HY.out⟩, ⟨by have := cnt_nth i HY.out; have := HC.out; omega⟩, HF2, ⟨put5_below (pw_below_drewN HB1.out q) (by omega)⟩⟩
          case measure => simp [intOf]; omega
      · have hjl : j = path.length := by omega
        subst hjl
        have HO2 : Aside0 (o = some ⟨k, t, n, i, m⟩) := ⟨by rw [← HF.out, List.drop_eq_nil_of_le (Nat.le_refl _), findV]⟩
        clear HF hjp
        have hown := own_any (i.cnt + 1) k t n i m B3 d3 B4 d4 (fun q => ok q ∧ q < w.heap.size) (fun q => ok q ∧ q < w.heap.size) wr (Nat.lt_succ_self _) HS.out (HR.out.1.bound.below HB1.out) ((FdS.bound HR.out.2).below HB1.out)
        go_wp2_with fail
        refine hown.mono ?_
        rintro e w2 ⟨E3, f3', E4, f4', rfl, hN, hRs, hb⟩
        clear hown
        have HK2' := Aside0.mk (blk_below HK2.out hb)
        have hlt3 : b1 + 1 < w2.heap.size := blk_lt HK2'.out
        obtain ⟨x0, x1, x2, x3, x4, q0, q1, q2, q3, q4⟩ := cells_5 HK2'.out
        have HN := Aside0.mk hN
        have HRS := Aside0.mk hRs
        have HB := Aside0.mk (below_step HB1.out hb)
        clear hN hRs hb
        go_wp2
        refine bodyPost_ret (results_ct rfl _ _ (b1 + 1) 43 #[.int .u8 k, .string (bs t), .int .i64 n, .slice E3 i.len f3', .slice E4 m.length f4'] (0, 0) _ rfl (put5_blk HK2'.out) Tryz.underlying43 rfl (by kernel_rfl)) rfl ?_
        have hov : Except.ok ⟨k, t, n, i, m⟩ = ov := by rw [← HO.out, HO2.out]; rfl
        subst hov
        have hb1 := Hb1.out
        refine ⟨put5_below HB.out (by omega), E3, f3', E4, f4', rfl, (NV.fd (Kd.N_step HN.out (fun q hq _ => put5_far (fun e => by omega)))).mono (fun q hq => by rcases hq with hq | hq; exact .inl hq.1; exact .inr (by omega)), (RS.fd (Kd.R_step HRS.out (fun q hq _ => put5_far (fun e => by omega)))).mono (fun q hq => .inr (by omega))⟩
end Go.Proofs.YtniibpndgcndbaaGreatDoor.Tpl
namespace Go.Proofs.YtniibpndgcndbaaGreatDoor.Tpl
open Go.RowKit Go.Proofs Go.Proofs.YtniibpndgcndbaaGreatDoor.PB Go.Proofs.YtniibpndgcndbaaGreatDoor.Short Go.Proofs.YtniibpndgcndbaaGreatDoorW.PrintWords Go.Proofs.YtniibpndgcndbaaGreatDoorW.PrintLast Go.Proofs.YtniibpndgcndbaaGreatDoorW.PrintMore Vals
def GTab (w : World) : Prop := Lib.TabIs Tryz.prog w "internal/strconv.uint64pow10" .u64 Lib.pow10Tab
theorem gTabN : Tryz.prog.globalNamed "internal/strconv.uint64pow10" = some 4 := by kernel_rfl
theorem GTab.below {w w' : World} (h : GTab w) (hb : Below w.heap.size w w') : GTab w' := by
  unfold GTab Lib.TabIs World.var? at h ⊢
  rw [gTabN] at h ⊢
  simp only [Option.bind_some] at h ⊢
  have hlt : 4 < w.heap.size := by
    rcases Nat.lt_or_ge 4 w.heap.size with h' | h'
    · exact h'
    · rw [Array.getElem?_eq_none h'] at h; cases h
  rw [hb.block _ hlt]
  exact h
theorem fmt_any (n : Int) (h : -9223372036854775808 ≤ n ∧ n ≤ 9223372036854775807) (w : World) (hT : GTab w) : Calls Tryz.prog 186 #[.int .i64 n, .int .i64 10] w fun e w' => e = .returned (.string (bs (Lib.itoa n))) ∧ Below w.heap.size w w' := by
  refine (Tryz.strconv_FormatInt_10 n h.1 h.2 w hT).mono ?_
  rintro e w' ⟨rfl, k, os, rfl⟩
  exact ⟨rfl, Lib.below_grow _ _ (Nat.le_refl _) k os⟩
set_option maxHeartbeats 1000000 in
set_option maxRecDepth 100000 in
theorem vshow_any (k : Nat) (t : S) (n : Int) (i : Vals) (m : List S) (A3 : Option Addr) (c3 : Nat) (A4 : Option Addr) (c4 : Nat) (w : World) (hs : (cons k t n i m Vals.nil).sm) (hR : Vals.Rd w A3 c3 i) (hM : RdS w A4 c4 m) (hc : i.cnt ≤ 1048576) (hT : GTab w) :
    Calls Tryz.prog 160 #[.agg #[.int .u8 k, .string (bs t), .int .i64 n, .slice A3 i.len c3, .slice A4 m.length c4]] w fun e w' => e = .returned (.tuple #[.string (bs (showP ⟨k, t, n, i, m⟩)), .int .i64 (if chkV k t n i m = true then 0 else 2)]) ∧ Below w.heap.size w w' := by
  have hb0 := below_alloc (Below.refl w.heap.size w) (vBox k t n A3 i.len c3 A4 m.length c4)
  have hn0 := blk_new w (vBox k t n A3 i.len c3 A4 m.length c4)
  have hA := vchk_any k t n i m A3 c3 A4 c4 (w.alloc (vBox k t n A3 i.len c3 A4 m.length c4)) hs (hR.below hb0) (RdS.below hM hb0) hc
  have hn : -9223372036854775808 ≤ n ∧ n ≤ 9223372036854775807 := hs.2.2.1
  have hil : i.len ≤ 1048576 := hs.2.2.2.1
  have HB0 := Aside0.mk hb0
  have HN0 := Aside0.mk hn0
  have HT := Aside0.mk (hT.below hb0)
  clear hR hM hs hb0 hn0 hT
  obtain ⟨sv, he⟩ : ∃ v : S, showP ⟨k, t, n, i, m⟩ = v := ⟨_, rfl⟩
  rw [he]
  cases hch : chkV k t n i m with
  | false =>
    have he2 : sv = [] := by rw [← he]; unfold showP Val.ok; simp only [hch]; rfl
    subst he2
    rw [hch] at hA
    clear he hch
    go_enter Tryz.func160, Tryz.ntmps160
    go_wp2_with fail
    refine hA.mono ?_
    rintro e w1 ⟨rfl, hb⟩
    have HB1 := Aside0.mk (below_step HB0.out hb)
    clear hb hA
    go_wp2
    go_ret2
    exact ⟨rfl, HB1.out⟩
  | true =>
    have he2 : showV k t n i.len = sv := by rw [← he]; unfold showP Val.ok; simp only [hch, if_true]
    rw [hch] at hA
    have HE := Aside0.mk he2
    clear he hch he2
    go_enter Tryz.func160, Tryz.ntmps160
    go_wp2_with fail
    refine hA.mono ?_
    rintro e w1 ⟨rfl, hb⟩
    have HB1 := Aside0.mk (below_step HB0.out hb)
    have HT1 := Aside0.mk (HT.out.below hb)
    have hn1 := blk_below HN0.out hb
    obtain ⟨m0, m1, m2, m3, m4, n0, n1, n2, n3, n4⟩ := cells_5 hn1
    clear hb hA hn1
    by_cases k1 : k = 1
    · subst k1
      go_wp2
      go_ret2
      exact ⟨by rw [← HE.out]; rfl, HB1.out⟩
    have b1 : ((k : Int) == 1) = false := by rw [beq_eq_false_iff_ne]; omega
    by_cases k3 : k = 3
    · subst k3
      by_cases hn1 : n = 1
      · subst hn1
        go_wp2
        go_ret2
        exact ⟨by rw [← HE.out]; rfl, HB1.out⟩
      · have b2 : (n == 1) = false := by rw [beq_eq_false_iff_ne]; exact hn1
        go_wp2
        go_ret2
        exact ⟨by rw [← HE.out]; unfold showV; rw [if_neg (by decide), if_pos rfl, if_neg hn1]; rfl, HB1.out⟩
    have b3 : ((k : Int) == 3) = false := by rw [beq_eq_false_iff_ne]; omega
    by_cases k2 : k = 2
    · subst k2
      go_wp2_with fail
      refine (fmt_any n hn w1 HT1.out).mono ?_
      rintro e w2 ⟨rfl, hb⟩
      have HB2 := Aside0.mk (below_step HB1.out hb)
      clear hb
      go_wp2
      go_ret2
      exact ⟨by rw [← HE.out]; rfl, HB2.out⟩
    · have b2 : ((k : Int) == 2) = false := by rw [beq_eq_false_iff_ne]; omega
      have hs : showV k t n i.len = Lib.itoa (i.len : Int) := by unfold showV; rw [if_neg k1, if_neg k3, if_neg k2]
      have HS := Aside0.mk (hs.symm.trans HE.out)
      clear hs HE
      go_wp2_with fail
      refine (fmt_any (i.len : Int) (by omega) w1 HT1.out).mono ?_
      rintro e w2 ⟨rfl, hb⟩
      have HB2 := Aside0.mk (below_step HB1.out hb)
      clear hb
      go_wp2
      go_ret2
      exact ⟨by rw [← HS.out]; rfl, HB2.out⟩
end Go.Proofs.YtniibpndgcndbaaGreatDoor.Tpl
namespace Go.Proofs.YtniibpndgcndbaaGreatDoor.Tpl
open Go.RowKit Nodes
def headK (l : List Tok) : Nat := match l with | [] => 0 | t :: _ => t.k
def withP (f : List Tok → Option (Nodes × List Tok)) (k : Nat) (l : List Tok) : Option (Nodes × Nodes × List Tok) :=
  match f l with
  | none => none
  | some (a, r1) =>
    if k = 3 ∧ headK r1 = 4 then
      match f r1.tail with
      | none => none
      | some (b, r2) => if headK r2 = 6 then some (a, b, r2.tail) else none
    else if headK r1 = 6 then some (a, .nil, r1.tail) else none
def stops (k : Nat) : Bool := k == 4 || k == 6
def parN : Nat → List Tok → Option (Nodes × List Tok)
  | 0, _ => none
  | _ + 1, [] => some (.nil, [])
  | n + 1, t :: r =>
    if stops t.k = true then some (.nil, t :: r)
    else if t.k = 3 ∨ t.k = 5 then
      match withP (parN n) t.k r with
      | none => none
      | some (a, b, r1) => match parN n r1 with | none => none | some (rest, r2) => some (.cons t.k t.t t.p a b rest, r2)
    else match parN n r with | none => none | some (rest, r2) => some (.cons t.k t.t t.p .nil .nil rest, r2)
theorem withP_len {f : List Tok → Option (Nodes × List Tok)} {k : Nat} {l r : List Tok} {a b : Nodes} (hf : ∀ l nd r, f l = some (nd, r) → r.length ≤ l.length) (h : withP f k l = some (a, b, r)) : r.length ≤ l.length := by
  unfold withP at h
  cases h1 : f l with
  | none => rw [h1] at h; cases h
  | some x =>
    obtain ⟨a1, r1⟩ := x
    rw [h1] at h
    have l1 := hf _ _ _ h1
    simp only at h
    split at h
    · cases h2 : f r1.tail with
      | none => rw [h2] at h; cases h
      | some y =>
        obtain ⟨b1, r2⟩ := y
        rw [h2] at h
        have l2 := hf _ _ _ h2
        simp only at h
        split at h
        · cases h; simp only [List.length_tail] at *; omega
        · cases h
    · split at h
      · cases h; simp only [List.length_tail] at *; omega
      · cases h
theorem parN_len : ∀ n l nd r, parN n l = some (nd, r) → r.length ≤ l.length := by
  intro n
  induction n with
  | zero => intro l nd r h; cases h
  | succ n ih =>
    intro l nd r h
    cases l with
    | nil => cases h; simp
    | cons t q =>
      rw [parN] at h
      split at h
      · cases h; simp
      split at h
      · cases h1 : withP (parN n) t.k q with
        | none => rw [h1] at h; cases h
        | some x =>
          obtain ⟨a, b, r1⟩ := x
          rw [h1] at h
          have l1 := withP_len ih h1
          simp only at h
          cases h2 : parN n r1 with
          | none => rw [h2] at h; cases h
          | some y =>
            obtain ⟨c, r2⟩ := y
            rw [h2] at h
            have l2 := ih _ _ _ h2
            cases h; simp only [List.length_cons]; omega
      · cases h2 : parN n q with
        | none => rw [h2] at h; cases h
        | some y =>
          obtain ⟨c, r2⟩ := y
          rw [h2] at h
          have l2 := ih _ _ _ h2
          cases h; simp only [List.length_cons]; omega
theorem withP_congr {f g : List Tok → Option (Nodes × List Tok)} {k : Nat} {l : List Tok} (hf : ∀ l nd r, f l = some (nd, r) → r.length ≤ l.length) (h : ∀ q, q.length ≤ l.length → f q = g q) : withP f k l = withP g k l := by
  unfold withP
  rw [← h l (Nat.le_refl _)]
  cases h1 : f l with
  | none => rfl
  | some x =>
    obtain ⟨a1, r1⟩ := x
    have l1 := hf _ _ _ h1
    simp only
    rw [← h r1.tail (by simp only [List.length_tail]; omega)]
theorem parN_fuel : ∀ n m l, l.length < n → l.length < m → parN n l = parN m l := by
  intro n
  induction n with
  | zero => intro m l h; omega
  | succ n ih =>
    intro m l h1 h2
    obtain ⟨m, rfl⟩ : ∃ q, m = q + 1 := ⟨m - 1, by omega⟩
    cases l with
    | nil => rfl
    | cons t q =>
      simp only [List.length_cons] at h1 h2
      rw [parN, parN]
      have hw : withP (parN n) t.k q = withP (parN m) t.k q := withP_congr (parN_len n) (fun z hz => ih m z (by omega) (by omega))
      rw [hw, ih m q (by omega) (by omega)]
      split
      · rfl
      split
      · cases h3 : withP (parN m) t.k q with
        | none => rfl
        | some x =>
          obtain ⟨a, b, r1⟩ := x
          have l1 := withP_len (parN_len m) h3
          simp only
          rw [ih m r1 (by omega) (by omega)]
      · rfl
def parse (l : List Tok) : Option (Nodes × List Tok) := parN (l.length + 1) l
def within (k : Nat) (l : List Tok) : Option (Nodes × Nodes × List Tok) := withP parse k l
theorem parse_len {l r : List Tok} {nd : Nodes} (h : parse l = some (nd, r)) : r.length ≤ l.length := parN_len _ _ _ _ h
theorem within_len {k : Nat} {l r : List Tok} {a b : Nodes} (h : within k l = some (a, b, r)) : r.length ≤ l.length := withP_len (fun _ _ _ => parse_len) h
theorem parse_nil : parse [] = some (.nil, []) := rfl
theorem parse_cons (t : Tok) (r : List Tok) : parse (t :: r) = if stops t.k = true then some (.nil, t :: r)
    else if t.k = 3 ∨ t.k = 5 then
      match within t.k r with
      | none => none
      | some (a, b, r1) => match parse r1 with | none => none | some (rest, r2) => some (.cons t.k t.t t.p a b rest, r2)
    else match parse r with | none => none | some (rest, r2) => some (.cons t.k t.t t.p .nil .nil rest, r2) := by
  have hw : withP (parN (r.length + 1)) t.k r = within t.k r := withP_congr (parN_len _) (fun z hz => parN_fuel _ _ z (by omega) (by omega))
  unfold parse
  rw [List.length_cons, parN, hw]
  split
  · rfl
  split
  · cases h3 : within t.k r with
    | none => rfl
    | some x =>
      obtain ⟨a, b, r1⟩ := x
      have l1 := within_len h3
      simp only
      rw [parN_fuel (r.length + 1) (r1.length + 1) r1 (by omega) (by omega)]
  · rfl
theorem withP_cnt {f : List Tok → Option (Nodes × List Tok)} {k : Nat} {l r : List Tok} {a b : Nodes} (hf : ∀ l nd r, f l = some (nd, r) → nd.cnt + r.length ≤ l.length) (h : withP f k l = some (a, b, r)) : a.cnt + b.cnt + r.length ≤ l.length := by
  unfold withP at h
  cases h1 : f l with
  | none => rw [h1] at h; cases h
  | some x =>
    obtain ⟨a1, r1⟩ := x
    rw [h1] at h
    have l1 := hf _ _ _ h1
    simp only at h
    split at h
    · cases h2 : f r1.tail with
      | none => rw [h2] at h; cases h
      | some y =>
        obtain ⟨b1, r2⟩ := y
        rw [h2] at h
        have l2 := hf _ _ _ h2
        simp only at h
        split at h
        · cases h; simp only [List.length_tail] at *; omega
        · cases h
    · split at h
      · cases h; simp only [List.length_tail, Nodes.cnt] at *; omega
      · cases h
theorem parN_cnt : ∀ n l nd r, parN n l = some (nd, r) → nd.cnt + r.length ≤ l.length := by
  intro n
  induction n with
  | zero => intro l nd r h; cases h
  | succ n ih =>
    intro l nd r h
    cases l with
    | nil => cases h; simp [Nodes.cnt]
    | cons t q =>
      rw [parN] at h
      split at h
      · cases h; simp [Nodes.cnt]
      split at h
      · cases h1 : withP (parN n) t.k q with
        | none => rw [h1] at h; cases h
        | some x =>
          obtain ⟨a, b, r1⟩ := x
          rw [h1] at h
          have l1 := withP_cnt ih h1
          simp only at h
          cases h2 : parN n r1 with
          | none => rw [h2] at h; cases h
          | some y =>
            obtain ⟨c, r2⟩ := y
            rw [h2] at h
            have l2 := ih _ _ _ h2
            cases h; simp only [List.length_cons, Nodes.cnt]; omega
      · cases h2 : parN n q with
        | none => rw [h2] at h; cases h
        | some y =>
          obtain ⟨c, r2⟩ := y
          rw [h2] at h
          have l2 := ih _ _ _ h2
          cases h; simp only [List.length_cons, Nodes.cnt]; omega
theorem parse_cnt {l r : List Tok} {nd : Nodes} (h : parse l = some (nd, r)) : nd.cnt + r.length ≤ l.length := parN_cnt _ _ _ _ h
theorem within_cnt {k : Nat} {l r : List Tok} {a b : Nodes} (h : within k l = some (a, b, r)) : a.cnt + b.cnt + r.length ≤ l.length := withP_cnt (fun _ _ _ => parse_cnt) h
theorem withP_sub {f : List Tok → Option (Nodes × List Tok)} {k : Nat} {l r : List Tok} {a b : Nodes} (hf : ∀ l nd r, f l = some (nd, r) → ∀ x, x ∈ r → x ∈ l) (h : withP f k l = some (a, b, r)) : ∀ x, x ∈ r → x ∈ l := by
  unfold withP at h
  cases h1 : f l with
  | none => rw [h1] at h; cases h
  | some x =>
    obtain ⟨a1, r1⟩ := x
    rw [h1] at h
    have l1 := hf _ _ _ h1
    simp only at h
    split at h
    · cases h2 : f r1.tail with
      | none => rw [h2] at h; cases h
      | some y =>
        obtain ⟨b1, r2⟩ := y
        rw [h2] at h
        have l2 := hf _ _ _ h2
        simp only at h
        split at h
        · cases h; exact fun x hx => l1 x (List.mem_of_mem_tail (l2 x (List.mem_of_mem_tail hx)))
        · cases h
    · split at h
      · cases h; exact fun x hx => l1 x (List.mem_of_mem_tail hx)
      · cases h
theorem parN_sub : ∀ n l nd r, parN n l = some (nd, r) → ∀ x, x ∈ r → x ∈ l := by
  intro n
  induction n with
  | zero => intro l nd r h; cases h
  | succ n ih =>
    intro l nd r h
    cases l with
    | nil => cases h; exact fun x hx => hx
    | cons t q =>
      rw [parN] at h
      split at h
      · cases h; exact fun x hx => hx
      split at h
      · cases h1 : withP (parN n) t.k q with
        | none => rw [h1] at h; cases h
        | some x =>
          obtain ⟨a, b, r1⟩ := x
          rw [h1] at h
          have l1 := withP_sub ih h1
          simp only at h
          cases h2 : parN n r1 with
          | none => rw [h2] at h; cases h
          | some y =>
            obtain ⟨c, r2⟩ := y
            rw [h2] at h
            have l2 := ih _ _ _ h2
            cases h; exact fun x hx => List.mem_cons_of_mem _ (l1 x (l2 x hx))
      · cases h2 : parN n q with
        | none => rw [h2] at h; cases h
        | some y =>
          obtain ⟨c, r2⟩ := y
          rw [h2] at h
          have l2 := ih _ _ _ h2
          cases h; exact fun x hx => List.mem_cons_of_mem _ (l2 x hx)
theorem parse_sub {l r : List Tok} {nd : Nodes} (h : parse l = some (nd, r)) : ∀ x, x ∈ r → x ∈ l := parN_sub _ _ _ _ h
theorem within_sub {k : Nat} {l r : List Tok} {a b : Nodes} (h : within k l = some (a, b, r)) : ∀ x, x ∈ r → x ∈ l := withP_sub (fun _ _ _ => parse_sub) h
theorem withP_sm' {f : List Tok → Option (Nodes × List Tok)} {k : Nat} {l r : List Tok} {a b : Nodes} (hfl : ∀ l nd r, f l = some (nd, r) → r.length ≤ l.length) (hf : ∀ q nd z, f q = some (nd, z) → (∀ x, x ∈ q → x.sm) → q.length ≤ 1048576 → nd.sm ∧ (∀ x, x ∈ z → x.sm)) (hl : ∀ x, x ∈ l → x.sm) (hn : l.length ≤ 1048576) (h : withP f k l = some (a, b, r)) : a.sm ∧ b.sm ∧ ∀ x, x ∈ r → x.sm := by
  have ht : ∀ q : List Tok, (∀ x, x ∈ q → x.sm) → ∀ x, x ∈ q.tail → x.sm := fun q hq x hx => hq x (List.mem_of_mem_tail hx)
  unfold withP at h
  cases h1 : f l with
  | none => rw [h1] at h; cases h
  | some x =>
    obtain ⟨a1, r1⟩ := x
    rw [h1] at h
    obtain ⟨s1, t1⟩ := hf _ _ _ h1 hl hn
    have l1 := hfl _ _ _ h1
    simp only at h
    split at h
    · cases h2 : f r1.tail with
      | none => rw [h2] at h; cases h
      | some y =>
        obtain ⟨b1, r2⟩ := y
        rw [h2] at h
        obtain ⟨s2, t2⟩ := hf _ _ _ h2 (ht _ t1) (by simp only [List.length_tail]; omega)
        simp only at h
        split at h
        · cases h; exact ⟨s1, s2, ht _ t2⟩
        · cases h
    · split at h
      · cases h; exact ⟨s1, trivial, ht _ t1⟩
      · cases h
theorem parN_sm : ∀ n l nd r, parN n l = some (nd, r) → (∀ x, x ∈ l → x.sm) → l.length ≤ 1048576 → nd.sm ∧ (∀ x, x ∈ r → x.sm) := by
  intro n
  induction n with
  | zero => intro l nd r h; cases h
  | succ n ih =>
    intro l nd r h hl hn
    cases l with
    | nil => cases h; exact ⟨trivial, fun x hx => by simp at hx⟩
    | cons t q =>
      simp only [List.length_cons] at hn
      have hq : ∀ x, x ∈ q → x.sm := fun x hx => hl x (by simp [hx])
      obtain ⟨t1, t2, t3, t4⟩ := hl t (by simp)
      rw [parN] at h
      split at h
      · cases h; exact ⟨trivial, hl⟩
      split at h
      · cases h1 : withP (parN n) t.k q with
        | none => rw [h1] at h; cases h
        | some x =>
          obtain ⟨a, b, r1⟩ := x
          rw [h1] at h
          have hcn := withP_cnt (parN_cnt n) h1
          have hw := withP_sm' (parN_len n) (fun z nd y hz hs hm => ih z nd y hz hs hm) hq (by omega) h1
          simp only at h
          cases h2 : parN n r1 with
          | none => rw [h2] at h; cases h
          | some y =>
            obtain ⟨c, r2⟩ := y
            rw [h2] at h
            obtain ⟨s2, z2⟩ := ih _ _ _ h2 hw.2.2 (by omega)
            have la := len_cnt a
            have lb := len_cnt b
            cases h; exact ⟨⟨t1, t2, t3, t4, by omega, by omega, hw.1, hw.2.1, s2⟩, z2⟩
      · cases h2 : parN n q with
        | none => rw [h2] at h; cases h
        | some y =>
          obtain ⟨c, r2⟩ := y
          rw [h2] at h
          obtain ⟨s2, z2⟩ := ih _ _ _ h2 hq (by omega)
          cases h; exact ⟨⟨t1, t2, t3, t4, by simp [Nodes.len], by simp [Nodes.len], trivial, trivial, s2⟩, z2⟩
theorem parse_sm {l r : List Tok} {nd : Nodes} (h : parse l = some (nd, r)) (hl : ∀ x, x ∈ l → x.sm) (hn : l.length ≤ 1048576) : nd.sm ∧ (∀ x, x ∈ r → x.sm) := parN_sm _ _ _ _ h hl hn
def nodesP (l : List Tok) : Except Int Nodes :=
  if toksP l = false then .error 2 else
  match parse l with
  | none => .error 7
  | some (nd, r) => if r ≠ [] then .error 7 else if nd.fitsP = true then .ok nd else .error 11
def parseS (s : S) : Except Int Nodes :=
  if 1024 < s.length then .error 12 else
  match toksS (s.length + 1) s with
  | none => .error 7
  | some l => nodesP l
end Go.Proofs.YtniibpndgcndbaaGreatDoor.Tpl
namespace Go.Proofs.YtniibpndgcndbaaGreatDoor.Tpl
open Go.RowKit Go.Proofs Go.Proofs.YtniibpndgcndbaaGreatDoor.PB Go.Proofs.YtniibpndgcndbaaGreatDoor.Short Go.Proofs.YtniibpndgcndbaaGreatDoorW.PrintWords Go.Proofs.YtniibpndgcndbaaGreatDoorW.PrintLast Go.Proofs.YtniibpndgcndbaaGreatDoorW.PrintMore Nodes
def strOf : Value → Nat | .string b => b.size | _ => 0
theorem cut_any (c : UInt8) (s : S) (hs : s.length ≤ 1048576) (w : World) (hG : Glob w) :
    Calls Tryz.prog 94 #[.string (bs s), .string ⟨#[c, c]⟩] w fun e w' => e = .returned (.tuple #[.string (bs (Lib.cut s [c, c]).1), .string (bs (Lib.cut s [c, c]).2.1), .bool (Lib.cut s [c, c]).2.2]) ∧ ∃ n, w' = w.drewN n := by
  obtain ⟨⟨m, hm⟩, _⟩ := hG
  exact Tryz.strings_Cut (bs s) ⟨#[c, c]⟩ m w (by rw [bs_size]; omega) hm
def ToksRet (o : Option (List Tok)) (e : Ending) (w' : World) (base : Nat) : Prop :=
  match o with
  | none => e = .returned (.tuple #[.slice none 0 0, .int .i64 7])
  | some l => ∃ v, e = .returned (.tuple #[v, .int .i64 0]) ∧ kT.R 101 w' base (fun k => base ≤ k) v (tokv l)
theorem txt_len (s : S) : (txtTok s).length ≤ 1 := by unfold txtTok; split <;> simp
theorem tok_M (w : World) (base : Nat) (t : S) : kT.M w base (fun _ => False) (Tok.of ⟨1, t, []⟩) [.int .u8 1, .string (bs t), .slice none 0 0] := k101_mkM w base _ (Tok.of ⟨1, t, []⟩) (Kd.R_nil _ _ _ _ _)
theorem tok_M7 {w : World} {base : Nat} {okp : Nat → Prop} {k : Nat} {t : S} {p : List S} {A : Option Addr} {c : Nat} (h : Kd.string.R 9 w base okp (.slice A p.length c) (p.map bs)) : kT.M w base okp (Tok.of ⟨k, t, p⟩) [.int .u8 k, .string (bs t), .slice A p.length c] := k101_mkM w base _ (Tok.of ⟨k, t, p⟩) h
theorem tk_bnd {a r x : Nat} (h : a + 2 * r ≤ 2048) (h0 : 0 < r) (hx : x ≤ 1) : (a + 1) * 48 ≤ 140737488355328 ∧ (a + x + 1) * 48 ≤ 140737488355328 := by omega
theorem tk_bnd2 {a r x rs r2 : Nat} (h : a + 2 * r ≤ 2048) (hx : x ≤ 1) (h1 : rs + 2 ≤ r) (h2 : r2 + 2 ≤ rs) : a + x + 1 + 2 * r2 ≤ 2048 := by omega
set_option maxHeartbeats 4000000 in
set_option maxRecDepth 100000 in
theorem tokensS_any (s : S) (hs : s.length ≤ 1024) (w : World) (hG : Glob w) :
    Calls Tryz.prog 65 #[.string (bs s)] w fun e w' => ToksRet (toksS (s.length + 1) s) e w' w.heap.size ∧ Below w.heap.size w w' := by
  obtain ⟨o, ho⟩ : ∃ o, toksS (s.length + 1) s = o := ⟨_, rfl⟩
  rw [ho]
  have HO := Aside0.mk ho
  have HG := Aside0.mk hG
  have hl0 : decide ((((bs s).size : Nat) : Int) > 1024) = false := by rw [decide_eq_false_iff_not, bs_size]; omega
  have hl1 : decide ((1024 : Int) < (((bs s).size : Nat) : Int)) = false := hl0
  have hl2 : decide (1024 < (bs s).size) = false := by rw [decide_eq_false_iff_not, bs_size]; omega
  clear ho hG
  go_enter Tryz.func65, Tryz.ntmps65
  go_wp2
  go_loopw [0, 4] (fun v0 v4 wr => ∃ (r : S) (acc : List Tok), v0 = .string (bs r) ∧ Aside0 (o = (toksS (r.length + 1) r).map (acc ++ ·)) ∧ Aside0 (acc.length + 2 * r.length ≤ 2048) ∧ Aside0 (kT.R 101 wr w.heap.size (fun k => w.heap.size ≤ k) v4 (tokv acc)) ∧ Aside0 (Below w.heap.size w wr))
    (fun v0 _ _ => strOf v0)
  case atStart => exact ⟨s, [], rfl, ⟨by rw [HO.out]; cases o <;> rfl⟩, ⟨by simp; omega⟩, ⟨Kd.R_nil _ _ _ _ _⟩, ⟨Below.refl _ _⟩⟩
  case round =>
    obtain ⟨r, acc, rfl, HE, HL, HR, HB⟩ := hrel
    by_cases hr : r = []
    · have e0 : (bs r).toList.isEmpty = true := by rw [bs_list, hr]; rfl
      have ho : o = some acc := by rw [HE.out, hr]; simp [toksS]
      subst ho
      clear hr hl0 hl1 hl2
      go_wp2
      go_ret2
      exact ⟨⟨_, rfl, HR.out⟩, HB.out⟩
    · have e0 : (bs r).toList.isEmpty = false := by rw [bs_list]; cases r with | nil => exact absurd rfl hr | cons => rfl
      have hr0 : 0 < r.length := by cases r with | nil => exact absurd rfl hr | cons => simp
      have hrl := HL.out
      have hE := HE.out
      rw [toksS, if_neg hr] at hE
      have hsz1 := cut_sizes r 123
      have hcut := fun W hW => cut_any 123 r (by omega) W hW
      obtain ⟨tx, rs, is, hc⟩ : ∃ tx rs is, Lib.cut r [123, 123] = (tx, rs, is) := ⟨_, _, _, rfl⟩
      rw [hc] at hE hsz1
      simp only [hc] at hcut
      simp only at hE hsz1
      have HE2 := Aside0.mk hE
      have HS1 := Aside0.mk hsz1
      have HC := Aside0.mk hcut
      clear hE hsz1 hcut hc hr hl0 hl1 hl2
      go_wp2_with fail
      refine (HC.out _ (HG.out.below HB.out)).mono ?_
      rintro e W0 ⟨rfl, ⟨q0, rfl⟩⟩
      have HB0 := Aside0.mk (pw_below_drewN HB.out q0)
      have HR0 := Aside0.mk (Kd.R_drewN HR.out q0)
      clear HC HR HB
      generalize wr.drewN q0 = W0 at HB0 HR0 ⊢
      have hap : ((tokv acc).length + 1) * 48 ≤ 140737488355328 := by rw [tokv_len]; exact (tk_bnd hrl hr0 (Nat.zero_le 1)).1
      have hap2 : ((tokv (acc ++ txtTok tx)).length + 1) * 48 ≤ 140737488355328 := by rw [tokv_len, List.length_append]; exact (tk_bnd hrl hr0 (txt_len tx)).2
      cases is with
      | false =>
        obtain rfl : o = some (acc ++ txtTok tx) := by have h := HE2.out; simpa using h
        clear HE2
        by_cases htx : tx = []
        · have e1 : (bs tx).toList.isEmpty = true := by rw [bs_list, htx]; rfl
          have HTX : Aside0 (acc ++ txtTok tx = acc) := ⟨by rw [htx]; simp [txtTok]⟩
          clear htx
          go_wp2
          go_ret2
          exact ⟨⟨_, rfl, by rw [HTX.out]; exact HR0.out⟩, HB0.out⟩
        · have e1 : (bs tx).toList.isEmpty = false := by rw [bs_list]; cases tx with | nil => exact absurd rfl htx | cons => rfl
          have HTX : Aside0 (tokv (acc ++ txtTok tx) = tokv acc ++ [Tok.of ⟨1, tx, []⟩]) := ⟨by unfold txtTok; rw [if_neg htx]; simp [tokv]⟩
          clear htx
          go_wp2_with (at_builtin; refine Kd.R_append kT w.heap.size rfl _ _ 95 101 _ 48 rfl Tryz.underlying95 info101 rfl (by decide) (by decide) u4 (tokv acc) (Tok.of ⟨1, tx, []⟩) [.int .u8 1, .string (bs tx), .slice none 0 0] (fun k => w.heap.size ≤ k) (fun _ => False) rfl rfl (tok_M _ _ tx) (fun _ h => h.elim) (fun k hk => Nat.le_trans HB0.out.size hk) HR0.out HB0.out HB0.out.size hap ?_; intro v5 W5 hR5 hB5 hg5 hat5)
          have HR5 := Aside0.mk hR5
          have HB5 := Aside0.mk hB5
          clear hR5 hB5
          go_ret2
          exact ⟨⟨_, rfl, by rw [HTX.out]; exact HR5.out⟩, HB5.out⟩
      | true =>
        have hrs := HS1.out.2.2 rfl
        have hrl2 : rs.length ≤ 1048575 := by omega
        have hE := HE2.out
        rw [if_neg (by simp)] at hE
        have hsz2 := cut_sizes rs 125
        have hcut := fun W hW => cut_any 125 rs (by omega) W hW
        obtain ⟨xn, rs2, en, hc⟩ : ∃ xn rs2 en, Lib.cut rs [125, 125] = (xn, rs2, en) := ⟨_, _, _, rfl⟩
        rw [hc] at hE hsz2
        simp only [hc] at hcut
        simp only at hE hsz2
        have HE3 := Aside0.mk hE
        have HS2 : Aside0 (xn.length ≤ 1048575) := ⟨by omega⟩
        have HC2 := Aside0.mk hcut
        have hbn : en = true → acc.length + (txtTok tx).length + 1 + 2 * rs2.length ≤ 2048 ∧ rs2.length < r.length := fun h => ⟨tk_bnd2 hrl (txt_len tx) hrs (hsz2.2.2 h), by have := hsz2.2.2 h; omega⟩
        have HBN := Aside0.mk hbn
        clear hE hsz2 hcut hc HE2 HS1 hrs hbn
        by_cases htx : tx = []
        · have e1 : (bs tx).toList.isEmpty = true := by rw [bs_list, htx]; rfl
          have HTX : Aside0 (acc ++ txtTok tx = acc) := ⟨by rw [htx]; simp [txtTok]⟩
          clear htx
          go_wp2_with fail
          have hR5 := HR0.out
          rw [← HTX.out] at hR5
          have hB5 := HB0.out
          generalize W0 = W5 at *
          generalize u4 = v5 at *
          have HR5 := Aside0.mk hR5
          have HB5 := Aside0.mk hB5
          clear hR5 hB5 HR0 HB0
          refine (HC2.out _ (HG.out.below HB5.out)).mono ?_
          rintro e W6 ⟨rfl, ⟨q6, rfl⟩⟩
          have HB6 := Aside0.mk (pw_below_drewN HB5.out q6)
          have HR6 := Aside0.mk (Kd.R_drewN HR5.out q6)
          clear HC2 HR5 HB5
          generalize W5.drewN q6 = W6 at HB6 HR6 ⊢
          cases en with
          | false =>
            obtain rfl : o = none := by have h := HE3.out; simpa using h
            go_wp2
            go_ret2
            exact ⟨rfl, HB6.out⟩
          | true =>
            have hbn := HBN.out rfl
            have hE := HE3.out
            simp only [Bool.true_eq_false, if_false] at hE
            have htag := tag_any xn (by have := HS2.out; omega) W6 (HG.out.below HB6.out)
            cases htg : tagP xn with
            | none =>
              rw [htg] at hE htag
              obtain rfl : o = none := hE
              clear htg
              go_wp2_with fail
              refine htag.mono ?_
              rintro e W7 ⟨rfl, hb7⟩
              have HB7 := Aside0.mk (below_step HB6.out hb7)
              clear hb7
              go_wp2
              go_ret2
              exact ⟨rfl, below_alloc HB7.out _⟩
            | some tk =>
              rw [htg] at hE htag
              simp only at hE
              have HE4 := Aside0.mk hE
              obtain ⟨tkk, tkt, tkp⟩ := tk
              clear hE htg
              go_wp2_with fail
              refine htag.mono ?_
              rintro e W7 ⟨⟨A7, c7, rfl, hR7⟩, hb7⟩
              have HB7 := Aside0.mk (below_step HB6.out hb7)
              have HR8 := Aside0.mk (Kd.R_below HR6.out hb7)
              have HLT : Aside0 (∀ k, W6.heap.size ≤ k → w.heap.size ≤ k ∧ some k ≠ v5.ownBlock) := ⟨fun k hk => ⟨Nat.le_trans HB6.out.size hk, fun e => by have := Kd.R_lt HR6.out k e.symm; omega⟩⟩
              have HR7 := Aside0.mk (Kd.R_lower hR7 HB6.out.size)
              clear hb7 hR7 HR6
              simp only at HR7
              go_upto_region 15 with (fail)
              have BK8 := Aside0.mk (blk_new W7 (.cells #[.int .u8 tkk, .string (bs tkt), .slice A7 tkp.length c7] 101))
              replace HR8 := Aside0.mk (Kd.R_alloc HR8.out (.cells #[.int .u8 tkk, .string (bs tkt), .slice A7 tkp.length c7] 101))
              replace HR7 := Aside0.mk (Kd.R_alloc HR7.out (.cells #[.int .u8 tkk, .string (bs tkt), .slice A7 tkp.length c7] 101))
              replace HB7 := Aside0.mk (below_alloc HB7.out (.cells #[.int .u8 tkk, .string (bs tkt), .slice A7 tkp.length c7] 101))
              obtain ⟨g7, hg7⟩ : ∃ g7, W7.heap.size = g7 := ⟨_, rfl⟩
              rw [hg7] at BK8 ⊢
              clear hg7
              generalize W7.alloc (.cells #[.int .u8 tkk, .string (bs tkt), .slice A7 tkp.length c7] 101) = W8 at BK8 HR8 HR7 HB7 ⊢
              obtain ⟨z0, z1, z2, f0, f1, f2⟩ := cells_3 BK8.out
              go_wp2_with (at_builtin; refine Kd.R_append kT w.heap.size rfl _ _ 95 101 _ 48 rfl Tryz.underlying95 info101 rfl (by decide) (by decide) v5 (tokv (acc ++ txtTok tx)) (Tok.of ⟨tkk, tkt, tkp⟩) [.int .u8 tkk, .string (bs tkt), .slice A7 tkp.length c7] (fun k => w.heap.size ≤ k) (fun k => W6.heap.size ≤ k) rfl rfl (tok_M7 HR7.out) HLT.out (fun k hk => Nat.le_trans HB7.out.size hk) HR8.out HB7.out HB7.out.size hap2 ?_; intro v9 W9 hR9 hB9 hg9 hat9)
              go_roundw
              case rel => exact ⟨rs2, acc ++ txtTok tx ++ [⟨tkk, tkt, tkp⟩], rfl, ⟨by rw [HE4.out, toksS_fuel r.length (rs2.length + 1) rs2 hbn.2 (Nat.lt_succ_self _)]; cases toksS (rs2.length + 1) rs2 <;> simp⟩, ⟨by simp only [List.length_append, List.length_singleton]; exact hbn.1⟩, ⟨by have := hR9; simpa [tokv] using this⟩, ⟨hB9⟩⟩
              case measure => simp only [strOf, bs_size]; exact hbn.2
        · have e1 : (bs tx).toList.isEmpty = false := by rw [bs_list]; cases tx with | nil => exact absurd rfl htx | cons => rfl
          have HTX : Aside0 (tokv (acc ++ txtTok tx) = tokv acc ++ [Tok.of ⟨1, tx, []⟩]) := ⟨by unfold txtTok; rw [if_neg htx]; simp [tokv]⟩
          clear htx
          go_wp2_with (at_builtin; refine Kd.R_append kT w.heap.size rfl _ _ 95 101 _ 48 rfl Tryz.underlying95 info101 rfl (by decide) (by decide) u4 (tokv acc) (Tok.of ⟨1, tx, []⟩) [.int .u8 1, .string (bs tx), .slice none 0 0] (fun k => w.heap.size ≤ k) (fun _ => False) rfl rfl (tok_M _ _ tx) (fun _ h => h.elim) (fun k hk => Nat.le_trans HB0.out.size hk) HR0.out HB0.out HB0.out.size hap ?_; intro v5 W5 hR5 hB5 hg5 hat5)
          rw [← HTX.out] at hR5
          have HR5 := Aside0.mk hR5
          have HB5 := Aside0.mk hB5
          clear hR5 hB5 HR0 HB0
          refine (HC2.out _ (HG.out.below HB5.out)).mono ?_
          rintro e W6 ⟨rfl, ⟨q6, rfl⟩⟩
          have HB6 := Aside0.mk (pw_below_drewN HB5.out q6)
          have HR6 := Aside0.mk (Kd.R_drewN HR5.out q6)
          clear HC2 HR5 HB5
          generalize W5.drewN q6 = W6 at HB6 HR6 ⊢
          cases en with
          | false =>
            obtain rfl : o = none := by have h := HE3.out; simpa using h
            go_wp2
            go_ret2
            exact ⟨rfl, HB6.out⟩
          | true =>
            have hbn := HBN.out rfl
            have hE := HE3.out
            simp only [Bool.true_eq_false, if_false] at hE
            have htag := tag_any xn (by have := HS2.out; omega) W6 (HG.out.below HB6.out)
            cases htg : tagP xn with
            | none =>
              rw [htg] at hE htag
              obtain rfl : o = none := hE
              clear htg
              go_wp2_with fail
              refine htag.mono ?_
              rintro e W7 ⟨rfl, hb7⟩
              have HB7 := Aside0.mk (below_step HB6.out hb7)
              clear hb7
              go_wp2
              go_ret2
              exact ⟨rfl, below_alloc HB7.out _⟩
            | some tk =>
              rw [htg] at hE htag
              simp only at hE
              have HE4 := Aside0.mk hE
              obtain ⟨tkk, tkt, tkp⟩ := tk
              clear hE htg
              go_wp2_with fail
              refine htag.mono ?_
              rintro e W7 ⟨⟨A7, c7, rfl, hR7⟩, hb7⟩
              have HB7 := Aside0.mk (below_step HB6.out hb7)
              have HR8 := Aside0.mk (Kd.R_below HR6.out hb7)
              have HLT : Aside0 (∀ k, W6.heap.size ≤ k → w.heap.size ≤ k ∧ some k ≠ v5.ownBlock) := ⟨fun k hk => ⟨Nat.le_trans HB6.out.size hk, fun e => by have := Kd.R_lt HR6.out k e.symm; omega⟩⟩
              have HR7 := Aside0.mk (Kd.R_lower hR7 HB6.out.size)
              clear hb7 hR7 HR6
              simp only at HR7
              go_upto_region 15 with (fail)
              have BK8 := Aside0.mk (blk_new W7 (.cells #[.int .u8 tkk, .string (bs tkt), .slice A7 tkp.length c7] 101))
              replace HR8 := Aside0.mk (Kd.R_alloc HR8.out (.cells #[.int .u8 tkk, .string (bs tkt), .slice A7 tkp.length c7] 101))
              replace HR7 := Aside0.mk (Kd.R_alloc HR7.out (.cells #[.int .u8 tkk, .string (bs tkt), .slice A7 tkp.length c7] 101))
              replace HB7 := Aside0.mk (below_alloc HB7.out (.cells #[.int .u8 tkk, .string (bs tkt), .slice A7 tkp.length c7] 101))
              obtain ⟨g7, hg7⟩ : ∃ g7, W7.heap.size = g7 := ⟨_, rfl⟩
              rw [hg7] at BK8 ⊢
              clear hg7
              generalize W7.alloc (.cells #[.int .u8 tkk, .string (bs tkt), .slice A7 tkp.length c7] 101) = W8 at BK8 HR8 HR7 HB7 ⊢
              obtain ⟨z0, z1, z2, f0, f1, f2⟩ := cells_3 BK8.out
              go_wp2_with (at_builtin; refine Kd.R_append kT w.heap.size rfl _ _ 95 101 _ 48 rfl Tryz.underlying95 info101 rfl (by decide) (by decide) v5 (tokv (acc ++ txtTok tx)) (Tok.of ⟨tkk, tkt, tkp⟩) [.int .u8 tkk, .string (bs tkt), .slice A7 tkp.length c7] (fun k => w.heap.size ≤ k) (fun k => W6.heap.size ≤ k) rfl rfl (tok_M7 HR7.out) HLT.out (fun k hk => Nat.le_trans HB7.out.size hk) HR8.out HB7.out HB7.out.size hap2 ?_; intro v9 W9 hR9 hB9 hg9 hat9)
              go_roundw
              case rel => exact ⟨rs2, acc ++ txtTok tx ++ [⟨tkk, tkt, tkp⟩], rfl, ⟨by rw [HE4.out, toksS_fuel r.length (rs2.length + 1) rs2 hbn.2 (Nat.lt_succ_self _)]; cases toksS (rs2.length + 1) rs2 <;> simp⟩, ⟨by simp only [List.length_append, List.length_singleton]; exact hbn.1⟩, ⟨by have := hR9; simpa [tokv] using this⟩, ⟨hB9⟩⟩
              case measure => simp only [strOf, bs_size]; exact hbn.2
end Go.Proofs.YtniibpndgcndbaaGreatDoor.Tpl
namespace Go.Proofs.YtniibpndgcndbaaGreatDoor.Tpl
open Go.RowKit Go.Proofs Go.Proofs.YtniibpndgcndbaaGreatDoor.PB Go.Proofs.YtniibpndgcndbaaGreatDoor.Short Go.Proofs.YtniibpndgcndbaaGreatDoorW.PrintWords Go.Proofs.YtniibpndgcndbaaGreatDoorW.PrintLast Go.Proofs.YtniibpndgcndbaaGreatDoorW.PrintMore Nodes
theorem KeepP.set {ok : Nat → Prop} {w w1 : World} (h : KeepP ok w w1) {p : Addr} (hp : ok p.block ∨ w.heap.size ≤ p.block) (u : Value) : KeepP ok w (w1.setCell p u) := by
  refine ⟨h.os, h.tape, h.output, by have := h.size; simpa [World.setCell] using this, fun i hi hn => ?_⟩
  refine (Below.heap_setCell w1 p u i ?_).trans (h.blk i hi hn)
  rintro rfl
  rcases hp with hp | hp
  · exact hn hp
  · omega
theorem KeepP.alloc {ok : Nat → Prop} {w w1 : World} (h : KeepP ok w w1) (o : Obj) : KeepP ok w (w1.alloc o) := h.trans (KeepP.of_below (below_alloc (Below.refl _ _) o))
theorem below_step' {w0 W W1 : World} (h : Below w0.heap.size w0 W) (hb : Below W.heap.size W W1) : Below w0.heap.size w0 W1 := below_step h hb
theorem RdT.tail {w : World} {A : Option Addr} {c : Nat} {t : Tok} {r : List Tok} (h : RdT w A c (t :: r)) : RdT w (if c = 1 then A else A.map (·.add 3)) (c - 1) r := by
  have hl := h.2
  simp only [List.length_cons] at hl
  refine ⟨?_, by omega⟩
  have h1 := h.1
  refine ⟨by simp [tokv], by have := h1.2.1; simp only [List.length_cons] at this; omega, fun h0 => ?_⟩
  obtain ⟨ad, e, hc⟩ := h1.2.2 (by simp)
  subst e
  rw [if_neg (by omega)]
  refine ⟨ad.add 3, rfl, fun i x hx => ?_⟩
  obtain ⟨cs, g1, g2, g3⟩ := hc (i + 1) x (by simpa [tokv] using hx)
  refine ⟨cs, g1, g2, fun j v hv => ?_⟩
  have := g3 j v hv
  rw [← this]
  congr 1
  rw [Addr.add_add]
  congr 1
  have : kT.sz = 3 := rfl
  rw [this]; omega
def PS (w0 W : World) (g : Nat) (l : List Tok) : Prop := ∃ A c, W.heap[g]? = some (.cells #[.slice A l.length c] 141 (0, 0)) ∧ w0.heap.size ≤ g ∧ RdT w0 A c l ∧ Below w0.heap.size w0 W
theorem is_any (w0 W : World) (g : Nat) (l : List Tok) (k : Nat) (hk : 0 < k) (h : PS w0 W g l) : Calls Tryz.prog 174 #[.pointer (some ⟨g, 0, none⟩), .int .u8 k] W fun e w' => e = .returned (.bool (headK l == k)) ∧ W = w' := by
  obtain ⟨A, c, hg, hge, hR, hB⟩ := h
  have z0 := (blk_cell hg 0).trans rfl
  have f0 := blk_frozen hg 0
  cases l with
  | nil =>
    have e0 : (headK [] == k) = false := by rw [beq_eq_false_iff_ne]; show (0 : Nat) ≠ k; omega
    rw [e0]
    clear hg hR hB
    simp only [List.length_nil] at z0
    go_enter Tryz.func174, Tryz.ntmps174
    go_wp2
    go_ret
    exact ⟨rfl, rfl⟩
  | cons t r =>
    have hd : headK (t :: r) = t.k := rfl
    obtain ⟨ad, A2, c2, rfl, y0, y1, y2, i2, l2⟩ := hR.at (i := 0) (x := t) rfl
    replace y0 := (hB.cell (World.block_lt_of_cell? _ _ y0)).trans y0
    rw [hd]
    have e0 : ((t.k : Int) == (k : Int)) = (t.k == k) := beqI _ _
    generalize t.k = tk at *
    have hln : 0 < (t :: r).length := by simp
    have hli : (0 : Int) < (((t :: r).length : Nat) : Int) := by simp
    rw [Nat.zero_mul, Addr.add_zero'] at y0
    clear hg hR hB hd y1 y2 i2 l2
    generalize (t :: r).length = n at *
    generalize (tk == k) = q at *
    go_enter Tryz.func174, Tryz.ntmps174
    go_wp2
    go_ret
    exact ⟨by simp, rfl⟩
set_option maxHeartbeats 1000000 in
set_option maxRecDepth 100000 in
theorem take_any (w0 W : World) (g : Nat) (t : Tok) (r : List Tok) (h : PS w0 W g (t :: r)) : Calls Tryz.prog 175 #[.pointer (some ⟨g, 0, none⟩)] W fun e w' => ∃ A2 c2, e = .returned (.agg #[.int .u8 t.k, .string (bs t.t), .slice A2 t.p.length c2]) ∧ Kd.string.C w0 A2 t.p.length (t.p.map bs) ∧ t.p.length ≤ c2 ∧ PS w0 w' g r ∧ KeepP (fun k => k = g) W w' := by
  obtain ⟨A, c, hg, hge, hR, hB⟩ := h
  obtain ⟨i0, hi, hz0, hz1, hz2⟩ := info_parts info101
  have hcut := cut_from (P := Tryz.prog) 95 101 .i64 Tryz.underlying95 hi 3 hz1 A (t :: r).length c 1 (by omega) (by simp; omega)
  have hT := hR.tail
  obtain ⟨X, hX⟩ : ∃ X, (if c = 1 then A else A.map (·.add 3)) = X := ⟨_, rfl⟩
  rw [hX] at hT
  have hX' : (if c = (1 : Int).toNat then A else A.map (·.add ((1 : Int).toNat * 3))) = X := hX
  rw [hX'] at hcut
  have hcut' : ∀ W : World, (Instr.slice 95 (.slice A (t :: r).length c) (some (.int .i64 1)) none none).run Tryz.prog W = .ok (.slice X r.length (c - 1)) W := hcut
  clear hcut hX hX'
  obtain ⟨ad, A2, c2, rfl, y0, y1, y2, i2, l2⟩ := hR.at (i := 0) (x := t) rfl
  replace y0 := (hB.cell (World.block_lt_of_cell? _ _ y0)).trans y0
  replace y1 := (hB.cell (World.block_lt_of_cell? _ _ y1)).trans y1
  replace y2 := (hB.cell (World.block_lt_of_cell? _ _ y2)).trans y2
  rw [Nat.zero_mul, Addr.add_zero'] at y0 y1 y2
  have hli : (0 : Int) < (((t :: r).length : Nat) : Int) := by simp
  have hln : 0 < (t :: r).length := by simp
  generalize (t :: r).length = n at *
  have hgW : g < W.heap.size := blk_lt hg
  have HG := Aside0.mk hg
  have HB := Aside0.mk hB
  have HT := Aside0.mk hT
  obtain ⟨k, s, p⟩ := t
  simp only at *
  clear hR hi hz0 hz1 hz2 hg hB hT
  go_enter Tryz.func175, Tryz.ntmps175
  go_upto_region 1 with (fail)
  have hb1 := below_alloc (Below.refl W.heap.size W) (.cells #[.int .u8 0, .string ⟨#[]⟩, .slice none 0 0] 101)
  have BK1 := blk_new W (.cells #[.int .u8 0, .string ⟨#[]⟩, .slice none 0 0] 101)
  replace y0 := pw_cell_below hb1 y0
  replace y1 := pw_cell_below hb1 y1
  replace y2 := pw_cell_below hb1 y2
  have HG1 := blk_below HG.out hb1
  have hs1 : (W.alloc (.cells #[.int .u8 0, .string ⟨#[]⟩, .slice none 0 0] 101)).heap.size = W.heap.size + 1 := by simp
  have HK1 : KeepP (fun k => k = g) W (W.alloc (.cells #[.int .u8 0, .string ⟨#[]⟩, .slice none 0 0] 101)) := KeepP.of_below hb1
  have hB1 := below_step' HB.out hb1
  obtain ⟨g1, hg1⟩ : ∃ g1, W.heap.size = g1 := ⟨_, rfl⟩
  rw [hg1] at BK1 hs1 hgW ⊢
  generalize W.alloc (.cells #[.int .u8 0, .string ⟨#[]⟩, .slice none 0 0] 101) = W1 at *
  have z0 : W1.cell? ⟨g, 0, none⟩ = some (.slice (some ad) n c) := (blk_cell HG1 0).trans rfl
  have f0 := blk_frozen HG1 0
  have HG1' := Aside0.mk HG1
  have BK1' := Aside0.mk BK1
  have HK1' := Aside0.mk HK1
  have HB1' := Aside0.mk hB1
  have hne : g1 ≠ g := by omega
  have hgs := hg1
  clear HG1 BK1 hb1 HK1 hB1 hg1
  have Hgs := Aside0.mk hgs
  clear hgs
  go_upto_region 2 with (fail)
  have hb2 := below_alloc (Below.refl W1.heap.size W1) (.cells #[.int .u8 k, .string (bs s), .slice A2 p.length c2] 101)
  have BK2 := blk_new W1 (.cells #[.int .u8 k, .string (bs s), .slice A2 p.length c2] 101)
  rw [hs1] at BK2
  replace HG1' := Aside0.mk (blk_below HG1'.out hb2)
  replace BK1' := Aside0.mk (blk_below BK1'.out hb2)
  replace HK1' := Aside0.mk (HK1'.out.trans (KeepP.of_below hb2))
  replace HB1' := Aside0.mk (below_step HB1'.out hb2)
  clear z0 f0 hb2 y0 y1 y2
  generalize W1.alloc (.cells #[.int .u8 k, .string (bs s), .slice A2 p.length c2] 101) = W2 at *
  have z0 : W2.cell? ⟨g, 0, none⟩ = some (.slice (some ad) n c) := (blk_cell HG1'.out 0).trans rfl
  have f0 := blk_frozen HG1'.out 0
  obtain ⟨x0, x1, x2, q0, q1, q2⟩ := cells_3 BK1'.out
  obtain ⟨m0, m1, m2, n0, n1, n2⟩ := cells_3 BK2
  have hne2 : g1 + 1 ≠ g := by omega
  have hne3 : g ≠ g1 := by omega
  have BK2' := Aside0.mk BK2
  clear BK2
  go_wp2
  refine bodyPost_ret (results_cell_row rfl _ _ g1 101 #[.int .u8 k, .string (bs s), .slice A2 p.length c2] (0, 0) _ rfl (blk3 (blk_far BK1'.out (p := ⟨g, 0, none⟩) hne _)) Tryz.underlying101 rfl (by kernel_rfl)) rfl ?_
  refine ⟨A2, c2, rfl, i2, l2, ⟨X, c - 1, ?_, hge, HT.out, ?_⟩, ?_⟩
  · exact blk_far (blk_far (blk_far (blk_put HG1'.out 0 _ rfl) (p := ⟨g1, 0, none⟩) hne3 _) (p := ⟨g1, 1, none⟩) hne3 _) (p := ⟨g1, 2, none⟩) hne3 _
  · have hle : w0.heap.size ≤ g1 := by omega
    exact below3 (below_set HB1'.out hge) hle
  · have hle : W.heap.size ≤ g1 := Nat.le_of_eq Hgs.out
    exact KeepP.set (KeepP.set (KeepP.set (KeepP.set HK1'.out (.inl rfl) _) (.inr hle) _) (.inr hle) _) (.inr hle) _
end Go.Proofs.YtniibpndgcndbaaGreatDoor.Tpl
namespace Go.Proofs.YtniibpndgcndbaaGreatDoor.Bld
open Go.RowKit
abbrev T : TypeId := 78
abbrev IsB (B b : Nat) (bs : List Value) (w : World) : Prop := Lib.IsBuilderF 78 5 B b bs w
theorem sizeB : (Tryz.prog.info? 78).map (·.size) = some 2 := by kernel_rfl
theorem infoB : (Tryz.prog.info? 5).map (fun i => (i.zero, i.size, i.bytes)) = some (some (.int .u8 0), 1, 1) := by kernel_rfl
set_option maxRecDepth 100000 in
theorem fresh (b : Nat) (w : World) (h0 : w.cell? ⟨b, 0, none⟩ = some (.pointer none)) (hsh : w.shape? b = some (78, 2)) (hfz : w.frozen? ⟨b, 0, none⟩ = false) :
    Calls Tryz.prog 145 #[.pointer (some ⟨b, 0, none⟩)] w fun e w' => e = .returned (.tuple #[]) ∧ w' = w.setCell ⟨b, 0, none⟩ (.pointer (some ⟨b, 0, none⟩)) := by
  obtain ⟨j, hj, hjs⟩ := Option.map_eq_some_iff.1 sizeB
  go_enter Tryz.func145, Tryz.ntmps145
  go_wp2
  rw [Lib.run_to_unsafe w ⟨b, 0, none⟩ Tryz.underlying75 Tryz.underlying162 hj (by rw [hjs]; decide) hsh (Nat.zero_lt_succ 1)]
  simp only [Result.andThen]
  rw [Oper.upon_value]
  go_wp2
  rw [run_callFunc_extern Tryz.func177 (by kernel_rfl) (by kernel_rfl) (by kernel_rfl) (e := Extern.AbiNoEscape.same) (by kernel_rfl)]
  rw [Lib.run_noEscape]
  simp only [Result.andThen]
  rw [Oper.upon_value]
  go_wp2
  rw [Lib.run_from_unsafe w ⟨b, 0, none⟩ Tryz.underlying162 Tryz.underlying75 hj hsh (by kernel_rfl)]
  simp only [Result.andThen]
  rw [Oper.upon_value]
  go_wp2
  go_end0
  exact ⟨rfl, rfl⟩
set_option maxRecDepth 100000 in
theorem used (b : Nat) (w : World) (h0 : w.cell? ⟨b, 0, none⟩ = some (.pointer (some ⟨b, 0, none⟩))) :
    Calls Tryz.prog 145 #[.pointer (some ⟨b, 0, none⟩)] w fun e w' => e = .returned (.tuple #[]) ∧ w' = w := by
  obtain ⟨j, hj, _⟩ := Option.map_eq_some_iff.1 sizeB
  go_enter Tryz.func145, Tryz.ntmps145
  go_wp2
  rw [Lib.run_neq_ptr_same w _ Tryz.underlying75 hj]
  go_wp2
  go_end0
  exact ⟨rfl, rfl⟩
theorem check (B b : Nat) (bs : List Value) (w : World) (h : IsB B b bs w) :
    Calls Tryz.prog 145 #[.pointer (some ⟨b, 0, none⟩)] w fun e w' => e = .returned (.tuple #[]) ∧ Lib.BuilderAtF 78 5 B b (.pointer (some ⟨b, 0, none⟩)) bs w' ∧ Below B w w' := by
  rcases h with h | h
  · refine (fresh b w h.cell0 h.shape h.frozen0).mono ?_
    rintro e w' ⟨rfl, rfl⟩
    exact ⟨rfl, h.used _, (Below.refl B w).setCell (p := ⟨b, 0, none⟩) h.1 _⟩
  · refine (used b w h.cell0).mono ?_
    rintro e w' ⟨rfl, rfl⟩
    exact ⟨rfl, h, Below.refl B _⟩
theorem heap_lt {w : World} {b : Nat} {o : Obj} (h : w.heap[b]? = some o) : b < w.heap.size := by
  rcases Nat.lt_or_ge b w.heap.size with h' | h'
  · exact h'
  · simp [Array.getElem?_eq_none h'] at h
set_option maxHeartbeats 2000000 in
set_option maxRecDepth 100000 in
theorem writeByte (B b : Nat) (bs : List Value) (c : Int) (w : World) (h : IsB B b bs w) (hlen : bs.length + 1 ≤ 140737488355328) (hBw : B ≤ w.heap.size) :
    Calls Tryz.prog 196 #[.pointer (some ⟨b, 0, none⟩), .int .u8 c] w fun e w' => e = .returned .nilIface ∧ IsB B b (bs ++ [.int .u8 c]) w' ∧ Below B w w' := by
  obtain ⟨i0, hi, hz0, hz1, hz2⟩ := info_parts infoB
  go_enter Tryz.func196, Tryz.ntmps196
  go_wp2_with (go_at_call 145; refine (check B b bs _ h).mono ?_)
  rintro e w1 ⟨rfl, ⟨hB, v, hbk, hown, hne⟩, hb1⟩
  have hz := hb1.size
  have c0 : w1.cell? ⟨b, 0, none⟩ = some (.pointer (some ⟨b, 0, none⟩)) := by rw [Lib.cell_of_heap hbk]; rfl
  have c1 : w1.cell? ⟨b, 1, none⟩ = some v := by rw [Lib.cell_of_heap hbk]; rfl
  go_wp2_with (at_builtin; refine wpList_append_ownF _ rfl _ _ 76 rfl B 5 i0 (.int .u8 0) 1 1 Tryz.underlying76 hi hz0 hz1 hz2 rfl (by decide) _ _ _ rfl (hown.alloc _) ⟨w1.heap.size, 0, none⟩ 1 1 [.int .u8 c] rfl rfl ?c1 ?c2 ?c3 ?c4 ?c5 ?_)
  case c1 =>
    intro j u hj
    match j, hj with
    | 0, hj => simp at hj; subst hj; simp [Addr.add]
  case c2 => intro u hu; simp at hu; subst hu; rfl
  case c3 => unfold maxLen; omega
  case c4 => omega
  case c5 => simp; omega
  intro v' w2 hown' hgrow _
  have hlt := heap_lt hbk
  have hb2 : w2.heap[b]? = some (.cells #[.pointer (some ⟨b, 0, none⟩), v] 78 (0, 0)) := by
    rw [hgrow.block b (by simp; omega) (fun e => hne e.symm), Lib.alloc_old w1 _ b hlt]; exact hbk
  have d1 : w2.cell? ⟨b, 1, none⟩ = some v := by rw [Lib.cell_of_heap hb2]; rfl
  have f1 : w2.frozen? ⟨b, 1, none⟩ = false := Lib.frozen_of_heap hb2 1
  obtain ⟨g, cap, rfl⟩ : ∃ g cap, v' = .slice (some ⟨g, 0, none⟩) (bs.length + 1) cap := by
    rcases hown'.2 with ⟨_, h0⟩ | ⟨g, cap, cur, fz, hv, _⟩
    · omega
    · exact ⟨g, cap, hv⟩
  go_wp2
  go_ret
  refine ⟨rfl, .inr (Lib.BuilderAtF.put hB hb2 (bs' := bs ++ [.int .u8 c]) (by simpa using hown') (by decide)), ?_⟩
  exact ((hb1.alloc (by omega) _).grown hgrow (by simp; omega) (fun k hk => (hown.lt k hk).1)).setCell (p := ⟨b, 1, none⟩) hB _
set_option maxHeartbeats 2000000 in
set_option maxRecDepth 100000 in
theorem writeString (B b : Nat) (bs : List Value) (s : ByteArray) (w : World) (h : IsB B b bs w) (hlen : bs.length + s.size ≤ 140737488355328) (hBw : B ≤ w.heap.size) :
    Calls Tryz.prog 98 #[.pointer (some ⟨b, 0, none⟩), .string s] w fun e w' => e = .returned (.tuple #[.int .i64 s.size, .nilIface]) ∧ IsB B b (bs ++ Lib.strCells s) w' ∧ Below B w w' := by
  obtain ⟨i0, hi, hz0, hz1, hz2⟩ := info_parts infoB
  go_enter Tryz.func98, Tryz.ntmps98
  go_wp2_with (go_at_call 145; refine (check B b bs _ h).mono ?_)
  rintro e w1 ⟨rfl, ⟨hB, v, hbk, hown, hne⟩, hb1⟩
  have hz := hb1.size
  have c0 : w1.cell? ⟨b, 0, none⟩ = some (.pointer (some ⟨b, 0, none⟩)) := by rw [Lib.cell_of_heap hbk]; rfl
  have c1 : w1.cell? ⟨b, 1, none⟩ = some v := by rw [Lib.cell_of_heap hbk]; rfl
  go_wp2_with (at_builtin; refine Lib.wpList_append_own_stringF _ rfl _ _ 76 9 rfl B 5 i0 Tryz.underlying76 Tryz.underlying9 hi hz0 hz1 hz2 _ _ _ rfl hown s rfl ?c3 ?c4 ?c5 ?_)
  case c3 => unfold maxLen; omega
  case c4 => omega
  case c5 => omega
  intro v' w2 hown' hgrow _
  have hlt := heap_lt hbk
  have hb2 : w2.heap[b]? = some (.cells #[.pointer (some ⟨b, 0, none⟩), v] 78 (0, 0)) := by
    rw [hgrow.block b hlt (fun e => hne e.symm)]; exact hbk
  have d1 : w2.cell? ⟨b, 1, none⟩ = some v := by rw [Lib.cell_of_heap hb2]; rfl
  have f1 : w2.frozen? ⟨b, 1, none⟩ = false := Lib.frozen_of_heap hb2 1
  obtain ⟨ao, n', cap, rfl⟩ : ∃ ao n' cap, v' = .slice ao n' cap := by
    rcases hown'.2 with ⟨hv, _⟩ | ⟨g, cap, cur, fz, hv, _⟩
    · exact ⟨_, _, _, hv⟩
    · exact ⟨_, _, _, hv⟩
  go_wp2
  go_ret2
  refine ⟨rfl, .inr (Lib.BuilderAtF.put hB hb2 (bs' := bs ++ Lib.strCells s) (by simpa [Lib.strCells_length] using hown') (by decide)), ?_⟩
  exact (hb1.grown hgrow (by omega) (fun k hk => (hown.lt k hk).1)).setCell (p := ⟨b, 1, none⟩) hB _
theorem string (B b : Nat) (l : List UInt8) (w : World) (h : IsB B b (Lib.byteCells l) w) (hBw : B ≤ w.heap.size) :
    Calls Tryz.prog 57 #[.pointer (some ⟨b, 0, none⟩)] w fun e w' => e = .returned (.string ⟨l.toArray⟩) ∧ IsB B b (Lib.byteCells l) w' ∧ Below B w w' :=
  Tryz.Builder_String_any_f B b l w h hBw
end Go.Proofs.YtniibpndgcndbaaGreatDoor.Bld
namespace Go.Proofs.YtniibpndgcndbaaGreatDoor.Tpl
open Go.RowKit Go.Proofs Go.Proofs.YtniibpndgcndbaaGreatDoor.PB Go.Proofs.YtniibpndgcndbaaGreatDoor.Short Go.Proofs.YtniibpndgcndbaaGreatDoorW.PrintWords Go.Proofs.YtniibpndgcndbaaGreatDoorW.PrintLast Go.Proofs.YtniibpndgcndbaaGreatDoorW.PrintMore
def bufOf (w : World) (g : Nat) : Option Nat := (w.cell? ⟨g, 1, none⟩).bind Value.ownBlock
def Off (w : World) (g k : Nat) : Prop := k ≠ g ∧ some k ≠ bufOf w g
structure PStep (g : Nat) (w w1 : World) : Prop where
  os : w1.os = w.os
  tape : w1.tape = w.tape
  output : w1.output = w.output
  size : w.heap.size ≤ w1.heap.size
  blk : ∀ k, k < w.heap.size → Off w g k → w1.heap[k]? = w.heap[k]?
  buf : bufOf w1 g = bufOf w g ∨ ∃ b, bufOf w1 g = some b ∧ w.heap.size ≤ b
theorem PStep.refl (g : Nat) (w : World) : PStep g w w := ⟨rfl, rfl, rfl, Nat.le_refl _, fun _ _ _ => rfl, .inl rfl⟩
theorem Off.step {g : Nat} {w w1 : World} (h : PStep g w w1) {k : Nat} (hk : k < w.heap.size) (ho : Off w g k) : Off w1 g k := by
  refine ⟨ho.1, fun e => ?_⟩
  rcases h.buf with hb | ⟨b, hb, hle⟩
  · exact ho.2 (e.trans hb)
  · rw [hb] at e; cases e; omega
theorem PStep.trans {g : Nat} {w w1 w2 : World} (h : PStep g w w1) (k : PStep g w1 w2) : PStep g w w2 := by
  refine ⟨k.os.trans h.os, k.tape.trans h.tape, k.output.trans h.output, Nat.le_trans h.size k.size, fun i hi ho => (k.blk i (Nat.lt_of_lt_of_le hi h.size) (ho.step h hi)).trans (h.blk i hi ho), ?_⟩
  rcases k.buf with hb | ⟨b, hb, hle⟩
  · rw [hb]; exact h.buf
  · exact .inr ⟨b, hb, Nat.le_trans h.size hle⟩
theorem bufOf_below {w w1 : World} {g : Nat} (hg : g < w.heap.size) (hb : Below w.heap.size w w1) : bufOf w1 g = bufOf w g := by
  unfold bufOf World.cell?
  simp only [hb.block g hg]
theorem PStep.of_below {g : Nat} {w w1 : World} (hg : g < w.heap.size) (hb : Below w.heap.size w w1) : PStep g w w1 := ⟨hb.os, hb.tape, hb.output, hb.size, fun k hk _ => hb.block k hk, .inl (bufOf_below hg hb)⟩
theorem PStep.blkOf {g : Nat} {w w1 : World} (h : PStep g w w1) {k : Nat} {o : Obj} (hk : w.heap[k]? = some o) (ho : Off w g k) : w1.heap[k]? = some o := (h.blk k (blk_lt hk) ho).trans hk
theorem PStep.below {g B : Nat} {w w1 : World} (h : PStep g w w1) (hg : B ≤ g) (hb : ∀ b, bufOf w g = some b → B ≤ b) (hB : B ≤ w.heap.size) : Below B w w1 := ⟨h.os, h.tape, h.output, h.size, fun k hk => h.blk k (Nat.lt_of_lt_of_le hk hB) ⟨by omega, fun e => by have := hb k e.symm; omega⟩⟩
def PenAt (w : World) (B g : Nat) (l : S) (c : Nat) (most left : Int) : Prop :=
  B ≤ g ∧ ∃ p v, (p = .pointer none ∨ p = .pointer (some ⟨g, 0, none⟩)) ∧ w.heap[g]? = some (.cells #[p, v, .int .u8 c, .int .i64 most, .int .i64 left] 80 (0, 0)) ∧ w.ownsRow B 5 1 v l.length (Lib.byteCells l) ∧ (l = [] → v = .slice none 0 0)
theorem PenAt.lt {w : World} {B g : Nat} {l : S} {c : Nat} {most left : Int} (h : PenAt w B g l c most left) : g < w.heap.size := by obtain ⟨_, p, v, _, hb, _⟩ := h; exact blk_lt hb
theorem PenAt.below {w w1 : World} {B g : Nat} {l : S} {c : Nat} {most left : Int} (h : PenAt w B g l c most left) (hb : Below w.heap.size w w1) : PenAt w1 B g l c most left := by
  obtain ⟨hB, p, v, hp, hk, ho, hn⟩ := h
  exact ⟨hB, p, v, hp, blk_below hk hb, pw_own_below ho hb, hn⟩
theorem PenAt.bufB {w : World} {B g : Nat} {l : S} {c : Nat} {most left : Int} (h : PenAt w B g l c most left) : ∀ b, bufOf w g = some b → B ≤ b := by
  obtain ⟨hB, p, v, hp, hk, ho, hn⟩ := h
  intro b hb
  have : w.cell? ⟨g, 1, none⟩ = some v := (blk_cell hk 1).trans rfl
  unfold bufOf at hb
  rw [this] at hb
  exact own_base ho b hb
theorem PStep.belowP {w w1 : World} {B g : Nat} {l : S} {c : Nat} {most left : Int} (h : PStep g w w1) (hp : PenAt w B g l c most left) (hB : B ≤ w.heap.size) : Below B w w1 := h.below hp.1 hp.bufB hB
theorem own_neB {w : World} {B : Nat} {v : Value} {n : Nat} {xs : List Value} {b t : Nat} {cs : Array Value} (hown : w.ownsRow B 5 1 v n xs) (hb : w.heap[b]? = some (.cells cs t (0, 0))) (ht : t ≠ 5) : v.ownBlock ≠ some b := by
  intro h
  obtain ⟨cells, hc⟩ := own_typed hown b h
  rw [hc] at hb
  simp only [Option.some.injEq, Obj.cells.injEq] at hb
  exact ht hb.2.1.symm
theorem sizeBld : (Tryz.prog.info? 78).map (·.size) = some 2 := by kernel_rfl
theorem infoByte : (Tryz.prog.info? 5).map (fun i => (i.zero, i.size, i.bytes)) = some (some (.int .u8 0), 1, 1) := by kernel_rfl
set_option maxRecDepth 100000 in
theorem pcheck0 (g : Nat) (w : World) (v x2 x3 x4 : Value) (hb : w.heap[g]? = some (.cells #[.pointer none, v, x2, x3, x4] 80 (0, 0))) :
    Calls Tryz.prog 145 #[.pointer (some ⟨g, 0, none⟩)] w fun e w' => e = .returned (.tuple #[]) ∧ w' = w.setCell ⟨g, 0, none⟩ (.pointer (some ⟨g, 0, none⟩)) := by
  obtain ⟨j, hj, hjs⟩ := Option.map_eq_some_iff.1 sizeBld
  have h0 : w.cell? ⟨g, 0, none⟩ = some (.pointer none) := (blk_cell hb 0).trans rfl
  have hfz := blk_frozen hb 0
  have hsh : w.shape? g = some (80, 5) := by simp [World.shape?, hb]
  clear hb
  go_enter Tryz.func145, Tryz.ntmps145
  go_wp2
  rw [Lib.run_to_unsafe w ⟨g, 0, none⟩ Tryz.underlying75 Tryz.underlying162 hj (by rw [hjs]; decide) hsh (show (0 : Nat) < 5 by decide)]
  simp only [Result.andThen]
  rw [Oper.upon_value]
  go_wp2
  rw [run_callFunc_extern Tryz.func177 (by kernel_rfl) (by kernel_rfl) (by kernel_rfl) (e := Extern.AbiNoEscape.same) (by kernel_rfl)]
  rw [Lib.run_noEscape]
  simp only [Result.andThen]
  rw [Oper.upon_value]
  go_wp2
  rw [Lib.run_from_unsafe w ⟨g, 0, none⟩ Tryz.underlying162 Tryz.underlying75 hj hsh (by kernel_rfl)]
  simp only [Result.andThen]
  rw [Oper.upon_value]
  go_wp2
  go_end0
  exact ⟨rfl, rfl⟩
set_option maxRecDepth 100000 in
theorem pcheck1 (g : Nat) (w : World) (h0 : w.cell? ⟨g, 0, none⟩ = some (.pointer (some ⟨g, 0, none⟩))) :
    Calls Tryz.prog 145 #[.pointer (some ⟨g, 0, none⟩)] w fun e w' => e = .returned (.tuple #[]) ∧ w' = w := by
  obtain ⟨j, hj, _⟩ := Option.map_eq_some_iff.1 sizeBld
  go_enter Tryz.func145, Tryz.ntmps145
  go_wp2
  rw [Lib.run_neq_ptr_same w _ Tryz.underlying75 hj]
  go_wp2
  go_end0
  exact ⟨rfl, rfl⟩
theorem plen_any (g : Nat) (w : World) (B : Nat) (l : S) (c : Nat) (most left : Int) (h : PenAt w B g l c most left) :
    Calls Tryz.prog 185 #[.pointer (some ⟨g, 0, none⟩)] w fun e w' => e = .returned (.int .i64 l.length) ∧ w = w' := by
  obtain ⟨hB, p, v, hp, hk, ho, hn⟩ := h
  obtain ⟨A, cp, rfl⟩ : ∃ A cp, v = .slice A l.length cp := by
    rcases ho.2 with ⟨hv, h0⟩ | ⟨gg, cap, cur, hv, _⟩
    · exact ⟨none, 0, by rw [hv, h0]⟩
    · exact ⟨_, cap, hv⟩
  have h1 : w.cell? ⟨g, 1, none⟩ = some (.slice A l.length cp) := (blk_cell hk 1).trans rfl
  clear hk ho hn hp
  go_enter Tryz.func185, Tryz.ntmps185
  go_wp2
  go_ret
  exact ⟨rfl, rfl⟩
section
variable {P : Program} {w : World}
theorem append_str_hat (base : Nat) (t u ty e : TypeId) (i : TypeInfo) (ht : P.underlying t = some (.slice e)) (hu : P.underlying u = some .string) (hi : P.info? e = some i) (hz : i.zero = some (.int .u8 0))
    (hsize : i.size = 1) (hby : i.bytes = 1) (v : Value) (n : Nat) (xs : List Value) (hown : w.ownsRow base e 1 v n xs) (s : ByteArray) (h63 : n + s.size ≤ maxLen) (hbytes : n + s.size ≤ 140737488355328) (v' : Value) (w' : World)
    (hr : (Builtin.append_ #[t, u] ty #[v, .string s]).run P w = .ok v' w') : v'.ownBlock = v.ownBlock ∨ ∃ b, v'.ownBlock = some b ∧ w.heap.size ≤ b := by
  have hsmall : n + s.size ≤ 9223372036854775807 := by simp only [maxLen] at h63; omega
  have hxl : xs.length = n := by simpa using hown.1
  rcases hown.2 with ⟨rfl, rfl⟩ | ⟨g, cap, cur, rfl, hbg, hg, hnc, hcm, hcs, htake⟩
  · by_cases hm : s.size = 0
    · have hf := Lib.run_firstCells_string (P := P) w 1 s
      rw [hm] at hf
      have h1 : (Builtin.append_ #[t, u] ty #[.slice none 0 0, .string s]).run P w = .ok (.slice none 0 0) w := by
        simp [Builtin.append_, run_underlying ht, run_underlying hu, sizeOf, typeInfo, hi, hsize, Builtin.lenOf, hm, hf]
      rw [h1] at hr
      injection hr with h2 h3
      subst h2
      exact .inl rfl
    · have h1 := run_append_nil_string (P := P) w t u ty e i (.int .u8 0) ht hu hi hz s (by omega) (by omega) (by rw [hby]; omega)
      rw [h1] at hr
      injection hr with h2 h3
      subst h2
      exact .inr ⟨w.heap.size, by simp [Value.ownBlock], Nat.le_refl _⟩
  · by_cases hroom : n + s.size ≤ cap
    · have hcs' : cur.size = cap := by simpa using hcs
      have h1 := Lib.run_append_room_string (P := P) (w := w) t u ty e i ht hu hi hsize g n cap cur hg s hroom (by omega)
      rw [h1] at hr
      injection hr with h2 h3
      subst h2
      exact .inl rfl
    · have holds : ∀ j u, xs[j]? = some u → w.cell? ((⟨g, 0, none⟩ : Addr).add j) = some u := hown.cells (g := g) rfl
      have h1 := Lib.run_append_grow_string (P := P) (w := w) t u ty e i (.int .u8 0) ht hu hi hz ⟨g, 0, none⟩ n cap xs (by rw [hsize]; simpa using hxl) holds s (by omega) (by omega) (by rw [hby]; exact growslice_fits (by omega) (by omega))
      rw [h1] at hr
      injection hr with h2 h3
      subst h2
      exact .inr ⟨w.heap.size, by simp [Value.ownBlock], Nat.le_refl _⟩
def HatB (w : World) (v v' : Value) (s : ByteArray) : Prop := (v' = .slice none 0 0 ↔ v = .slice none 0 0 ∧ s.size = 0) ∧ (v'.ownBlock = v.ownBlock ∨ ∃ b, v'.ownBlock = some b ∧ w.heap.size ≤ b)
theorem wpList_append_str {ops : Array Oper} {rest : List Oper} {o : Oper} {a : Act} {Q : Exit → Act → World → Prop} (hgd : o.guard = none) (sl x : Operand) (t u : TypeId)
    (ho : o.op = .call { callee := .builtin .append, args := #[sl, x], argTypes := #[t, u] })
    (base : Nat) (e : TypeId) (i : TypeInfo) (ht : P.underlying t = some (.slice e)) (hu : P.underlying u = some .string) (hi : P.info? e = some i) (hz : i.zero = some (.int .u8 0))
    (hsize : i.size = 1) (hby : i.bytes = 1) (v : Value) (n : Nat) (xs : List Value) (hs : a.eval sl = v) (hown : w.ownsRow base e 1 v n xs) (s : ByteArray) (hx : a.eval x = .string s)
    (h63 : n + s.size ≤ maxLen) (hbytes : n + s.size ≤ 140737488355328) (hbase : base ≤ w.heap.size)
    (h : ∀ v' w', w'.ownsRow base e 1 v' (n + s.size) (xs ++ Lib.strCells s) → w.grownBy w' v.ownBlock → HatB w v v' s → wpList P ops Q rest (a.put o.dst v') w') : wpList P ops Q (o :: rest) a w := by
  refine wpList_plain hgd fun K hK => ?_
  obtain ⟨v', w', hr, h2, h3, h4⟩ := Lib.run_append_own_string (P := P) (w := w) base t u o.type e i ht hu hi hz hsize hby v n xs hown s h63 hbytes hbase
  have h5 := append_str_hat (P := P) (w := w) base t u o.type e i ht hu hi hz hsize hby v n xs hown s h63 hbytes v' w' hr
  unfold Oper.wp execOp
  simp only [ho, resolve, invoke, builtin, Sem.run_bind, Sem.run_pure, Result.andThen_ok, List.map_toArray, List.map_cons, List.map_nil, hs, hx, hr]
  exact hK _ _ (h v' w' h2 h3 ⟨h4, h5⟩)
end
theorem pstep_put {g : Nat} {w1 w2 : World} {v v' : Value} {cs : Array Value} {t : TypeId} (hk : w1.heap[g]? = some (.cells cs t (0, 0))) (h1 : cs[1]? = some v) (hsz : 1 < cs.size) (hg : w1.grownBy w2 v.ownBlock) (hne : v.ownBlock ≠ some g) (hat : v'.ownBlock = v.ownBlock ∨ ∃ b, v'.ownBlock = some b ∧ w1.heap.size ≤ b) : PStep g w1 (w2.setCell ⟨g, 1, none⟩ v') := by
  have hc1 : w1.cell? ⟨g, 1, none⟩ = some v := (blk_cell hk 1).trans h1
  have hb1 : bufOf w1 g = v.ownBlock := by unfold bufOf; rw [hc1]; rfl
  have hk2 : w2.heap[g]? = some (.cells cs t (0, 0)) := (hg.block g (blk_lt hk) (fun e => hne e.symm)).trans hk
  have hc2 : (w2.setCell ⟨g, 1, none⟩ v').cell? ⟨g, 1, none⟩ = some v' := by
    have := blk_put hk2 1 v' rfl
    rw [blk_cell this 1]
    simp [hsz]
  have hb2 : bufOf (w2.setCell ⟨g, 1, none⟩ v') g = v'.ownBlock := by unfold bufOf; rw [hc2]; rfl
  refine ⟨hg.os, hg.tape, hg.output, by simpa [World.setCell] using hg.size, fun k hk' ho => ?_, by rw [hb1, hb2]; exact hat⟩
  rw [Below.heap_setCell _ _ _ _ ho.1]
  exact hg.block k hk' (by rw [← hb1]; exact ho.2)
set_option maxHeartbeats 2000000 in
set_option maxRecDepth 100000 in
theorem pwrite_any (g B : Nat) (l s : S) (c : Nat) (most left : Int) (w : World) (h : PenAt w B g l c most left) (hl : l.length + s.length ≤ 1000000000) (hBw : B ≤ w.heap.size) :
    Calls Tryz.prog 98 #[.pointer (some ⟨g, 0, none⟩), .string (bs s)] w fun e w' => e = .returned (.tuple #[.int .i64 s.length, .nilIface]) ∧ PenAt w' B g (l ++ s) c most left ∧ PStep g w w' := by
  obtain ⟨i0, hi, hz0, hz1, hz2⟩ := info_parts infoByte
  -- behind the check
  have hck : Calls Tryz.prog 145 #[.pointer (some ⟨g, 0, none⟩)] w fun e w' => e = .returned (.tuple #[]) ∧ ∃ v, w'.heap[g]? = some (.cells #[.pointer (some ⟨g, 0, none⟩), v, .int .u8 c, .int .i64 most, .int .i64 left] 80 (0, 0)) ∧ w'.ownsRow B 5 1 v l.length (Lib.byteCells l) ∧ (l = [] → v = .slice none 0 0) ∧ PStep g w w' := by
    obtain ⟨hB, p, v, hp, hk, ho, hn⟩ := h
    rcases hp with rfl | rfl
    · refine (pcheck0 g w v _ _ _ hk).mono ?_
      rintro e w' ⟨rfl, rfl⟩
      have hne := own_neB ho hk (by decide)
      refine ⟨rfl, v, blk_put hk 0 _ rfl, own_other ho (row := some g) ⟨rfl, rfl, rfl, by simp [World.setCell], fun k _ hk => Below.heap_setCell _ _ _ _ (fun e => hk (by simp [e]))⟩ (.inr hne), hn, ?_⟩
      refine ⟨rfl, rfl, rfl, by simp [World.setCell], fun k _ hk => Below.heap_setCell _ _ _ _ hk.1, .inl ?_⟩
      unfold bufOf
      rw [(blk_cell hk 1).trans rfl, (blk_cell (blk_put hk 0 (.pointer (some ⟨g, 0, none⟩)) rfl) 1).trans rfl]
      rfl
    · refine (pcheck1 g w ((blk_cell hk 0).trans rfl)).mono ?_
      rintro e w' ⟨rfl, rfl⟩
      exact ⟨rfl, v, hk, ho, hn, PStep.refl _ _⟩
  have HBg := Aside0.mk h.1
  clear h
  go_enter Tryz.func98, Tryz.ntmps98
  go_wp2_with fail
  refine hck.mono ?_
  rintro e w1 ⟨rfl, v, hk, ho, hn, hp⟩
  clear hck
  have c1 : w1.cell? ⟨g, 1, none⟩ = some v := (blk_cell hk 1).trans rfl
  have HK := Aside0.mk hk
  have HO := Aside0.mk ho
  have HN := Aside0.mk hn
  have HP := Aside0.mk hp
  have hb3 : l.length + (bs s).size ≤ maxLen := by rw [bs_size]; unfold maxLen; omega
  have hb4 : l.length + (bs s).size ≤ 140737488355328 := by rw [bs_size]; omega
  have hb5 : B ≤ w1.heap.size := Nat.le_trans hBw hp.size
  clear hk ho hn hp
  go_wp2_with (at_builtin; refine wpList_append_str rfl _ _ 76 9 rfl B 5 i0 Tryz.underlying76 Tryz.underlying9 hi hz0 hz1 hz2 v l.length (Lib.byteCells l) rfl HO.out (bs s) rfl ?c3 ?c4 ?c5 ?_)
  case c3 => exact hb3
  case c4 => exact hb4
  case c5 => exact hb5
  intro v' w2 hown' hgrow hat
  have hne := own_neB HO.out HK.out (by decide)
  have hk2 : w2.heap[g]? = some (.cells #[.pointer (some ⟨g, 0, none⟩), v, .int .u8 c, .int .i64 most, .int .i64 left] 80 (0, 0)) := (hgrow.block g (blk_lt HK.out) (fun e => hne e.symm)).trans HK.out
  have HK2 := Aside0.mk hk2
  have d1 : w2.cell? ⟨g, 1, none⟩ = some v := (blk_cell hk2 1).trans rfl
  have f1 := blk_frozen hk2 1
  have HW := Aside0.mk hown'
  have HGR := Aside0.mk hgrow
  have HAT := Aside0.mk hat
  clear hk2 hown' hgrow hat
  obtain ⟨ao, n', cap, rfl⟩ : ∃ ao n' cap, v' = .slice ao n' cap := by
    rcases HW.out.2 with ⟨hv, _⟩ | ⟨g', cap, cur, hv, _⟩
    · exact ⟨_, _, _, hv⟩
    · exact ⟨_, _, _, hv⟩
  go_wp2
  go_ret2
  have e1 : Lib.byteCells l ++ Lib.strCells (bs s) = Lib.byteCells (l ++ s) := by simp [Lib.byteCells, Lib.strCells, bs]
  have hown2 := HW.out
  rw [e1, bs_size, ← List.length_append] at hown2
  have hne2 := own_neB hown2 HK2.out (by decide)
  refine ⟨by rw [← bs_size]; rfl, ⟨HBg.out, _, _, .inr rfl, blk_put HK2.out 1 _ rfl, own_other hown2 (row := some g) ⟨rfl, rfl, rfl, by simp [World.setCell], fun k _ hk => Below.heap_setCell _ _ _ _ (fun e => hk (by simp [e]))⟩ (.inr hne2), fun h0 => ?_⟩, HP.out.trans (pstep_put HK.out rfl (Nat.lt_of_sub_eq_succ rfl) HGR.out hne HAT.out.2)⟩
  obtain ⟨h1, h2⟩ := List.append_eq_nil_iff.1 h0
  exact HAT.out.1.2 ⟨HN.out h1, by rw [bs_size, h2]; rfl⟩
set_option maxHeartbeats 2000000 in
set_option maxRecDepth 100000 in
/-- (*strings.Builder).String of a pen's builder. -/
theorem pstring_any (g B : Nat) (l : S) (c : Nat) (most left : Int) (w : World) (h : PenAt w B g l c most left) (hBw : B ≤ w.heap.size) :
    Calls Tryz.prog 57 #[.pointer (some ⟨g, 0, none⟩)] w fun e w' => e = .returned (.string (bs l)) ∧ Below B w w' := by
  obtain ⟨hB, p, v, hp, hk, ho, hn⟩ := h
  by_cases h0 : l = []
  · have hv := hn h0
    subst hv
    subst h0
    have hUS : ∀ W : World, (Builtin.unsafeString_ #[125, 3] 9 #[.pointer none, .int .i64 0]).run Tryz.prog W = .ok (.string .empty) W := fun W => Lib.run_unsafeString_none W _ _ _ none
    have c1 : w.drew.cell? ⟨g, 1, none⟩ = some (.slice none 0 0) := (blk_cell (blk_drew hk) 1).trans rfl
    have hSD : ∀ W : World, (Builtin.unsafeSliceData_ #[76] 125 #[.slice none 0 0]).run Tryz.prog W = .ok (.pointer none) W := fun W => rfl
    clear ho hk hn hp
    go_enter Tryz.func57, Tryz.ntmps57
    go_wp2
    go_region
    all_goals (go_wp2; go_ret; exact ⟨rfl, Below.drew (Below.refl B w)⟩)
  · have hl0 : l.length ≠ 0 := by simpa using h0
    obtain ⟨gg, cap, cur, rfl, hbg, hg, hnc, hcm, hcs, htake⟩ : ∃ gg cap cur, v = .slice (some ⟨gg, 0, none⟩) l.length cap ∧ B ≤ gg ∧ w.heap[gg]? = some (.cells cur 5 (0, 0)) ∧ l.length ≤ cap ∧ cap ≤ maxLen ∧ cur.size = cap * 1 ∧ cur.toList.take (l.length * 1) = Lib.byteCells l := by
      rcases ho.2 with ⟨_, hz⟩ | ⟨gg, cap, cur, hv, r⟩
      · exact absurd hz hl0
      · exact ⟨gg, cap, cur, hv, r⟩
    have c1 : w.drew.cell? ⟨g, 1, none⟩ = some (.slice (some ⟨gg, 0, none⟩) l.length cap) := (blk_cell (blk_drew hk) 1).trans rfl
    have hSD : (Builtin.unsafeSliceData_ #[76] 125 #[.slice (some ⟨gg, 0, none⟩) l.length cap]).run Tryz.prog w.drew = .ok (.pointer (some ⟨gg, 0, none⟩)) w.drew :=
      Lib.run_unsafeSliceData_row _ _ _ _ _ _ (by omega)
    have hUS : (Builtin.unsafeString_ #[125, 3] 9 #[.pointer (some ⟨gg, 0, none⟩), .int .i64 l.length]).run Tryz.prog w.drew = .ok (.string ⟨l.toArray⟩) (w.drew.freeze ⟨gg, 0, none⟩ l.length) := by
      refine Lib.run_unsafeString_row w.drew 125 3 9 5 Tryz.underlying125 (by kernel_rfl) gg cur.size (by have hg' : w.drew.heap[gg]? = some (.cells cur 5 (0, 0)) := hg; simp [World.shape?, hg']) l h0 (by omega) (by unfold maxLen at hcm; omega) ?_
      intro j x hx
      have := ho.cells (g := gg) rfl j (.int .u8 x.toNat) (by simp [Lib.byteCells, hx])
      exact this
    have hfr : Below B w (w.drew.freeze ⟨gg, 0, none⟩ l.length) := Lib.below_freeze (Below.drew (Below.refl B w)) (p := ⟨gg, 0, none⟩) hbg _
    have HFR := Aside0.mk hfr
    clear ho hk hn hp hg htake hfr
    go_enter Tryz.func57, Tryz.ntmps57
    go_wp2
    go_region
    all_goals (go_wp2; go_ret; exact ⟨rfl, HFR.out⟩)
end Go.Proofs.YtniibpndgcndbaaGreatDoor.Tpl
namespace Go.Proofs.YtniibpndgcndbaaGreatDoor.Tpl
open Go.RowKit Go.Proofs Go.Proofs.YtniibpndgcndbaaGreatDoor.PB Go.Proofs.YtniibpndgcndbaaGreatDoor.Short Go.Proofs.YtniibpndgcndbaaGreatDoorW.PrintWords Go.Proofs.YtniibpndgcndbaaGreatDoorW.PrintLast Go.Proofs.YtniibpndgcndbaaGreatDoorW.PrintMore Vals
abbrev rObj (x : Val) (A3 : Option Addr) (c3 : Nat) (A4 : Option Addr) (c4 : Nat) (nx : Option Addr) : Obj := .cells #[.int .u8 x.k, .string (bs x.t), .int .i64 x.n, .slice A3 x.i.len c3, .slice A4 x.m.length c4, .pointer nx] 87 (0, 0)
def Rounds (w : World) (ok : Nat → Prop) : Option Addr → List Val → Prop
  | a, [] => a = none
  | a, x :: r => ∃ b A3 c3 A4 c4 nx, a = some ⟨b, 0, none⟩ ∧ ok b ∧ w.heap[b]? = some (rObj x A3 c3 A4 c4 nx) ∧ RV w ok x A3 c3 A4 c4 ∧ Rounds w ok nx r
theorem Rounds.mono {w : World} {ok ok' : Nat → Prop} (hk : ∀ k, ok k → ok' k) : ∀ {rd : List Val} {a : Option Addr}, Rounds w ok a rd → Rounds w ok' a rd
  | [], _, h => h
  | _ :: _, _, ⟨b, A3, c3, A4, c4, nx, e, hb, hh, hv, hr⟩ => ⟨b, A3, c3, A4, c4, nx, e, hk b hb, hh, hv.mono hk, Rounds.mono hk hr⟩
theorem Rounds.step {w w1 : World} {ok : Nat → Prop} (hm : ∀ k, ok k → k < w.heap.size → w1.heap[k]? = w.heap[k]?) : ∀ {rd : List Val} {a : Option Addr}, Rounds w ok a rd → Rounds w1 (fun k => ok k ∧ k < w.heap.size) a rd
  | [], _, h => h
  | _ :: _, _, ⟨b, A3, c3, A4, c4, nx, e, hb, hh, hv, hr⟩ => ⟨b, A3, c3, A4, c4, nx, e, ⟨hb, blk_lt hh⟩, (hm b hb (blk_lt hh)).trans hh, hv.step hm, Rounds.step hm hr⟩
theorem Rounds.below {w w1 : World} {ok : Nat → Prop} {rd : List Val} {a : Option Addr} (h : Rounds w ok a rd) (hb : Below w.heap.size w w1) : Rounds w1 ok a rd := (h.step (fun k _ hk => hb.block k hk)).mono (fun _ hk => hk.1)
theorem RV.below {w w1 : World} {ok : Nat → Prop} {x : Val} {A3 : Option Addr} {c3 : Nat} {A4 : Option Addr} {c4 : Nat} (h : RV w ok x A3 c3 A4 c4) (hb : Below w.heap.size w w1) : RV w1 ok x A3 c3 A4 c4 := (h.step (fun k _ hk => hb.block k hk)).mono (fun _ hk => hk.1)
theorem Rounds.pstep {w w1 : World} {g : Nat} {rd : List Val} {a : Option Addr} (h : Rounds w (Off w g) a rd) (hp : PStep g w w1) : Rounds w1 (Off w1 g) a rd := (h.step (fun k hk hl => hp.blk k hl hk)).mono (fun _ hk => hk.1.step hp hk.2)
theorem RV.pstep {w w1 : World} {g : Nat} {x : Val} {A3 : Option Addr} {c3 : Nat} {A4 : Option Addr} {c4 : Nat} (h : RV w (Off w g) x A3 c3 A4 c4) (hp : PStep g w w1) : RV w1 (Off w1 g) x A3 c3 A4 c4 := (h.step (fun k hk hl => hp.blk k hl hk)).mono (fun _ hk => hk.1.step hp hk.2)
def Val.fit (x : Val) : Prop := x.sm ∧ x.i.cnt ≤ 1048576
theorem fit_of {x : Val} (h : x.ok = true ∧ x.sm) : x.fit := ⟨h.2, by have := ((chkV_iff _ _ _ _ _).1 h.1).2.2; omega⟩
theorem RdS.tail {w : World} {b off c : Nat} {s : S} {p : List S} (h : RdS w (some ⟨b, off, none⟩) c (s :: p)) : RdS w (if c = 1 then some ⟨b, off, none⟩ else some ⟨b, off + 1, none⟩) (c - 1) p := by
  have hl := h.2
  simp only [List.length_cons] at hl
  refine ⟨?_, by omega⟩
  by_cases hp : p = []
  · subst hp; exact C_none _ _ _ rfl
  · have hp1 : 0 < p.length := List.length_pos_iff.2 hp
    rw [if_neg (by omega)]
    have := C_drop (i := 1) h.1 (by simp)
    simpa using this
theorem upP_cons (s : S) (p : List S) (x : Val) (r : List Val) : upP s p (x :: r) = match FindP x [s] with | .ok y => FindP y p | .error _ => upP s p r := rfl
def ResV (o : Except Int Val) (ok : Nat → Prop) (w' : World) (x : Val) (k : Int) (E3 : Option Addr) (f3 : Nat) (E4 : Option Addr) (f4 : Nat) : Prop :=
  RV w' ok x E3 f3 E4 f4 ∧ match o with | .ok y => x = y ∧ k = 0 | .error j => k = j ∧ x = Val.zero ∧ E3 = none ∧ f3 = 0 ∧ E4 = none ∧ f4 = 0
theorem rv_zero (w : World) (ok : Nat → Prop) : RV w ok Val.zero none 0 none 0 := ⟨⟨Kd.F_nil _ _ _, Nat.le_refl _⟩, ⟨Kd.F_nil _ _ _, Nat.le_refl _⟩⟩
theorem FindRet.uni {o : Except Int Val} {ok : Nat → Prop} {w w' : World} {e : Ending} (h : FindRet o ok w e w') : Below w.heap.size w w' ∧ ∃ x k E3 f3 E4 f4, e = .returned (.tuple #[vAgg x E3 f3 E4 f4, .int .i64 k]) ∧ ResV o (fun q => ok q ∨ w.heap.size ≤ q) w' x k E3 f3 E4 f4 := by
  obtain ⟨hb, h⟩ := h
  cases o with
  | error j => exact ⟨hb, Val.zero, j, none, 0, none, 0, h, rv_zero _ _, rfl, rfl, rfl, rfl, rfl, rfl⟩
  | ok y => obtain ⟨A3, c3, A4, c4, he, hr⟩ := h; exact ⟨hb, y, 0, A3, c3, A4, c4, he, hr, rfl, rfl⟩
theorem ResV.ret {o : Except Int Val} {ok ok' : Nat → Prop} {w w' : World} {x : Val} {k : Int} {E3 : Option Addr} {f3 : Nat} {E4 : Option Addr} {f4 : Nat} (h : ResV o ok w' x k E3 f3 E4 f4) (hb : Below w.heap.size w w') (hk : ∀ q, ok q → ok' q ∨ w.heap.size ≤ q) : FindRet o ok' w (.returned (.tuple #[vAgg x E3 f3 E4 f4, .int .i64 k])) w' := by
  obtain ⟨h1, h2⟩ := h
  refine ⟨hb, ?_⟩
  cases o with
  | error j => obtain ⟨rfl, rfl, rfl, rfl, rfl, rfl⟩ := h2; rfl
  | ok y => obtain ⟨rfl, rfl⟩ := h2; exact ⟨E3, f3, E4, f4, rfl, h1.mono hk⟩
theorem ResV.step {o : Except Int Val} {ok : Nat → Prop} {w w1 : World} {x : Val} {k : Int} {E3 : Option Addr} {f3 : Nat} {E4 : Option Addr} {f4 : Nat} (h : ResV o ok w x k E3 f3 E4 f4) (hm : ∀ q, ok q → q < w.heap.size → w1.heap[q]? = w.heap[q]?) : ResV o ok w1 x k E3 f3 E4 f4 := ⟨(h.1.step hm).mono (fun _ hq => hq.1), h.2⟩
abbrev zObj : Obj := .cells #[.int .u8 0, .string ⟨#[]⟩, .int .i64 0, .slice none 0 0, .slice none 0 0] 43 (0, 0)
theorem lit_at {V : World} {n : Nat} {s : S} (h : V.heap[n]? = some (.cells #[.string (bs s)] 9 (0, 0))) : RdS V (some ⟨n, 0, none⟩) 1 [s] := by
  refine ⟨⟨rfl, by simp, fun _ => ⟨_, rfl, fun j x hj => ?_⟩⟩, Nat.le_refl _⟩
  cases j with
  | succ j => simp at hj
  | zero =>
    simp at hj
    subst hj
    refine ⟨[.string (bs s)], rfl, rfl, fun i u hu => ?_⟩
    have hi : i = 0 := by have := (List.getElem?_eq_some_iff.1 hu).1; simp at this; omega
    subst hi
    simp at hu
    subst hu
    have e : (⟨n, 0, none⟩ : Addr).add (0 * Kd.sz Kd.string + 0) = ⟨n, 0, none⟩ := rfl
    rw [e]
    exact (blk_cell h 0).trans rfl
abbrev litB (s : S) : Obj := .cells #[.string (bs s)] 9
def UpMid (o : Except Int Val) (okk : Nat → Prop) (wr : World) (s6 s7 : Value) (wx : World) : Prop :=
  ∃ bx x k E3 f3 E4 f4, s6 = .pointer (some ⟨bx, 0, none⟩) ∧ s7 = .int .i64 k ∧ wx.heap[bx]? = some (vObj x.k x.t x.n x.i x.m E3 f3 E4 f4) ∧ ResV o (fun q => okk q ∨ wr.heap.size ≤ q) wx x k E3 f3 E4 f4 ∧ Below wr.heap.size wr wx
theorem up_new {o : Except Int Val} {okk : Nat → Prop} {wr V w2 : World} {x : Val} {k : Int} {E3 : Option Addr} {f3 : Nat} {E4 : Option Addr} {f4 : Nat} (hV : Below wr.heap.size wr V) (hb : Below V.heap.size V w2) (h : ResV o (fun q => okk q ∨ V.heap.size ≤ q) w2 x k E3 f3 E4 f4) :
    UpMid o okk wr (.pointer (some ⟨w2.heap.size, 0, none⟩)) (.int .i64 k) (w2.alloc (vObj x.k x.t x.n x.i x.m E3 f3 E4 f4)) := by
  have hb2 := below_alloc (Below.refl w2.heap.size w2) (vObj x.k x.t x.n x.i x.m E3 f3 E4 f4)
  refine ⟨w2.heap.size, x, k, E3, f3, E4, f4, rfl, rfl, blk_new _ _, ⟨(h.step (fun q _ hq => hb2.block q hq)).1.mono (fun q hq => ?_), h.2⟩, below_step hV (below_step hb hb2)⟩
  rcases hq with hq | hq
  · exact .inl hq
  · exact .inr (Nat.le_trans hV.size hq)
theorem up_old {o : Except Int Val} {okk : Nat → Prop} {wr V w2 : World} {bx : Nat} {x : Val} {k : Int} {E3 : Option Addr} {f3 : Nat} {E4 : Option Addr} {f4 : Nat} (hV : Below wr.heap.size wr V) (hb : Below V.heap.size V w2) (h : ResV o (fun q => okk q ∨ V.heap.size ≤ q) w2 x k E3 f3 E4 f4)
    (hz : V.heap[bx]? = some zObj) (hx : wr.heap.size ≤ bx) (hok : ¬ okk bx) :
    UpMid o okk wr (.pointer (some ⟨bx, 0, none⟩)) (.int .i64 k) (put5 w2 bx 0 (.int .u8 x.k) (.string (bs x.t)) (.int .i64 x.n) (.slice E3 x.i.len f3) (.slice E4 x.m.length f4)) := by
  have hlt := blk_lt hz
  refine ⟨bx, x, k, E3, f3, E4, f4, rfl, rfl, put5_blk (blk_below hz hb), ⟨(h.step (fun q hq _ => put5_far (fun e => ?_))).1.mono (fun q hq => ?_), h.2⟩, put5_below (below_step hV hb) hx⟩
  · rcases hq with hq | hq
    · exact hok (e ▸ hq)
    · omega
  · rcases hq with hq | hq
    · exact .inl hq
    · exact .inr (Nat.le_trans hV.size hq)
set_option maxHeartbeats 1000000 in
set_option maxRecDepth 100000 in
theorem rfind_any (a : Option Addr) (rd : List Val) (ok : Nat → Prop) (Ap : Option Addr) (cp : Nat) (path : List S) (w : World) (hne : rd ≠ []) (hR : Rounds w ok a rd) (hf : ∀ x, x ∈ rd → x.fit) (hP : RdS w Ap cp path) (hp : path.length ≤ 1048576) :
    Calls Tryz.prog 62 #[.pointer a, .slice Ap path.length cp] w (FindRet (meansP path rd) ok w) := by
  obtain ⟨o, ho⟩ : ∃ o, meansP path rd = o := ⟨_, rfl⟩
  rw [ho]
  have HO := Aside0.mk ho
  clear ho
  have hb1 := below_alloc (Below.refl w.heap.size w) zBox
  have BK1 := blk_new w zBox
  have HR := Aside0.mk (hR.step (fun k _ hk => hb1.block k hk))
  have HF := Aside0.mk hf
  have HP := Aside0.mk (RdS.below hP hb1)
  have HB1 := Aside0.mk hb1
  clear hR hf hP hb1
  go_enter Tryz.func62, Tryz.ntmps62
  go_upto_region 1 with (fail)
  generalize w.alloc zBox = W at BK1 HR HP HB1 ⊢
  obtain ⟨b1, hb1⟩ : ∃ b, w.heap.size = b := ⟨_, rfl⟩
  have Hb1 := Aside0.mk hb1
  rw [hb1] at BK1 ⊢
  have hle1 : w.heap.size ≤ b1 := Nat.le_of_eq hb1
  clear hb1
  have HK1 := Aside0.mk BK1
  have hlt1 : b1 < W.heap.size := blk_lt BK1
  obtain ⟨z0, z1, z2, z3, z4, f0, f1, f2, f3, f4⟩ := cells_5 BK1
  clear BK1
  cases path with
  | nil =>
    have ho' : Except.error 3 = o := HO.out
    subst ho'
    go_wp2
    refine bodyPost_ret (results_ct rfl _ _ b1 43 #[.int .u8 0, .string ⟨#[]⟩, .int .i64 0, .slice none 0 0, .slice none 0 0] (0, 0) _ rfl (put5_blk HK1.out) Tryz.underlying43 rfl (by kernel_rfl)) rfl ?_
    exact ⟨put5_below HB1.out hle1, rfl⟩
  | cons s p =>
    obtain ⟨bp, op, rfl, hcs⟩ := cellS HP.out 0 (by simp)
    simp only [Nat.add_zero, List.getD_cons_zero] at hcs
    have hpl : (0 : Int) < (((s :: p).length : Nat) : Int) := by simp
    have hpn : 0 < (s :: p).length := by simp
    have HT := Aside0.mk (RdS.tail HP.out)
    have hcap : (s :: p).length ≤ cp := HP.out.2
    have hcp1 : (1 : Int) ≤ (cp : Int) := by simp at hcap; omega
    have hcpl : (((s :: p).length : Nat) : Int) ≤ (cp : Int) := by omega
    have hpp : p.length ≤ 1048576 := by simp at hp; omega
    obtain ⟨i0, hi, hz0, hz1, hz2⟩ := info_parts info_str
    have hcut := cut_from (P := Tryz.prog) 23 9 .i64 Tryz.underlying23 hi 1 hz1 (some ⟨bp, op, none⟩) (s :: p).length cp 1 (by omega) (by simp; omega)
    obtain ⟨X, hX⟩ : ∃ X, (if cp = 1 then some ⟨bp, op, none⟩ else some ⟨bp, op + 1, none⟩ : Option Addr) = X := ⟨_, rfl⟩
    have hX' : (if cp = (1 : Int).toNat then (some ⟨bp, op, none⟩ : Option Addr) else (some ⟨bp, op, none⟩ : Option Addr).map (·.add ((1 : Int).toNat * 1))) = X := by
      rw [← hX]
      have e : (⟨bp, op, none⟩ : Addr).add 1 = ⟨bp, op + 1, none⟩ := add_at _ _ _
      show (if cp = 1 then _ else some ((⟨bp, op, none⟩ : Addr).add 1)) = _
      rw [e]
    rw [hX'] at hcut
    have hcut' : ∀ W : World, (Instr.slice 23 (.slice (some ⟨bp, op, none⟩) (s :: p).length cp) (some (.int .i64 1)) none none).run Tryz.prog W = .ok (.slice X p.length (cp - 1)) W := hcut
    rw [hX] at HT
    clear hcut hX hX' hi hz0 hz1 hz2 hcap
    generalize (s :: p).length = n at *
    have hn0 : ((n : Int) == 0) = false := by rw [beq_eq_false_iff_ne]; omega
    by_cases hs : s = thisS
    · have e0 : ((bs s).toList == [116, 104, 105, 115]) = true := by rw [bs_list, beq_iff_eq]; exact hs
      have HS := Aside0.mk hs
      clear hs
      cases rd with
      | nil => exact absurd rfl hne
      | cons x r =>
        obtain ⟨b, A3, c3, A4, c4, nx, rfl, hok, hb, hv, hr⟩ := HR.out
        have y5 : W.cell? ⟨b, 5, none⟩ = some (.pointer nx) := (blk_cell hb 5).trans rfl
        have hne1 : b1 ≠ b := by have := hok.2; have := Hb1.out; omega
        cases r with
        | nil =>
          have hnx : nx = none := hr
          subst hnx
          have ho' : Except.error 3 = o := by rw [← HO.out, HS.out, meansP_one]
          subst ho'
          clear hb hv hr
          go_wp2
          refine bodyPost_ret (results_ct rfl _ _ b1 43 #[.int .u8 0, .string ⟨#[]⟩, .int .i64 0, .slice none 0 0, .slice none 0 0] (0, 0) _ rfl (put5_blk HK1.out) Tryz.underlying43 rfl (by kernel_rfl)) rfl ?_
          exact ⟨put5_below HB1.out hle1, rfl⟩
        | cons x2 r2 =>
          obtain ⟨b', _, _, _, _, _, rfl, _⟩ := hr
          have ho' : FindP x p = o := by rw [← HO.out, HS.out, meansP_this]
          have HO' := Aside0.mk ho'
          have y0 : W.cell? ⟨b, 0, none⟩ = some (.int .u8 x.k) := (blk_cell hb 0).trans rfl
          have y1 : W.cell? ⟨b, 1, none⟩ = some (.string (bs x.t)) := (blk_cell hb 1).trans rfl
          have y2 : W.cell? ⟨b, 2, none⟩ = some (.int .i64 x.n) := (blk_cell hb 2).trans rfl
          have y3 : W.cell? ⟨b, 3, none⟩ = some (.slice A3 x.i.len c3) := (blk_cell hb 3).trans rfl
          have y4 : W.cell? ⟨b, 4, none⟩ = some (.slice A4 x.m.length c4) := (blk_cell hb 4).trans rfl
          have hfit := HF.out x List.mem_cons_self
          have hfd := fun V (hbv : Below W.heap.size W V) => vfind_any x A3 c3 A4 c4 X (cp - 1) p _ V hfit.1 (hv.below hbv) hfit.2 (RdS.below HT.out hbv) hpp
          clear hb hv hfit ho'
          go_upto_region 6 with (fail)
          go_region_with (go_at_call 89; refine (hfd _ ?_).mono ?_; exact (below_drew (Below.refl _ _)); rintro e w2 hret; obtain ⟨hb2, x2, k2, E3, f3', E4, f4', rfl, hrs⟩ := hret.uni; have K2 := blk_below HK1.out (below_step (below_drew (Below.refl _ _)) hb2); obtain ⟨z0, z1, z2, z3, z4, f0, f1, f2, f3, f4⟩ := cells_5 K2; have hlt2 : b1 < w2.heap.size := blk_lt K2)
          all_goals
            go_wp2
            refine bodyPost_ret (results_ct rfl _ _ b1 43 #[.int .u8 x2.k, .string (bs x2.t), .int .i64 x2.n, .slice E3 x2.i.len f3', .slice E4 x2.m.length f4'] (0, 0) _ rfl (put5_blk K2) Tryz.underlying43 rfl (by kernel_rfl)) rfl ?_
            refine ResV.ret (ok := fun q => (ok q ∧ q < w.heap.size) ∨ W.drew.heap.size ≤ q) (ResV.step (HO'.out ▸ hrs) (fun q hq _ => put5_far (fun e => ?_))) (put5_below (below_step HB1.out (below_step (below_drew (Below.refl _ _)) hb2)) hle1) (fun q hq => ?_)
            · rw [World.size_drew] at hq; have := Hb1.out; rcases hq with hq | hq <;> omega
            · rw [World.size_drew] at hq; have := HB1.out.size; rcases hq with hq | hq; exact .inl hq.1; exact .inr (by omega)
    · have e0 : ((bs s).toList == [116, 104, 105, 115]) = false := by rw [bs_list, beq_eq_false_iff_ne]; exact hs
      have HUP : Aside0 (upP s p rd = o) := ⟨by rw [← HO.out, meansP_up hs]⟩
      obtain ⟨okk, hokk⟩ : ∃ f : Nat → Prop, f = fun q => ok q ∧ q < w.heap.size := ⟨_, rfl⟩
      have HOK := Aside0.mk hokk
      have hok1 : Aside0 (¬ okk b1) := ⟨by rw [hokk]; have := Hb1.out; omega⟩
      have hok2 : Aside0 (∀ q, W.heap.size ≤ q → ¬ okk q) := ⟨fun q hq h => by rw [hokk] at h; have := HB1.out.size; omega⟩
      have HR' : Aside0 (Rounds W okk a rd) := ⟨by rw [hokk]; exact HR.out⟩
      have HPW := Aside0.mk HP.out
      clear hs HO HR hokk
      go_wp2
      go_loopg [0] rd.length (fun gk v wr => ∃ (a' : Option Addr) (rd' : List Val), v = .pointer a' ∧ rd'.length ≤ gk ∧ Aside0 (Rounds wr okk a' rd') ∧ Aside0 (upP s p rd' = o) ∧ Aside0 (∀ x, x ∈ rd' → x.fit) ∧ Aside0 (wr.heap[b1]? = some zObj) ∧ Aside0 (Below W.heap.size W wr))
      case atStart => exact ⟨a, rd, rfl, Nat.le_refl _, HR', HUP, HF, HK1, ⟨Below.refl _ _⟩⟩
      case round =>
        clear z0 z1 z2 z3 z4 f0 f1 f2 f3 f4 HR' HUP HF HK1
        obtain ⟨a', rd', rfl, hgk, HR, HUP, HF, HK1, HBW⟩ := hrel
        have K1 := HK1.out
        obtain ⟨z0, z1, z2, z3, z4, f0, f1, f2, f3, f4⟩ := cells_5 K1
        have hlt1 : b1 < wr.heap.size := blk_lt K1
        clear K1
        cases rd' with
        | nil =>
          have ha : a' = none := HR.out
          subst ha
          have ho' : Except.error 3 = o := HUP.out
          subst ho'
          go_wp2
          refine bodyPost_ret (results_ct rfl _ _ b1 43 #[.int .u8 0, .string ⟨#[]⟩, .int .i64 0, .slice none 0 0, .slice none 0 0] (0, 0) _ rfl (put5_blk HK1.out) Tryz.underlying43 rfl (by kernel_rfl)) rfl ?_
          exact ⟨put5_below (below_step HB1.out HBW.out) hle1, rfl⟩
        | cons x r =>
          obtain ⟨b, A3, c3, A4, c4, nx, rfl, hok, hb, hv, hr⟩ := HR.out
          have y0 : wr.cell? ⟨b, 0, none⟩ = some (.int .u8 x.k) := (blk_cell hb 0).trans rfl
          have y1 : wr.cell? ⟨b, 1, none⟩ = some (.string (bs x.t)) := (blk_cell hb 1).trans rfl
          have y2 : wr.cell? ⟨b, 2, none⟩ = some (.int .i64 x.n) := (blk_cell hb 2).trans rfl
          have y3 : wr.cell? ⟨b, 3, none⟩ = some (.slice A3 x.i.len c3) := (blk_cell hb 3).trans rfl
          have y4 : wr.cell? ⟨b, 4, none⟩ = some (.slice A4 x.m.length c4) := (blk_cell hb 4).trans rfl
          have hcs' := pw_cell_below HBW.out hcs
          have hfit := HF.out x List.mem_cons_self
          have hltb : b < wr.heap.size := blk_lt hb
          have HBB := Aside0.mk hb
          have HNR := Aside0.mk hr
          have HUP2 : Aside0 ((match FindP x [s] with | .ok y => FindP y p | .error _ => upP s p r) = o) := ⟨by rw [← HUP.out, upP_cons]⟩
          have hfd : ∀ (V : World) (n : Nat), Below wr.heap.size wr V → V.heap[n]? = some (litB s) → Calls Tryz.prog 89 #[vAgg x A3 c3 A4 c4, .slice (some ⟨n, 0, none⟩) 1 1] V (FindRet (FindP x [s]) okk V) := fun V n hbv hl => vfind_any x A3 c3 A4 c4 (some ⟨n, 0, none⟩) 1 [s] _ V hfit.1 (hv.below hbv) hfit.2 (lit_at hl) (by simp)
          have BA : Aside0 ((wr.alloc (litB s)).drew.heap[wr.heap.size]? = some (litB s)) := ⟨blk_new wr (litB s)⟩
          have BB : Aside0 (((wr.alloc (litB s)).alloc zBox).drew.heap[wr.heap.size]? = some (litB s)) := ⟨blk_alloc (w := wr.alloc (litB s)) (blk_new wr (litB s)) zBox⟩
          have BC : Aside0 (((wr.alloc zBox).alloc (litB s)).drew.heap[wr.heap.size + 1]? = some (litB s)) := ⟨by have := blk_new (wr.alloc zBox) (litB s); rwa [World.size_alloc] at this⟩
          have BZ1 : Aside0 (((wr.alloc (litB s)).alloc zBox).drew.heap[wr.heap.size + 1]? = some zObj) := ⟨by have := blk_new (wr.alloc (litB s)) zBox; rwa [World.size_alloc] at this⟩
          have BZ2 : Aside0 (((wr.alloc zBox).alloc (litB s)).drew.heap[wr.heap.size]? = some zObj) := ⟨blk_alloc (w := wr.alloc zBox) (blk_new wr zBox) (litB s)⟩
          have BVA : Aside0 (Below wr.heap.size wr (wr.alloc (litB s)).drew) := ⟨below_drew (below_alloc (Below.refl _ _) _)⟩
          have BVB : Aside0 (Below wr.heap.size wr ((wr.alloc (litB s)).alloc zBox).drew) := ⟨below_drew (below_alloc (below_alloc (Below.refl _ _) _) _)⟩
          have BVC : Aside0 (Below wr.heap.size wr ((wr.alloc zBox).alloc (litB s)).drew) := ⟨below_drew (below_alloc (below_alloc (Below.refl _ _) _) _)⟩
          have KP : Aside0 (∀ w' : World, Below wr.heap.size wr w' → w'.cell? ⟨b, 0, none⟩ = some (.int .u8 x.k) ∧ w'.cell? ⟨b, 1, none⟩ = some (.string (bs x.t)) ∧ w'.cell? ⟨b, 2, none⟩ = some (.int .i64 x.n) ∧ w'.cell? ⟨b, 3, none⟩ = some (.slice A3 x.i.len c3) ∧ w'.cell? ⟨b, 4, none⟩ = some (.slice A4 x.m.length c4) ∧ w'.cell? ⟨bp, op, none⟩ = some (.string (bs s))) := ⟨fun w' h => ⟨pw_cell_below h y0, pw_cell_below h y1, pw_cell_below h y2, pw_cell_below h y3, pw_cell_below h y4, pw_cell_below h hcs'⟩⟩
          have HVF := Aside0.mk hv
          clear hv hr hb hfit hok
          go_upto_region 9 with (fail)
          try rw [hn0]
          go_cut [6, 7] (fun s6 s7 wx => UpMid (FindP x [s]) okk wr s6 s7 wx)
          case first =>
            go_region_held3 (fun w' => w'.cell? ⟨b, 0, none⟩ = some (.int .u8 x.k) ∧ w'.cell? ⟨b, 1, none⟩ = some (.string (bs x.t)) ∧ w'.cell? ⟨b, 2, none⟩ = some (.int .i64 x.n) ∧ w'.cell? ⟨b, 3, none⟩ = some (.slice A3 x.i.len c3) ∧ w'.cell? ⟨b, 4, none⟩ = some (.slice A4 x.m.length c4) ∧ w'.cell? ⟨bp, op, none⟩ = some (.string (bs s)))
              (first
                | with_reducible exact KP.out _ (put5_below hbd (Nat.le_refl _))
                | with_reducible exact KP.out _ (put5_below hbd (Nat.le_succ _))
                | with_reducible exact KP.out _ (by repeat first | exact hbd | exact Below.refl _ _ | refine below_drew ?_ | refine below_alloc ?_ _))
              (first
                | (go_at_call 89; with_reducible refine (hfd (wr.alloc (litB s)).drew wr.heap.size BVA.out BA.out).mono ?_; rintro e w2 hret; obtain ⟨hb2, x2, k2, E3, f3', E4, f4', rfl, hrs⟩ := hret.uni; have hbd := below_step BVA.out hb2)
                | (go_at_call 89; with_reducible refine (hfd ((wr.alloc (litB s)).alloc zBox).drew wr.heap.size BVB.out BB.out).mono ?_; rintro e w2 hret; obtain ⟨hb2, x2, k2, E3, f3', E4, f4', rfl, hrs⟩ := hret.uni; have hbd := below_step BVB.out hb2; obtain ⟨q0, q1, q2, q3, q4, r0, r1, r2, r3, r4⟩ := cells_5 (blk_below BZ1.out hb2))
                | (go_at_call 89; with_reducible refine (hfd ((wr.alloc zBox).alloc (litB s)).drew (wr.heap.size + 1) BVC.out BC.out).mono ?_; rintro e w2 hret; obtain ⟨hb2, x2, k2, E3, f3', E4, f4', rfl, hrs⟩ := hret.uni; have hbd := below_step BVC.out hb2; obtain ⟨q0, q1, q2, q3, q4, r0, r1, r2, r3, r4⟩ := cells_5 (blk_below BZ2.out hb2)))
            all_goals
              (go_wp2_with fail)
              go_meet
              first
                | with_reducible exact up_new BVA.out hb2 hrs
                | with_reducible exact up_old BVB.out hb2 hrs BZ1.out (Nat.le_succ _) (hok2.out _ (by have := HBW.out.size; omega))
                | with_reducible exact up_old BVC.out hb2 hrs BZ2.out (Nat.le_refl _) (hok2.out _ (by have := HBW.out.size; omega))
                | skip
          case rest =>
            clear z0 z1 z2 z3 z4 f0 f1 f2 f3 f4 y0 y1 y2 y3 y4 hfd BA BB BC BZ1 BZ2 BVA BVB BVC
            obtain ⟨bx, x6, k6, E3, f3', E4, f4', rfl, rfl, hbx, hres, hBx⟩ := hcut
            rename World => wx
            have K1 := blk_below HK1.out hBx
            obtain ⟨z0, z1, z2, z3, z4, f0, f1, f2, f3, f4⟩ := cells_5 K1
            have HK1' := Aside0.mk K1
            have HBx := Aside0.mk hBx
            have hltx : b1 < wx.heap.size := blk_lt K1
            obtain ⟨x0, x1, x2, x3, x4, q0, q1, q2, q3, q4⟩ := cells_5 hbx
            clear K1 HK1 KP hbx q0 q1 q2 q3 q4
            cases hF : FindP x [s] with
            | ok y =>
              rw [hF] at hres HUP2
              obtain ⟨hv6, rfl, rfl⟩ := hres
              have HUP3 : Aside0 (FindP x6 p = o) := ⟨HUP2.out⟩
              have hft := fit_of (FindP_ok (HF.out x List.mem_cons_self).1 hF)
              have hfd := fun V (hbv : Below wx.heap.size wx V) => vfind_any x6 E3 f3' E4 f4' X (cp - 1) p _ V hft.1 (hv6.below hbv) hft.2 (RdS.below HT.out (below_step HBW.out (below_step HBx.out hbv))) hpp
              clear hv6 HUP2 hft hF
              go_upto_region 11 with (fail)
              go_region_with (go_at_call 89; refine (hfd _ ?_).mono ?_; exact (below_drew (Below.refl _ _)); rintro e w2 hret; obtain ⟨hb2, x7, k7, E5, f5, E6, f6, rfl, hrs⟩ := hret.uni; have K2 := blk_below HK1'.out (below_step (below_drew (Below.refl _ _)) hb2); obtain ⟨z0, z1, z2, z3, z4, f0, f1, f2, f3, f4⟩ := cells_5 K2; have hlt2 : b1 < w2.heap.size := blk_lt K2)
              all_goals
                go_wp2
                refine bodyPost_ret (results_ct rfl _ _ b1 43 #[.int .u8 x7.k, .string (bs x7.t), .int .i64 x7.n, .slice E5 x7.i.len f5, .slice E6 x7.m.length f6] (0, 0) _ rfl (put5_blk K2) Tryz.underlying43 rfl (by kernel_rfl)) rfl ?_
                refine ResV.ret (ok := fun q => (okk q ∨ wr.heap.size ≤ q) ∨ wx.drew.heap.size ≤ q) (ResV.step (HUP3.out ▸ hrs) (fun q hq _ => put5_far (fun e => ?_))) (put5_below (below_step HB1.out (below_step HBW.out (below_step HBx.out (below_step (below_drew (Below.refl _ _)) hb2)))) hle1) (fun q hq => ?_)
                · rw [World.size_drew] at hq
                  subst e
                  rcases hq with (hq | hq) | hq
                  · exact hok1.out hq
                  · omega
                  · omega
                · rw [World.size_drew] at hq
                  have h1 := HB1.out.size; have h2 := HBW.out.size; have h3 := HBx.out.size
                  rcases hq with (hq | hq) | hq
                  · rw [HOK.out] at hq; exact .inl hq.1
                  · exact .inr (by omega)
                  · exact .inr (by omega)
            | error j =>
              rw [hF] at hres HUP2
              obtain ⟨-, rfl, -⟩ := hres
              have HUP3 : Aside0 (upP s p r = o) := ⟨HUP2.out⟩
              have hk6 : (k6 == 0) = false := by rw [beq_eq_false_iff_ne]; rcases FindP_err hF with h | h <;> omega
              have w5 : wx.cell? ⟨b, 5, none⟩ = some (.pointer nx) := pw_cell_below HBx.out ((blk_cell HBB.out 5).trans rfl)
              clear HUP2 hF
              go_wp2
              go_roundg r.length
              case measure => simp only [List.length_cons] at hgk; omega
              case rel => exact ⟨nx, r, rfl, Nat.le_refl _, ⟨HNR.out.below HBx.out⟩, HUP3, ⟨fun z hz => HF.out z (List.mem_cons_of_mem _ hz)⟩, HK1', ⟨below_step HBW.out HBx.out⟩⟩
end Go.Proofs.YtniibpndgcndbaaGreatDoor.Tpl
