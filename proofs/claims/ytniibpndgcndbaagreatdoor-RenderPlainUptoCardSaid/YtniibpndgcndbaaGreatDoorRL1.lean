/- Part 1 of the proof (texts of this claim, merged in build order; what the claim does not need has been left out). -/
import Derived.Test.YtniibpndgcndbaaGreatDoorRL0
import Derived.BigQuiet
import Derived.Deep.QuietTactic
import Derived.Deep.RegionWith
import Derived.Ground.Names2Prog
import Derived.Ground.SlgfProg
import Derived.Ground.SlgnProg
import Derived.IntWalk
import Derived.LaidEql
import Derived.Laws.BitsAllLaws
import Derived.Lib.IndexBytes
import Derived.Lib.Split
import Derived.LoopIn
import Derived.LoopNIn
import Derived.OwnWalkIn
import Derived.RangeFuncBound
import Derived.RangeFuncBox
import Derived.RangeFuncCalls
import Derived.RangeFuncLeaves
import Derived.RangeFuncNested
import Derived.RowKitTokens
import Derived.Shelf.Abstract
import Derived.Shelf.LaysM
import Derived.Shelf.RegionOpen
import Derived.Shelf.Slices.Cells
import Derived.Shelf.Slices.Clone
import Derived.Shelf.Slices.CompactS
import Derived.Shelf.Slices.In.SortNone
import Derived.Shelf.Slices.Turned
import Derived.Shelf.SlicesE.Clone
import Derived.Shelf.SlicesE.Compact
import Derived.Shelf.SlicesE.DeleteFunc
import Derived.Shelf.SlicesE.Index
import Derived.Shelf.SlicesE.IndexFunc
import Derived.Shelf.Small.Bits
import Derived.Shelf.Sort.Plain
import Derived.Shelf.Strconv.Itoa0
import Derived.Shelf.Strconv.Itoa1
import Derived.Shelf.Strconv.Itoa2
import Derived.Shelf.Strconv.Itoa3
import Derived.Shelf.Strconv.Itoa4
import Derived.Shelf.Strings.Builder1
import Derived.Shelf.Strings.Builder2
import Derived.Shelf.Strings.Builder2Cap
import Derived.Shelf.Strings.BuilderCap
import Derived.Shelf.Strings.BuilderF
import Derived.Shelf.Strings.BuilderK
import Derived.Shelf.Strings.Count
import Derived.Shelf.Strings.Cut
import Derived.Shelf.Strings.Explode
import Derived.Shelf.Strings.OnBuilder
import Derived.Shelf.Strings.Prefix
import Derived.Shelf.Strings.RuneCount
import Derived.Shelf.Strings.Search1
import Derived.Shelf.Strings.Search2
import Derived.Shelf.Strings.Search3
import Derived.Shelf.Strings.Shaped
import Derived.Shelf.Strings.Split
import Derived.Shelf.Strings.SplitShaped
import Derived.Shelf.Unicode.Decode
import Derived.Shelf.Unicode.DecodeAny
import Derived.Shelf.Unicode.DecodeSlow
import Derived.Sort.Walk0
import Derived.Stop.Asserts
import Derived.TacticsInMore
import Derived.Test.YtniibpndgcndbaaGreatDoorProg
import Derived.WalkKit
import Derived.WalkLawsBesides
set_option linter.unusedVariables false
set_option linter.unusedSimpArgs false
namespace Go.Proofs
open Go.Shelf
def Tryz.lays169_ren : Go.Shelf.Ren := ⟨fun | 169 => 57 | n => n, fun | 70 => 75 | 9 => 9 | 0 => 0 | 72 => 78 | 37 => 76 | 127 => 125 | 3 => 3 | 5 => 5 | n => n, fun | n => n⟩
theorem Tryz.lays169 : Go.Proofs.Lays.n169 Tryz.prog Tryz.lays169_ren := {
  mixed := by kernel_rfl
  f169 := Tryz.func57.trans (congrArg some (by kernel_rfl))
  t0 := Tryz.underlying0
  a0 := Tryz.isAgg0
  z0 := Tryz.sizeOf0
  v0 := Tryz.zeroValue0
  t3 := Tryz.underlying3
  a3 := Tryz.isAgg3
  z3 := Tryz.sizeOf3
  v3 := Tryz.zeroValue3
  t9 := Tryz.underlying9
  a9 := Tryz.isAgg9
  z9 := Tryz.sizeOf9
  v9 := Tryz.zeroValue9
  t37 := Tryz.underlying76
  a37 := Tryz.isAgg76
  z37 := Tryz.sizeOf76
  v37 := Tryz.zeroValue76
  t70 := Tryz.underlying75
  a70 := Tryz.isAgg75
  z70 := Tryz.sizeOf75
  v70 := Tryz.zeroValue75
  t72 := Tryz.underlying78
  a72 := Tryz.isAgg78
  z72 := Tryz.sizeOf78
  v72 := Tryz.zeroValue78
  t127 := Tryz.underlying125
  a127 := Tryz.isAgg125
  z127 := Tryz.sizeOf125
  v127 := Tryz.zeroValue125 }
theorem Tryz.Builder_Extra_169 : Builder.Extra Tryz.prog Tryz.lays169_ren := {
  sizeBuilder := by kernel_rfl
  liesBuilder := by kernel_rfl
  t5 := Tryz.underlying5
  a5 := Tryz.isAgg5
  z5 := Tryz.sizeOf5
  v5 := Tryz.zeroValue5
  infoByte := by kernel_rfl
  cellsByte := by kernel_rfl
  sizeByte := by kernel_rfl
  neB5 := by decide }
def Tryz.lays156_ren : Go.Shelf.Ren := ⟨fun | 156 => 67 | 165 => 97 | 166 => 98 | 169 => 57 | 240 => 145 | 241 => 146 | 276 => 177 | 277 => 178 | n => n, fun | 31 => 23 | 9 => 9 | 3 => 3 | 4 => 4 | 0 => 0 | 20 => 20 | 72 => 78 | 76 => 144 | 70 => 75 | 37 => 76 | 75 => 83 | 127 => 125 | 164 => 162 | 5 => 5 | 80 => 88 | n => n, fun | n => n⟩
theorem Tryz.lays156 : Go.Proofs.Lays.n156 Tryz.prog Tryz.lays156_ren := {
  mixed := by kernel_rfl
  f156 := Tryz.func67.trans (congrArg some (by kernel_rfl))
  f165 := Tryz.func97.trans (congrArg some (by kernel_rfl))
  f166 := Tryz.func98.trans (congrArg some (by kernel_rfl))
  f169 := Tryz.func57.trans (congrArg some (by kernel_rfl))
  f240 := Tryz.func145.trans (congrArg some (by kernel_rfl))
  f241 := Tryz.func146.trans (congrArg some (by kernel_rfl))
  f276 := Tryz.func177.trans (congrArg some (by kernel_rfl))
  f277 := Tryz.func178.trans (congrArg some (by kernel_rfl))
  t0 := Tryz.underlying0
  a0 := Tryz.isAgg0
  z0 := Tryz.sizeOf0
  v0 := Tryz.zeroValue0
  t3 := Tryz.underlying3
  a3 := Tryz.isAgg3
  z3 := Tryz.sizeOf3
  v3 := Tryz.zeroValue3
  t4 := Tryz.underlying4
  a4 := Tryz.isAgg4
  z4 := Tryz.sizeOf4
  v4 := Tryz.zeroValue4
  t9 := Tryz.underlying9
  a9 := Tryz.isAgg9
  z9 := Tryz.sizeOf9
  v9 := Tryz.zeroValue9
  t20 := Tryz.underlying20
  a20 := Tryz.isAgg20
  z20 := Tryz.sizeOf20
  v20 := Tryz.zeroValue20
  t31 := Tryz.underlying23
  a31 := Tryz.isAgg23
  z31 := Tryz.sizeOf23
  v31 := Tryz.zeroValue23
  t37 := Tryz.underlying76
  a37 := Tryz.isAgg76
  z37 := Tryz.sizeOf76
  v37 := Tryz.zeroValue76
  t70 := Tryz.underlying75
  a70 := Tryz.isAgg75
  z70 := Tryz.sizeOf75
  v70 := Tryz.zeroValue75
  t72 := Tryz.underlying78
  a72 := Tryz.isAgg78
  z72 := Tryz.sizeOf78
  v72 := Tryz.zeroValue78
  t75 := Tryz.underlying83
  a75 := Tryz.isAgg83
  z75 := Tryz.sizeOf83
  v75 := Tryz.zeroValue83
  t76 := Tryz.underlying144
  a76 := Tryz.isAgg144
  z76 := Tryz.sizeOf144
  v76 := Tryz.zeroValue144
  t127 := Tryz.underlying125
  a127 := Tryz.isAgg125
  z127 := Tryz.sizeOf125
  v127 := Tryz.zeroValue125
  t164 := Tryz.underlying162
  a164 := Tryz.isAgg162
  z164 := Tryz.sizeOf162
  v164 := Tryz.zeroValue162 }
theorem Tryz.Builder_Extra_156 : Builder.Extra Tryz.prog Tryz.lays156_ren := {
  sizeBuilder := by kernel_rfl
  liesBuilder := by kernel_rfl
  t5 := Tryz.underlying5
  a5 := Tryz.isAgg5
  z5 := Tryz.sizeOf5
  v5 := Tryz.zeroValue5
  infoByte := by kernel_rfl
  cellsByte := by kernel_rfl
  sizeByte := by kernel_rfl
  neB5 := by decide }
open Go.RowKit in
/-- strings.Join: "Join concatenates the elements of its first argument to create a single string. The separator string sep is placed between elements in the resulting string.": HOWEVER MANY ELEMENTS. Below the heap's end the world is as it was. (LAID: no walk: one application.) -/
theorem Tryz.strings_Join (bk o c : Nat) (xs : List ByteArray) (sep : ByteArray) (w : World) (hcells : ∀ (j : Nat) x, xs[j]? = some x → w.cell? ⟨bk, o + j, none⟩ = some (.string x)) (hbk : bk < w.heap.size) (hN : xs.length ≤ 140737488355328) (hcap : xs.length ≤ c) (hlen : (Lib.join (xs.map (·.data.toList)) sep.data.toList).length ≤ 140737488355328) :
    Calls Tryz.prog 67 #[.slice (some ⟨bk, o, none⟩) xs.length c, .string sep] w fun e w' => e = .returned (.string ⟨(Lib.join (xs.map (·.data.toList)) sep.data.toList).toArray⟩) ∧ Below w.heap.size w w' := Any.strings_Join Tryz.lays156 Tryz.Builder_Extra_156 bk o c xs sep w hcells hbk hN hcap hlen
open Go.RowKit in
/-- (*strings.Builder).String: "String returns the accumulated string.": WHATEVER THE BUILDER HOLDS; THE FORM '_f': OF A BUILDER THAT MAY HAVE BEEN READ BEFORE; AND IT IS A BUILDER STILL, holding the same bytes: it can be written on. (LAID: no walk: one application.) -/
theorem Tryz.Builder_String_any_f (B b : Nat) (l : List UInt8) (w : World) (h : Lib.IsBuilderF 78 5 B b (Lib.byteCells l) w) (hBw : B ≤ w.heap.size) :
    Calls Tryz.prog 57 #[.pointer (some ⟨b, 0, none⟩)] w fun e w' => e = .returned (.string ⟨l.toArray⟩) ∧ (Lib.IsBuilderF 78 5 B b (Lib.byteCells l) w' ∧ Below B w w') := Any.Builder_String_any_f Tryz.lays169 Tryz.Builder_Extra_169 B b l w h hBw
def Tryz.laysM246_ren : Go.Shelf.Ren := ⟨fun | 246 => 198 | 283 => 204 | 284 => 205 | 285 => 206 | 286 => 207 | 129 => 110 | 317 => 209 | 318 => 210 | 319 => 211 | 320 => 212 | 337 => 213 | 338 => 214 | n => n, fun | 2 => 2 | 3 => 3 | 9 => 9 | 4 => 4 | 171 => 252 | 0 => 0 | 53 => 158 | 37 => 76 | 5 => 5 | 173 => 254 | 212 => 257 | 51 => 156 | 20 => 20 | 213 => 258 | 46 => 111 | 232 => 264 | 233 => 265 | n => n, fun | 17 => 4 | 18 => 7 | 19 => 8 | n => n⟩
def Tryz.laysM173_ren : Go.Shelf.Ren := ⟨fun | 173 => 186 | 246 => 198 | 283 => 204 | 284 => 205 | 285 => 206 | 286 => 207 | 129 => 110 | 317 => 209 | 318 => 210 | 319 => 211 | 320 => 212 | 337 => 213 | 338 => 214 | n => n, fun | 2 => 2 | 3 => 3 | 9 => 9 | 4 => 4 | 171 => 252 | 0 => 0 | 53 => 158 | 37 => 76 | 5 => 5 | 173 => 254 | 212 => 257 | 51 => 156 | 20 => 20 | 213 => 258 | 46 => 111 | 232 => 264 | 233 => 265 | n => n, fun | 17 => 4 | 18 => 7 | 19 => 8 | n => n⟩
theorem Tryz.laysM173 : Go.Proofs.LaysM.n173 Tryz.prog Tryz.laysM173_ren := {
  mixed := by kernel_rfl
  f129 := Tryz.func110.trans (congrArg some (by kernel_rfl))
  f173 := Tryz.func186.trans (congrArg some (by kernel_rfl))
  f246 := Tryz.func198.trans (congrArg some (by kernel_rfl))
  f283 := Tryz.func204.trans (congrArg some (by kernel_rfl))
  f284 := Tryz.func205.trans (congrArg some (by kernel_rfl))
  f285 := Tryz.func206.trans (congrArg some (by kernel_rfl))
  f286 := Tryz.func207.trans (congrArg some (by kernel_rfl))
  f317 := Tryz.func209.trans (congrArg some (by kernel_rfl))
  f318 := Tryz.func210.trans (congrArg some (by kernel_rfl))
  f319 := Tryz.func211.trans (congrArg some (by kernel_rfl))
  f320 := Tryz.func212.trans (congrArg some (by kernel_rfl))
  f337 := Tryz.func213.trans (congrArg some (by kernel_rfl))
  f338 := Tryz.func214.trans (congrArg some (by kernel_rfl))
  t0 := Tryz.underlying0
  a0 := Tryz.isAgg0
  z0 := Tryz.sizeOf0
  v0 := Tryz.zeroValue0
  t2 := Tryz.underlying2
  a2 := Tryz.isAgg2
  z2 := Tryz.sizeOf2
  v2 := Tryz.zeroValue2
  t3 := Tryz.underlying3
  a3 := Tryz.isAgg3
  z3 := Tryz.sizeOf3
  v3 := Tryz.zeroValue3
  t4 := Tryz.underlying4
  a4 := Tryz.isAgg4
  z4 := Tryz.sizeOf4
  v4 := Tryz.zeroValue4
  t5 := Tryz.underlying5
  a5 := Tryz.isAgg5
  z5 := Tryz.sizeOf5
  v5 := Tryz.zeroValue5
  t9 := Tryz.underlying9
  a9 := Tryz.isAgg9
  z9 := Tryz.sizeOf9
  v9 := Tryz.zeroValue9
  t20 := Tryz.underlying20
  a20 := Tryz.isAgg20
  z20 := Tryz.sizeOf20
  v20 := Tryz.zeroValue20
  t37 := Tryz.underlying76
  a37 := Tryz.isAgg76
  z37 := Tryz.sizeOf76
  v37 := Tryz.zeroValue76
  t46 := Tryz.underlying111
  a46 := Tryz.isAgg111
  z46 := Tryz.sizeOf111
  v46 := Tryz.zeroValue111
  t51 := Tryz.underlying156
  a51 := Tryz.isAgg156
  z51 := Tryz.sizeOf156
  v51 := Tryz.zeroValue156
  t53 := Tryz.underlying158
  a53 := Tryz.isAgg158
  z53 := Tryz.sizeOf158
  v53 := Tryz.zeroValue158
  t171 := Tryz.underlying252
  a171 := Tryz.isAgg252
  z171 := Tryz.sizeOf252
  v171 := Tryz.zeroValue252
  t173 := Tryz.underlying254
  a173 := Tryz.isAgg254
  z173 := Tryz.sizeOf254
  v173 := Tryz.zeroValue254
  t212 := Tryz.underlying257
  a212 := Tryz.isAgg257
  z212 := Tryz.sizeOf257
  v212 := Tryz.zeroValue257
  t213 := Tryz.underlying258
  a213 := Tryz.isAgg258
  z213 := Tryz.sizeOf258
  t232 := Tryz.underlying264
  a232 := Tryz.isAgg264
  z232 := Tryz.sizeOf264
  v232 := Tryz.zeroValue264
  t233 := Tryz.underlying265
  a233 := Tryz.isAgg265
  z233 := Tryz.sizeOf265
  v233 := Tryz.zeroValue265
  g17 := by kernel_rfl
  g18 := by kernel_rfl
  g19 := by kernel_rfl
  i0 := by kernel_rfl
  i2 := by kernel_rfl
  i3 := by kernel_rfl
  i4 := by kernel_rfl
  i5 := by kernel_rfl
  i9 := by kernel_rfl
  i20 := by kernel_rfl
  i37 := by kernel_rfl
  i46 := by kernel_rfl
  i51 := by kernel_rfl
  i53 := by kernel_rfl
  i171 := by kernel_rfl
  i173 := by kernel_rfl
  i212 := by kernel_rfl
  i232 := by kernel_rfl
  i233 := by kernel_rfl
  m17 := by kernel_rfl
  m18 := by kernel_rfl
  m19 := by kernel_rfl }
open Go.RowKit Go.Sort Go.Lib in
/-- strconv.FormatInt: "FormatInt returns the string representation of i in the given base": AT BASE 10: i's decimal numeral, for every int64. (LAID: no walk: one application.) -/
theorem Tryz.strconv_FormatInt_10 (n : Int) (h0 : -9223372036854775808 ≤ n) (h1 : n ≤ 9223372036854775807) (w : World) (htab : Lib.TabIs Tryz.prog w "internal/strconv.uint64pow10" .u64 Lib.pow10Tab) :
    Calls Tryz.prog 186 #[.int .i64 n, .int .i64 10] w fun e w' => e = .returned (.string ⟨(Lib.itoa n).toArray⟩) ∧ ∃ k os, w' = grow (w.drewN k) os := Any.strconv_FormatInt_10 Tryz.laysM173 n h0 h1 w htab
def Tryz.lays219_ren : Go.Shelf.Ren := ⟨fun | 219 => 171 | 217 => 190 | 225 => 191 | 224 => 192 | 267 => 193 | 266 => 199 | 314 => 200 | n => n, fun | 9 => 9 | 3 => 3 | 4 => 4 | 5 => 5 | 46 => 111 | 146 => 246 | 51 => 156 | n => n, fun | 1 => 3 | n => n⟩
def Tryz.lays144_ren : Go.Shelf.Ren := ⟨fun | 144 => 168 | 143 => 187 | 219 => 171 | 217 => 190 | 225 => 191 | 224 => 192 | 267 => 193 | 266 => 199 | 314 => 200 | n => n, fun | 9 => 9 | 4 => 4 | 3 => 3 | 5 => 5 | 46 => 111 | 146 => 246 | 51 => 156 | n => n, fun | 1 => 3 | n => n⟩
theorem Tryz.lays144 : Go.Proofs.Lays.n144 Tryz.prog Tryz.lays144_ren := {
  mixed := by kernel_rfl
  f143 := Tryz.func187.trans (congrArg some (by kernel_rfl))
  f144 := Tryz.func168.trans (congrArg some (by kernel_rfl))
  f217 := Tryz.func190.trans (congrArg some (by kernel_rfl))
  f219 := Tryz.func171.trans (congrArg some (by kernel_rfl))
  f224 := Tryz.func192.trans (congrArg some (by kernel_rfl))
  f225 := Tryz.func191.trans (congrArg some (by kernel_rfl))
  f266 := Tryz.func199.trans (congrArg some (by kernel_rfl))
  f267 := Tryz.func193.trans (congrArg some (by kernel_rfl))
  f314 := Tryz.func200.trans (congrArg some (by kernel_rfl))
  t3 := Tryz.underlying3
  a3 := Tryz.isAgg3
  z3 := Tryz.sizeOf3
  v3 := Tryz.zeroValue3
  t4 := Tryz.underlying4
  a4 := Tryz.isAgg4
  z4 := Tryz.sizeOf4
  v4 := Tryz.zeroValue4
  t5 := Tryz.underlying5
  a5 := Tryz.isAgg5
  z5 := Tryz.sizeOf5
  v5 := Tryz.zeroValue5
  t9 := Tryz.underlying9
  a9 := Tryz.isAgg9
  z9 := Tryz.sizeOf9
  v9 := Tryz.zeroValue9
  t46 := Tryz.underlying111
  a46 := Tryz.isAgg111
  z46 := Tryz.sizeOf111
  v46 := Tryz.zeroValue111
  t51 := Tryz.underlying156
  a51 := Tryz.isAgg156
  z51 := Tryz.sizeOf156
  v51 := Tryz.zeroValue156
  t146 := Tryz.underlying246
  a146 := Tryz.isAgg246
  z146 := Tryz.sizeOf246
  v146 := Tryz.zeroValue246
  g1 := by kernel_rfl }
open Go.RowKit Go.Lib in
/-- strings.Contains: "Contains reports whether substr is within s.": IT RETURNS 'Lib.contains s substr'; the world is as it was. (LAID: no walk: one application.) -/
theorem Tryz.strings_Contains (s sub : ByteArray) (m : Int) (w : World) (hs : s.size < 4294967281) (hm : w.cell? ⟨3, 0, none⟩ = some (.int .i64 m)) :
    Calls Tryz.prog 168 #[.string s, .string sub] w fun e w' => e = .returned (.bool (Lib.contains s.data.toList sub.data.toList)) ∧ w' = w := Any.strings_Contains Tryz.lays144 s sub m w hs hm
def Tryz.lays145_ren : Go.Shelf.Ren := ⟨fun | 145 => 94 | 220 => 138 | 219 => 171 | 217 => 190 | 225 => 191 | 224 => 192 | 267 => 193 | 266 => 199 | 314 => 200 | n => n, fun | 9 => 9 | 4 => 4 | 59 => 134 | 3 => 3 | 5 => 5 | 46 => 111 | 146 => 246 | 51 => 156 | n => n, fun | 1 => 3 | n => n⟩
theorem Tryz.lays145 : Go.Proofs.Lays.n145 Tryz.prog Tryz.lays145_ren := {
  mixed := by kernel_rfl
  f145 := Tryz.func94.trans (congrArg some (by kernel_rfl))
  f217 := Tryz.func190.trans (congrArg some (by kernel_rfl))
  f219 := Tryz.func171.trans (congrArg some (by kernel_rfl))
  f220 := Tryz.func138.trans (congrArg some (by kernel_rfl))
  f224 := Tryz.func192.trans (congrArg some (by kernel_rfl))
  f225 := Tryz.func191.trans (congrArg some (by kernel_rfl))
  f266 := Tryz.func199.trans (congrArg some (by kernel_rfl))
  f267 := Tryz.func193.trans (congrArg some (by kernel_rfl))
  f314 := Tryz.func200.trans (congrArg some (by kernel_rfl))
  t3 := Tryz.underlying3
  a3 := Tryz.isAgg3
  z3 := Tryz.sizeOf3
  v3 := Tryz.zeroValue3
  t4 := Tryz.underlying4
  a4 := Tryz.isAgg4
  z4 := Tryz.sizeOf4
  v4 := Tryz.zeroValue4
  t5 := Tryz.underlying5
  a5 := Tryz.isAgg5
  z5 := Tryz.sizeOf5
  v5 := Tryz.zeroValue5
  t9 := Tryz.underlying9
  a9 := Tryz.isAgg9
  z9 := Tryz.sizeOf9
  v9 := Tryz.zeroValue9
  t46 := Tryz.underlying111
  a46 := Tryz.isAgg111
  z46 := Tryz.sizeOf111
  v46 := Tryz.zeroValue111
  t51 := Tryz.underlying156
  a51 := Tryz.isAgg156
  z51 := Tryz.sizeOf156
  v51 := Tryz.zeroValue156
  t59 := Tryz.underlying134
  a59 := Tryz.isAgg134
  z59 := Tryz.sizeOf134
  v59 := Tryz.zeroValue134
  t146 := Tryz.underlying246
  a146 := Tryz.isAgg246
  z146 := Tryz.sizeOf246
  v146 := Tryz.zeroValue246
  g1 := by kernel_rfl }
open Go.RowKit Go.Lib in
/-- strings.Cut: "Cut slices s around the first instance of sep, returning the text before and after sep. The found result reports whether sep appears in s. If sep does not appear in s, cut returns s, "", false.": IT RETURNS 'Lib.cut s sep'; the world is as it was but for the count of draws. (LAID: no walk: one application.) -/
theorem Tryz.strings_Cut (s sep : ByteArray) (m : Int) (w : World) (hs : s.size < 4294967281) (hm : w.cell? ⟨3, 0, none⟩ = some (.int .i64 m)) :
    Calls Tryz.prog 94 #[.string s, .string sep] w fun e w' => e = .returned (.tuple #[.string ⟨(Lib.cut s.data.toList sep.data.toList).1.toArray⟩, .string ⟨(Lib.cut s.data.toList sep.data.toList).2.1.toArray⟩, .bool (Lib.cut s.data.toList sep.data.toList).2.2]) ∧ ∃ n, w' = w.drewN n := Any.strings_Cut Tryz.lays145 s sep m w hs hm
def Tryz.lays207_ren : Go.Shelf.Ren := ⟨fun | 207 => 188 | n => n, fun | 9 => 9 | 4 => 4 | 3 => 3 | n => n, fun | n => n⟩
def Tryz.lays100_ren : Go.Shelf.Ren := ⟨fun | 100 => 169 | 207 => 188 | n => n, fun | 9 => 9 | 4 => 4 | 3 => 3 | n => n, fun | n => n⟩
theorem Tryz.lays100 : Go.Proofs.Lays.n100 Tryz.prog Tryz.lays100_ren := {
  mixed := by kernel_rfl
  f100 := Tryz.func169.trans (congrArg some (by kernel_rfl))
  f207 := Tryz.func188.trans (congrArg some (by kernel_rfl))
  t3 := Tryz.underlying3
  a3 := Tryz.isAgg3
  z3 := Tryz.sizeOf3
  v3 := Tryz.zeroValue3
  t4 := Tryz.underlying4
  a4 := Tryz.isAgg4
  z4 := Tryz.sizeOf4
  v4 := Tryz.zeroValue4
  t9 := Tryz.underlying9
  a9 := Tryz.isAgg9
  z9 := Tryz.sizeOf9
  v9 := Tryz.zeroValue9 }
open Go.RowKit Go.Lib in
/-- strings.HasSuffix: "HasSuffix reports whether the string s ends with suffix.": IT RETURNS 'Lib.hasSuffix s suffix'; the world is as it was. ('hs': no Go string is longer: a caller has it of every string that it was handed.) (LAID: no walk: one application.) -/
theorem Tryz.strings_HasSuffix (s p : ByteArray) (w : World) (hs : s.size ≤ 9223372036854775807) :
    Calls Tryz.prog 169 #[.string s, .string p] w fun e w' => e = .returned (.bool (Lib.hasSuffix s.data.toList p.data.toList)) ∧ w' = w := Any.strings_HasSuffix Tryz.lays100 s p w hs
def Tryz.lays221_ren : Go.Shelf.Ren := ⟨fun | 221 => 172 | 268 => 194 | 138 => 195 | 143 => 187 | 195 => 201 | 197 => 202 | 218 => 203 | 219 => 171 | 260 => 208 | 217 => 190 | 225 => 191 | 224 => 192 | 267 => 193 | 266 => 199 | 314 => 200 | n => n, fun | 9 => 9 | 3 => 3 | 31 => 23 | 4 => 4 | 0 => 0 | 105 => 249 | 21 => 21 | 5 => 5 | 46 => 111 | 119 => 260 | 139 => 263 | 138 => 262 | 146 => 246 | 51 => 156 | n => n, fun | 1 => 3 | 3 => 5 | 4 => 6 | n => n⟩
def Tryz.lays146_ren : Go.Shelf.Ren := ⟨fun | 146 => 140 | 221 => 172 | 268 => 194 | 138 => 195 | 143 => 187 | 195 => 201 | 197 => 202 | 218 => 203 | 219 => 171 | 260 => 208 | 217 => 190 | 225 => 191 | 224 => 192 | 267 => 193 | 266 => 199 | 314 => 200 | n => n, fun | 9 => 9 | 31 => 23 | 3 => 3 | 4 => 4 | 0 => 0 | 105 => 249 | 21 => 21 | 5 => 5 | 46 => 111 | 119 => 260 | 139 => 263 | 138 => 262 | 146 => 246 | 51 => 156 | n => n, fun | 1 => 3 | 3 => 5 | 4 => 6 | n => n⟩
theorem Tryz.lays146 : Go.Proofs.Lays.n146 Tryz.prog Tryz.lays146_ren := {
  mixed := by kernel_rfl
  f138 := Tryz.func195.trans (congrArg some (by kernel_rfl))
  f143 := Tryz.func187.trans (congrArg some (by kernel_rfl))
  f146 := Tryz.func140.trans (congrArg some (by kernel_rfl))
  f195 := Tryz.func201.trans (congrArg some (by kernel_rfl))
  f197 := Tryz.func202.trans (congrArg some (by kernel_rfl))
  f217 := Tryz.func190.trans (congrArg some (by kernel_rfl))
  f218 := Tryz.func203.trans (congrArg some (by kernel_rfl))
  f219 := Tryz.func171.trans (congrArg some (by kernel_rfl))
  f221 := Tryz.func172.trans (congrArg some (by kernel_rfl))
  f224 := Tryz.func192.trans (congrArg some (by kernel_rfl))
  f225 := Tryz.func191.trans (congrArg some (by kernel_rfl))
  f260 := Tryz.func208.trans (congrArg some (by kernel_rfl))
  f266 := Tryz.func199.trans (congrArg some (by kernel_rfl))
  f267 := Tryz.func193.trans (congrArg some (by kernel_rfl))
  f268 := Tryz.func194.trans (congrArg some (by kernel_rfl))
  f314 := Tryz.func200.trans (congrArg some (by kernel_rfl))
  t0 := Tryz.underlying0
  a0 := Tryz.isAgg0
  z0 := Tryz.sizeOf0
  v0 := Tryz.zeroValue0
  t3 := Tryz.underlying3
  a3 := Tryz.isAgg3
  z3 := Tryz.sizeOf3
  v3 := Tryz.zeroValue3
  t4 := Tryz.underlying4
  a4 := Tryz.isAgg4
  z4 := Tryz.sizeOf4
  v4 := Tryz.zeroValue4
  t5 := Tryz.underlying5
  a5 := Tryz.isAgg5
  z5 := Tryz.sizeOf5
  v5 := Tryz.zeroValue5
  t9 := Tryz.underlying9
  a9 := Tryz.isAgg9
  z9 := Tryz.sizeOf9
  v9 := Tryz.zeroValue9
  t21 := Tryz.underlying21
  a21 := Tryz.isAgg21
  z21 := Tryz.sizeOf21
  v21 := Tryz.zeroValue21
  t31 := Tryz.underlying23
  a31 := Tryz.isAgg23
  z31 := Tryz.sizeOf23
  v31 := Tryz.zeroValue23
  t46 := Tryz.underlying111
  a46 := Tryz.isAgg111
  z46 := Tryz.sizeOf111
  v46 := Tryz.zeroValue111
  t51 := Tryz.underlying156
  a51 := Tryz.isAgg156
  z51 := Tryz.sizeOf156
  v51 := Tryz.zeroValue156
  t105 := Tryz.underlying249
  a105 := Tryz.isAgg249
  z105 := Tryz.sizeOf249
  v105 := Tryz.zeroValue249
  t119 := Tryz.underlying260
  a119 := Tryz.isAgg260
  z119 := Tryz.sizeOf260
  t138 := Tryz.underlying262
  a138 := Tryz.isAgg262
  z138 := Tryz.sizeOf262
  v138 := Tryz.zeroValue262
  t139 := Tryz.underlying263
  a139 := Tryz.isAgg263
  z139 := Tryz.sizeOf263
  v139 := Tryz.zeroValue263
  t146 := Tryz.underlying246
  a146 := Tryz.isAgg246
  z146 := Tryz.sizeOf246
  v146 := Tryz.zeroValue246
  g1 := by kernel_rfl
  g3 := by kernel_rfl
  g4 := by kernel_rfl }
open Go.RowKit Go.Lib in
/-- strings.Split. (LAID: no walk: one application.) -/
theorem Tryz.strings_Split (s sep : ByteArray) (m : Int) (w : World) (hs : s.size < 4294967281) (hm : w.cell? ⟨3, 0, none⟩ = some (.int .i64 m)) (h1 : 1 ≤ sep.size) :
    Calls Tryz.prog 140 #[.string s, .string sep] w fun e w' =>
      e = .returned (.slice (some ⟨w.heap.size, 0, none⟩) (Lib.countB s sep + 1) (Lib.countB s sep + 1)) ∧ w' = w.alloc (.cells ((Lib.splitB sep 0 (Lib.countB s sep) s).map Value.string).toArray 9) := Any.strings_Split Tryz.lays146 (by kernel_rfl) s sep m w hs hm h1
def Tryz.laysSlH8_f51_ren : Go.Shelf.Ren := ⟨fun | 8 => 51 | 6 => 77 | n => n, fun | 22 => 23 | 23 => 9 | 25 => 73 | 4 => 4 | 3 => 3 | 0 => 0 | n => n, fun | n => n⟩
theorem Tryz.laysSlH8_f51 : Go.Proofs.SlLaysH.n8 Tryz.prog Tryz.laysSlH8_f51_ren := {
  mixed := by kernel_rfl
  f6 := ⟨Tryz.f77.name, by decide, Tryz.func77.trans (congrArg some (by kernel_rfl))⟩
  f8 := ⟨Tryz.f51.name, by decide, Tryz.func51.trans (congrArg some (by kernel_rfl))⟩
  t0 := Tryz.underlying0
  a0 := Tryz.isAgg0
  z0 := Tryz.sizeOf0
  v0 := Tryz.zeroValue0
  t3 := Tryz.underlying3
  a3 := Tryz.isAgg3
  z3 := Tryz.sizeOf3
  v3 := Tryz.zeroValue3
  t4 := Tryz.underlying4
  a4 := Tryz.isAgg4
  z4 := Tryz.sizeOf4
  v4 := Tryz.zeroValue4
  t22 := Tryz.underlying23
  a22 := Tryz.isAgg23
  z22 := Tryz.sizeOf23
  v22 := Tryz.zeroValue23
  a23 := Tryz.isAgg9
  z23 := Tryz.sizeOf9
  t25 := Tryz.underlying73
  a25 := Tryz.isAgg73
  z25 := Tryz.sizeOf73
  v25 := Tryz.zeroValue73 }
open Go.RowKit Go.Lib in
/-- slices.ContainsFunc: "ContainsFunc reports whether at least one element e of s satisfies f(e).": ITS CALLEE slices.IndexFunc IS MET BY ITS OWN CONTRACT. (LAID AT THE INSTANCE 'slices.ContainsFunc[[]string,string]': no walk: one application.) -/
theorem Tryz.slices_ContainsFunc {α : Type} [Inhabited α] (enc : α → Value) (p : α → Bool) (g : Nat) (lb : Array Value) (eg : ∀ args w, (callFunc g args).run Tryz.prog w = .ok (.enter g args) w) (b off n c : Nat) (zs : List α) (w : World) (hp : PredAt Tryz.prog g lb enc p w) (hz : n ≤ zs.length) (hbig : n ≤ 9223372036854775807) (hc : ∀ j, j < zs.length → w.cell? ⟨b, off + j, none⟩ = some (enc zs[j]!)) :
    Calls Tryz.prog 51 #[.slice (some ⟨b, off, none⟩) n c, .func (.func g) #[] lb] w fun e w' => e = .returned (.bool ((zs.take n).any p)) ∧ ∃ q, w' = w.drewN q := AnyE.slices_ContainsFunc Tryz.laysSlH8_f51 enc p g lb eg b off n c zs w hp hz hbig hc
def Tryz.laysSlH10_f139_ren : Go.Shelf.Ren := ⟨fun | 10 => 139 | 6 => 77 | n => n, fun | 22 => 23 | 23 => 9 | 25 => 73 | 3 => 3 | 4 => 4 | 0 => 0 | n => n, fun | n => n⟩
theorem Tryz.laysSlH10_f139 : Go.Proofs.SlLaysH.n10 Tryz.prog Tryz.laysSlH10_f139_ren := {
  mixed := by kernel_rfl
  f6 := ⟨Tryz.f77.name, by decide, Tryz.func77.trans (congrArg some (by kernel_rfl))⟩
  f10 := ⟨Tryz.f139.name, by decide, Tryz.func139.trans (congrArg some (by kernel_rfl))⟩
  t0 := Tryz.underlying0
  a0 := Tryz.isAgg0
  z0 := Tryz.sizeOf0
  v0 := Tryz.zeroValue0
  t3 := Tryz.underlying3
  a3 := Tryz.isAgg3
  z3 := Tryz.sizeOf3
  v3 := Tryz.zeroValue3
  t4 := Tryz.underlying4
  a4 := Tryz.isAgg4
  z4 := Tryz.sizeOf4
  v4 := Tryz.zeroValue4
  t22 := Tryz.underlying23
  a22 := Tryz.isAgg23
  z22 := Tryz.sizeOf23
  v22 := Tryz.zeroValue23
  a23 := Tryz.isAgg9
  z23 := Tryz.sizeOf9
  t25 := Tryz.underlying73
  a25 := Tryz.isAgg73
  z25 := Tryz.sizeOf73
  v25 := Tryz.zeroValue73 }
open Go.RowKit Go.Lib Go.Sort in
theorem Tryz.slices_DeleteFunc {α : Type} [Inhabited α] (enc : α → Value) (hO : OneCell enc) (p : α → Bool) (g : Nat) (lb : Array Value) (eg : ∀ args w, (callFunc g args).run Tryz.prog w = .ok (.enter g args) w) (zr : α) (v23 : ∀ w, (zeroValue 9).run Tryz.prog w = .ok (enc zr) w) (blk off cap : Nat) (d : Array α) (w : World) (hp : PredAt Tryz.prog g lb enc p w) (hpo : PredOver Tryz.prog g lb enc p blk off d.size w) (hH : Holds enc w blk off d) (hsz : d.size ≤ 9223372036854775807) (hcap : d.size ≤ cap) :
    Calls Tryz.prog 139 #[.slice (some ⟨blk, off, none⟩) d.size cap, .func (.func g) #[] lb] w fun e w' => e = .returned (.slice (some ⟨blk, off, none⟩) (d.toList.filter fun x => !p x).length cap) ∧ ∃ q, w' = putRow enc (Sort.ahead w q) blk off ((d.toList.filter fun x => !p x) ++ List.replicate (d.size - (d.toList.filter fun x => !p x).length) zr).toArray := AnyE.slices_DeleteFunc Tryz.laysSlH10_f139 enc hO p g lb eg zr v23 blk off cap d w hp hpo hH hsz hcap
end Go.Proofs
namespace Go.Proofs.YtniibpndgcndbaaGreatDoor.Tpl
open Go.RowKit Go.Proofs.YtniibpndgcndbaaGreatDoor.PB Go.Proofs.YtniibpndgcndbaaGreatDoor.Short Go.Proofs.YtniibpndgcndbaaGreatDoorW.PrintWords Go.Proofs.YtniibpndgcndbaaGreatDoorW.PrintLast Go.Proofs.YtniibpndgcndbaaGreatDoorW.PrintMore Nodes
def Glob (w : World) : Prop := (∃ m, w.cell? ⟨3, 0, none⟩ = some (.int .i64 m)) ∧ ∃ a : Addr, w.cell? ⟨1, 0, none⟩ = some (.iface 266 (.pointer (some a)))
theorem Glob.below {w w' : World} (h : Glob w) (hb : Below w.heap.size w w') : Glob w' := by obtain ⟨⟨m, hm⟩, ⟨a, ha⟩⟩ := h; exact ⟨⟨m, pw_cell_below hb hm⟩, ⟨a, pw_cell_below hb ha⟩⟩
theorem globS {w X : World} (h : Glob w) [s : Stp w X] : Glob X := h.below s.out
theorem row_form {w : World} {A : Option Addr} {p : List ByteArray} (h : Kd.string.C w A p.length p) (hp : 0 < p.length) : ∃ b off, A = some ⟨b, off, none⟩ ∧ ∀ j, j < p.length → w.cell? ⟨b, off + j, none⟩ = some (.string (p.getD j ByteArray.empty)) := by
  obtain ⟨ad, e, hc⟩ := h.2.2 hp
  have cell : ∀ j (hj : j < p.length), w.cell? (ad.add j) = some (.string p[j]) := by
    intro j hj
    obtain ⟨cs, hl, hk, hcell⟩ := hc j _ (List.getElem?_eq_getElem hj)
    have hk' : cs = [.string p[j]] := hk
    subst hk'
    have h0 := hcell 0 _ rfl
    simpa [Kd.string, Kd.scalar] using h0
  have c0 := cell 0 hp
  have hs : ad.spot = none := by
    simp only [Addr.add, if_true] at c0
    unfold World.cell? at c0
    split at c0
    · cases hsp : ad.spot with
      | none => rfl
      | some _ => rw [hsp] at c0; simp at c0
    · cases c0
  obtain ⟨b, off, sp⟩ := ad
  simp only at hs
  subst hs
  refine ⟨b, off, e, fun j hj => ?_⟩
  have := cell j hj
  rw [List.getD_eq_getElem?_getD, List.getElem?_eq_getElem hj, Option.getD_some, ← this]
  unfold Addr.add
  split
  · rename_i h; subst h; rfl
  · rfl
theorem eg_right : ∀ args w, (callFunc 189 args).run Tryz.prog w = .ok (.enter 189 args) w := enters_of Tryz.func189 (by kernel_rfl) rfl
theorem not_name (s : S) (hs : s.length ≤ 1048576) (W : World) : FnGives Tryz.prog 189 #[] #[.string (bs s)] (.bool (!nameP s)) W := by
  obtain ⟨k, hk⟩ := name_f s hs
  unfold FnGives
  have c := value_Name.calls k (bs s) _ W hk
  cases h : nameP s
  all_goals
    rw [h] at c
    go_enter Tryz.func189, Tryz.ntmps189
    go_wp2_with fail
    refine c.mono ?_
    rintro e w1 ⟨rfl, ⟨q, rfl⟩⟩
    go_wp2
    go_ret
    exact ⟨rfl, q, rfl⟩
abbrev SmS := { s : S // s.length ≤ 1048576 }
instance : Inhabited SmS := ⟨⟨[], by decide⟩⟩
def smsv (x : SmS) : Value := .string (bs x.1)
theorem pred_right (w : World) : PredAt Tryz.prog 189 #[] smsv (fun x => !nameP x.1) w := fun W x _ => not_name x.1 x.2 W
def toSm (p : List S) (h : ∀ s, s ∈ p → s.length ≤ 1048576) : List SmS := p.pmap (fun s hs => ⟨s, hs⟩) h
theorem toSm_len (p : List S) (h) : (toSm p h).length = p.length := by simp [toSm]
theorem toSm_any (p : List S) (h) (f : S → Bool) : (toSm p h).any (fun x => f x.1) = p.any f := by
  unfold toSm
  induction p with
  | nil => rfl
  | cons s r ih => simp only [List.pmap_cons, List.any_cons]; rw [ih]
theorem toSm_get (p : List S) (h) (j : Nat) (hj : j < p.length) : smsv (toSm p h)[j]! = .string ((p.map bs).getD j ByteArray.empty) := by
  have : j < (toSm p h).length := by rw [toSm_len]; exact hj
  rw [getElem!_pos (toSm p h) j this]
  simp [smsv, toSm, List.getD, hj]
set_option maxHeartbeats 1000000 in
set_option maxRecDepth 100000 in
theorem right_any (A : Option Addr) (c : Nat) (p : List S) (w : World) (hC : Kd.string.C w A p.length (p.map bs)) (hp : p.length ≤ 1048576) (hs : ∀ s, s ∈ p → s.length ≤ 1048576) :
    Calls Tryz.prog 170 #[.slice A p.length c] w fun e w' => e = .returned (.bool (pathP p)) ∧ ∃ q, w' = w.drewN q := by
  by_cases c1 : p.length < 1
  · have e : pathP p = false := by unfold pathP; simp; intro h; omega
    rw [e]
    go_enter Tryz.func170, Tryz.ntmps170
    go_wp2_with fail
    go_ret
    exact ⟨rfl, 0, rfl⟩
  by_cases c2 : 4 < p.length
  · have e : pathP p = false := by unfold pathP; simp; intro h h2; omega
    rw [e]
    go_enter Tryz.func170, Tryz.ntmps170
    go_wp2_with fail
    go_ret
    exact ⟨rfl, 0, rfl⟩
  obtain ⟨b, off, rfl, hcell⟩ := row_form (by simpa using hC) (show 0 < (p.map bs).length by simp; omega)
  have hcell' : ∀ j, j < (toSm p hs).length → w.cell? ⟨b, off + j, none⟩ = some (smsv (toSm p hs)[j]!) := by
    intro j hj
    rw [toSm_len] at hj
    rw [toSm_get p hs j hj]
    exact hcell j (by simpa using hj)
  have hcon := Aside0.mk (fun q => Tryz.slices_ContainsFunc smsv (fun x => !nameP x.1) 189 #[] eg_right b off p.length c (toSm p hs) (w.drewN q) (pred_right _) (by rw [toSm_len]; exact Nat.le_refl _) (by omega) hcell')
  have hany : ((toSm p hs).take p.length).any (fun x => !nameP x.1) = !p.all nameP := by
    rw [List.take_of_length_le (by rw [toSm_len]; exact Nat.le_refl _), toSm_any p hs (fun s => !nameP s)]
    rw [← List.not_all_eq_any_not]
  have h0 : w.cell? ⟨b, off, none⟩ = some (.string (bs (p.getD 0 []))) := by
    have := hcell 0 (by simp; omega)
    rw [List.getD_eq_getElem?_getD, List.getElem?_map] at this
    rw [show off + 0 = off from rfl] at this
    rw [this]
    simp [List.getD, show 0 < p.length by omega]
  have hpp : pathP p = (!(p.length == 1 && special (p.getD 0 [])) && p.all nameP) := by
    unfold pathP; rw [decide_eq_true (show 1 ≤ p.length by omega), decide_eq_true (show p.length ≤ 4 by omega)]; rfl
  rw [hpp]
  clear hpp
  have hown := scan_own.calls 5 (bs (p.getD 0 [])) _ w (own_f _)
  have hsp := own_special (p.getD 0 [])
  rw [hsp]
  clear hsp
  generalize p.getD 0 [] = s0 at *
  generalize ownP s0 = o at *
  have hall : (!((!p.all nameP))) = p.all nameP := by simp
  by_cases c3 : p.length = 1
  · have e1 : (p.length == 1) = true := by simp [c3]
    rw [e1]
    clear e1
    have e1 : ((p.length : Int) == 1) = true := by simp [c3]
    by_cases co : o = 2
    · subst co
      rw [show (!(true && ((2 : Nat) != 2)) && p.all nameP) = p.all nameP from by simp]
      generalize p.all nameP = r at *
      go_enter Tryz.func170, Tryz.ntmps170
      go_wp2_with fail
      refine hown.mono ?_
      rintro e w1 ⟨rfl, ⟨q, rfl⟩⟩
      go_wp2_with fail
      have h1 := hcon.out q
      rw [c3] at h1 hany
      refine h1.mono ?_
      rintro e w2 ⟨rfl, ⟨q2, rfl⟩⟩
      rw [hany]
      go_wp2
      go_ret
      exact ⟨by first | rfl | simp, q + q2, rfl⟩
    · have e2 : ((o : Int) != 2) = true := by rw [bne_iff_ne]; omega
      have e3 : (o != 2) = true := by rw [bne_iff_ne]; omega
      rw [e3]
      go_enter Tryz.func170, Tryz.ntmps170
      go_wp2_with fail
      refine hown.mono ?_
      rintro e w1 ⟨rfl, ⟨q, rfl⟩⟩
      go_wp2_with fail
      go_ret
      exact ⟨by simp, q, rfl⟩
  · have e1 : (p.length == 1) = false := by simp [c3]
    rw [e1]
    clear e1
    have e1 : ((p.length : Int) == 1) = false := by rw [beq_eq_false_iff_ne]; omega
    rw [show (!(false && (o != 2)) && p.all nameP) = p.all nameP from by simp]
    generalize p.all nameP = r at *
    go_enter Tryz.func170, Tryz.ntmps170
    go_wp2_with fail
    refine (hcon.out 0).mono ?_
    rintro e w2 ⟨rfl, ⟨q2, rfl⟩⟩
    rw [hany]
    go_wp2
    go_ret
    exact ⟨by first | rfl | simp, q2, rfl⟩
theorem hasOpen_any (s : S) (hs : s.length ≤ 1048576) (w : World) (hG : Glob w) : Calls Tryz.prog 168 #[.string (bs s), .string ⟨#[123, 123]⟩] w fun e w' => e = .returned (.bool (hasOpen s)) ∧ w' = w := by
  obtain ⟨⟨m, hm⟩, _⟩ := hG
  exact Tryz.strings_Contains (bs s) ⟨#[123, 123]⟩ m w (by rw [bs_size]; omega) hm
def endsB (s : S) : Bool := s.getLast? == some 123
theorem suffix1 (s : S) : Lib.hasSuffix s [123] = endsB s := by
  unfold Lib.hasSuffix endsB
  rcases List.eq_nil_or_concat s with rfl | ⟨l, x, rfl⟩
  · rfl
  · simp [List.isSuffixOf]
    first | rfl | (rw [Bool.eq_iff_iff]; simp; exact eq_comm)
theorem suffix_any (s : S) (hs : s.length ≤ 1048576) (w : World) : Calls Tryz.prog 169 #[.string (bs s), .string ⟨#[123]⟩] w fun e w' => e = .returned (.bool (endsB s)) ∧ w' = w := by
  rw [← suffix1]
  exact Tryz.strings_HasSuffix (bs s) ⟨#[123]⟩ w (by rw [bs_size]; omega)
set_option maxHeartbeats 1000000 in
set_option maxRecDepth 100000 in
theorem fine_any (A : Option Addr) (c : Nat) (x : Tok) (next txt : Bool) (w : World) (hG : Glob w) (hk : x.k < 256) (ht : x.t.length ≤ 1048576) (hC : Kd.string.C w A x.p.length (x.p.map bs)) (hp : x.p.length ≤ 1048576) (hs : ∀ s, s ∈ x.p → s.length ≤ 1048576) :
    Calls Tryz.prog 137 #[.agg #[.int .u8 x.k, .string (bs x.t), .slice A x.p.length c], .bool next, .bool txt] w fun e w' => e = .returned (.bool (fineP x next txt)) ∧ Below w.heap.size w w' := by
  obtain ⟨k, t, p⟩ := x
  simp only at *
  unfold fineP
  simp only
  by_cases k1 : k = 1
  · subst k1
    rw [if_pos rfl]
    have HG := Aside0.mk hG
    have HS := Aside0.mk hs
    clear hG hC hs
    have hopen := fun W (hW : Glob W) => hasOpen_any t ht W hW
    have hsuf := fun W => suffix_any t ht W
    generalize hasOpen t = o at *
    rw [show (t.getLast? == some 123) = endsB t from rfl]
    generalize endsB t = z at *
    have e0 : (bs t).toList.isEmpty = t.isEmpty := by rw [bs_list]
    generalize t.isEmpty = y at *
    have e1 : ((p.length : Int) == 0) = (p.length == 0) := by rw [Bool.eq_iff_iff]; simp
    generalize (p.length == 0) = n at *
    have hy : y = true ∨ y = false ∧ n = false ∨ y = false ∧ n = true ∧ o = true ∨ y = false ∧ n = true ∧ o = false ∧ txt = true ∨ y = false ∧ n = true ∧ o = false ∧ txt = false ∧ next = false ∨ y = false ∧ n = true ∧ o = false ∧ txt = false ∧ next = true := by
      cases y <;> cases n <;> cases o <;> cases txt <;> cases next <;> simp
    rcases hy with rfl | ⟨rfl, rfl⟩ | ⟨rfl, rfl, rfl⟩ | ⟨rfl, rfl, rfl, rfl⟩ | ⟨rfl, rfl, rfl, rfl, rfl⟩ | ⟨rfl, rfl, rfl, rfl, rfl⟩
    all_goals
      go_enter Tryz.func137, Tryz.ntmps137
      go_wp2_with fail
      go_quiet (first | (go_at_call 168; exact Calls.quiet_of_same (hopen _ (by exact globS HG.out))) | (go_at_call 169; exact Calls.quiet_of_same (hsuf _)))
      go_wp2
      go_ret
      exact ⟨by simp, belS (Below.refl _ _)⟩
  rw [if_neg k1]
  have n1 : ((k : Int) == 1) = false := by rw [beq_eq_false_iff_ne]; omega
  have e0 : (bs t).toList.isEmpty = t.isEmpty := by rw [bs_list]
  have e1 : ((p.length : Int) == 0) = (p.length == 0) := by rw [Bool.eq_iff_iff]; simp
  generalize (p.length == 0) = n at *
  generalize t.isEmpty = y at *
  by_cases k2 : k = 2 ∨ k = 3 ∨ k = 5
  · rw [if_pos k2]
    have hr := Aside0.mk (fun W hb => right_any A c p W (Kd.C_below hC hb) hp hs)
    clear hG hC hs e1
    generalize pathP p = z at *
    have hb : ((k : Int) == 2) = true ∨ (((k : Int) == 2) = false ∧ ((k : Int) == 3) = true) ∨ (((k : Int) == 2) = false ∧ ((k : Int) == 3) = false ∧ ((k : Int) == 5) = true) := by
      rcases k2 with rfl | rfl | rfl
      · exact .inl rfl
      · exact .inr (.inl ⟨rfl, rfl⟩)
      · exact .inr (.inr ⟨rfl, rfl, rfl⟩)
    clear k2
    cases y with
    | false =>
      rcases hb with b1 | ⟨b1, b2⟩ | ⟨b1, b2, b3⟩
      all_goals
        go_enter Tryz.func137, Tryz.ntmps137
        go_wp2_with fail
        go_ret
        exact ⟨by simp, belS (Below.refl _ _)⟩
    | true =>
      rcases hb with b1 | ⟨b1, b2⟩ | ⟨b1, b2, b3⟩
      all_goals
        go_enter Tryz.func137, Tryz.ntmps137
        go_wp2_with fail
        refine (hr.out _ (belS (Below.refl _ _))).mono ?_
        rintro e w1 ⟨rfl, ⟨q, rfl⟩⟩
        go_wp2
        go_ret
        exact ⟨by simp, belS (Below.refl _ _)⟩
  · rw [if_neg k2]
    have n2 : ((k : Int) == 2) = false := by rw [beq_eq_false_iff_ne]; omega
    have n3 : ((k : Int) == 3) = false := by rw [beq_eq_false_iff_ne]; omega
    have n5 : ((k : Int) == 5) = false := by rw [beq_eq_false_iff_ne]; omega
    clear hG hC hs
    by_cases k4 : k = 4 ∨ k = 6
    · rw [if_pos k4]
      have hb : ((k : Int) == 4) = true ∨ (((k : Int) == 4) = false ∧ ((k : Int) == 6) = true) := by
        rcases k4 with rfl | rfl
        · exact .inl rfl
        · exact .inr ⟨rfl, rfl⟩
      clear k4 k2 k1
      rcases hb with b1 | ⟨b1, b2⟩
      all_goals
        cases y
        all_goals
          go_enter Tryz.func137, Tryz.ntmps137
          go_wp2_with fail
          go_ret
          exact ⟨by simp, belS (Below.refl _ _)⟩
    · rw [if_neg k4]
      have n4 : ((k : Int) == 4) = false := by rw [beq_eq_false_iff_ne]; omega
      have n6 : ((k : Int) == 6) = false := by rw [beq_eq_false_iff_ne]; omega
      clear k4 k2 k1
      go_enter Tryz.func137, Tryz.ntmps137
      go_wp2_with fail
      go_ret
      exact ⟨by simp, belS (Below.refl _ _)⟩
end Go.Proofs.YtniibpndgcndbaaGreatDoor.Tpl
set_option linter.unusedSimpArgs false
namespace Go.Proofs.YtniibpndgcndbaaGreatDoor.Tpl
open Go.RowKit Go.Proofs.YtniibpndgcndbaaGreatDoor.PB Go.Proofs.YtniibpndgcndbaaGreatDoor.Short Go.Proofs.YtniibpndgcndbaaGreatDoorW.PrintWords Go.Proofs.YtniibpndgcndbaaGreatDoorW.PrintLast Go.Proofs.YtniibpndgcndbaaGreatDoorW.PrintMore Nodes
attribute [local go_sem ↓] Go.wp_at_zero Go.wp_at_succ
def Tok.sm (x : Tok) : Prop := x.k < 256 ∧ x.t.length ≤ 1048576 ∧ x.p.length ≤ 1048576 ∧ ∀ s, s ∈ x.p → s.length ≤ 1048576
def RdT (w : World) (A : Option Addr) (c : Nat) (l : List Tok) : Prop := kT.C w A l.length (tokv l) ∧ l.length ≤ c
theorem RdT.below {w w1 : World} {A : Option Addr} {c : Nat} {l : List Tok} (h : RdT w A c l) (hb : Below w.heap.size w w1) : RdT w1 A c l := ⟨Kd.C_below h.1 hb, h.2⟩
theorem RdT.at {w : World} {A : Option Addr} {c : Nat} {l : List Tok} (h : RdT w A c l) {i : Nat} {x : Tok} (hx : l[i]? = some x) :
    ∃ ad A2 c2, A = some ad ∧ w.cell? (ad.add (i * 3)) = some (.int .u8 x.k) ∧ w.cell? ⟨(ad.add (i * 3)).block, (ad.add (i * 3)).off + 1, none⟩ = some (.string (bs x.t)) ∧ w.cell? ⟨(ad.add (i * 3)).block, (ad.add (i * 3)).off + 2, none⟩ = some (.slice A2 x.p.length c2) ∧
      Kd.string.C w A2 x.p.length (x.p.map bs) ∧ x.p.length ≤ c2 := by
  have hi := (List.getElem?_eq_some_iff.1 hx).1
  obtain ⟨ad, A2, c2, e, x0, x1, x2, l2, i2⟩ := at_T101 h.1 (i : Int) (by omega) (by omega)
  have e0 : rd_T101 (tokv l) (i : Int) = Tok.of x := by
    unfold rd_T101 tokv
    simp [List.getD, hx]
  rw [e0] at x0 x1 x2 l2 i2
  simp only [Int.toNat_natCast, Tok.of, List.length_map] at x0 x1 x2 l2 i2
  exact ⟨ad, A2, c2, e, x0, x1, x2, i2, l2⟩
theorem toksP_drop {l : List Tok} {i : Nat} {x : Tok} (hx : l[i]? = some x) : toksP (l.drop i) = (fineP x (decide (i + 1 < l.length)) (match l[i + 1]? with | none => false | some y => y.k == 1) && toksP (l.drop (i + 1))) := by
  have hi := (List.getElem?_eq_some_iff.1 hx).1
  have e : l.drop i = x :: l.drop (i + 1) := by rw [List.drop_eq_getElem_cons hi]; congr 1; exact Option.some.inj ((List.getElem?_eq_getElem hi).symm.trans hx)
  rw [e]
  conv => lhs; unfold toksP
  congr 1
  by_cases h : i + 1 < l.length
  · have e2 := List.drop_eq_getElem_cons h
    rw [e2, List.getElem?_eq_getElem h, decide_eq_true h]
    rfl
  · rw [List.drop_eq_nil_of_le (by omega), List.getElem?_eq_none (by omega), decide_eq_false h]
    rfl
def chkT5 : Bool × List (List Nat × List Nat) := (true, [([], []), ([], []), ([], []), ([2], [2]), ([3], [3]), ([3], [3]), ([5, 3], [3, 5]), ([4, 6, 3], [3, 4, 6]), ([7, 3], [3, 7]), ([8, 3], [3, 8]), ([9, 3], [3, 9]), ([3, 10], [3, 10]), ([0, 1, 11, 3], [0, 1, 11]), ([12], [12])])
def chkB5 : List Nat := [0, 0, 0, 4, 12, 12, 44, 124, 252, 508, 1020, 2044, 4095, 8191]
theorem chktab5 : rtab .any (opsOf Tryz.f93 5) = chkT5 := by kernel_rfl
theorem chkbits5 : waitsOk chkT5.2 chkB5 = true := by kernel_rfl
set_option maxHeartbeats 2000000 in
set_option maxRecDepth 100000 in
theorem check_any (A : Option Addr) (c : Nat) (l : List Tok) (w : World) (hG : Glob w) (hR : RdT w A c l) (hl : l.length ≤ 1048576) (hs : ∀ x, x ∈ l → x.sm) :
    Calls Tryz.prog 93 #[.slice A l.length c] w fun e w' => e = .returned (.int .i64 (if toksP l = true then 0 else 2)) ∧ Below w.heap.size w w' := by
  obtain ⟨r, hr⟩ : ∃ r : Int, (if toksP l = true then 0 else 2) = r := ⟨_, rfl⟩
  rw [hr]
  have Hr := Aside0.mk hr
  clear hr
  have HR := Aside0.mk hR
  have HG := Aside0.mk hG
  have HS := Aside0.mk hs
  clear hR hG hs
  go_enter Tryz.func93, Tryz.ntmps93
  go_wp2
  go_loopw [8] (fun v wr => ∃ i : Nat, v = .int .i64 i ∧ i ≤ l.length ∧ Aside0 (toksP l = toksP (l.drop i)) ∧ Aside0 (Below w.heap.size w wr))
    (fun v _ => l.length - (intOf v).toNat)
  case atStart => exact ⟨0, rfl, Nat.zero_le _, ⟨by simp⟩, ⟨Below.refl _ _⟩⟩
  case round =>
    obtain ⟨i, rfl, hi, HE, HB⟩ := hrel
    by_cases hlt : i < l.length
    · obtain ⟨x, hx⟩ : ∃ x, l[i]? = some x := ⟨_, List.getElem?_eq_getElem hlt⟩
      have hsx := HS.out x (List.mem_of_getElem? hx)
      obtain ⟨ad, A2, c2, rfl, y0, y1, y2, i2, l2⟩ := HR.out.at hx
      replace y0 := (HB.out.cell (World.block_lt_of_cell? _ _ y0)).trans y0
      replace y1 := (HB.out.cell (World.block_lt_of_cell? _ _ y1)).trans y1
      replace y2 := (HB.out.cell (World.block_lt_of_cell? _ _ y2)).trans y2
      have hd := toksP_drop hx
      rw [← HE.out] at hd
      obtain ⟨k, t, p⟩ := x
      simp only at y0 y1 y2 i2 l2
      have HSX := Aside0.mk hsx
      clear hsx
      by_cases hn : i + 1 < l.length
      · obtain ⟨y, hy⟩ : ∃ y, l[i + 1]? = some y := ⟨_, List.getElem?_eq_getElem hn⟩
        obtain ⟨ad', _, _, e, z0, _, _, _, _⟩ := HR.out.at hy
        cases e
        replace z0 := (HB.out.cell (World.block_lt_of_cell? _ _ z0)).trans z0
        rw [hy, decide_eq_true hn] at hd
        simp only at hd
        obtain ⟨ky, ty, py⟩ := y
        simp only at z0 hd
        clear hx hy
        have hb1 : decide ((i : Int) + 1 < (l.length : Int)) = true := by rw [decide_eq_true_eq]; omega
        have hb2 : (0 : Int) ≤ (i : Int) + 1 := by omega
        have hb3 : (i : Int) + 1 < (l.length : Int) := by omega
        have hwr : IntKind.i64.wrap ((i : Int) + 1) = (i : Int) + 1 := by rw [i64_w]; unfold wrap64; omega
        have hky : ((ky : Int) == 1) = (ky == 1) := by rw [Bool.eq_iff_iff, beq_iff_eq, beq_iff_eq]; omega
        have hf := Aside0.mk (fun W hb => fine_any A2 c2 ⟨k, t, p⟩ true (ky == 1) W (HG.out.below hb) HSX.out.1 HSX.out.2.1 (Kd.C_below i2 hb) HSX.out.2.2.1 HSX.out.2.2.2)
        generalize (ky == 1) = kb at *
        generalize hF : fineP ⟨k, t, p⟩ true kb = fb at *
        go_wp2_with fail
        obtain ⟨g, hg⟩ : ∃ g, wr.heap.size = g := ⟨_, rfl⟩
        have BK := Aside0.mk (blk_new wr (.cells #[.int .u8 k, .string (bs t), .slice A2 p.length c2] 101))
        have HBw := Aside0.mk (below_alloc HB.out (.cells #[.int .u8 k, .string (bs t), .slice A2 p.length c2] 101))
        replace z0 := pw_cell_below (below_alloc (Below.refl wr.heap.size wr) (.cells #[.int .u8 k, .string (bs t), .slice A2 p.length c2] 101)) z0
        generalize wr.alloc (.cells #[.int .u8 k, .string (bs t), .slice A2 p.length c2] 101) = W at BK HBw z0 ⊢
        rw [hg] at BK ⊢
        obtain ⟨m0, m1, m2, n0, n1, n2⟩ := cells_3 BK.out
        clear y0 y1 y2 HB
        go_region_held3 (fun w' => w'.cell? ⟨g, 0, none⟩ = some (.int .u8 k) ∧ w'.cell? ⟨g, 1, none⟩ = some (.string (bs t)) ∧ w'.cell? ⟨g, 2, none⟩ = some (.slice A2 p.length c2) ∧ w'.cell? (ad.add ((i + 1) * 3)) = some (.int .u8 ky))
          (first
            | go_keep
            | (have q := cells_3 (blk_below (w := W.drew) BK.out hb4); exact ⟨q.1, q.2.1, q.2.2.1, pw_cell_below hb4 z0⟩))
          (first
            | ((go_at_call 137; refine (hf.out _ (below_drew1 HBw.out)).mono ?_; rintro e w1 ⟨rfl, hb4⟩)))
        have HB1 := Aside0.mk (below_step (below_drew1 HBw.out) hb4)
        clear hb4 hf z0
        cases fb with
        | false =>
          go_wp2
          go_ret
          exact ⟨by rw [← Hr.out, hd]; simp, HB1.out⟩
        | true =>
          go_wp2
          go_roundw
          case rel => exact ⟨i + 1, by simp, by omega, ⟨by rw [hd]; simp⟩, HB1⟩
          case measure => simp [intOf]; omega
      · rw [List.getElem?_eq_none (by omega), decide_eq_false hn] at hd
        simp only at hd
        clear hx
        have hb1 : decide ((i : Int) + 1 < (l.length : Int)) = false := by rw [decide_eq_false_iff_not]; omega
        have hf := Aside0.mk (fun W hb => fine_any A2 c2 ⟨k, t, p⟩ false false W (HG.out.below hb) HSX.out.1 HSX.out.2.1 (Kd.C_below i2 hb) HSX.out.2.2.1 HSX.out.2.2.2)
        generalize hF : fineP ⟨k, t, p⟩ false false = fb at *
        go_wp2_with fail
        obtain ⟨g, hg⟩ : ∃ g, wr.heap.size = g := ⟨_, rfl⟩
        have BK := Aside0.mk (blk_new wr (.cells #[.int .u8 k, .string (bs t), .slice A2 p.length c2] 101))
        have HBw := Aside0.mk (below_alloc HB.out (.cells #[.int .u8 k, .string (bs t), .slice A2 p.length c2] 101))
        generalize wr.alloc (.cells #[.int .u8 k, .string (bs t), .slice A2 p.length c2] 101) = W at BK HBw ⊢
        rw [hg] at BK ⊢
        obtain ⟨m0, m1, m2, n0, n1, n2⟩ := cells_3 BK.out
        clear y0 y1 y2 HB
        have HBD := Aside0.mk (below_drew1 HBw.out)
        have BKD := Aside0.mk (blk_drew BK.out)
        refine start_ (n := 14) (S := fun w' => w'.cell? ⟨g, 0, none⟩ = some (.int .u8 k) ∧ w'.cell? ⟨g, 1, none⟩ = some (.string (bs t)) ∧ w'.cell? ⟨g, 2, none⟩ = some (.slice A2 p.length c2)) (ds := []) #[false, false, false, false, false, false, false, false, false, false, false, false, false, false] (by kernel_rfl) rfl rfl ⟨m0, m1, m2⟩ (fun hHeld => ?_)
        refine with_tabW chktab5 chkbits5 (fun HT_ HW_ => ?_)
        clear m0 m1 m2 n0 n1 n2 BK HBw
        generalize W.drew = W2 at BKD HBD hHeld ⊢
        refine pure_ (i := 1) (N := some 19) (v := ?_) (a' := ?_) #[false, true, false, false, false, false, false, false, false, false, false, false, false, false] rfl rfl (any_of HT_.out (by kernel_rfl)) (fun _ _ _ h => h) (Or.inl ⟨by rfl, ?_⟩) ?_ ?_
        rotate_left
        · intro w'
          go_simp
          with_reducible rfl
        rotate_left
        · simp only [Act.put, List.setIfInBounds_toArray, List.set_cons_zero, List.set_cons_succ, i64_w, i32_w]
          rfl
        refine pure_ (i := 2) (N := some 20) (v := ?_) (a' := ?_) #[false, true, true, false, false, false, false, false, false, false, false, false, false, false] rfl rfl (any_of HT_.out (by kernel_rfl)) (fun _ _ _ h => h) (Or.inl ⟨by rfl, ?_⟩) ?_ ?_
        rotate_left
        · intro w'
          go_simp
          with_reducible rfl
        rotate_left
        · simp only [Act.put, List.setIfInBounds_toArray, List.set_cons_zero, List.set_cons_succ, i64_w, i32_w]
          rfl
        refine pure_ (i := 3) (N := some 21) (v := ?_) (a' := ?_) #[false, true, true, true, false, false, false, false, false, false, false, false, false, false] rfl rfl (any_of HT_.out (by kernel_rfl)) (fun _ _ _ h => h) (Or.inl ⟨by rfl, ?_⟩) ?_ ?_
        rotate_left
        · intro w'
          go_simp
          with_reducible rfl
        rotate_left
        · simp only [Act.put, List.setIfInBounds_toArray, List.set_cons_zero, List.set_cons_succ, i64_w, i32_w]
          rfl
        refine pure_ (i := 4) (N := some 22) (v := undef) (a' := ?_) #[false, true, true, true, true, false, false, false, false, false, false, false, false, false] rfl rfl (any_of HT_.out (by kernel_rfl)) (fun _ _ _ h => h) (Or.inr ⟨by rfl, rfl⟩) ?_ ?_
        rotate_left
        · simp only [Act.put, List.setIfInBounds_toArray, List.set_cons_zero, List.set_cons_succ, i64_w, i32_w]
          rfl
        refine pure_ (i := 5) (N := some 23) (v := undef) (a' := ?_) #[false, true, true, true, true, true, false, false, false, false, false, false, false, false] rfl rfl (any_of HT_.out (by kernel_rfl)) (fun _ _ _ h => h) (Or.inr ⟨by rfl, rfl⟩) ?_ ?_
        rotate_left
        · simp only [Act.put, List.setIfInBounds_toArray, List.set_cons_zero, List.set_cons_succ, i64_w, i32_w]
          rfl
        refine pure_ (i := 6) (N := some 24) (v := undef) (a' := ?_) #[false, true, true, true, true, true, true, false, false, false, false, false, false, false] rfl rfl (any_of HT_.out (by kernel_rfl)) (fun _ _ _ h => h) (Or.inr ⟨by rfl, rfl⟩) ?_ ?_
        rotate_left
        · simp only [Act.put, List.setIfInBounds_toArray, List.set_cons_zero, List.set_cons_succ, i64_w, i32_w]
          rfl
        refine pure_ (i := 7) (N := some 25) (v := undef) (a' := ?_) #[false, true, true, true, true, true, true, true, false, false, false, false, false, false] rfl rfl (any_of HT_.out (by kernel_rfl)) (fun _ _ _ h => h) (Or.inr ⟨by rfl, rfl⟩) ?_ ?_
        rotate_left
        · simp only [Act.put, List.setIfInBounds_toArray, List.set_cons_zero, List.set_cons_succ, i64_w, i32_w]
          rfl
        refine pure_ (i := 8) (N := some 26) (v := undef) (a' := ?_) #[false, true, true, true, true, true, true, true, true, false, false, false, false, false] rfl rfl (any_of HT_.out (by kernel_rfl)) (fun _ _ _ h => h) (Or.inr ⟨by rfl, rfl⟩) ?_ ?_
        rotate_left
        · simp only [Act.put, List.setIfInBounds_toArray, List.set_cons_zero, List.set_cons_succ, i64_w, i32_w]
          rfl
        refine pure_ (i := 9) (N := some 27) (v := undef) (a' := ?_) #[false, true, true, true, true, true, true, true, true, true, false, false, false, false] rfl rfl (any_of HT_.out (by kernel_rfl)) (fun _ _ _ h => h) (Or.inr ⟨by rfl, rfl⟩) ?_ ?_
        rotate_left
        · simp only [Act.put, List.setIfInBounds_toArray, List.set_cons_zero, List.set_cons_succ, i64_w, i32_w]
          rfl
        refine pure_ (i := 10) (N := some 28) (v := undef) (a' := ?_) #[false, true, true, true, true, true, true, true, true, true, true, false, false, false] rfl rfl (any_of HT_.out (by kernel_rfl)) (fun _ _ _ h => h) (Or.inr ⟨by rfl, rfl⟩) ?_ ?_
        rotate_left
        · simp only [Act.put, List.setIfInBounds_toArray, List.set_cons_zero, List.set_cons_succ, i64_w, i32_w]
          rfl
        refine pure_ (i := 11) (N := some 29) (v := ?_) (a' := ?_) #[false, true, true, true, true, true, true, true, true, true, true, true, false, false] rfl rfl (any_of HT_.out (by kernel_rfl)) (fun _ _ _ h => h) (Or.inl ⟨by rfl, ?_⟩) ?_ ?_
        rotate_left
        · intro w'
          go_simp
          with_reducible rfl
        rotate_left
        · simp only [Act.put, List.setIfInBounds_toArray, List.set_cons_zero, List.set_cons_succ, i64_w, i32_w]
          rfl
        refine take_ (i := 0) (N := some 18) (v := ?_) (a' := ?_) #[true, true, true, true, true, true, true, true, true, true, true, true, false, false] rfl rfl (take_ofW HT_.out HW_.out (by kernel_rfl)) (fun _ _ _ h => h) (Or.inl ⟨by rfl, ?_⟩) hHeld ?_ ?_
        rotate_left
        · rintro w' ⟨s0, s1, s2⟩
          go_simp
          with_reducible rfl
        rotate_left
        · simp only [Act.put, List.setIfInBounds_toArray, List.set_cons_zero, List.set_cons_succ, i64_w, i32_w]
          rfl
        refine one_ (i := 12) (N := some 30) #[true, true, true, true, true, true, true, true, true, true, true, true, true, false] rfl rfl (one_of HT_.out (by kernel_rfl)) (by decide) (fun K hK => ?_)
        refine goes_ Tryz.func137 (by kernel_rfl) rfl #[.agg #[.int .u8 k, .string (bs t), .slice A2 p.length c2], .bool false, .bool false] (by rfl) rfl rfl (by (try simp only [List.map_toArray, List.map_cons, List.map_nil]); first | done | rfl) ?_
        refine (hf.out _ HBD.out).mono ?_
        rintro e w1 ⟨rfl, hb4⟩
        refine ⟨_, rfl, ?_⟩
        have q := cells_3 (blk_below BKD.out hb4)
        refine hK.out _ _ ⟨q.1, q.2.1, q.2.2.1⟩ (fun hHeld => ?_)
        clear hK K
        refine norm_ (a' := ?_) ?_ ?_
        rotate_left
        · show Act.put _ (some 30) _ = _
          simp only [Act.put, List.setIfInBounds_toArray, List.set_cons_zero, List.set_cons_succ, i64_w, i32_w]
          rfl
        refine pure_ (i := 13) (N := some 31) (v := ?_) (a' := ?_) #[true, true, true, true, true, true, true, true, true, true, true, true, true, true] rfl rfl (any_of HT_.out (by kernel_rfl)) (fun _ _ _ h => h) (Or.inl ⟨by rfl, ?_⟩) ?_ ?_
        rotate_left
        · intro w'
          go_simp
          with_reducible rfl
        rotate_left
        · simp only [Act.put, List.setIfInBounds_toArray, List.set_cons_zero, List.set_cons_succ, i64_w, i32_w]
          rfl
        refine done_ (done_of HT_.out (by kernel_rfl)) ?_
        have HB1 := Aside0.mk (below_step HBD.out hb4)
        clear hb4 hf q
        cases fb with
        | false =>
          go_wp2
          go_ret
          exact ⟨by rw [← Hr.out, hd]; simp, HB1.out⟩
        | true =>
          go_wp2
          go_roundw
          case rel => exact ⟨i + 1, by simp, by omega, ⟨by rw [hd]; simp⟩, HB1⟩
          case measure => simp [intOf]; omega
    · obtain rfl : i = l.length := by omega
      go_wp2
      go_ret
      exact ⟨by rw [← Hr.out, HE.out]; simp [toksP], HB.out⟩
end Go.Proofs.YtniibpndgcndbaaGreatDoor.Tpl
namespace Go.Proofs.YtniibpndgcndbaaGreatDoor.Tpl
open Go.RowKit Go.Proofs.YtniibpndgcndbaaGreatDoor.PB Go.Proofs.YtniibpndgcndbaaGreatDoor.Short Go.Proofs.YtniibpndgcndbaaGreatDoorW.PrintWords Go.Proofs.YtniibpndgcndbaaGreatDoorW.PrintLast Go.Proofs.YtniibpndgcndbaaGreatDoorW.PrintMore Nodes
theorem toks_sm (l : Nodes) (h : l.sm) : ∀ x, x ∈ l.toks → x.sm := by
  induction l with
  | nil => intro x hx; simp [toks] at hx
  | cons k t p a b r iha ihb ihr =>
    obtain ⟨s1, s2, s3, s4, s5, s6, s7, s8, s9⟩ := h
    intro x hx
    have h4 : (⟨4, [], []⟩ : Tok).sm := ⟨by decide, by decide, by decide, fun s hs => by simp at hs⟩
    have h6 : (⟨6, [], []⟩ : Tok).sm := ⟨by decide, by decide, by decide, fun s hs => by simp at hs⟩
    simp only [toks, List.mem_cons, List.mem_append] at hx
    rcases hx with rfl | hx | hx
    · exact ⟨s1, s2, s3, s4⟩
    · by_cases hk : k = 3 ∨ k = 5
      · rw [if_pos hk] at hx
        simp only [List.mem_append, List.mem_singleton] at hx
        rcases hx with hx | hx | rfl
        · exact iha s7 x hx
        · cases hb : b.isNil with
          | true => rw [hb] at hx; simp at hx
          | false =>
            rw [hb] at hx
            simp only [Bool.false_eq_true, if_false, List.mem_cons] at hx
            rcases hx with rfl | hx
            · exact h4
            · exact ihb s8 x hx
        · exact h6
      · rw [if_neg hk] at hx; simp at hx
    · exact ihr s9 x hx
theorem rdT_of_R {w : World} {base : Nat} {ok : Nat → Prop} {v : Value} {l : List Tok} (h : kT.R 101 w base ok v (tokv l)) : ∃ A c, v = .slice A l.length c ∧ RdT w A c l := by
  obtain ⟨A, c, e, hl, hc⟩ := Kd.R_reads h
  have e2 : (tokv l).length = l.length := by simp [tokv]
  rw [e2] at e hl hc
  exact ⟨A, c, e, hc, hl⟩
set_option maxHeartbeats 1000000 in
set_option maxRecDepth 100000 in
theorem tokens_any (l : Nodes) (A : Option Addr) (c : Nat) (w : World) (hG : Glob w) (hs : l.sm) (hR : Rd w A c l) (hl : l.len ≤ 1048576) (hc : l.cnt ≤ 1048576) :
    Calls Tryz.prog 64 #[.slice A l.len c] w fun e w' => ∃ v, e = .returned (.tuple #[v, .int .i64 (if l.chk = true then 0 else 2)]) ∧ ((l.chk = true → kT.R 101 w' w.heap.size (fun k => w.heap.size ≤ k) v (tokv l.toks)) ∧ (l.chk = false → v = .slice none 0 0)) ∧ Below w.heap.size w w' := by
  have hf := fits_any l A c w hs hR hl hc
  obtain ⟨r, hr⟩ : ∃ r : Int, (if l.chk = true then 0 else 2) = r := ⟨_, rfl⟩
  rw [hr]
  have Hr := Aside0.mk hr
  have HR := Aside0.mk hR
  have HS := Aside0.mk hs
  have HG := Aside0.mk hG
  clear hr hR hs hG
  cases hfp : l.fitsP with
  | false =>
    rw [hfp] at hf
    have hch : l.chk = false := by unfold chk; rw [hfp]; rfl
    go_enter Tryz.func64, Tryz.ntmps64
    go_wp2_with fail
    refine hf.mono ?_
    rintro e w1 ⟨rfl, hb⟩
    go_wp2
    go_ret2
    exact ⟨_, by rw [← Hr.out, hch]; rfl, ⟨fun h => (by rw [hch] at h; cases h), fun _ => rfl⟩, hb⟩
  | true =>
    rw [hfp] at hf
    have hcn : l.cnt ≤ 256 := by unfold fitsP at hfp; simp at hfp; exact hfp.2
    have hlen := toks_len l
    have hchk : l.chk = toksP l.toks := by unfold chk; rw [hfp]; rfl
    go_enter Tryz.func64, Tryz.ntmps64
    go_wp2_with fail
    refine hf.mono ?_
    rintro e w1 ⟨rfl, hb⟩
    go_wp2_with fail
    refine (put_any w l.cnt l A c [] (.slice none 0 0) (fun k => w.heap.size ≤ k) w1 (Nat.le_refl _) (by simp; omega) HS.out HR.out hb (fun _ h => h) (fun k hk => Nat.le_trans hb.size hk) (Kd.R_nil _ _ _ _ _)).mono ?_
    rintro e w2 ⟨v, rfl, hO, hK⟩
    rw [List.nil_append] at hO
    have hb2 := hb.trans (hK.below (B := w.heap.size) (fun _ h => h) hb.size)
    obtain ⟨A2, c2, rfl, hRT⟩ := rdT_of_R hO
    have hO' := Aside0.mk hO
    have hb2' := Aside0.mk hb2
    clear hO hK hb
    go_wp2_with fail
    refine (check_any A2 c2 l.toks w2 (HG.out.below hb2) hRT (by simp only [tokv, List.length_map] at hlen; omega) (toks_sm l HS.out)).mono ?_
    rintro e w3 ⟨rfl, hb3⟩
    cases htp : toksP l.toks with
    | false =>
      rw [htp] at hchk
      go_wp2
      go_ret2
      exact ⟨_, by rw [← Hr.out, hchk]; rfl, ⟨fun h => (by rw [hchk] at h; cases h), fun _ => rfl⟩, below_step hb2'.out hb3⟩
    | true =>
      rw [htp] at hchk
      go_wp2
      go_ret2
      exact ⟨_, by rw [← Hr.out, hchk]; rfl, ⟨fun _ => Kd.R_below hO'.out hb3, fun h => (by rw [hchk] at h; cases h)⟩, below_step hb2'.out hb3⟩
theorem chk_any (l : Nodes) (A : Option Addr) (c : Nat) (w : World) (hG : Glob w) (hs : l.sm) (hR : Rd w A c l) (hl : l.len ≤ 1048576) (hc : l.cnt ≤ 1048576) :
    Calls Tryz.prog 34 #[.slice A l.len c] w fun e w' => e = .returned (.int .i64 (if l.chk = true then 0 else 2)) ∧ Below w.heap.size w w' := by
  have h := tokens_any l A c w hG hs hR hl hc
  generalize (if l.chk = true then (0 : Int) else 2) = r at *
  clear hG hs hR
  go_enter Tryz.func34, Tryz.ntmps34
  go_wp2_with fail
  refine h.mono ?_
  rintro e w1 ⟨v, rfl, _, hb⟩
  go_wp2
  go_ret
  exact ⟨rfl, hb⟩
end Go.Proofs.YtniibpndgcndbaaGreatDoor.Tpl
namespace Go.Proofs.YtniibpndgcndbaaGreatDoor.Tpl
open Go.RowKit Go.Proofs Go.Shelf Go.Proofs.YtniibpndgcndbaaGreatDoor.PB Go.Proofs.YtniibpndgcndbaaGreatDoor.Short Go.Proofs.YtniibpndgcndbaaGreatDoorW.PrintWords Go.Proofs.YtniibpndgcndbaaGreatDoorW.PrintLast Go.Proofs.YtniibpndgcndbaaGreatDoorW.PrintMore Nodes
attribute [local go_sem] Oper.semAt_some
structure Lk where
  k : Nat
  t : S
  A2 : Option Addr
  c2 : Nat
  p : List S
  A3 : Option Addr
  n3 : Nat
  c3 : Nat
  A4 : Option Addr
  n4 : Nat
  c4 : Nat
  lv : Nat
  wi : Bool
def Lk.enc (x : Lk) : Value := .agg #[.int .u8 x.k, .string (bs x.t), .slice x.A2 x.p.length x.c2, .slice x.A3 x.n3 x.c3, .slice x.A4 x.n4 x.c4, .int .i64 x.lv, .bool x.wi]
def Lk.er (x : Lk) : Look := ⟨x.k, x.t, x.p, x.lv, x.wi⟩
def GLk (w0 : World) := { x : Lk // (Kd.string.C w0 x.A2 x.p.length (x.p.map bs) ∧ x.p.length ≤ x.c2) ∧ x.t.length ≤ 1048576 ∧ x.lv ≤ 2000000 }
def KpN (n₀ : Nat) (W W' : World) : Prop := Below n₀ W W' ∧ ∀ (i : Nat) (cs : Array Value), W.heap[i]? = some (.cells cs 37 (0, 0)) → W'.heap[i]? = some (.cells cs 37 (0, 0))
theorem KpN.refl (n₀ : Nat) (W : World) : KpN n₀ W W := ⟨Below.refl _ _, fun _ _ h => h⟩
theorem KpN.trans {n₀ : Nat} {A B C : World} (h : KpN n₀ A B) (k : KpN n₀ B C) : KpN n₀ A C := ⟨h.1.trans k.1, fun i cs hi => k.2 i cs (h.2 i cs hi)⟩
theorem KpN.alloc {n₀ : Nat} {A B : World} (h : KpN n₀ A B) (hn : n₀ ≤ B.heap.size) (o : Obj) : KpN n₀ A (B.alloc o) := ⟨h.1.alloc hn o, fun i cs hi => blk_alloc (h.2 i cs hi) o⟩
theorem KpN.of_below {n₀ : Nat} {W W' : World} (h : Below W.heap.size W W') (hn : n₀ ≤ W.heap.size) : KpN n₀ W W' := ⟨h.mono hn, fun _ _ hi => blk_below hi h⟩
theorem KpN.set {n₀ : Nat} {W W' : World} {B : Nat} {t : TypeId} {v : Value} (h : KpN n₀ W W') (hb : Boxed W' B t v) (ht : t ≠ 37) (hn : n₀ ≤ B) (u : Value) : KpN n₀ W (W'.setCell ⟨B, 0, none⟩ u) :=
  ⟨h.1.setCell (p := ⟨B, 0, none⟩) hn _, fun i cs hi => blk_far (h.2 i cs hi) (fun e => by have e' : i = B := e; subst e'; have := (h.2 i cs hi).symm.trans hb; injection this with this; injection this with _ this; exact ht this.symm) u⟩
theorem KeepsOthers.of_below {W W' : World} (h : Below W.heap.size W W') : KeepsOthers W W' := ⟨h.size, fun _ _ hk _ => blk_below hk h⟩
theorem KpN.b {n₀ : Nat} {w : World} (hn : n₀ ≤ w.heap.size) (W : World) (l : Nat) (o o' : Obj) (hl : w.heap.size ≤ l) (h : W.heap[l]? = some o) (hc : o.isCells = false) (hw : o.isWalk = false) : KpN n₀ W (W.putObj l o') :=
  ⟨belowK_b hn W l o o' hl h hc hw, fun i cs hi => by
    rw [World.putObj_heap_other (fun e => by subst e; rw [h] at hi; cases hi; simp [Obj.isCells] at hc)]
    exact hi⟩
section
variable {w0 : World} {ys ys2 ys3 q : List (GLk w0)} {X : GLk w0} {k : Nat} {t : S} {A2 : Option Addr} {c2 : Nat} {p : List S} {A3 : Option Addr} {n3 c3 : Nat} {A4 : Option Addr} {n4 c4 : Nat} {lv : Nat} {wi kf : Bool} {a b r : Nodes} {hh : (Kd.string.C w0 A2 p.length (p.map bs) ∧ p.length ≤ c2) ∧ t.length ≤ 1048576 ∧ lv ≤ 2000000}
end
end Go.Proofs.YtniibpndgcndbaaGreatDoor.Tpl
namespace Go.Proofs.YtniibpndgcndbaaGreatDoor.Tpl
set_option linter.unusedSimpArgs false
open Go.RowKit Go.Proofs.YtniibpndgcndbaaGreatDoor.PB Go.Proofs.YtniibpndgcndbaaGreatDoor.Short Go.Proofs.YtniibpndgcndbaaGreatDoorW.PrintWords Go.Proofs.YtniibpndgcndbaaGreatDoorW.PrintLast Go.Proofs.YtniibpndgcndbaaGreatDoorW.PrintMore Nodes
theorem Ev.ip {α : Type} {c : Prop} [Decidable c] {a b : Nat → Option α} {r : α} (h : c) (k : Ev a r) : Ev (fun n => if c then a n else b n) r := by
  obtain ⟨K, e⟩ := k; exact ⟨K, fun n hn => (if_pos h).trans (e n hn)⟩
theorem Ev.im {α : Type} {c : Prop} [Decidable c] {a b : Nat → Option α} {r : α} (h : ¬ c) (k : Ev b r) : Ev (fun n => if c then a n else b n) r := by
  obtain ⟨K, e⟩ := k; exact ⟨K, fun n hn => (if_neg h).trans (e n hn)⟩
theorem Ev.eq {α : Type} {a : Nat → Option α} {r r' : α} (k : Ev a r) (h : r = r') : Ev a r' := h ▸ k
theorem Ev.val {α : Type} {r r' : α} (h : r = r') : Ev (fun _ => some r) r' := h ▸ Ev.now r
theorem tokv_len (l : List Tok) : (tokv l).length = l.length := by simp [tokv]
theorem beqI (a : Nat) (b : Nat) : (((a : Nat) : Int) == ((b : Nat) : Int)) = (a == b) := by rw [Bool.eq_iff_iff, beq_iff_eq, beq_iff_eq]; omega
end Go.Proofs.YtniibpndgcndbaaGreatDoor.Tpl
namespace Go.Proofs.YtniibpndgcndbaaGreatDoor.Tpl
open Go.RowKit
def splitC (c : UInt8) : S → List S
  | [] => [[]]
  | x :: r => if x = c then [] :: splitC c r else match splitC c r with | [] => [[x]] | h :: t => (x :: h) :: t
theorem splitC_ne (c : UInt8) (s : S) : splitC c s ≠ [] := by
  cases s with
  | nil => simp [splitC]
  | cons x r => unfold splitC; split; · simp
                split <;> simp
theorem splitC_miss (c : UInt8) (s : S) (h : Lib.index s [c] = -1) : splitC c s = [s] := by
  induction s with
  | nil => rfl
  | cons x r ih =>
    rw [Lib.index] at h
    by_cases hx : x = c
    · subst hx; simp at h
    · have h1 : [c].isPrefixOf (x :: r) = false := by simp [List.isPrefixOf]; exact fun e => hx e.symm
      rw [h1] at h
      have hg := Lib.index_ge r [c]
      have h2 : Lib.index r [c] = -1 := by
        by_cases h2 : Lib.index r [c] = -1
        · exact h2
        · simp [h2] at h; omega
      rw [splitC, if_neg hx, ih h2]
theorem splitC_hit (c : UInt8) (s : S) (i : Nat) (h : Lib.index s [c] = i) : splitC c s = s.take i :: splitC c (s.drop (i + 1)) ∧ i < s.length := by
  induction s generalizing i with
  | nil => simp [Lib.index] at h
  | cons x r ih =>
    rw [Lib.index] at h
    by_cases hx : x = c
    · subst hx
      simp at h
      obtain rfl : i = 0 := by omega
      exact ⟨by simp [splitC], by simp⟩
    · have h1 : [c].isPrefixOf (x :: r) = false := by simp [List.isPrefixOf]; exact fun e => hx e.symm
      rw [h1] at h
      have hg := Lib.index_ge r [c]
      by_cases h2 : Lib.index r [c] = -1
      · simp [h2] at h
      · simp [h2] at h
        obtain ⟨j, hj⟩ : ∃ j : Nat, Lib.index r [c] = j := ⟨(Lib.index r [c]).toNat, by omega⟩
        obtain rfl : i = j + 1 := by omega
        obtain ⟨e, hl⟩ := ih j hj
        refine ⟨?_, by simp; omega⟩
        rw [splitC, if_neg hx, e]; simp
theorem splitK_C (c : UInt8) : ∀ fuel (s : S), s.length < fuel → Lib.splitK [c] 0 (Lib.countFrom [c] fuel s) s = splitC c s := by
  intro fuel
  induction fuel with
  | zero => intro s h; omega
  | succ n ih =>
    intro s h
    unfold Lib.countFrom
    by_cases h1 : Lib.index s [c] = -1
    · rw [if_pos (by simp [h1]), splitC_miss c s h1]; rfl
    · have hg := Lib.index_ge s [c]
      obtain ⟨j, hj⟩ : ∃ j : Nat, Lib.index s [c] = j := ⟨(Lib.index s [c]).toNat, by omega⟩
      obtain ⟨e, hl⟩ := splitC_hit c s j hj
      rw [if_neg (by simp [h1]), Nat.add_comm, Lib.splitK, if_neg (by simp [h1]), hj, e]
      simp only [Int.toNat_natCast, Nat.add_zero, List.length_singleton]
      rw [ih (s.drop (j + 1)) (by rw [List.length_drop]; omega)]
theorem split_C (c : UInt8) (s : S) : Lib.splitK [c] 0 (Lib.count s [c]) s = splitC c s := splitK_C c _ s (Nat.lt_succ_self _)
theorem splitC_size (c : UInt8) (s : S) : (splitC c s).length ≤ s.length + 1 ∧ ∀ x, x ∈ splitC c s → x.length ≤ s.length := by
  induction s with
  | nil => simp [splitC]
  | cons x r ih =>
    unfold splitC
    split
    · refine ⟨by simp; exact ih.1, fun y hy => ?_⟩
      rcases List.mem_cons.1 hy with rfl | hy
      · simp
      · have := ih.2 y hy; simp; omega
    · cases hs : splitC c r with
      | nil => exact absurd hs (splitC_ne c r)
      | cons h t =>
        rw [hs] at ih
        refine ⟨by have := ih.1; simp at this ⊢; omega, fun y hy => ?_⟩
        rcases List.mem_cons.1 hy with rfl | hy
        · have := ih.2 h (by simp); simp; omega
        · have := ih.2 y (by simp [hy]); simp; omega
def wordsP (s : S) : List S := (splitC 32 s).filter (fun x => !x.isEmpty)
theorem wordsP_size (s : S) : (wordsP s).length ≤ s.length + 1 ∧ ∀ x, x ∈ wordsP s → x.length ≤ s.length :=
  ⟨Nat.le_trans (List.length_filter_le _ _) (splitC_size 32 s).1, fun x hx => (splitC_size 32 s).2 x (List.mem_filter.1 hx).1⟩
def pathOf (s : S) : Option (List S) := if pathP (splitC 46 s) = true then some (splitC 46 s) else none
def tagP (s : S) : Option Tok :=
  if (wordsP s).length = 0 ∨ 2 < (wordsP s).length then none
  else if ownP ((wordsP s).getD 0 []) = 4 ∨ ownP ((wordsP s).getD 0 []) = 6 then (if (wordsP s).length = 1 then some ⟨ownP ((wordsP s).getD 0 []), [], []⟩ else none)
  else if (ownP ((wordsP s).getD 0 []) ≠ 2 ∧ (wordsP s).length ≠ 2) ∨ (ownP ((wordsP s).getD 0 []) = 2 ∧ (wordsP s).length ≠ 1) then none
  else match pathOf ((wordsP s).getD ((wordsP s).length - 1) []) with | none => none | some p => some ⟨ownP ((wordsP s).getD 0 []), [], p⟩
def tagY (n : Nat) (x0 x1 : S) : Option Tok :=
  if ownP x0 = 4 ∨ ownP x0 = 6 then (if n = 1 then some ⟨ownP x0, [], []⟩ else none)
  else if (ownP x0 ≠ 2 ∧ n ≠ 2) ∨ (ownP x0 = 2 ∧ n ≠ 1) then none
  else match pathOf x1 with | none => none | some q => some ⟨ownP x0, [], q⟩
def tagX (n : Nat) (x0 x1 : S) : Option Tok := if n = 0 ∨ 2 < n then none else tagY n x0 x1
def tagW (p : List S) : Option Tok := tagX p.length (p.getD 0 []) (p.getD (p.length - 1) [])
theorem tagP_eq (s : S) : tagP s = tagW (wordsP s) := rfl
def txtTok (s : S) : List Tok := if s = [] then [] else [⟨1, s, []⟩]
def toksS : Nat → S → Option (List Tok)
  | 0, _ => none
  | n + 1, s =>
    if s = [] then some [] else
    if (Lib.cut s [123, 123]).2.2 = false then some (txtTok (Lib.cut s [123, 123]).1) else
    if (Lib.cut (Lib.cut s [123, 123]).2.1 [125, 125]).2.2 = false then none else
    match tagP (Lib.cut (Lib.cut s [123, 123]).2.1 [125, 125]).1 with
    | none => none
    | some t => match toksS n (Lib.cut (Lib.cut s [123, 123]).2.1 [125, 125]).2.1 with
      | none => none
      | some r => some (txtTok (Lib.cut s [123, 123]).1 ++ t :: r)
theorem cut_sizes (s : S) (c : UInt8) : (Lib.cut s [c, c]).1.length ≤ s.length ∧ (Lib.cut s [c, c]).2.1.length ≤ s.length ∧ ((Lib.cut s [c, c]).2.2 = true → (Lib.cut s [c, c]).2.1.length + 2 ≤ s.length) := by
  unfold Lib.cut
  split
  · rename_i h
    have := Lib.index_room s [c, c] h
    simp only [List.length_take, List.length_drop, List.length_cons, List.length_nil] at *
    refine ⟨by omega, by omega, fun _ => by omega⟩
  · simp
theorem ownP_lt (s : S) : ownP s < 256 := by
  unfold ownP
  repeat' split
  all_goals omega
theorem pathOf_some {s : S} {p : List S} (h : pathOf s = some p) : p = splitC 46 s ∧ pathP p = true := by
  unfold pathOf at h
  split at h
  · rename_i h2; cases h; exact ⟨rfl, h2⟩
  · cases h
theorem tagP_sm {s : S} {t : Tok} (h : tagP s = some t) (hs : s.length ≤ 1048575) : t.sm := by
  have hw := wordsP_size s
  unfold tagP at h
  split at h
  · cases h
  split at h
  · split at h
    · cases h; exact ⟨ownP_lt _, by simp, by simp, fun x hx => by simp at hx⟩
    · cases h
  split at h
  · cases h
  rename_i h1 h2 h3
  cases hp : pathOf ((wordsP s).getD ((wordsP s).length - 1) []) with
  | none => rw [hp] at h; cases h
  | some p =>
    rw [hp] at h
    cases h
    obtain ⟨rfl, _⟩ := pathOf_some hp
    have hx : ((wordsP s).getD ((wordsP s).length - 1) []).length ≤ s.length := by
      by_cases hl : (wordsP s).length - 1 < (wordsP s).length
      · refine hw.2 _ ?_
        have e : (wordsP s).getD ((wordsP s).length - 1) [] = (wordsP s)[(wordsP s).length - 1] := by simp [List.getD, hl]
        rw [e]; exact List.getElem_mem hl
      · have e : (wordsP s).getD ((wordsP s).length - 1) [] = [] := by simp [List.getD]; omega
        rw [e]; simp
    have hz := splitC_size 46 ((wordsP s).getD ((wordsP s).length - 1) [])
    exact ⟨ownP_lt _, by simp, by simp only; omega, fun x hx => by have := hz.2 x hx; omega⟩
theorem toksS_sm : ∀ (n : Nat) (s : S) (l : List Tok), toksS n s = some l → s.length ≤ 1048575 → (∀ x, x ∈ l → x.sm) ∧ l.length ≤ 2 * s.length := by
  intro n
  induction n with
  | zero => intro s l h; cases h
  | succ n ih =>
    intro s l h hs
    have c1 := cut_sizes s 123
    have c2 := cut_sizes (Lib.cut s [123, 123]).2.1 125
    unfold toksS at h
    split at h
    · cases h; exact ⟨fun x hx => by simp at hx, by simp⟩
    have ht : ∀ x, x ∈ txtTok (Lib.cut s [123, 123]).1 → x.sm := by
      intro x hx
      unfold txtTok at hx
      split at hx
      · simp at hx
      · simp only [List.mem_singleton] at hx
        subst hx
        exact ⟨show 1 < 256 by decide, by simp only; omega, by simp, fun y hy => by simp at hy⟩
    have hl : (txtTok (Lib.cut s [123, 123]).1).length ≤ 1 := by unfold txtTok; split <;> simp
    have hsl : 0 < s.length := by rename_i hne; cases s with | nil => exact absurd rfl hne | cons => simp
    split at h
    · cases h; exact ⟨ht, by omega⟩
    split at h
    · cases h
    rename_i hne h1 h2
    have hb1 : (Lib.cut s [123, 123]).2.2 = true := by simpa using h1
    have hb2 : (Lib.cut (Lib.cut s [123, 123]).2.1 [125, 125]).2.2 = true := by simpa using h2
    cases htg : tagP (Lib.cut (Lib.cut s [123, 123]).2.1 [125, 125]).1 with
    | none => rw [htg] at h; cases h
    | some t =>
      rw [htg] at h
      simp only at h
      cases hr : toksS n (Lib.cut (Lib.cut s [123, 123]).2.1 [125, 125]).2.1 with
      | none => rw [hr] at h; cases h
      | some r =>
        rw [hr] at h
        cases h
        have c3 := c1.2.2 hb1
        have c4 := c2.2.2 hb2
        obtain ⟨i1, i2⟩ := ih _ _ hr (by omega)
        have i3 := tagP_sm htg (by omega)
        refine ⟨fun x hx => ?_, by simp only [List.length_append, List.length_cons]; omega⟩
        rcases List.mem_append.1 hx with hx | hx
        · exact ht x hx
        · rcases List.mem_cons.1 hx with rfl | hx
          · exact i3
          · exact i1 x hx
theorem toksS_fuel : ∀ (n m : Nat) (s : S), s.length < n → s.length < m → toksS n s = toksS m s := by
  intro n
  induction n with
  | zero => intro m s h; omega
  | succ n ih =>
    intro m s h1 h2
    obtain ⟨m, rfl⟩ : ∃ q, m = q + 1 := ⟨m - 1, by omega⟩
    have c1 := cut_sizes s 123
    have c2 := cut_sizes (Lib.cut s [123, 123]).2.1 125
    unfold toksS
    split
    · rfl
    split
    · rfl
    split
    · rfl
    rename_i h3 h4
    have hb1 : (Lib.cut s [123, 123]).2.2 = true := by simpa using h3
    have hb2 : (Lib.cut (Lib.cut s [123, 123]).2.1 [125, 125]).2.2 = true := by simpa using h4
    rw [ih m _ (by have := c1.2.2 hb1; omega) (by have := c1.2.2 hb1; omega)]
end Go.Proofs.YtniibpndgcndbaaGreatDoor.Tpl
namespace Go.Proofs.YtniibpndgcndbaaGreatDoor.Tpl
open Go.RowKit Nodes
def headK (l : List Tok) : Nat := match l with | [] => 0 | t :: _ => t.k
def withP (f : List Tok → Option (Nodes × List Tok)) (k : Nat) (l : List Tok) : Option (Nodes × Nodes × List Tok) :=
  match f l with
  | none => none
  | some (a, r1) =>
    if k = 3 ∧ headK r1 = 4 then
      match f r1.tail with
      | none => none
      | some (b, r2) => if headK r2 = 6 then some (a, b, r2.tail) else none
    else if headK r1 = 6 then some (a, .nil, r1.tail) else none
def stops (k : Nat) : Bool := k == 4 || k == 6
def parN : Nat → List Tok → Option (Nodes × List Tok)
  | 0, _ => none
  | _ + 1, [] => some (.nil, [])
  | n + 1, t :: r =>
    if stops t.k = true then some (.nil, t :: r)
    else if t.k = 3 ∨ t.k = 5 then
      match withP (parN n) t.k r with
      | none => none
      | some (a, b, r1) => match parN n r1 with | none => none | some (rest, r2) => some (.cons t.k t.t t.p a b rest, r2)
    else match parN n r with | none => none | some (rest, r2) => some (.cons t.k t.t t.p .nil .nil rest, r2)
theorem withP_len {f : List Tok → Option (Nodes × List Tok)} {k : Nat} {l r : List Tok} {a b : Nodes} (hf : ∀ l nd r, f l = some (nd, r) → r.length ≤ l.length) (h : withP f k l = some (a, b, r)) : r.length ≤ l.length := by
  unfold withP at h
  cases h1 : f l with
  | none => rw [h1] at h; cases h
  | some x =>
    obtain ⟨a1, r1⟩ := x
    rw [h1] at h
    have l1 := hf _ _ _ h1
    simp only at h
    split at h
    · cases h2 : f r1.tail with
      | none => rw [h2] at h; cases h
      | some y =>
        obtain ⟨b1, r2⟩ := y
        rw [h2] at h
        have l2 := hf _ _ _ h2
        simp only at h
        split at h
        · cases h; simp only [List.length_tail] at *; omega
        · cases h
    · split at h
      · cases h; simp only [List.length_tail] at *; omega
      · cases h
theorem parN_len : ∀ n l nd r, parN n l = some (nd, r) → r.length ≤ l.length := by
  intro n
  induction n with
  | zero => intro l nd r h; cases h
  | succ n ih =>
    intro l nd r h
    cases l with
    | nil => cases h; simp
    | cons t q =>
      rw [parN] at h
      split at h
      · cases h; simp
      split at h
      · cases h1 : withP (parN n) t.k q with
        | none => rw [h1] at h; cases h
        | some x =>
          obtain ⟨a, b, r1⟩ := x
          rw [h1] at h
          have l1 := withP_len ih h1
          simp only at h
          cases h2 : parN n r1 with
          | none => rw [h2] at h; cases h
          | some y =>
            obtain ⟨c, r2⟩ := y
            rw [h2] at h
            have l2 := ih _ _ _ h2
            cases h; simp only [List.length_cons]; omega
      · cases h2 : parN n q with
        | none => rw [h2] at h; cases h
        | some y =>
          obtain ⟨c, r2⟩ := y
          rw [h2] at h
          have l2 := ih _ _ _ h2
          cases h; simp only [List.length_cons]; omega
theorem withP_congr {f g : List Tok → Option (Nodes × List Tok)} {k : Nat} {l : List Tok} (hf : ∀ l nd r, f l = some (nd, r) → r.length ≤ l.length) (h : ∀ q, q.length ≤ l.length → f q = g q) : withP f k l = withP g k l := by
  unfold withP
  rw [← h l (Nat.le_refl _)]
  cases h1 : f l with
  | none => rfl
  | some x =>
    obtain ⟨a1, r1⟩ := x
    have l1 := hf _ _ _ h1
    simp only
    rw [← h r1.tail (by simp only [List.length_tail]; omega)]
theorem parN_fuel : ∀ n m l, l.length < n → l.length < m → parN n l = parN m l := by
  intro n
  induction n with
  | zero => intro m l h; omega
  | succ n ih =>
    intro m l h1 h2
    obtain ⟨m, rfl⟩ : ∃ q, m = q + 1 := ⟨m - 1, by omega⟩
    cases l with
    | nil => rfl
    | cons t q =>
      simp only [List.length_cons] at h1 h2
      rw [parN, parN]
      have hw : withP (parN n) t.k q = withP (parN m) t.k q := withP_congr (parN_len n) (fun z hz => ih m z (by omega) (by omega))
      rw [hw, ih m q (by omega) (by omega)]
      split
      · rfl
      split
      · cases h3 : withP (parN m) t.k q with
        | none => rfl
        | some x =>
          obtain ⟨a, b, r1⟩ := x
          have l1 := withP_len (parN_len m) h3
          simp only
          rw [ih m r1 (by omega) (by omega)]
      · rfl
def parse (l : List Tok) : Option (Nodes × List Tok) := parN (l.length + 1) l
def within (k : Nat) (l : List Tok) : Option (Nodes × Nodes × List Tok) := withP parse k l
theorem parse_len {l r : List Tok} {nd : Nodes} (h : parse l = some (nd, r)) : r.length ≤ l.length := parN_len _ _ _ _ h
theorem within_len {k : Nat} {l r : List Tok} {a b : Nodes} (h : within k l = some (a, b, r)) : r.length ≤ l.length := withP_len (fun _ _ _ => parse_len) h
theorem parse_nil : parse [] = some (.nil, []) := rfl
theorem parse_cons (t : Tok) (r : List Tok) : parse (t :: r) = if stops t.k = true then some (.nil, t :: r)
    else if t.k = 3 ∨ t.k = 5 then
      match within t.k r with
      | none => none
      | some (a, b, r1) => match parse r1 with | none => none | some (rest, r2) => some (.cons t.k t.t t.p a b rest, r2)
    else match parse r with | none => none | some (rest, r2) => some (.cons t.k t.t t.p .nil .nil rest, r2) := by
  have hw : withP (parN (r.length + 1)) t.k r = within t.k r := withP_congr (parN_len _) (fun z hz => parN_fuel _ _ z (by omega) (by omega))
  unfold parse
  rw [List.length_cons, parN, hw]
  split
  · rfl
  split
  · cases h3 : within t.k r with
    | none => rfl
    | some x =>
      obtain ⟨a, b, r1⟩ := x
      have l1 := within_len h3
      simp only
      rw [parN_fuel (r.length + 1) (r1.length + 1) r1 (by omega) (by omega)]
  · rfl
theorem withP_cnt {f : List Tok → Option (Nodes × List Tok)} {k : Nat} {l r : List Tok} {a b : Nodes} (hf : ∀ l nd r, f l = some (nd, r) → nd.cnt + r.length ≤ l.length) (h : withP f k l = some (a, b, r)) : a.cnt + b.cnt + r.length ≤ l.length := by
  unfold withP at h
  cases h1 : f l with
  | none => rw [h1] at h; cases h
  | some x =>
    obtain ⟨a1, r1⟩ := x
    rw [h1] at h
    have l1 := hf _ _ _ h1
    simp only at h
    split at h
    · cases h2 : f r1.tail with
      | none => rw [h2] at h; cases h
      | some y =>
        obtain ⟨b1, r2⟩ := y
        rw [h2] at h
        have l2 := hf _ _ _ h2
        simp only at h
        split at h
        · cases h; simp only [List.length_tail] at *; omega
        · cases h
    · split at h
      · cases h; simp only [List.length_tail, Nodes.cnt] at *; omega
      · cases h
theorem parN_cnt : ∀ n l nd r, parN n l = some (nd, r) → nd.cnt + r.length ≤ l.length := by
  intro n
  induction n with
  | zero => intro l nd r h; cases h
  | succ n ih =>
    intro l nd r h
    cases l with
    | nil => cases h; simp [Nodes.cnt]
    | cons t q =>
      rw [parN] at h
      split at h
      · cases h; simp [Nodes.cnt]
      split at h
      · cases h1 : withP (parN n) t.k q with
        | none => rw [h1] at h; cases h
        | some x =>
          obtain ⟨a, b, r1⟩ := x
          rw [h1] at h
          have l1 := withP_cnt ih h1
          simp only at h
          cases h2 : parN n r1 with
          | none => rw [h2] at h; cases h
          | some y =>
            obtain ⟨c, r2⟩ := y
            rw [h2] at h
            have l2 := ih _ _ _ h2
            cases h; simp only [List.length_cons, Nodes.cnt]; omega
      · cases h2 : parN n q with
        | none => rw [h2] at h; cases h
        | some y =>
          obtain ⟨c, r2⟩ := y
          rw [h2] at h
          have l2 := ih _ _ _ h2
          cases h; simp only [List.length_cons, Nodes.cnt]; omega
theorem parse_cnt {l r : List Tok} {nd : Nodes} (h : parse l = some (nd, r)) : nd.cnt + r.length ≤ l.length := parN_cnt _ _ _ _ h
theorem within_cnt {k : Nat} {l r : List Tok} {a b : Nodes} (h : within k l = some (a, b, r)) : a.cnt + b.cnt + r.length ≤ l.length := withP_cnt (fun _ _ _ => parse_cnt) h
theorem withP_sub {f : List Tok → Option (Nodes × List Tok)} {k : Nat} {l r : List Tok} {a b : Nodes} (hf : ∀ l nd r, f l = some (nd, r) → ∀ x, x ∈ r → x ∈ l) (h : withP f k l = some (a, b, r)) : ∀ x, x ∈ r → x ∈ l := by
  unfold withP at h
  cases h1 : f l with
  | none => rw [h1] at h; cases h
  | some x =>
    obtain ⟨a1, r1⟩ := x
    rw [h1] at h
    have l1 := hf _ _ _ h1
    simp only at h
    split at h
    · cases h2 : f r1.tail with
      | none => rw [h2] at h; cases h
      | some y =>
        obtain ⟨b1, r2⟩ := y
        rw [h2] at h
        have l2 := hf _ _ _ h2
        simp only at h
        split at h
        · cases h; exact fun x hx => l1 x (List.mem_of_mem_tail (l2 x (List.mem_of_mem_tail hx)))
        · cases h
    · split at h
      · cases h; exact fun x hx => l1 x (List.mem_of_mem_tail hx)
      · cases h
theorem parN_sub : ∀ n l nd r, parN n l = some (nd, r) → ∀ x, x ∈ r → x ∈ l := by
  intro n
  induction n with
  | zero => intro l nd r h; cases h
  | succ n ih =>
    intro l nd r h
    cases l with
    | nil => cases h; exact fun x hx => hx
    | cons t q =>
      rw [parN] at h
      split at h
      · cases h; exact fun x hx => hx
      split at h
      · cases h1 : withP (parN n) t.k q with
        | none => rw [h1] at h; cases h
        | some x =>
          obtain ⟨a, b, r1⟩ := x
          rw [h1] at h
          have l1 := withP_sub ih h1
          simp only at h
          cases h2 : parN n r1 with
          | none => rw [h2] at h; cases h
          | some y =>
            obtain ⟨c, r2⟩ := y
            rw [h2] at h
            have l2 := ih _ _ _ h2
            cases h; exact fun x hx => List.mem_cons_of_mem _ (l1 x (l2 x hx))
      · cases h2 : parN n q with
        | none => rw [h2] at h; cases h
        | some y =>
          obtain ⟨c, r2⟩ := y
          rw [h2] at h
          have l2 := ih _ _ _ h2
          cases h; exact fun x hx => List.mem_cons_of_mem _ (l2 x hx)
theorem parse_sub {l r : List Tok} {nd : Nodes} (h : parse l = some (nd, r)) : ∀ x, x ∈ r → x ∈ l := parN_sub _ _ _ _ h
theorem within_sub {k : Nat} {l r : List Tok} {a b : Nodes} (h : within k l = some (a, b, r)) : ∀ x, x ∈ r → x ∈ l := withP_sub (fun _ _ _ => parse_sub) h
theorem withP_sm' {f : List Tok → Option (Nodes × List Tok)} {k : Nat} {l r : List Tok} {a b : Nodes} (hfl : ∀ l nd r, f l = some (nd, r) → r.length ≤ l.length) (hf : ∀ q nd z, f q = some (nd, z) → (∀ x, x ∈ q → x.sm) → q.length ≤ 1048576 → nd.sm ∧ (∀ x, x ∈ z → x.sm)) (hl : ∀ x, x ∈ l → x.sm) (hn : l.length ≤ 1048576) (h : withP f k l = some (a, b, r)) : a.sm ∧ b.sm ∧ ∀ x, x ∈ r → x.sm := by
  have ht : ∀ q : List Tok, (∀ x, x ∈ q → x.sm) → ∀ x, x ∈ q.tail → x.sm := fun q hq x hx => hq x (List.mem_of_mem_tail hx)
  unfold withP at h
  cases h1 : f l with
  | none => rw [h1] at h; cases h
  | some x =>
    obtain ⟨a1, r1⟩ := x
    rw [h1] at h
    obtain ⟨s1, t1⟩ := hf _ _ _ h1 hl hn
    have l1 := hfl _ _ _ h1
    simp only at h
    split at h
    · cases h2 : f r1.tail with
      | none => rw [h2] at h; cases h
      | some y =>
        obtain ⟨b1, r2⟩ := y
        rw [h2] at h
        obtain ⟨s2, t2⟩ := hf _ _ _ h2 (ht _ t1) (by simp only [List.length_tail]; omega)
        simp only at h
        split at h
        · cases h; exact ⟨s1, s2, ht _ t2⟩
        · cases h
    · split at h
      · cases h; exact ⟨s1, trivial, ht _ t1⟩
      · cases h
theorem parN_sm : ∀ n l nd r, parN n l = some (nd, r) → (∀ x, x ∈ l → x.sm) → l.length ≤ 1048576 → nd.sm ∧ (∀ x, x ∈ r → x.sm) := by
  intro n
  induction n with
  | zero => intro l nd r h; cases h
  | succ n ih =>
    intro l nd r h hl hn
    cases l with
    | nil => cases h; exact ⟨trivial, fun x hx => by simp at hx⟩
    | cons t q =>
      simp only [List.length_cons] at hn
      have hq : ∀ x, x ∈ q → x.sm := fun x hx => hl x (by simp [hx])
      obtain ⟨t1, t2, t3, t4⟩ := hl t (by simp)
      rw [parN] at h
      split at h
      · cases h; exact ⟨trivial, hl⟩
      split at h
      · cases h1 : withP (parN n) t.k q with
        | none => rw [h1] at h; cases h
        | some x =>
          obtain ⟨a, b, r1⟩ := x
          rw [h1] at h
          have hcn := withP_cnt (parN_cnt n) h1
          have hw := withP_sm' (parN_len n) (fun z nd y hz hs hm => ih z nd y hz hs hm) hq (by omega) h1
          simp only at h
          cases h2 : parN n r1 with
          | none => rw [h2] at h; cases h
          | some y =>
            obtain ⟨c, r2⟩ := y
            rw [h2] at h
            obtain ⟨s2, z2⟩ := ih _ _ _ h2 hw.2.2 (by omega)
            have la := len_cnt a
            have lb := len_cnt b
            cases h; exact ⟨⟨t1, t2, t3, t4, by omega, by omega, hw.1, hw.2.1, s2⟩, z2⟩
      · cases h2 : parN n q with
        | none => rw [h2] at h; cases h
        | some y =>
          obtain ⟨c, r2⟩ := y
          rw [h2] at h
          obtain ⟨s2, z2⟩ := ih _ _ _ h2 hq (by omega)
          cases h; exact ⟨⟨t1, t2, t3, t4, by simp [Nodes.len], by simp [Nodes.len], trivial, trivial, s2⟩, z2⟩
theorem parse_sm {l r : List Tok} {nd : Nodes} (h : parse l = some (nd, r)) (hl : ∀ x, x ∈ l → x.sm) (hn : l.length ≤ 1048576) : nd.sm ∧ (∀ x, x ∈ r → x.sm) := parN_sm _ _ _ _ h hl hn
def nodesP (l : List Tok) : Except Int Nodes :=
  if toksP l = false then .error 2 else
  match parse l with
  | none => .error 7
  | some (nd, r) => if r ≠ [] then .error 7 else if nd.fitsP = true then .ok nd else .error 11
def parseS (s : S) : Except Int Nodes :=
  if 1024 < s.length then .error 12 else
  match toksS (s.length + 1) s with
  | none => .error 7
  | some l => nodesP l
end Go.Proofs.YtniibpndgcndbaaGreatDoor.Tpl
namespace Go.Proofs.YtniibpndgcndbaaGreatDoor.Tpl
open Go.RowKit Nodes
def pathsP (l : Nodes) : Bool := l.toks.any fun t => !t.p.isEmpty
theorem pathOf_ne {s : S} {p : List S} (h : pathOf s = some p) : p.isEmpty = false := by
  obtain ⟨rfl, _⟩ := pathOf_some h
  have := splitC_ne 46 s
  cases hs : splitC 46 s with
  | nil => exact absurd hs this
  | cons => rfl
theorem tagP_kind {s : S} {t : Tok} (h : tagP s = some t) : stops t.k = true ∨ t.p.isEmpty = false := by
  rw [tagP_eq] at h
  unfold tagW tagX at h
  split at h
  · cases h
  unfold tagY at h
  split at h
  · split at h
    · cases h
      rename_i hk _
      left
      rcases hk with hk | hk <;> (show stops (ownP _) = true; rw [hk]; rfl)
    · cases h
  · split at h
    · cases h
    · split at h
      · cases h
      · cases h
        rename_i hq
        exact .inr (pathOf_ne hq)
theorem parse_head {t : Tok} {r : List Tok} {nd : Nodes} (h : parse (t :: r) = some (nd, [])) : stops t.k = false ∧ ∃ a b q, nd = cons t.k t.t t.p a b q := by
  rw [parse_cons] at h
  split at h
  · cases h
  · rename_i hs
    refine ⟨by simpa using hs, ?_⟩
    split at h
    · cases h1 : within t.k r with
      | none => rw [h1] at h; cases h
      | some x =>
        obtain ⟨a, b, r1⟩ := x
        rw [h1] at h
        simp only at h
        cases h2 : parse r1 with
        | none => rw [h2] at h; cases h
        | some y => obtain ⟨q, r2⟩ := y; rw [h2] at h; cases h; exact ⟨_, _, _, rfl⟩
    · cases h2 : parse r with
      | none => rw [h2] at h; cases h
      | some y => obtain ⟨q, r2⟩ := y; rw [h2] at h; cases h; exact ⟨_, _, _, rfl⟩
theorem paths_tag {t : Tok} {r : List Tok} {nd : Nodes} (ht : stops t.k = true ∨ t.p.isEmpty = false) (h : parse (t :: r) = some (nd, [])) : pathsP nd = true := by
  obtain ⟨h1, a, b, q, rfl⟩ := parse_head h
  rcases ht with ht | ht
  · rw [h1] at ht; cases ht
  · unfold pathsP
    simp [toks, ht]
theorem nodesP_ok {l : List Tok} {nd : Nodes} (h : nodesP l = .ok nd) : parse l = some (nd, []) ∧ nd.fitsP = true := by
  unfold nodesP at h
  split at h
  · cases h
  cases h1 : parse l with
  | none => rw [h1] at h; cases h
  | some x =>
    obtain ⟨n, r⟩ := x
    rw [h1] at h
    simp only at h
    split at h
    · cases h
    · split at h
      · cases h
        rename_i hr hf
        have hr' : r = [] := by simpa using hr
        subst hr'
        exact ⟨rfl, hf⟩
      · cases h
theorem parseS_ok {s : S} {nd : Nodes} (h : parseS s = .ok nd) : s.length ≤ 1024 ∧ nd.sm ∧ nd.len ≤ 1048576 ∧ nd.cnt ≤ 1048576 := by
  unfold parseS at h
  split at h
  · cases h
  rename_i hl
  cases h1 : toksS (s.length + 1) s with
  | none => rw [h1] at h; cases h
  | some l =>
    rw [h1] at h
    obtain ⟨h2, h3⟩ := nodesP_ok h
    obtain ⟨h4, h5⟩ := toksS_sm _ _ _ h1 (by omega)
    have h6 := (parse_sm h2 h4 (by omega)).1
    have h7 : nd.cnt ≤ 256 := by
      unfold fitsP at h3
      simp only [Bool.and_eq_true, decide_eq_true_eq] at h3
      exact h3.2
    have h8 := len_cnt nd
    exact ⟨by omega, h6, by omega, by omega⟩
theorem cut_none (s p : S) (h : (Lib.cut s p).2.2 = false) : (Lib.cut s p).1 = s := by
  unfold Lib.cut at h ⊢
  split
  · rename_i hi; rw [if_pos hi] at h; cases h
  · rfl
theorem plain_src {s : S} {nd : Nodes} (h : parseS s = .ok nd) (hp : pathsP nd = false) : (s = [] ∧ nd = nil) ∨ nd = cons 1 s [] nil nil nil := by
  unfold parseS at h
  split at h
  · cases h
  cases h1 : toksS (s.length + 1) s with
  | none => rw [h1] at h; cases h
  | some l =>
    rw [h1] at h
    obtain ⟨h2, h3⟩ := nodesP_ok h
    unfold toksS at h1
    split at h1
    · rename_i hs
      cases h1
      rw [parse_nil] at h2
      cases h2
      exact .inl ⟨hs, rfl⟩
    rename_i hs
    split at h1
    · rename_i hc
      rw [cut_none _ _ hc] at h1
      unfold txtTok at h1
      rw [if_neg hs] at h1
      cases h1
      rw [parse_cons, parse_nil] at h2
      simp [stops] at h2
      exact .inr h2.symm
    split at h1
    · cases h1
    cases ht : tagP (Lib.cut (Lib.cut s [123, 123]).2.1 [125, 125]).1 with
    | none => rw [ht] at h1; cases h1
    | some t =>
      rw [ht] at h1
      simp only at h1
      cases hr : toksS s.length (Lib.cut (Lib.cut s [123, 123]).2.1 [125, 125]).2.1 with
      | none => rw [hr] at h1; cases h1
      | some r =>
        rw [hr] at h1
        have hk := tagP_kind ht
        have h1' : txtTok (Lib.cut s [123, 123]).1 ++ t :: r = l := Option.some.inj h1
        clear h1
        unfold txtTok at h1'
        by_cases hb : (Lib.cut s [123, 123]).1 = []
        · rw [if_pos hb, List.nil_append] at h1'
          subst h1'
          have := paths_tag hk h2
          rw [this] at hp; cases hp
        · rw [if_neg hb] at h1'
          subst h1'
          rw [List.singleton_append, parse_cons] at h2
          simp only [stops] at h2
          rw [if_neg (by decide), if_neg (by decide)] at h2
          cases h4 : parse (t :: r) with
          | none => rw [h4] at h2; cases h2
          | some y =>
            obtain ⟨q, r2⟩ := y
            rw [h4] at h2
            cases h2
            have := paths_tag hk h4
            have h5 : pathsP (cons 1 (Lib.cut s [123, 123]).1 [] nil nil q) = true := by
              unfold pathsP at this ⊢
              simp only [toks, List.any_cons]
              simpa using this
            rw [h5] at hp; cases hp
theorem plain_fill (T : Nat → S → S) {s : S} {nd : Nodes} {v : Val} (h : parseS s = .ok nd) (hp : pathsP nd = false) (hc : nd.chk = true) (hv : v.ok = true) : FillP T nd v 2 = .ok s := by
  have hl := (parseS_ok h).1
  unfold FillP
  rw [if_pos ⟨hc, hv⟩, if_pos (by decide)]
  rcases plain_src h hp with ⟨rfl, rfl⟩ | rfl
  · rfl
  · rw [fillP_cons]
    unfold oneP
    have h1 : ¬ ((s.length : Int) > mostC 2 - (([] : S).length : Int)) := by
      show ¬ ((s.length : Int) > 2048 - ((0 : Nat) : Int)); omega
    rw [if_neg (by decide), if_pos rfl]
    unfold addP
    simp only [if_true]
    rw [if_neg (by simpa using h1)]
    rfl
end Go.Proofs.YtniibpndgcndbaaGreatDoor.Tpl
namespace Go.Proofs.YtniibpndgcndbaaGreatDoor.Tpl
open Go.RowKit Go.Proofs Go.Shelf Go.Proofs.YtniibpndgcndbaaGreatDoor.PB Go.Proofs.YtniibpndgcndbaaGreatDoor.Short Go.Proofs.YtniibpndgcndbaaGreatDoorW.PrintWords Go.Proofs.YtniibpndgcndbaaGreatDoorW.PrintLast Go.Proofs.YtniibpndgcndbaaGreatDoorW.PrintMore Nodes
def RdS (w : World) (A : Option Addr) (c : Nat) (p : List S) : Prop := Kd.string.C w A p.length (p.map bs) ∧ p.length ≤ c
end Go.Proofs.YtniibpndgcndbaaGreatDoor.Tpl
namespace Go.Proofs.YtniibpndgcndbaaGreatDoor.Tpl
open Go.RowKit Go.Proofs Go.Proofs.YtniibpndgcndbaaGreatDoor.PB Go.Proofs.YtniibpndgcndbaaGreatDoor.Short Go.Proofs.YtniibpndgcndbaaGreatDoorW.PrintWords Go.Proofs.YtniibpndgcndbaaGreatDoorW.PrintLast Go.Proofs.YtniibpndgcndbaaGreatDoorW.PrintMore Nodes
attribute [local go_sem ↓] Go.wp_at_zero Go.wp_at_succ
theorem lit_R (xs : List ByteArray) (W : World) (base : Nat) (ok : Nat → Prop) (h : base ≤ W.heap.size) (hx : xs.length ≤ 1048576) (hok : ok W.heap.size) : Kd.string.R 9 (W.alloc (.cells (xs.map Value.string).toArray 9)) base ok (.slice (some ⟨W.heap.size, 0, none⟩) xs.length xs.length) xs := by
  refine Kd.R_of_own ?_ (fun k hk => by simp [Value.ownBlock] at hk; subst hk; exact hok)
  have h2 := World.ownsRow_lit (base := base) (e := 9) (size := 1) W (xs.map Value.string).toArray xs.length h (by simp [maxLen]; omega) (by simp)
  simpa [encs] using h2
theorem C_drop {w : World} {b off n i : Nat} {l : List ByteArray} (h : Kd.string.C w (some ⟨b, off, none⟩) n l) (hi : i ≤ n) : Kd.string.C w (some ⟨b, off + i, none⟩) (n - i) (l.drop i) := by
  have hl := h.1
  refine ⟨by rw [List.length_drop]; omega, by have := h.2.1; omega, fun h0 => ?_⟩
  obtain ⟨ad, e, hc⟩ := h.2.2 (by omega)
  cases e
  refine ⟨_, rfl, fun j x hj => ?_⟩
  rw [List.getElem?_drop] at hj
  obtain ⟨cs, h1, h2, h3⟩ := hc (i + j) x hj
  refine ⟨cs, h1, h2, fun q v hv => ?_⟩
  have := h3 q v hv
  rw [← this]
  congr 1
  simp only [show Kd.string.sz = 1 from rfl, Nat.mul_one, Addr.add]
  split <;> split <;> (try split) <;> simp_all <;> omega
theorem RdS.below {w w1 : World} {A : Option Addr} {c : Nat} {p : List S} (h : RdS w A c p) (hb : Below w.heap.size w w1) : RdS w1 A c p := ⟨Kd.C_below h.1 hb, h.2⟩
theorem C_none (w : World) (A : Option Addr) (m : Nat) (h : m = 0) : Kd.string.C w A m [] := by
  subst h; exact ⟨rfl, by simp, fun h => absurd h (Nat.lt_irrefl 0)⟩
end Go.Proofs.YtniibpndgcndbaaGreatDoor.Tpl
namespace Go.Proofs.YtniibpndgcndbaaGreatDoor.Tpl
open Go.RowKit Go.Proofs Go.Proofs.YtniibpndgcndbaaGreatDoor.PB Go.Proofs.YtniibpndgcndbaaGreatDoor.Short Go.Proofs.YtniibpndgcndbaaGreatDoorW.PrintWords Go.Proofs.YtniibpndgcndbaaGreatDoorW.PrintLast Go.Proofs.YtniibpndgcndbaaGreatDoorW.PrintMore Nodes
theorem cellS {w : World} {A : Option Addr} {c : Nat} {p : List S} (hR : RdS w A c p) (i : Nat) (hi : i < p.length) : ∃ b off, A = some ⟨b, off, none⟩ ∧ w.cell? ⟨b, off + i, none⟩ = some (.string (bs (p.getD i []))) := by
  obtain ⟨b, off, e, hc⟩ := row_form (p := p.map bs) (by simpa using hR.1) (by simp; omega)
  refine ⟨b, off, e, ?_⟩
  rw [hc i (by simpa using hi)]
  simp [List.getD, hi]
end Go.Proofs.YtniibpndgcndbaaGreatDoor.Tpl
namespace Go.Proofs.YtniibpndgcndbaaGreatDoor.Tpl
open Go.RowKit Go.Proofs Go.Proofs.YtniibpndgcndbaaGreatDoor.PB Go.Proofs.YtniibpndgcndbaaGreatDoor.Short Go.Proofs.YtniibpndgcndbaaGreatDoorW.PrintWords Go.Proofs.YtniibpndgcndbaaGreatDoorW.PrintLast Go.Proofs.YtniibpndgcndbaaGreatDoorW.PrintMore Nodes
attribute [local go_sem ↓] Go.wp_at_zero Go.wp_at_succ
theorem map_bs_data (l : List ByteArray) (q : List S) (h : l.map (·.data.toList) = q) : l = q.map bs := by
  subst h
  rw [List.map_map]
  conv => lhs; rw [← List.map_id l]
  refine List.map_congr_left fun x _ => ?_
  rfl
theorem split_any (c : UInt8) (s : S) (hs : s.length ≤ 1048576) (w : World) (hG : Glob w) :
    Calls Tryz.prog 140 #[.string (bs s), .string ⟨#[c]⟩] w fun e w' => e = .returned (.slice (some ⟨w.heap.size, 0, none⟩) (splitC c s).length (splitC c s).length) ∧ w' = w.alloc (.cells (((splitC c s).map bs).map Value.string).toArray 9) := by
  obtain ⟨⟨m, hm⟩, _⟩ := hG
  have h := Tryz.strings_Split (bs s) ⟨#[c]⟩ m w (by rw [bs_size]; omega) hm (by simp [ByteArray.size])
  have e1 : Lib.countB (bs s) ⟨#[c]⟩ = Lib.count s [c] := rfl
  have e2 : Lib.splitB ⟨#[c]⟩ 0 (Lib.countB (bs s) ⟨#[c]⟩) (bs s) = (splitC c s).map bs := map_bs_data _ _ (by rw [Lib.splitB_data, e1]; exact split_C c s)
  have e3 : Lib.countB (bs s) ⟨#[c]⟩ + 1 = (splitC c s).length := by
    have := Lib.splitB_all ⟨#[c]⟩ (by simp [ByteArray.size]) 0 _ (bs s) rfl
    rw [← this, e2, List.length_map]
  rw [e3, e2] at h
  exact h
theorem eg_tag : ∀ args w, (callFunc 141 args).run Tryz.prog w = .ok (.enter 141 args) w := enters_of Tryz.func141 (by kernel_rfl) rfl
theorem is_empty (s : S) (W : World) : FnGives Tryz.prog 141 #[] #[.string (bs s)] (.bool s.isEmpty) W := by
  unfold FnGives
  have e0 : (bs s).toList.isEmpty = s.isEmpty := by rw [bs_list]
  generalize s.isEmpty = q at *
  go_enter Tryz.func141, Tryz.ntmps141
  go_wp2
  go_ret
  exact ⟨by simp, 0, rfl⟩
theorem zero_str : ∀ w : World, (zeroValue 9).run Tryz.prog w = .ok (.string (bs [])) w := fun _ => by kernel_rfl
theorem putRow_below {α : Type} [Inhabited α] (enc : α → Value) (w : World) (blk off : Nat) (d : Array α) {B : Nat} (h : B ≤ blk) : Below B w (Go.Sort.putRow enc w blk off d) := by
  refine ⟨rfl, rfl, rfl, by rw [Go.Sort.size_putRow]; exact Nat.le_refl _, fun i hi => ?_⟩
  unfold Go.Sort.putRow Go.Sort.mapBlock
  show (w.heap.modify blk _)[i]? = _
  rw [Array.getElem?_modify, if_neg (by omega)]
theorem C_of_cells {w : World} {b off : Nat} {l : List S} (hl : l.length ≤ 1048577) (h : ∀ j, j < l.length → w.cell? ⟨b, off + j, none⟩ = some (.string (bs (l.getD j [])))) : Kd.string.C w (some ⟨b, off, none⟩) l.length (l.map bs) := by
  refine Kd.C_of_reads (enc := Value.string) (d := ByteArray.empty) (h1 := fun _ => rfl) ⟨by simp, by omega, fun _ => ⟨_, rfl, fun j hj => ?_⟩⟩
  have e : (Addr.add ⟨b, off, none⟩ j) = ⟨b, off + j, none⟩ := by unfold Addr.add; split <;> simp_all
  rw [e, h j hj]
  simp [List.getD, hj]
theorem holds_blk {g : Nat} {p : List S} {w : World} (hb : w.heap[g]? = some (.cells ((p.map bs).map Value.string).toArray 9 (0, 0))) : Go.Sort.Holds (fun s : S => Value.string (bs s)) w g 0 p.toArray := by
  intro j hj
  have hj' : j < p.length := by simpa using hj
  rw [Nat.zero_add]
  refine ⟨(blk_cell hb j).trans ?_, blk_frozen hb j⟩
  rw [getElem!_pos p.toArray j hj]
  simp [hj']
theorem filt_get (p : List S) (f : S → Bool) (n j : Nat) (h : j < (p.filter f).length) : ((p.filter f ++ List.replicate n []).toArray)[j]! = (p.filter f).getD j [] := by
  rw [getElem!_pos _ j (by simp; omega)]
  simp [List.getD, h, List.getElem_append_left h]
theorem delete_any (g : Nat) (p : List S) (w : World) (B : Nat) (hB : B ≤ g) (hb : w.heap[g]? = some (.cells ((p.map bs).map Value.string).toArray 9 (0, 0))) (hp : p.length ≤ 1048577) :
    Calls Tryz.prog 139 #[.slice (some ⟨g, 0, none⟩) p.length p.length, .func (.func 141) #[] #[]] w fun e w' => e = .returned (.slice (some ⟨g, 0, none⟩) (p.filter fun x => !x.isEmpty).length p.length) ∧ RdS w' (some ⟨g, 0, none⟩) p.length (p.filter fun x => !x.isEmpty) ∧ Below B w w' := by
  have h := Tryz.slices_DeleteFunc (fun s : S => Value.string (bs s)) (fun _ => rfl) (fun s => s.isEmpty) 141 #[] eg_tag [] zero_str g 0 p.length p.toArray w (fun W x _ => is_empty x W) (fun _ _ _ x _ => is_empty x _) (holds_blk hb) (by simp; omega) (by simp)
  simp only [List.size_toArray] at h
  refine h.mono ?_
  rintro e w' ⟨rfl, q, rfl⟩
  have hlen : (p.filter fun x => !x.isEmpty).length ≤ p.length := List.length_filter_le _ _
  have hsz : ((p.filter fun x => !x.isEmpty) ++ List.replicate (p.length - (p.filter fun x => !x.isEmpty).length) ([] : S)).toArray.size = p.toArray.size := by simp; omega
  refine ⟨by simp, ⟨C_of_cells (by omega) (fun j hj => ?_), hlen⟩, ?_⟩
  · have h2 := Go.Sort.cell?_putRow (fun s : S => Value.string (bs s)) (Go.Sort.ahead w q) g 0 p.toArray _ (holds_blk hb) hsz j (by rw [hsz]; simp; omega)
    rw [filt_get p _ _ j hj] at h2
    exact h2
  · exact Below.trans (b := Go.Sort.ahead w q) ⟨rfl, rfl, rfl, Nat.le_refl _, fun _ _ => rfl⟩ (putRow_below _ _ _ _ _ hB)
def RowIf (b : Bool) (w' : World) (base : Nat) (v : Value) (p : List S) : Prop := b = true → ∃ A c, v = .slice A p.length c ∧ Kd.string.R 9 w' base (fun k => base ≤ k) v (p.map bs)
theorem RowIf.no {w' : World} {base : Nat} {v : Value} {p : List S} : RowIf false w' base v p := fun h => by cases h
theorem RowIf.yes {b : Bool} {w' : World} {base : Nat} {A : Option Addr} {n c : Nat} {p : List S} (hn : p.length = n) (h : Kd.string.R 9 w' base (fun k => base ≤ k) (.slice A n c) (p.map bs)) : RowIf b w' base (.slice A n c) p := fun _ => ⟨A, c, by rw [hn], h⟩
theorem path_any (s : S) (hs : s.length ≤ 1048575) (w : World) (hG : Glob w) :
    Calls Tryz.prog 143 #[.string (bs s)] w fun e w' => ∃ v, e = .returned (.tuple #[v, .int .i64 (if pathP (splitC 46 s) = true then 0 else 13)]) ∧ RowIf (pathP (splitC 46 s)) w' w.heap.size v (splitC 46 s) ∧ Below w.heap.size w w' := by
  have h := split_any 46 s (by omega) w hG
  have hz := splitC_size 46 s
  generalize splitC 46 s = p at *
  have hl : p.length ≤ 1048576 := by omega
  have hR := lit_R (p.map bs) w w.heap.size (fun k => w.heap.size ≤ k) (Nat.le_refl _) (by simpa using hl) (Nat.le_refl _)
  rw [List.length_map] at hR
  have hr := right_any (some ⟨w.heap.size, 0, none⟩) p.length p (w.alloc (.cells ((p.map bs).map Value.string).toArray 9)) (by have := (Kd.R_reads' hR).2.2; simpa using this) hl (fun x hx => by have := hz.2 x hx; omega)
  have HR := Aside0.mk hR
  clear hR hG hz
  have hB := Aside0.mk (below_alloc (Below.refl w.heap.size w) (.cells ((p.map bs).map Value.string).toArray 9))
  generalize w.heap.size = g at *
  generalize w.alloc (.cells ((p.map bs).map Value.string).toArray 9) = W at *
  generalize pathP p = b at *
  have hN := Aside0.mk hl
  clear hl
  obtain ⟨n, hn⟩ : ∃ n, p.length = n := ⟨_, rfl⟩
  rw [hn] at h hr HR
  have HNN := Aside0.mk hn
  clear hn
  cases b
  all_goals
    go_enter Tryz.func143, Tryz.ntmps143
    go_wp2_with fail
    refine h.mono ?_
    rintro e w1 ⟨rfl, rfl⟩
    go_wp2_with fail
    refine hr.mono ?_
    rintro e w2 ⟨rfl, ⟨q, rfl⟩⟩
    go_wp2
    go_ret2
    first
      | exact ⟨_, rfl, RowIf.no, pw_below_drewN hB.out q⟩
      | exact ⟨_, rfl, RowIf.yes HNN.out (Kd.R_drewN HR.out q), pw_below_drewN hB.out q⟩
end Go.Proofs.YtniibpndgcndbaaGreatDoor.Tpl
namespace Go.Proofs.YtniibpndgcndbaaGreatDoor.Tpl
open Go.RowKit Go.Proofs Go.Proofs.YtniibpndgcndbaaGreatDoor.PB Go.Proofs.YtniibpndgcndbaaGreatDoor.Short Go.Proofs.YtniibpndgcndbaaGreatDoorW.PrintWords Go.Proofs.YtniibpndgcndbaaGreatDoorW.PrintLast Go.Proofs.YtniibpndgcndbaaGreatDoorW.PrintMore Nodes
theorem blk3 {W : World} {g t : Nat} {a0 a1 a2 b0 b1 b2 : Value} (h : W.heap[g]? = some (.cells #[a0, a1, a2] t (0, 0))) : (((W.setCell ⟨g, 0, none⟩ b0).setCell ⟨g, 1, none⟩ b1).setCell ⟨g, 2, none⟩ b2).heap[g]? = some (.cells #[b0, b1, b2] t (0, 0)) := blk_put (blk_put (blk_put h 0 _ rfl) 1 _ rfl) 2 _ rfl
theorem below3 {w W : World} {g : Nat} {b0 b1 b2 : Value} (h : Below w.heap.size w W) (hg : w.heap.size ≤ g) : Below w.heap.size w (((W.setCell ⟨g, 0, none⟩ b0).setCell ⟨g, 1, none⟩ b1).setCell ⟨g, 2, none⟩ b2) := below_set (below_set (below_set h hg) hg) hg
theorem below_ahead' (w : World) (q : Nat) : Below w.heap.size w (w.drewN q) := pw_below_drewN (Below.refl _ _) q
def TokRet (o : Option Tok) (e : Ending) (w' : World) (base : Nat) : Prop :=
  match o with
  | none => e = .returned (.tuple #[.agg #[.int .u8 0, .string ⟨#[]⟩, .slice none 0 0], .int .i64 7])
  | some t => ∃ A c, e = .returned (.tuple #[.agg #[.int .u8 t.k, .string (bs t.t), .slice A t.p.length c], .int .i64 0]) ∧ Kd.string.R 9 w' base (fun k => base ≤ k) (.slice A t.p.length c) (t.p.map bs)
theorem R_set3 {W : World} {g : Nat} {b0 b1 b2 : Value} {base : Nat} {ok : Nat → Prop} {v : Value} {l : List ByteArray} {a0 a1 a2 : Value} (h : Kd.string.R 9 W base ok v l) (hb : W.heap[g]? = some (.cells #[a0, a1, a2] 101 (0, 0))) :
    Kd.string.R 9 (((W.setCell ⟨g, 0, none⟩ b0).setCell ⟨g, 1, none⟩ b1).setCell ⟨g, 2, none⟩ b2) base ok v l := by
  have hne : ∀ q, q ∈ 9 :: Kd.string.E → q ≠ 101 := by decide
  have h1 := Kd.R_set h hb hne 0 b0
  have h2 := Kd.R_set h1 (blk_put hb 0 b0 rfl) hne 1 b1
  exact Kd.R_set h2 (blk_put (blk_put hb 0 b0 rfl) 1 b1 rfl) hne 2 b2
set_option maxHeartbeats 4000000 in
set_option maxRecDepth 100000 in
theorem tag_any (s : S) (hs : s.length ≤ 1048575) (w : World) (hG : Glob w) :
    Calls Tryz.prog 95 #[.string (bs s)] w fun e w' => TokRet (tagP s) e w' w.heap.size ∧ Below w.heap.size w w' := by
  obtain ⟨o, ho⟩ : ∃ o, tagP s = o := ⟨_, rfl⟩
  rw [ho]
  rw [tagP_eq] at ho
  have HO := Aside0.mk ho
  clear ho
  have hwsz := wordsP_size s
  have hsz32 := splitC_size 32 s
  have hsp := fun W (hW : Glob W) => split_any 32 s (by omega) W hW
  have HG := Aside0.mk hG
  clear hG
  go_enter Tryz.func95, Tryz.ntmps95
  go_wp2_with fail
  have hB0 := Aside0.mk (below_alloc (Below.refl w.heap.size w) (.cells #[.int .u8 0, .string ⟨#[]⟩, .slice none 0 0] 101))
  have BK0 := Aside0.mk (blk_new w (.cells #[.int .u8 0, .string ⟨#[]⟩, .slice none 0 0] 101))
  have hgt : w.heap.size < (w.alloc (.cells #[.int .u8 0, .string ⟨#[]⟩, .slice none 0 0] 101)).heap.size := by simp
  generalize w.alloc (.cells #[.int .u8 0, .string ⟨#[]⟩, .slice none 0 0] 101) = W0 at hB0 BK0 hgt ⊢
  obtain ⟨g, hg⟩ : ∃ g, w.heap.size = g := ⟨_, rfl⟩
  rw [hg] at BK0 hgt ⊢
  have hge : w.heap.size ≤ g := Nat.le_of_eq hg
  clear hg
  refine (hsp W0 (HG.out.below hB0.out)).mono ?_
  rintro e W1 ⟨rfl, rfl⟩
  have hB1 := Aside0.mk (below_alloc hB0.out (.cells (((splitC 32 s).map bs).map Value.string).toArray 9))
  have BK1 := Aside0.mk (blk_alloc BK0.out (.cells (((splitC 32 s).map bs).map Value.string).toArray 9))
  have hdel := delete_any W0.heap.size (splitC 32 s) (W0.alloc (.cells (((splitC 32 s).map bs).map Value.string).toArray 9)) (g + 1) hgt (blk_new W0 _) (by omega)
  rw [show (splitC 32 s).filter (fun x => !x.isEmpty) = wordsP s from rfl] at hdel
  clear hB0 BK0 hsp
  generalize W0.alloc (.cells (((splitC 32 s).map bs).map Value.string).toArray 9) = W1 at hB1 BK1 hdel ⊢
  generalize (splitC 32 s).length = n1 at *
  go_wp2_with fail
  refine hdel.mono ?_
  rintro e W2 ⟨rfl, hRd, hb2⟩
  have hB2 := Aside0.mk (hB1.out.trans (hb2.mono (by omega)))
  have BK2 := Aside0.mk ((hb2.block g (by omega)).trans BK1.out)
  clear hB1 BK1 hb2 hdel
  generalize wordsP s = p at *
  obtain ⟨z0, z1, z2, f0, f1, f2⟩ := cells_3 BK2.out
  by_cases h0 : p.length = 0
  · obtain rfl : o = none := by rw [← HO.out]; unfold tagW tagX; rw [if_pos (.inl h0)]
    have e0 : ((p.length : Int) == 0) = true := by rw [beq_iff_eq]; omega
    clear h0
    go_wp2
    refine bodyPost_ret (results_ct rfl _ _ g 101 #[.int .u8 0, .string ⟨#[]⟩, .slice none 0 0] (0, 0) _ rfl (blk3 BK2.out) Tryz.underlying101 rfl (by kernel_rfl)) rfl ?_
    exact ⟨rfl, below3 hB2.out hge⟩
  have e0 : ((p.length : Int) == 0) = false := by rw [beq_eq_false_iff_ne]; omega
  by_cases h2 : 2 < p.length
  · obtain rfl : o = none := by rw [← HO.out]; unfold tagW tagX; rw [if_pos (.inr h2)]
    have e2 : decide ((2 : Int) < (p.length : Int)) = true := by rw [decide_eq_true_eq]; omega
    have e3 : decide (2 < p.length) = true := by rw [decide_eq_true_eq]; omega
    clear h0 h2
    go_wp2
    refine bodyPost_ret (results_ct rfl _ _ g 101 #[.int .u8 0, .string ⟨#[]⟩, .slice none 0 0] (0, 0) _ rfl (blk3 BK2.out) Tryz.underlying101 rfl (by kernel_rfl)) rfl ?_
    exact ⟨rfl, below3 hB2.out hge⟩
  have e2 : decide ((2 : Int) < (p.length : Int)) = false := by rw [decide_eq_false_iff_not]; omega
  have e3 : decide (2 < p.length) = false := by rw [decide_eq_false_iff_not]; omega
  obtain ⟨b, off, hA, hc0⟩ := cellS hRd 0 (by omega)
  cases hA
  obtain ⟨b, off, hA, hc1⟩ := cellS hRd (p.length - 1) (by omega)
  cases hA
  have hl1 : (0 : Int) ≤ (p.length : Int) - 1 := by omega
  have hl2 : (p.length : Int) - 1 < (p.length : Int) := by omega
  have hl3 : 0 < p.length := by omega
  have hx0 : (p.getD (p.length - 1) []).length ≤ s.length := by
    have hlt : p.length - 1 < p.length := by omega
    have e : p.getD (p.length - 1) [] = p[p.length - 1] := by simp [List.getD, hlt]
    rw [e]; exact hwsz.2 _ (List.getElem_mem _)
  replace hc0 : W2.cell? ⟨W0.heap.size, 0, none⟩ = some (.string (bs (p.getD 0 []))) := hc0
  replace hc1 : W2.cell? ⟨W0.heap.size, p.length - 1, none⟩ = some (.string (bs (p.getD (p.length - 1) []))) := by rw [← Nat.zero_add (p.length - 1)]; simpa using hc1
  have HO2 : tagX p.length (p.getD 0 []) (p.getD (p.length - 1) []) = o := HO.out
  generalize p.getD 0 [] = x0 at *
  generalize p.getD (p.length - 1) [] = x1 at *
  have hn12 : p.length = 1 ∨ p.length = 2 := by omega
  clear hwsz hsz32 hRd HO h0 h2
  generalize p.length = n at *
  have hown := ownP_lt x0
  go_wp2_with fail
  refine (scan_own.calls 5 (bs x0) _ _ (own_f _)).mono ?_
  rintro e W3 ⟨rfl, ⟨q3, rfl⟩⟩
  have hbD := below_ahead' W2 q3
  have hB := Aside0.mk (below_step hB2.out hbD)
  have BK := Aside0.mk (blk_below BK2.out hbD)
  have HGD := Aside0.mk (HG.out.below hB.out)
  replace hc1 := pw_cell_below hbD hc1
  generalize W2.drewN q3 = W at *
  clear hB2 BK2 z0 z1 z2 f0 f1 f2 hbD HG hc0
  obtain ⟨z0, z1, z2, f0, f1, f2⟩ := cells_3 BK.out
  have HT : o = tagY n x0 x1 := by rw [← HO2, tagX, if_neg (by omega)]
  unfold tagY at HT
  clear HO2
  generalize ownP x0 = k at *
  by_cases k46 : k = 4 ∨ k = 6
  · rw [if_pos k46] at HT
    have hb : ((k : Int) == 4) = true ∨ (((k : Int) == 4) = false ∧ ((k : Int) == 6) = true) := by
      rcases k46 with rfl | rfl
      · exact .inl rfl
      · exact .inr ⟨rfl, rfl⟩
    clear k46
    rcases hn12 with rfl | rfl
    · obtain rfl := HT
      rcases hb with b1 | ⟨b1, b2⟩
      all_goals
        go_wp2
        refine bodyPost_ret (results_ct rfl _ _ g 101 #[.int .u8 k, .string ⟨#[]⟩, .slice none 0 0] (0, 0) _ rfl (blk3 BK.out) Tryz.underlying101 rfl (by kernel_rfl)) rfl ?_
        exact ⟨⟨none, 0, rfl, Kd.R_nil _ _ _ _ _⟩, below3 hB.out hge⟩
    · obtain rfl := HT
      rcases hb with b1 | ⟨b1, b2⟩
      all_goals
        go_wp2
        refine bodyPost_ret (results_ct rfl _ _ g 101 #[.int .u8 0, .string ⟨#[]⟩, .slice none 0 0] (0, 0) _ rfl (blk3 BK.out) Tryz.underlying101 rfl (by kernel_rfl)) rfl ?_
        exact ⟨rfl, below3 hB.out hge⟩
  rw [if_neg k46] at HT
  have n4 : ((k : Int) == 4) = false := by rw [beq_eq_false_iff_ne]; omega
  have n6 : ((k : Int) == 6) = false := by rw [beq_eq_false_iff_ne]; omega
  by_cases hbad : (k ≠ 2 ∧ n ≠ 2) ∨ (k = 2 ∧ n ≠ 1)
  · rw [if_pos hbad] at HT
    obtain rfl := HT
    have hb : (((k : Int) == 2) = false ∧ ((k : Int) != 2) = true ∧ n = 1) ∨ (k = 2 ∧ n = 2) := by
      rw [beq_eq_false_iff_ne, bne_iff_ne]; omega
    clear hbad k46 hn12
    rcases hb with ⟨b1, b2, rfl⟩ | ⟨rfl, rfl⟩
    all_goals
      go_wp2
      refine bodyPost_ret (results_ct rfl _ _ g 101 #[.int .u8 0, .string ⟨#[]⟩, .slice none 0 0] (0, 0) _ rfl (blk3 BK.out) Tryz.underlying101 rfl (by kernel_rfl)) rfl ?_
      exact ⟨rfl, below3 hB.out hge⟩
  rw [if_neg hbad] at HT
  have hb : (((k : Int) == 2) = false ∧ ((k : Int) != 2) = true ∧ n = 2) ∨ (k = 2 ∧ n = 1) := by
    rw [beq_eq_false_iff_ne, bne_iff_ne]; omega
  have hP := path_any x1 (by omega) W HGD.out
  unfold pathOf at HT
  have HT := Aside0.mk HT
  clear hbad k46 hn12
  generalize hpp : pathP (splitC 46 x1) = pp at *
  rcases hb with ⟨b1, b2, rfl⟩ | ⟨rfl, rfl⟩
  all_goals
    cases pp
    · have ho : o = none := HT.out
      obtain rfl := ho
      go_wp2_with fail
      refine hP.mono ?_
      rintro e W4 ⟨v, rfl, hv, hb4⟩
      have hB4 := Aside0.mk (below_step hB.out hb4)
      have BK4 := Aside0.mk (blk_below BK.out hb4)
      clear hB BK z0 z1 z2 f0 f1 f2 hb4
      obtain ⟨z0, z1, z2, f0, f1, f2⟩ := cells_3 BK4.out
      go_wp2
      refine bodyPost_ret (results_ct rfl _ _ g 101 #[.int .u8 0, .string ⟨#[]⟩, .slice none 0 0] (0, 0) _ rfl (blk3 BK4.out) Tryz.underlying101 rfl (by kernel_rfl)) rfl ?_
      exact ⟨rfl, below3 hB4.out hge⟩
    · have ho : o = some ⟨_, [], splitC 46 x1⟩ := HT.out
      obtain rfl := ho
      go_wp2_with fail
      refine hP.mono ?_
      rintro e W4 ⟨v, rfl, hv, hb4⟩
      obtain ⟨A, c, rfl, hR4⟩ := hv rfl
      have hB4 := Aside0.mk (below_step hB.out hb4)
      have BK4 := Aside0.mk (blk_below BK.out hb4)
      have HR4 := Aside0.mk (Kd.R_mono (Kd.R_lower hR4 hB.out.size) (fun k hk => Nat.le_trans hB.out.size hk))
      clear hB BK z0 z1 z2 f0 f1 f2 hb4 hR4
      obtain ⟨z0, z1, z2, f0, f1, f2⟩ := cells_3 BK4.out
      go_wp2
      refine bodyPost_ret (results_ct rfl _ _ g 101 #[.int .u8 _, .string ⟨#[]⟩, .slice A (splitC 46 x1).length c] (0, 0) _ rfl (blk3 BK4.out) Tryz.underlying101 rfl (by kernel_rfl)) rfl ?_
      exact ⟨⟨A, c, rfl, R_set3 HR4.out BK4.out⟩, below3 hB4.out hge⟩
end Go.Proofs.YtniibpndgcndbaaGreatDoor.Tpl
namespace Go.Proofs.YtniibpndgcndbaaGreatDoor.Tpl
open Go.RowKit Go.Proofs Go.Proofs.YtniibpndgcndbaaGreatDoor.PB Go.Proofs.YtniibpndgcndbaaGreatDoor.Short Go.Proofs.YtniibpndgcndbaaGreatDoorW.PrintWords Go.Proofs.YtniibpndgcndbaaGreatDoorW.PrintLast Go.Proofs.YtniibpndgcndbaaGreatDoorW.PrintMore Nodes
def strOf : Value → Nat | .string b => b.size | _ => 0
theorem cut_any (c : UInt8) (s : S) (hs : s.length ≤ 1048576) (w : World) (hG : Glob w) :
    Calls Tryz.prog 94 #[.string (bs s), .string ⟨#[c, c]⟩] w fun e w' => e = .returned (.tuple #[.string (bs (Lib.cut s [c, c]).1), .string (bs (Lib.cut s [c, c]).2.1), .bool (Lib.cut s [c, c]).2.2]) ∧ ∃ n, w' = w.drewN n := by
  obtain ⟨⟨m, hm⟩, _⟩ := hG
  exact Tryz.strings_Cut (bs s) ⟨#[c, c]⟩ m w (by rw [bs_size]; omega) hm
def ToksRet (o : Option (List Tok)) (e : Ending) (w' : World) (base : Nat) : Prop :=
  match o with
  | none => e = .returned (.tuple #[.slice none 0 0, .int .i64 7])
  | some l => ∃ v, e = .returned (.tuple #[v, .int .i64 0]) ∧ kT.R 101 w' base (fun k => base ≤ k) v (tokv l)
theorem txt_len (s : S) : (txtTok s).length ≤ 1 := by unfold txtTok; split <;> simp
theorem tok_M (w : World) (base : Nat) (t : S) : kT.M w base (fun _ => False) (Tok.of ⟨1, t, []⟩) [.int .u8 1, .string (bs t), .slice none 0 0] := k101_mkM w base _ (Tok.of ⟨1, t, []⟩) (Kd.R_nil _ _ _ _ _)
theorem tok_M7 {w : World} {base : Nat} {okp : Nat → Prop} {k : Nat} {t : S} {p : List S} {A : Option Addr} {c : Nat} (h : Kd.string.R 9 w base okp (.slice A p.length c) (p.map bs)) : kT.M w base okp (Tok.of ⟨k, t, p⟩) [.int .u8 k, .string (bs t), .slice A p.length c] := k101_mkM w base _ (Tok.of ⟨k, t, p⟩) h
theorem tk_bnd {a r x : Nat} (h : a + 2 * r ≤ 2048) (h0 : 0 < r) (hx : x ≤ 1) : (a + 1) * 48 ≤ 140737488355328 ∧ (a + x + 1) * 48 ≤ 140737488355328 := by omega
theorem tk_bnd2 {a r x rs r2 : Nat} (h : a + 2 * r ≤ 2048) (hx : x ≤ 1) (h1 : rs + 2 ≤ r) (h2 : r2 + 2 ≤ rs) : a + x + 1 + 2 * r2 ≤ 2048 := by omega
set_option maxHeartbeats 4000000 in
set_option maxRecDepth 100000 in
theorem tokensS_any (s : S) (hs : s.length ≤ 1024) (w : World) (hG : Glob w) :
    Calls Tryz.prog 65 #[.string (bs s)] w fun e w' => ToksRet (toksS (s.length + 1) s) e w' w.heap.size ∧ Below w.heap.size w w' := by
  obtain ⟨o, ho⟩ : ∃ o, toksS (s.length + 1) s = o := ⟨_, rfl⟩
  rw [ho]
  have HO := Aside0.mk ho
  have HG := Aside0.mk hG
  have hl0 : decide ((((bs s).size : Nat) : Int) > 1024) = false := by rw [decide_eq_false_iff_not, bs_size]; omega
  have hl1 : decide ((1024 : Int) < (((bs s).size : Nat) : Int)) = false := hl0
  have hl2 : decide (1024 < (bs s).size) = false := by rw [decide_eq_false_iff_not, bs_size]; omega
  clear ho hG
  go_enter Tryz.func65, Tryz.ntmps65
  go_wp2
  go_loopw [0, 4] (fun v0 v4 wr => ∃ (r : S) (acc : List Tok), v0 = .string (bs r) ∧ Aside0 (o = (toksS (r.length + 1) r).map (acc ++ ·)) ∧ Aside0 (acc.length + 2 * r.length ≤ 2048) ∧ Aside0 (kT.R 101 wr w.heap.size (fun k => w.heap.size ≤ k) v4 (tokv acc)) ∧ Aside0 (Below w.heap.size w wr))
    (fun v0 _ _ => strOf v0)
  case atStart => exact ⟨s, [], rfl, ⟨by rw [HO.out]; cases o <;> rfl⟩, ⟨by simp; omega⟩, ⟨Kd.R_nil _ _ _ _ _⟩, ⟨Below.refl _ _⟩⟩
  case round =>
    obtain ⟨r, acc, rfl, HE, HL, HR, HB⟩ := hrel
    by_cases hr : r = []
    · have e0 : (bs r).toList.isEmpty = true := by rw [bs_list, hr]; rfl
      have ho : o = some acc := by rw [HE.out, hr]; simp [toksS]
      subst ho
      clear hr hl0 hl1 hl2
      go_wp2
      go_ret2
      exact ⟨⟨_, rfl, HR.out⟩, HB.out⟩
    · have e0 : (bs r).toList.isEmpty = false := by rw [bs_list]; cases r with | nil => exact absurd rfl hr | cons => rfl
      have hr0 : 0 < r.length := by cases r with | nil => exact absurd rfl hr | cons => simp
      have hrl := HL.out
      have hE := HE.out
      rw [toksS, if_neg hr] at hE
      have hsz1 := cut_sizes r 123
      have hcut := fun W hW => cut_any 123 r (by omega) W hW
      obtain ⟨tx, rs, is, hc⟩ : ∃ tx rs is, Lib.cut r [123, 123] = (tx, rs, is) := ⟨_, _, _, rfl⟩
      rw [hc] at hE hsz1
      simp only [hc] at hcut
      simp only at hE hsz1
      have HE2 := Aside0.mk hE
      have HS1 := Aside0.mk hsz1
      have HC := Aside0.mk hcut
      clear hE hsz1 hcut hc hr hl0 hl1 hl2
      go_wp2_with fail
      refine (HC.out _ (HG.out.below HB.out)).mono ?_
      rintro e W0 ⟨rfl, ⟨q0, rfl⟩⟩
      have HB0 := Aside0.mk (pw_below_drewN HB.out q0)
      have HR0 := Aside0.mk (Kd.R_drewN HR.out q0)
      clear HC HR HB
      generalize wr.drewN q0 = W0 at HB0 HR0 ⊢
      have hap : ((tokv acc).length + 1) * 48 ≤ 140737488355328 := by rw [tokv_len]; exact (tk_bnd hrl hr0 (Nat.zero_le 1)).1
      have hap2 : ((tokv (acc ++ txtTok tx)).length + 1) * 48 ≤ 140737488355328 := by rw [tokv_len, List.length_append]; exact (tk_bnd hrl hr0 (txt_len tx)).2
      cases is with
      | false =>
        obtain rfl : o = some (acc ++ txtTok tx) := by have h := HE2.out; simpa using h
        clear HE2
        by_cases htx : tx = []
        · have e1 : (bs tx).toList.isEmpty = true := by rw [bs_list, htx]; rfl
          have HTX : Aside0 (acc ++ txtTok tx = acc) := ⟨by rw [htx]; simp [txtTok]⟩
          clear htx
          go_wp2
          go_ret2
          exact ⟨⟨_, rfl, by rw [HTX.out]; exact HR0.out⟩, HB0.out⟩
        · have e1 : (bs tx).toList.isEmpty = false := by rw [bs_list]; cases tx with | nil => exact absurd rfl htx | cons => rfl
          have HTX : Aside0 (tokv (acc ++ txtTok tx) = tokv acc ++ [Tok.of ⟨1, tx, []⟩]) := ⟨by unfold txtTok; rw [if_neg htx]; simp [tokv]⟩
          clear htx
          go_wp2_with (at_builtin; refine Kd.R_append kT w.heap.size rfl _ _ 95 101 _ 48 rfl Tryz.underlying95 info101 rfl (by decide) (by decide) u4 (tokv acc) (Tok.of ⟨1, tx, []⟩) [.int .u8 1, .string (bs tx), .slice none 0 0] (fun k => w.heap.size ≤ k) (fun _ => False) rfl rfl (tok_M _ _ tx) (fun _ h => h.elim) (fun k hk => Nat.le_trans HB0.out.size hk) HR0.out HB0.out HB0.out.size hap ?_; intro v5 W5 hR5 hB5 hg5 hat5)
          have HR5 := Aside0.mk hR5
          have HB5 := Aside0.mk hB5
          clear hR5 hB5
          go_ret2
          exact ⟨⟨_, rfl, by rw [HTX.out]; exact HR5.out⟩, HB5.out⟩
      | true =>
        have hrs := HS1.out.2.2 rfl
        have hrl2 : rs.length ≤ 1048575 := by omega
        have hE := HE2.out
        rw [if_neg (by simp)] at hE
        have hsz2 := cut_sizes rs 125
        have hcut := fun W hW => cut_any 125 rs (by omega) W hW
        obtain ⟨xn, rs2, en, hc⟩ : ∃ xn rs2 en, Lib.cut rs [125, 125] = (xn, rs2, en) := ⟨_, _, _, rfl⟩
        rw [hc] at hE hsz2
        simp only [hc] at hcut
        simp only at hE hsz2
        have HE3 := Aside0.mk hE
        have HS2 : Aside0 (xn.length ≤ 1048575) := ⟨by omega⟩
        have HC2 := Aside0.mk hcut
        have hbn : en = true → acc.length + (txtTok tx).length + 1 + 2 * rs2.length ≤ 2048 ∧ rs2.length < r.length := fun h => ⟨tk_bnd2 hrl (txt_len tx) hrs (hsz2.2.2 h), by have := hsz2.2.2 h; omega⟩
        have HBN := Aside0.mk hbn
        clear hE hsz2 hcut hc HE2 HS1 hrs hbn
        by_cases htx : tx = []
        · have e1 : (bs tx).toList.isEmpty = true := by rw [bs_list, htx]; rfl
          have HTX : Aside0 (acc ++ txtTok tx = acc) := ⟨by rw [htx]; simp [txtTok]⟩
          clear htx
          go_wp2_with fail
          have hR5 := HR0.out
          rw [← HTX.out] at hR5
          have hB5 := HB0.out
          generalize W0 = W5 at *
          generalize u4 = v5 at *
          have HR5 := Aside0.mk hR5
          have HB5 := Aside0.mk hB5
          clear hR5 hB5 HR0 HB0
          refine (HC2.out _ (HG.out.below HB5.out)).mono ?_
          rintro e W6 ⟨rfl, ⟨q6, rfl⟩⟩
          have HB6 := Aside0.mk (pw_below_drewN HB5.out q6)
          have HR6 := Aside0.mk (Kd.R_drewN HR5.out q6)
          clear HC2 HR5 HB5
          generalize W5.drewN q6 = W6 at HB6 HR6 ⊢
          cases en with
          | false =>
            obtain rfl : o = none := by have h := HE3.out; simpa using h
            go_wp2
            go_ret2
            exact ⟨rfl, HB6.out⟩
          | true =>
            have hbn := HBN.out rfl
            have hE := HE3.out
            simp only [Bool.true_eq_false, if_false] at hE
            have htag := tag_any xn (by have := HS2.out; omega) W6 (HG.out.below HB6.out)
            cases htg : tagP xn with
            | none =>
              rw [htg] at hE htag
              obtain rfl : o = none := hE
              clear htg
              go_wp2_with fail
              refine htag.mono ?_
              rintro e W7 ⟨rfl, hb7⟩
              have HB7 := Aside0.mk (below_step HB6.out hb7)
              clear hb7
              go_wp2
              go_ret2
              exact ⟨rfl, below_alloc HB7.out _⟩
            | some tk =>
              rw [htg] at hE htag
              simp only at hE
              have HE4 := Aside0.mk hE
              obtain ⟨tkk, tkt, tkp⟩ := tk
              clear hE htg
              go_wp2_with fail
              refine htag.mono ?_
              rintro e W7 ⟨⟨A7, c7, rfl, hR7⟩, hb7⟩
              have HB7 := Aside0.mk (below_step HB6.out hb7)
              have HR8 := Aside0.mk (Kd.R_below HR6.out hb7)
              have HLT : Aside0 (∀ k, W6.heap.size ≤ k → w.heap.size ≤ k ∧ some k ≠ v5.ownBlock) := ⟨fun k hk => ⟨Nat.le_trans HB6.out.size hk, fun e => by have := Kd.R_lt HR6.out k e.symm; omega⟩⟩
              have HR7 := Aside0.mk (Kd.R_lower hR7 HB6.out.size)
              clear hb7 hR7 HR6
              simp only at HR7
              go_upto_region 15 with (fail)
              have BK8 := Aside0.mk (blk_new W7 (.cells #[.int .u8 tkk, .string (bs tkt), .slice A7 tkp.length c7] 101))
              replace HR8 := Aside0.mk (Kd.R_alloc HR8.out (.cells #[.int .u8 tkk, .string (bs tkt), .slice A7 tkp.length c7] 101))
              replace HR7 := Aside0.mk (Kd.R_alloc HR7.out (.cells #[.int .u8 tkk, .string (bs tkt), .slice A7 tkp.length c7] 101))
              replace HB7 := Aside0.mk (below_alloc HB7.out (.cells #[.int .u8 tkk, .string (bs tkt), .slice A7 tkp.length c7] 101))
              obtain ⟨g7, hg7⟩ : ∃ g7, W7.heap.size = g7 := ⟨_, rfl⟩
              rw [hg7] at BK8 ⊢
              clear hg7
              generalize W7.alloc (.cells #[.int .u8 tkk, .string (bs tkt), .slice A7 tkp.length c7] 101) = W8 at BK8 HR8 HR7 HB7 ⊢
              obtain ⟨z0, z1, z2, f0, f1, f2⟩ := cells_3 BK8.out
              go_wp2_with (at_builtin; refine Kd.R_append kT w.heap.size rfl _ _ 95 101 _ 48 rfl Tryz.underlying95 info101 rfl (by decide) (by decide) v5 (tokv (acc ++ txtTok tx)) (Tok.of ⟨tkk, tkt, tkp⟩) [.int .u8 tkk, .string (bs tkt), .slice A7 tkp.length c7] (fun k => w.heap.size ≤ k) (fun k => W6.heap.size ≤ k) rfl rfl (tok_M7 HR7.out) HLT.out (fun k hk => Nat.le_trans HB7.out.size hk) HR8.out HB7.out HB7.out.size hap2 ?_; intro v9 W9 hR9 hB9 hg9 hat9)
              go_roundw
              case rel => exact ⟨rs2, acc ++ txtTok tx ++ [⟨tkk, tkt, tkp⟩], rfl, ⟨by rw [HE4.out, toksS_fuel r.length (rs2.length + 1) rs2 hbn.2 (Nat.lt_succ_self _)]; cases toksS (rs2.length + 1) rs2 <;> simp⟩, ⟨by simp only [List.length_append, List.length_singleton]; exact hbn.1⟩, ⟨by have := hR9; simpa [tokv] using this⟩, ⟨hB9⟩⟩
              case measure => simp only [strOf, bs_size]; exact hbn.2
        · have e1 : (bs tx).toList.isEmpty = false := by rw [bs_list]; cases tx with | nil => exact absurd rfl htx | cons => rfl
          have HTX : Aside0 (tokv (acc ++ txtTok tx) = tokv acc ++ [Tok.of ⟨1, tx, []⟩]) := ⟨by unfold txtTok; rw [if_neg htx]; simp [tokv]⟩
          clear htx
          go_wp2_with (at_builtin; refine Kd.R_append kT w.heap.size rfl _ _ 95 101 _ 48 rfl Tryz.underlying95 info101 rfl (by decide) (by decide) u4 (tokv acc) (Tok.of ⟨1, tx, []⟩) [.int .u8 1, .string (bs tx), .slice none 0 0] (fun k => w.heap.size ≤ k) (fun _ => False) rfl rfl (tok_M _ _ tx) (fun _ h => h.elim) (fun k hk => Nat.le_trans HB0.out.size hk) HR0.out HB0.out HB0.out.size hap ?_; intro v5 W5 hR5 hB5 hg5 hat5)
          rw [← HTX.out] at hR5
          have HR5 := Aside0.mk hR5
          have HB5 := Aside0.mk hB5
          clear hR5 hB5 HR0 HB0
          refine (HC2.out _ (HG.out.below HB5.out)).mono ?_
          rintro e W6 ⟨rfl, ⟨q6, rfl⟩⟩
          have HB6 := Aside0.mk (pw_below_drewN HB5.out q6)
          have HR6 := Aside0.mk (Kd.R_drewN HR5.out q6)
          clear HC2 HR5 HB5
          generalize W5.drewN q6 = W6 at HB6 HR6 ⊢
          cases en with
          | false =>
            obtain rfl : o = none := by have h := HE3.out; simpa using h
            go_wp2
            go_ret2
            exact ⟨rfl, HB6.out⟩
          | true =>
            have hbn := HBN.out rfl
            have hE := HE3.out
            simp only [Bool.true_eq_false, if_false] at hE
            have htag := tag_any xn (by have := HS2.out; omega) W6 (HG.out.below HB6.out)
            cases htg : tagP xn with
            | none =>
              rw [htg] at hE htag
              obtain rfl : o = none := hE
              clear htg
              go_wp2_with fail
              refine htag.mono ?_
              rintro e W7 ⟨rfl, hb7⟩
              have HB7 := Aside0.mk (below_step HB6.out hb7)
              clear hb7
              go_wp2
              go_ret2
              exact ⟨rfl, below_alloc HB7.out _⟩
            | some tk =>
              rw [htg] at hE htag
              simp only at hE
              have HE4 := Aside0.mk hE
              obtain ⟨tkk, tkt, tkp⟩ := tk
              clear hE htg
              go_wp2_with fail
              refine htag.mono ?_
              rintro e W7 ⟨⟨A7, c7, rfl, hR7⟩, hb7⟩
              have HB7 := Aside0.mk (below_step HB6.out hb7)
              have HR8 := Aside0.mk (Kd.R_below HR6.out hb7)
              have HLT : Aside0 (∀ k, W6.heap.size ≤ k → w.heap.size ≤ k ∧ some k ≠ v5.ownBlock) := ⟨fun k hk => ⟨Nat.le_trans HB6.out.size hk, fun e => by have := Kd.R_lt HR6.out k e.symm; omega⟩⟩
              have HR7 := Aside0.mk (Kd.R_lower hR7 HB6.out.size)
              clear hb7 hR7 HR6
              simp only at HR7
              go_upto_region 15 with (fail)
              have BK8 := Aside0.mk (blk_new W7 (.cells #[.int .u8 tkk, .string (bs tkt), .slice A7 tkp.length c7] 101))
              replace HR8 := Aside0.mk (Kd.R_alloc HR8.out (.cells #[.int .u8 tkk, .string (bs tkt), .slice A7 tkp.length c7] 101))
              replace HR7 := Aside0.mk (Kd.R_alloc HR7.out (.cells #[.int .u8 tkk, .string (bs tkt), .slice A7 tkp.length c7] 101))
              replace HB7 := Aside0.mk (below_alloc HB7.out (.cells #[.int .u8 tkk, .string (bs tkt), .slice A7 tkp.length c7] 101))
              obtain ⟨g7, hg7⟩ : ∃ g7, W7.heap.size = g7 := ⟨_, rfl⟩
              rw [hg7] at BK8 ⊢
              clear hg7
              generalize W7.alloc (.cells #[.int .u8 tkk, .string (bs tkt), .slice A7 tkp.length c7] 101) = W8 at BK8 HR8 HR7 HB7 ⊢
              obtain ⟨z0, z1, z2, f0, f1, f2⟩ := cells_3 BK8.out
              go_wp2_with (at_builtin; refine Kd.R_append kT w.heap.size rfl _ _ 95 101 _ 48 rfl Tryz.underlying95 info101 rfl (by decide) (by decide) v5 (tokv (acc ++ txtTok tx)) (Tok.of ⟨tkk, tkt, tkp⟩) [.int .u8 tkk, .string (bs tkt), .slice A7 tkp.length c7] (fun k => w.heap.size ≤ k) (fun k => W6.heap.size ≤ k) rfl rfl (tok_M7 HR7.out) HLT.out (fun k hk => Nat.le_trans HB7.out.size hk) HR8.out HB7.out HB7.out.size hap2 ?_; intro v9 W9 hR9 hB9 hg9 hat9)
              go_roundw
              case rel => exact ⟨rs2, acc ++ txtTok tx ++ [⟨tkk, tkt, tkp⟩], rfl, ⟨by rw [HE4.out, toksS_fuel r.length (rs2.length + 1) rs2 hbn.2 (Nat.lt_succ_self _)]; cases toksS (rs2.length + 1) rs2 <;> simp⟩, ⟨by simp only [List.length_append, List.length_singleton]; exact hbn.1⟩, ⟨by have := hR9; simpa [tokv] using this⟩, ⟨hB9⟩⟩
              case measure => simp only [strOf, bs_size]; exact hbn.2
end Go.Proofs.YtniibpndgcndbaaGreatDoor.Tpl
namespace Go.Proofs.YtniibpndgcndbaaGreatDoor.Tpl
open Go.RowKit Go.Proofs Go.Proofs.YtniibpndgcndbaaGreatDoor.PB Go.Proofs.YtniibpndgcndbaaGreatDoor.Short Go.Proofs.YtniibpndgcndbaaGreatDoorW.PrintWords Go.Proofs.YtniibpndgcndbaaGreatDoorW.PrintLast Go.Proofs.YtniibpndgcndbaaGreatDoorW.PrintMore Nodes
theorem KeepP.set {ok : Nat → Prop} {w w1 : World} (h : KeepP ok w w1) {p : Addr} (hp : ok p.block ∨ w.heap.size ≤ p.block) (u : Value) : KeepP ok w (w1.setCell p u) := by
  refine ⟨h.os, h.tape, h.output, by have := h.size; simpa [World.setCell] using this, fun i hi hn => ?_⟩
  refine (Below.heap_setCell w1 p u i ?_).trans (h.blk i hi hn)
  rintro rfl
  rcases hp with hp | hp
  · exact hn hp
  · omega
theorem KeepP.alloc {ok : Nat → Prop} {w w1 : World} (h : KeepP ok w w1) (o : Obj) : KeepP ok w (w1.alloc o) := h.trans (KeepP.of_below (below_alloc (Below.refl _ _) o))
theorem below_step' {w0 W W1 : World} (h : Below w0.heap.size w0 W) (hb : Below W.heap.size W W1) : Below w0.heap.size w0 W1 := below_step h hb
theorem RdT.tail {w : World} {A : Option Addr} {c : Nat} {t : Tok} {r : List Tok} (h : RdT w A c (t :: r)) : RdT w (if c = 1 then A else A.map (·.add 3)) (c - 1) r := by
  have hl := h.2
  simp only [List.length_cons] at hl
  refine ⟨?_, by omega⟩
  have h1 := h.1
  refine ⟨by simp [tokv], by have := h1.2.1; simp only [List.length_cons] at this; omega, fun h0 => ?_⟩
  obtain ⟨ad, e, hc⟩ := h1.2.2 (by simp)
  subst e
  rw [if_neg (by omega)]
  refine ⟨ad.add 3, rfl, fun i x hx => ?_⟩
  obtain ⟨cs, g1, g2, g3⟩ := hc (i + 1) x (by simpa [tokv] using hx)
  refine ⟨cs, g1, g2, fun j v hv => ?_⟩
  have := g3 j v hv
  rw [← this]
  congr 1
  rw [Addr.add_add]
  congr 1
  have : kT.sz = 3 := rfl
  rw [this]; omega
def PS (w0 W : World) (g : Nat) (l : List Tok) : Prop := ∃ A c, W.heap[g]? = some (.cells #[.slice A l.length c] 141 (0, 0)) ∧ w0.heap.size ≤ g ∧ RdT w0 A c l ∧ Below w0.heap.size w0 W
theorem is_any (w0 W : World) (g : Nat) (l : List Tok) (k : Nat) (hk : 0 < k) (h : PS w0 W g l) : Calls Tryz.prog 174 #[.pointer (some ⟨g, 0, none⟩), .int .u8 k] W fun e w' => e = .returned (.bool (headK l == k)) ∧ W = w' := by
  obtain ⟨A, c, hg, hge, hR, hB⟩ := h
  have z0 := (blk_cell hg 0).trans rfl
  have f0 := blk_frozen hg 0
  cases l with
  | nil =>
    have e0 : (headK [] == k) = false := by rw [beq_eq_false_iff_ne]; show (0 : Nat) ≠ k; omega
    rw [e0]
    clear hg hR hB
    simp only [List.length_nil] at z0
    go_enter Tryz.func174, Tryz.ntmps174
    go_wp2
    go_ret
    exact ⟨rfl, rfl⟩
  | cons t r =>
    have hd : headK (t :: r) = t.k := rfl
    obtain ⟨ad, A2, c2, rfl, y0, y1, y2, i2, l2⟩ := hR.at (i := 0) (x := t) rfl
    replace y0 := (hB.cell (World.block_lt_of_cell? _ _ y0)).trans y0
    rw [hd]
    have e0 : ((t.k : Int) == (k : Int)) = (t.k == k) := beqI _ _
    generalize t.k = tk at *
    have hln : 0 < (t :: r).length := by simp
    have hli : (0 : Int) < (((t :: r).length : Nat) : Int) := by simp
    rw [Nat.zero_mul, Addr.add_zero'] at y0
    clear hg hR hB hd y1 y2 i2 l2
    generalize (t :: r).length = n at *
    generalize (tk == k) = q at *
    go_enter Tryz.func174, Tryz.ntmps174
    go_wp2
    go_ret
    exact ⟨by simp, rfl⟩
set_option maxHeartbeats 1000000 in
set_option maxRecDepth 100000 in
theorem take_any (w0 W : World) (g : Nat) (t : Tok) (r : List Tok) (h : PS w0 W g (t :: r)) : Calls Tryz.prog 175 #[.pointer (some ⟨g, 0, none⟩)] W fun e w' => ∃ A2 c2, e = .returned (.agg #[.int .u8 t.k, .string (bs t.t), .slice A2 t.p.length c2]) ∧ Kd.string.C w0 A2 t.p.length (t.p.map bs) ∧ t.p.length ≤ c2 ∧ PS w0 w' g r ∧ KeepP (fun k => k = g) W w' := by
  obtain ⟨A, c, hg, hge, hR, hB⟩ := h
  obtain ⟨i0, hi, hz0, hz1, hz2⟩ := info_parts info101
  have hcut := cut_from (P := Tryz.prog) 95 101 .i64 Tryz.underlying95 hi 3 hz1 A (t :: r).length c 1 (by omega) (by simp; omega)
  have hT := hR.tail
  obtain ⟨X, hX⟩ : ∃ X, (if c = 1 then A else A.map (·.add 3)) = X := ⟨_, rfl⟩
  rw [hX] at hT
  have hX' : (if c = (1 : Int).toNat then A else A.map (·.add ((1 : Int).toNat * 3))) = X := hX
  rw [hX'] at hcut
  have hcut' : ∀ W : World, (Instr.slice 95 (.slice A (t :: r).length c) (some (.int .i64 1)) none none).run Tryz.prog W = .ok (.slice X r.length (c - 1)) W := hcut
  clear hcut hX hX'
  obtain ⟨ad, A2, c2, rfl, y0, y1, y2, i2, l2⟩ := hR.at (i := 0) (x := t) rfl
  replace y0 := (hB.cell (World.block_lt_of_cell? _ _ y0)).trans y0
  replace y1 := (hB.cell (World.block_lt_of_cell? _ _ y1)).trans y1
  replace y2 := (hB.cell (World.block_lt_of_cell? _ _ y2)).trans y2
  rw [Nat.zero_mul, Addr.add_zero'] at y0 y1 y2
  have hli : (0 : Int) < (((t :: r).length : Nat) : Int) := by simp
  have hln : 0 < (t :: r).length := by simp
  generalize (t :: r).length = n at *
  have hgW : g < W.heap.size := blk_lt hg
  have HG := Aside0.mk hg
  have HB := Aside0.mk hB
  have HT := Aside0.mk hT
  obtain ⟨k, s, p⟩ := t
  simp only at *
  clear hR hi hz0 hz1 hz2 hg hB hT
  go_enter Tryz.func175, Tryz.ntmps175
  go_upto_region 1 with (fail)
  have hb1 := below_alloc (Below.refl W.heap.size W) (.cells #[.int .u8 0, .string ⟨#[]⟩, .slice none 0 0] 101)
  have BK1 := blk_new W (.cells #[.int .u8 0, .string ⟨#[]⟩, .slice none 0 0] 101)
  replace y0 := pw_cell_below hb1 y0
  replace y1 := pw_cell_below hb1 y1
  replace y2 := pw_cell_below hb1 y2
  have HG1 := blk_below HG.out hb1
  have hs1 : (W.alloc (.cells #[.int .u8 0, .string ⟨#[]⟩, .slice none 0 0] 101)).heap.size = W.heap.size + 1 := by simp
  have HK1 : KeepP (fun k => k = g) W (W.alloc (.cells #[.int .u8 0, .string ⟨#[]⟩, .slice none 0 0] 101)) := KeepP.of_below hb1
  have hB1 := below_step' HB.out hb1
  obtain ⟨g1, hg1⟩ : ∃ g1, W.heap.size = g1 := ⟨_, rfl⟩
  rw [hg1] at BK1 hs1 hgW ⊢
  generalize W.alloc (.cells #[.int .u8 0, .string ⟨#[]⟩, .slice none 0 0] 101) = W1 at *
  have z0 : W1.cell? ⟨g, 0, none⟩ = some (.slice (some ad) n c) := (blk_cell HG1 0).trans rfl
  have f0 := blk_frozen HG1 0
  have HG1' := Aside0.mk HG1
  have BK1' := Aside0.mk BK1
  have HK1' := Aside0.mk HK1
  have HB1' := Aside0.mk hB1
  have hne : g1 ≠ g := by omega
  have hgs := hg1
  clear HG1 BK1 hb1 HK1 hB1 hg1
  have Hgs := Aside0.mk hgs
  clear hgs
  go_upto_region 2 with (fail)
  have hb2 := below_alloc (Below.refl W1.heap.size W1) (.cells #[.int .u8 k, .string (bs s), .slice A2 p.length c2] 101)
  have BK2 := blk_new W1 (.cells #[.int .u8 k, .string (bs s), .slice A2 p.length c2] 101)
  rw [hs1] at BK2
  replace HG1' := Aside0.mk (blk_below HG1'.out hb2)
  replace BK1' := Aside0.mk (blk_below BK1'.out hb2)
  replace HK1' := Aside0.mk (HK1'.out.trans (KeepP.of_below hb2))
  replace HB1' := Aside0.mk (below_step HB1'.out hb2)
  clear z0 f0 hb2 y0 y1 y2
  generalize W1.alloc (.cells #[.int .u8 k, .string (bs s), .slice A2 p.length c2] 101) = W2 at *
  have z0 : W2.cell? ⟨g, 0, none⟩ = some (.slice (some ad) n c) := (blk_cell HG1'.out 0).trans rfl
  have f0 := blk_frozen HG1'.out 0
  obtain ⟨x0, x1, x2, q0, q1, q2⟩ := cells_3 BK1'.out
  obtain ⟨m0, m1, m2, n0, n1, n2⟩ := cells_3 BK2
  have hne2 : g1 + 1 ≠ g := by omega
  have hne3 : g ≠ g1 := by omega
  have BK2' := Aside0.mk BK2
  clear BK2
  go_wp2
  refine bodyPost_ret (results_cell_row rfl _ _ g1 101 #[.int .u8 k, .string (bs s), .slice A2 p.length c2] (0, 0) _ rfl (blk3 (blk_far BK1'.out (p := ⟨g, 0, none⟩) hne _)) Tryz.underlying101 rfl (by kernel_rfl)) rfl ?_
  refine ⟨A2, c2, rfl, i2, l2, ⟨X, c - 1, ?_, hge, HT.out, ?_⟩, ?_⟩
  · exact blk_far (blk_far (blk_far (blk_put HG1'.out 0 _ rfl) (p := ⟨g1, 0, none⟩) hne3 _) (p := ⟨g1, 1, none⟩) hne3 _) (p := ⟨g1, 2, none⟩) hne3 _
  · have hle : w0.heap.size ≤ g1 := by omega
    exact below3 (below_set HB1'.out hge) hle
  · have hle : W.heap.size ≤ g1 := Nat.le_of_eq Hgs.out
    exact KeepP.set (KeepP.set (KeepP.set (KeepP.set HK1'.out (.inl rfl) _) (.inr hle) _) (.inr hle) _) (.inr hle) _
end Go.Proofs.YtniibpndgcndbaaGreatDoor.Tpl
namespace Go.Proofs.YtniibpndgcndbaaGreatDoor.Tpl
open Go.RowKit Go.Proofs Go.Extern.Stop Go.Stop Go.Extern Go.Proofs.YtniibpndgcndbaaGreatDoor.PB Go.Proofs.YtniibpndgcndbaaGreatDoor.Short Go.Proofs.YtniibpndgcndbaaGreatDoorW.PrintWords Go.Proofs.YtniibpndgcndbaaGreatDoorW.PrintLast Go.Proofs.YtniibpndgcndbaaGreatDoorW.PrintMore Nodes
abbrev errv (a : Addr) : Value := .iface 266 (.pointer (some a))
theorem isTypeOf (v : Value) (w : World) : (Extern.ReflectliteType.typeOf #[.iface 266 v]).run Tryz.prog w = .ok (.iface 207 (.agg #[.pointer (some ⟨9, 266, none⟩)])) w := by kernel_rfl
theorem isComparable (w : World) : (callFunc 241 #[.agg #[.pointer (some ⟨9, 266, none⟩)]]).run Tryz.prog w = .ok (.value (.bool true)) w := by
  have h32 := @run_callFunc_extern Tryz.prog 241 _ (Extern.ReflectliteType.method fun t => do Rtype.noPackHeld "Comparable" t; pure (.bool (← typeInfo t).comparable)) Tryz.func241 (by kernel_rfl) (by kernel_rfl) (by kernel_rfl) (by kernel_rfl)
  have e : ((Extern.ReflectliteType.method fun t => do Rtype.noPackHeld "Comparable" t; pure (.bool (← typeInfo t).comparable)) #[.agg #[.pointer (some ⟨9, 266, none⟩)]]).run Tryz.prog w = .ok (.bool true) w := by kernel_rfl
  rw [h32, e]; rfl
theorem isMethodComparable (v : Value) (w : World) : (Go.method 395 207 v "Comparable").run Tryz.prog w = .ok (241, v) w := by kernel_rfl
theorem isComp : (Tryz.prog.info? 266).map (·.comparable) = some true := by kernel_rfl
theorem isSize : (Tryz.prog.info? 284).map (·.size) = some 1 := by kernel_rfl
set_option maxRecDepth 100000 in
/-- errors.Is(x, x), x a pointer to an errors.errorString. -/
theorem is_same (a : Addr) (w : World) :
    Calls Tryz.prog 80 #[errv a, errv a] w fun e w' => e = .returned (.bool true) ∧ w' = w := by
  unfold errv
  obtain ⟨i, hi, hcmp⟩ := Option.map_eq_some_iff.1 isComp
  obtain ⟨j, hj, hjs⟩ := Option.map_eq_some_iff.1 isSize
  have h8 := @run_callFunc_extern Tryz.prog 118 _ Extern.ReflectliteType.typeOf Tryz.func118 (by kernel_rfl) (by kernel_rfl) (by kernel_rfl) (by kernel_rfl)
  have tT := isTypeOf
  have cT := isComparable
  have mR := isMethodComparable
  have heq := run_eql_iface_ptr_same (P := Tryz.prog) w a Tryz.underlying83 Tryz.underlying266 hi hcmp hj
  go_enter Tryz.func80, Tryz.ntmps80
  go_wp2
  refine wp_loop_rounds 1 ?_
  rw [rounds_succ]
  go_wp2
  go_ret
  exact ⟨rfl, rfl⟩
set_option maxRecDepth 100000 in
/-- errors.Is(nil, x). -/
theorem is_nil (b : Addr) (w : World) :
    Calls Tryz.prog 80 #[.nilIface, errv b] w fun e w' => e = .returned (.bool false) ∧ w' = w := by
  unfold errv
  have hn := run_eql_iface_nil_left (P := Tryz.prog) w 266 (.pointer (some b)) Tryz.underlying83
  go_enter Tryz.func80, Tryz.ntmps80
  go_wp2
  go_ret
  exact ⟨rfl, rfl⟩
end Go.Proofs.YtniibpndgcndbaaGreatDoor.Tpl
namespace Go.Proofs.YtniibpndgcndbaaGreatDoor.Tpl
open Go.RowKit Go.Proofs Go.Proofs.YtniibpndgcndbaaGreatDoor.PB Go.Proofs.YtniibpndgcndbaaGreatDoor.Short Go.Proofs.YtniibpndgcndbaaGreatDoorW.PrintWords Go.Proofs.YtniibpndgcndbaaGreatDoorW.PrintLast Go.Proofs.YtniibpndgcndbaaGreatDoorW.PrintMore Nodes
attribute [local go_sem ↓] Go.wp_at_zero Go.wp_at_succ
def GE (w : World) (a : Addr) : Prop := w.cell? ⟨1, 0, none⟩ = some (errv a)
theorem GE.below {w w1 : World} {a : Addr} (h : GE w a) (hb : Below w.heap.size w w1) : GE w1 a := pw_cell_below hb h
def NRet (o : Option (Nodes × List Tok)) (a : Addr) (w0 W : World) (g : Nat) (e : Ending) (w' : World) : Prop :=
  KeepP (fun k => k = g) W w' ∧
  match o with
  | none => e = .returned (.tuple #[.slice none 0 0, errv a])
  | some (nd, r) => ∃ A c, e = .returned (.tuple #[.slice A nd.len c, .nilIface]) ∧ kN.R 37 w' W.heap.size (fun k => W.heap.size ≤ k) (.slice A nd.len c) nd.of ∧ PS w0 w' g r
def WRet (o : Option (Nodes × Nodes × List Tok)) (a : Addr) (w0 W : World) (g gn k : Nat) (t : S) (vp : Value) (e : Ending) (w' : World) : Prop :=
  KeepP (fun q => q = g ∨ q = gn) W w' ∧
  match o with
  | none => e = .returned (errv a)
  | some (x, y, r) => e = .returned .nilIface ∧ ∃ A3 c3 A4 c4, w'.heap[gn]? = some (.cells #[.int .u8 k, .string (bs t), vp, .slice A3 x.len c3, .slice A4 y.len c4] 37 (0, 0)) ∧
      kN.R 37 w' W.heap.size (fun k => W.heap.size ≤ k) (.slice A3 x.len c3) x.of ∧ kN.R 37 w' W.heap.size (fun k => W.heap.size ≤ k) (.slice A4 y.len c4) y.of ∧ PS w0 w' g r
def NAll (a : Addr) (w0 : World) (m : Nat) : Prop := ∀ (l : List Tok) (W : World) (g : Nat), l.length ≤ m → (∀ x, x ∈ l → x.sm) → PS w0 W g l → Calls Tryz.prog 144 #[.pointer (some ⟨g, 0, none⟩)] W (NRet (parse l) a w0 W g)
theorem PS.keep {w0 W W1 : World} {g : Nat} {l : List Tok} (h : PS w0 W g l) {ok : Nat → Prop} (hk : KeepP ok W W1) (hg : ¬ ok g) (hok : ∀ k, ok k → w0.heap.size ≤ k) : PS w0 W1 g l := by
  obtain ⟨A, c, h1, h2, h3, h4⟩ := h
  exact ⟨A, c, hk.blkOf h1 hg, h2, h3, h4.trans (hk.below hok h4.size)⟩
theorem PS.set {w0 W : World} {g gn j : Nat} {l : List Tok} (h : PS w0 W g l) (hg : g ≠ gn) (hb : w0.heap.size ≤ gn) (u : Value) : PS w0 (W.setCell ⟨gn, j, none⟩ u) g l := by
  obtain ⟨A, c, h1, h2, h3, h4⟩ := h
  exact ⟨A, c, blk_far h1 (p := ⟨gn, j, none⟩) hg u, h2, h3, below_set h4 hb⟩
theorem PS.below {w0 W : World} {g : Nat} {l : List Tok} (h : PS w0 W g l) : Below w0.heap.size w0 W := by obtain ⟨_, _, _, _, _, h4⟩ := h; exact h4
theorem PS.ge {w0 W : World} {g : Nat} {l : List Tok} (h : PS w0 W g l) : w0.heap.size ≤ g := by obtain ⟨_, _, _, h2, _⟩ := h; exact h2
theorem PS.lt {w0 W : World} {g : Nat} {l : List Tok} (h : PS w0 W g l) : g < W.heap.size := by obtain ⟨_, _, h1, _⟩ := h; exact blk_lt h1
theorem RN.keep {W W1 : World} {base : Nat} {v : Value} {l : List SN} {ok ok2 : Nat → Prop} (h : kN.R 37 W base ok v l) (hk : KeepP ok2 W W1) (hok : ∀ k, ok k → ¬ ok2 k) : kN.R 37 W1 base ok v l := Kd.R_step h (fun k ho hlt => hk.blk k hlt (hok k ho))
set_option maxHeartbeats 4000000 in
set_option maxRecDepth 100000 in
theorem within_any (a : Addr) (w0 : World) (hE : GE w0 a) (m : Nat) (hN : NAll a w0 m) (l : List Tok) (W : World) (g gn k : Nat) (t : S) (vp : Value) (hm : l.length ≤ m) (hmx : m ≤ 1048576) (hs : ∀ x, x ∈ l → x.sm) (hP : PS w0 W g l) (hne : g ≠ gn) (hgn : w0.heap.size ≤ gn) (hb : W.heap[gn]? = some (.cells #[.int .u8 k, .string (bs t), vp, .slice none 0 0, .slice none 0 0] 37 (0, 0))) :
    Calls Tryz.prog 176 #[.pointer (some ⟨g, 0, none⟩), .pointer (some ⟨gn, 0, none⟩)] W (WRet (within k l) a w0 W g gn k t vp) := by
  obtain ⟨o, ho⟩ : ∃ o, within k l = o := ⟨_, rfl⟩
  rw [ho]
  have HO := Aside0.mk ho
  have h1 := hN l W g hm hs hP
  have HE := Aside0.mk hE
  have HB := Aside0.mk hb
  have HN := Aside0.mk hN
  have HS := Aside0.mk hs
  have hgW : gn < W.heap.size := blk_lt hb
  have hgP : g < W.heap.size := hP.lt
  have HP := Aside0.mk hP
  have hgn0 := hP.ge
  clear ho hE hb hP hs hN
  unfold within withP at HO
  cases hp : parse l with
  | none =>
    rw [hp] at h1 HO
    obtain rfl : o = none := HO.out.symm
    clear hp
    go_enter Tryz.func176, Tryz.ntmps176
    go_wp2_with fail
    refine h1.mono ?_
    rintro e W1 ⟨hk, rfl⟩
    have BK := Aside0.mk (hk.blkOf HB.out (show ¬ gn = g from fun e => hne e.symm))
    have HK := Aside0.mk hk
    clear hk h1
    obtain ⟨z0, z1, z2, z3, z4, f0, f1, f2, f3, f4⟩ := cells_5 BK.out
    go_wp2
    go_ret
    exact ⟨KeepP.set (HK.out.mono fun _ h => .inl h) (.inl (.inr rfl)) _, rfl⟩
  | some x =>
    obtain ⟨x, r1⟩ := x
    rw [hp] at h1 HO
    have hl1 := parse_len hp
    have hs1 := (parse_sm hp HS.out (Nat.le_trans hm hmx)).2
    clear hp
    have HO1 : Aside0 ((if k = 3 ∧ headK r1 = 4 then (match parse r1.tail with | none => none | some (b, r2) => if headK r2 = 6 then some (x, b, r2.tail) else none) else if headK r1 = 6 then some (x, Nodes.nil, r1.tail) else none) = o) := ⟨HO.out⟩
    clear HO
    have HS1 := Aside0.mk hs1
    clear hs1
    go_enter Tryz.func176, Tryz.ntmps176
    go_wp2_with fail
    refine h1.mono ?_
    rintro e W1 ⟨hk, A3, c3, rfl, hR1, hP1⟩
    have BK := Aside0.mk (hk.blkOf HB.out (show ¬ gn = g from fun e => hne e.symm))
    have HK2 := Aside0.mk (KeepP.set (hk.mono (ok' := fun q => q = g ∨ q = gn) fun _ h => .inl h) (p := ⟨gn, 3, none⟩) (.inl (.inr rfl)) (.slice A3 x.len c3))
    have HP2 := Aside0.mk (hP1.set (j := 3) hne hgn (.slice A3 x.len c3))
    have HR2 := Aside0.mk (Kd.R_far hR1 (p := ⟨gn, 3, none⟩) (fun k hk e => by simp only at e; omega) (.slice A3 x.len c3))
    have BK2 := Aside0.mk (blk_put BK.out 3 (.slice A3 x.len c3) rfl)
    clear hk h1 hR1 hP1
    obtain ⟨z0, z1, z2, z3, z4, f0, f1, f2, f3, f4⟩ := cells_5 BK.out
    go_upto_region 5 with (fail)
    clear z0 z1 z2 z3 z4 f0 f1 f2 f3 f4 BK HB HP
    generalize W1.setCell ⟨gn, 3, none⟩ (.slice A3 x.len c3) = W2 at *
    obtain ⟨z0, z1, z2, z3, z4, f0, f1, f2, f3, f4⟩ := cells_5 BK2.out
    have hi4 := is_any w0 W2 g r1 4 (by decide) HP2.out
    by_cases c34 : k = 3 ∧ headK r1 = 4
    · obtain ⟨rfl, h4⟩ := c34
      cases hr1 : r1 with
      | nil => rw [hr1] at h4; simp [headK] at h4
      | cons t1 q1 =>
        subst hr1
        have h4b : (headK (t1 :: q1) == 4) = true := by rw [beq_iff_eq]; exact h4
        have HO2 := HO1.out
        rw [if_pos ⟨rfl, h4⟩] at HO2
        simp only [List.tail_cons] at HO2
        rw [h4b] at hi4
        have htk := take_any w0 W2 g t1 q1 HP2.out
        have hlq : q1.length ≤ m := by simp only [List.length_cons] at hl1; omega
        have hsq : ∀ x, x ∈ q1 → x.sm := fun x hx => HS1.out x (by simp [hx])
        have HO3 := Aside0.mk HO2
        clear h4 h4b HO1 HO2
        go_wp2_with fail
        refine hi4.mono ?_
        rintro e w' ⟨rfl, rfl⟩
        go_wp2_with fail
        refine htk.mono ?_
        rintro e W3 ⟨A9, c9, rfl, _, _, hP3, hK3⟩
        have HK3 := Aside0.mk (HK2.out.trans (hK3.mono (ok' := fun q => q = g ∨ q = gn) fun _ h => .inl h))
        have BK3 := Aside0.mk (hK3.blkOf BK2.out (show ¬ gn = g from fun e => hne e.symm))
        have HR3 := Aside0.mk (RN.keep HR2.out hK3 (fun k hk e => by omega))
        have h2 := HN.out q1 W3 g hlq hsq hP3
        have hs3 := HK3.out.size
        clear hP3 hK3 hi4 htk z0 z1 z2 z3 z4 f0 f1 f2 f3 f4
        cases hp2 : parse q1 with
        | none =>
          rw [hp2] at h2 HO3
          obtain rfl : o = none := HO3.out.symm
          clear hp2
          go_wp2_with fail
          refine h2.mono ?_
          rintro e W4 ⟨hk, rfl⟩
          have BK4 := Aside0.mk (hk.blkOf BK3.out (show ¬ gn = g from fun e => hne e.symm))
          have HK4 := Aside0.mk (HK3.out.trans (hk.mono (ok' := fun q => q = g ∨ q = gn) fun _ h => .inl h))
          clear hk h2
          obtain ⟨z0, z1, z2, z3, z4, f0, f1, f2, f3, f4⟩ := cells_5 BK4.out
          go_wp2
          go_ret
          exact ⟨KeepP.set HK4.out (.inl (.inr rfl)) _, rfl⟩
        | some y =>
          obtain ⟨y, r2⟩ := y
          rw [hp2] at h2 HO3
          simp only at HO3
          clear hp2
          go_wp2_with fail
          refine h2.mono ?_
          rintro e W4 ⟨hk, A4, c4, rfl, hR4, hP4⟩
          have BK4 := Aside0.mk (hk.blkOf BK3.out (show ¬ gn = g from fun e => hne e.symm))
          have HK5 := Aside0.mk (KeepP.set (HK3.out.trans (hk.mono (ok' := fun q => q = g ∨ q = gn) fun _ h => .inl h)) (p := ⟨gn, 4, none⟩) (.inl (.inr rfl)) (.slice A4 y.len c4))
          have HP5 := Aside0.mk (hP4.set (j := 4) hne hgn (.slice A4 y.len c4))
          have HR5 := Aside0.mk (Kd.R_far (RN.keep HR3.out hk (fun k hk e => by omega)) (p := ⟨gn, 4, none⟩) (fun k hk e => by simp only at e; omega) (.slice A4 y.len c4))
          have HY5 := Aside0.mk (Kd.R_far (Kd.R_mono (Kd.R_lower hR4 hs3) (fun k hk => Nat.le_trans hs3 hk)) (p := ⟨gn, 4, none⟩) (fun k hk e => by simp only at e; omega) (.slice A4 y.len c4))
          have BK5 := Aside0.mk (blk_put BK4.out 4 (.slice A4 y.len c4) rfl)
          clear hk h2 hR4 hP4
          obtain ⟨z0, z1, z2, z3, z4, f0, f1, f2, f3, f4⟩ := cells_5 BK4.out
          go_upto_region 10 with (fail)
          clear z0 z1 z2 z3 z4 f0 f1 f2 f3 f4 BK4
          generalize W4.setCell ⟨gn, 4, none⟩ (.slice A4 y.len c4) = W5 at *
          have hge := HE.out.below HP5.out.below
          unfold GE at hge
          have hi6 := is_any w0 W5 g r2 6 (by decide) HP5.out
          cases h6 : (headK r2 == 6) with
          | false =>
            obtain rfl : o = none := by rw [← HO3.out, if_neg (by simpa using h6)]
            rw [h6] at hi6
            clear h6
            go_wp2_with fail
            refine hi6.mono ?_
            rintro e w' ⟨rfl, rfl⟩
            go_wp2
            go_ret
            exact ⟨HK5.out, rfl⟩
          | true =>
            cases hr2 : r2 with
            | nil => rw [hr2] at h6; simp [headK] at h6
            | cons t2 r3 =>
              obtain rfl : o = some (x, y, r3) := by rw [← HO3.out, if_pos (by simpa using h6), hr2]; rfl
              rw [h6] at hi6
              have htk := take_any w0 W5 g t2 r3 (hr2 ▸ HP5.out)
              clear h6 hr2
              go_wp2_with fail
              refine hi6.mono ?_
              rintro e w' ⟨rfl, rfl⟩
              go_wp2_with fail
              refine htk.mono ?_
              rintro e W9 ⟨A9, c9, rfl, _, _, hP9, hK9⟩
              have HP9 := Aside0.mk hP9
              have HK9 := Aside0.mk hK9
              clear hP9 hK9 hi6 htk
              go_wp2
              go_ret
              exact ⟨HK5.out.trans (HK9.out.mono fun _ h => .inl h), rfl, _, _, _, _, HK9.out.blkOf BK5.out (show ¬ gn = g from fun e => hne e.symm), RN.keep HR5.out HK9.out (fun k hk e => by omega), RN.keep HY5.out HK9.out (fun k hk e => by omega), HP9.out⟩
    · have HO2 := HO1.out
      rw [if_neg c34] at HO2
      have HO3 := Aside0.mk HO2
      clear HO1 HO2
      have hk3 : ((k : Int) == 3) = false ∨ (k = 3 ∧ (headK r1 == 4) = false) := by
        by_cases hk : k = 3
        · right; exact ⟨hk, by rw [beq_eq_false_iff_ne]; exact fun h => c34 ⟨hk, h⟩⟩
        · left; rw [beq_eq_false_iff_ne]; omega
      clear c34
      rcases hk3 with hk3 | ⟨rfl, hq4⟩
      · go_upto_region 10 with (fail)
        have hge := HE.out.below HP2.out.below
        unfold GE at hge
        have hi6 := is_any w0 W2 g r1 6 (by decide) HP2.out
        cases h6 : (headK r1 == 6) with
        | false =>
          obtain rfl : o = none := by rw [← HO3.out, if_neg (by simpa using h6)]
          rw [h6] at hi6
          clear h6
          go_wp2_with fail
          refine hi6.mono ?_
          rintro e w' ⟨rfl, rfl⟩
          go_wp2
          go_ret
          exact ⟨HK2.out, rfl⟩
        | true =>
          cases hr2 : r1 with
          | nil => rw [hr2] at h6; simp [headK] at h6
          | cons t2 r3 =>
            obtain rfl : o = some (x, Nodes.nil, r3) := by rw [← HO3.out, if_pos (by simpa using h6), hr2]; rfl
            rw [h6] at hi6
            have htk := take_any w0 W2 g t2 r3 (hr2 ▸ HP2.out)
            clear h6 hr2
            go_wp2_with fail
            refine hi6.mono ?_
            rintro e w' ⟨rfl, rfl⟩
            go_wp2_with fail
            refine htk.mono ?_
            rintro e W9 ⟨A9, c9, rfl, _, _, hP9, hK9⟩
            have HP9 := Aside0.mk hP9
            have HK9 := Aside0.mk hK9
            clear hP9 hK9 hi6 htk
            go_wp2
            go_ret
            exact ⟨HK2.out.trans (HK9.out.mono fun _ h => .inl h), rfl, _, _, _, _, HK9.out.blkOf BK2.out (show ¬ gn = g from fun e => hne e.symm), RN.keep HR2.out HK9.out (fun k hk e => by omega), Kd.R_nil _ _ _ _ _, HP9.out⟩
      · rw [hq4] at hi4
        clear hq4
        go_upto_region 10 with (go_at_call 174; refine hi4.mono ?_; rintro e w' ⟨rfl, rfl⟩)
        have hge := HE.out.below HP2.out.below
        unfold GE at hge
        have hi6 := is_any w0 W2 g r1 6 (by decide) HP2.out
        cases h6 : (headK r1 == 6) with
        | false =>
          obtain rfl : o = none := by rw [← HO3.out, if_neg (by simpa using h6)]
          rw [h6] at hi6
          clear h6
          go_wp2_with fail
          refine hi6.mono ?_
          rintro e w' ⟨rfl, rfl⟩
          go_wp2
          go_ret
          exact ⟨HK2.out, rfl⟩
        | true =>
          cases hr2 : r1 with
          | nil => rw [hr2] at h6; simp [headK] at h6
          | cons t2 r3 =>
            obtain rfl : o = some (x, Nodes.nil, r3) := by rw [← HO3.out, if_pos (by simpa using h6), hr2]; rfl
            rw [h6] at hi6
            have htk := take_any w0 W2 g t2 r3 (hr2 ▸ HP2.out)
            clear h6 hr2
            go_wp2_with fail
            refine hi6.mono ?_
            rintro e w' ⟨rfl, rfl⟩
            go_wp2_with fail
            refine htk.mono ?_
            rintro e W9 ⟨A9, c9, rfl, _, _, hP9, hK9⟩
            have HP9 := Aside0.mk hP9
            have HK9 := Aside0.mk hK9
            clear hP9 hK9 hi6 htk
            go_wp2
            go_ret
            exact ⟨HK2.out.trans (HK9.out.mono fun _ h => .inl h), rfl, _, _, _, _, HK9.out.blkOf BK2.out (show ¬ gn = g from fun e => hne e.symm), RN.keep HR2.out HK9.out (fun k hk e => by omega), Kd.R_nil _ _ _ _ _, HP9.out⟩
end Go.Proofs.YtniibpndgcndbaaGreatDoor.Tpl
namespace Go.Proofs.YtniibpndgcndbaaGreatDoor.Tpl
open Go.RowKit Go.Proofs Go.Proofs.YtniibpndgcndbaaGreatDoor.PB Go.Proofs.YtniibpndgcndbaaGreatDoor.Short Go.Proofs.YtniibpndgcndbaaGreatDoorW.PrintWords Go.Proofs.YtniibpndgcndbaaGreatDoorW.PrintLast Go.Proofs.YtniibpndgcndbaaGreatDoorW.PrintMore Nodes
attribute [local go_sem ↓] Go.wp_at_zero Go.wp_at_succ
theorem KeepP.trans2 {ok ok2 : Nat → Prop} {w w1 w2 : World} (h : KeepP ok w w1) (k : KeepP ok2 w1 w2) (hk : ∀ i, ok2 i → ok i ∨ w.heap.size ≤ i) : KeepP ok w w2 :=
  ⟨k.os.trans h.os, k.tape.trans h.tape, k.output.trans h.output, Nat.le_trans h.size k.size, fun i hi hn => (k.blk i (Nat.lt_of_lt_of_le hi h.size) (fun c => (hk i c).elim hn (fun h2 => by omega))).trans (h.blk i hi hn)⟩
theorem info_node : (Tryz.prog.info? 37).map (fun i => (i.zero, i.size, i.bytes)) = some (some (.agg #[.int .u8 0, .string ⟨#[]⟩, .slice none 0 0, .slice none 0 0, .slice none 0 0]), 5, 96) := by kernel_rfl
theorem app_len (x y : Nodes) : (x.app y).len = x.len + y.len := by
  induction x with
  | nil => simp [app, len]
  | cons k t p a b r _ _ ih => simp only [app, len, ih]; omega
theorem app_of (x y : Nodes) : (x.app y).of = x.of ++ y.of := by
  induction x with
  | nil => simp [app, of]
  | cons k t p a b r _ _ ih => simp [app, of, ih]
theorem app_nil (x : Nodes) : x.app nil = x := by
  induction x with
  | nil => rfl
  | cons k t p a b r _ _ ih => rw [app, ih]
theorem app_app (x y z : Nodes) : (x.app y).app z = x.app (y.app z) := by
  induction x with
  | nil => rfl
  | cons k t p a b r _ _ ih => rw [app, app, app, ih]
theorem app_cnt (x y : Nodes) : (x.app y).cnt = x.cnt + y.cnt := by
  induction x with
  | nil => simp [app, cnt]
  | cons k t p a b r _ _ ih => simp only [app, cnt, ih]; omega
set_option maxHeartbeats 4000000 in
set_option maxRecDepth 100000 in
theorem nodes_step (a : Addr) (w0 : World) (hE : GE w0 a) (m : Nat) (hmx : m ≤ 1048576) (hN : NAll a w0 m) (l : List Tok) (W : World) (g : Nat) (hm : l.length ≤ m + 1) (hs : ∀ x, x ∈ l → x.sm) (hP : PS w0 W g l) :
    Calls Tryz.prog 144 #[.pointer (some ⟨g, 0, none⟩)] W (NRet (parse l) a w0 W g) := by
  obtain ⟨o, ho⟩ : ∃ o, parse l = o := ⟨_, rfl⟩
  rw [ho]
  have HO := Aside0.mk ho
  have HE := Aside0.mk hE
  have HN := Aside0.mk hN
  have HS := Aside0.mk hs
  have hgW : g < W.heap.size := hP.lt
  have hg0 := hP.ge
  have HP := Aside0.mk hP
  clear ho hE hN hs hP
  go_enter Tryz.func144, Tryz.ntmps144
  go_wp2
  go_loopg [4] l.length (fun kq v4 wr => ∃ (r : List Tok) (acc : Nodes) (Aa : Option Addr) (ca : Nat), v4 = .slice Aa acc.len ca ∧ r.length = kq ∧ Aside0 (o = (parse r).map (fun z => (acc.app z.1, z.2))) ∧ Aside0 (acc.cnt + r.length ≤ l.length) ∧ Aside0 (∀ x, x ∈ r → x.sm) ∧ Aside0 (kN.R 37 wr W.heap.size (fun k => W.heap.size ≤ k) (.slice Aa acc.len ca) acc.of) ∧ Aside0 (PS w0 wr g r) ∧ Aside0 (KeepP (fun k => k = g) W wr))
  case atStart => exact ⟨l, .nil, none, 0, rfl, rfl, ⟨by rw [HO.out]; cases o <;> rfl⟩, ⟨by simp [cnt]⟩, HS, ⟨Kd.R_nil _ _ _ _ _⟩, HP, ⟨KeepP.refl _⟩⟩
  case round =>
    clear HP HO HS
    obtain ⟨r, acc, Aa, ca, rfl, rfl, HO, HC, HS, HR, HP, HK⟩ := hrel
    have hi4 := is_any w0 wr g r 4 (by decide) HP.out
    have hi6 := is_any w0 wr g r 6 (by decide) HP.out
    obtain ⟨Ap, cp, hgp, _, _, _⟩ := HP.out
    have z0 : wr.cell? ⟨g, 0, none⟩ = some (.slice Ap r.length cp) := (blk_cell hgp 0).trans rfl
    have f0 := blk_frozen hgp 0
    clear hgp
    cases hr : r with
    | nil =>
      have ho : o = some (acc, []) := by rw [HO.out, hr, parse_nil]; simp [app_nil]
      subst ho
      subst hr
      clear hi4 hi6
      simp only [List.length_nil] at z0 
      go_wp2
      go_ret2
      exact ⟨HK.out, _, _, rfl, HR.out, HP.out⟩
    | cons t q =>
      subst hr
      have hd : headK (t :: q) = t.k := rfl
      rw [hd] at hi4 hi6
      have hln : 0 < (t :: q).length := by simp
      have hli : (0 : Int) < (((t :: q).length : Nat) : Int) := by simp
      have hO := HO.out
      rw [parse_cons] at hO
      by_cases hst : stops t.k = true
      · rw [if_pos hst] at hO
        have ho : o = some (acc, t :: q) := by rw [hO]; simp [app_nil]
        subst ho
        have hkk : (t.k == 4) = true ∨ ((t.k == 4) = false ∧ (t.k == 6) = true) := by
          unfold stops at hst
          cases h4 : (t.k == 4)
          · rw [h4] at hst; right; exact ⟨rfl, by simpa using hst⟩
          · left; rfl
        clear hO hst
        obtain ⟨n, hn⟩ : ∃ n, (t :: q).length = n := ⟨_, rfl⟩
        rw [hn] at z0 hln hli
        clear hn
        rcases hkk with h4 | ⟨h4, h6⟩
        · rw [h4] at hi4
          clear h4 hi6
          go_wp2_with fail
          refine hi4.mono ?_
          rintro e w' ⟨rfl, rfl⟩
          go_wp2
          go_ret2
          exact ⟨HK.out, _, _, rfl, HR.out, HP.out⟩
        · rw [h4] at hi4
          rw [h6] at hi6
          clear h4 h6
          go_wp2_with fail
          refine hi4.mono ?_
          rintro e w' ⟨rfl, rfl⟩
          go_wp2_with fail
          refine hi6.mono ?_
          rintro e w' ⟨rfl, rfl⟩
          go_wp2
          go_ret2
          exact ⟨HK.out, _, _, rfl, HR.out, HP.out⟩
      · rw [if_neg hst] at hO
        have h46 : (t.k == 4) = false ∧ (t.k == 6) = false := by
          unfold stops at hst
          cases h4 : (t.k == 4) <;> cases h6 : (t.k == 6) <;> simp [h4, h6] at hst ⊢
        rw [h46.1] at hi4
        rw [h46.2] at hi6
        have htk := take_any w0 wr g t q HP.out
        obtain ⟨s1, s2, s3, s4⟩ := HS.out t (by simp)
        have hsq : ∀ x, x ∈ q → x.sm := fun x hx => HS.out x (by simp [hx])
        have hcq := HC.out
        simp only [List.length_cons] at hcq
        obtain ⟨n, hn⟩ : ∃ n, (t :: q).length = n := ⟨_, rfl⟩
        rw [hn] at z0 hln hli
        obtain ⟨k, s, p⟩ := t
        simp only at *
        have HO2 := Aside0.mk hO
        clear hO HO hst h46 HS HC HP hd
        have hqn : n = q.length + 1 := by rw [← hn]; simp
        have HQN := Aside0.mk hqn
        have HSQ := Aside0.mk hsq
        have HS4 := Aside0.mk s4
        clear hn hqn hsq s4
        go_wp2_with fail
        refine hi4.mono ?_
        rintro e w' ⟨rfl, rfl⟩
        go_wp2_with fail
        refine hi6.mono ?_
        rintro e w' ⟨rfl, rfl⟩
        go_wp2_with fail
        refine htk.mono ?_
        rintro e W3 ⟨A2, c2, rfl, i2, l2, hP3, hK3⟩
        have HI2 := Aside0.mk i2
        have HP4 : Aside0 (PS w0 (W3.alloc (.cells #[.int .u8 k, .string (bs s), .slice A2 p.length c2] 101)) g q) := ⟨hP3.keep (KeepP.of_below (ok := fun _ => False) (below_alloc (Below.refl _ _) _)) (fun h => h) (fun _ h => h.elim)⟩
        have HR4 := Aside0.mk (Kd.R_alloc (RN.keep HR.out hK3 (fun k hk e => by omega)) (.cells #[.int .u8 k, .string (bs s), .slice A2 p.length c2] 101))
        have HK4 := Aside0.mk ((HK.out.trans hK3).alloc (.cells #[.int .u8 k, .string (bs s), .slice A2 p.length c2] 101))
        have BK5 := Aside0.mk (blk_new W3 (.cells #[.int .u8 k, .string (bs s), .slice A2 p.length c2] 101))
        clear hi4 hi6 htk z0 f0 i2 hP3 hK3 HR HK
        go_upto_region 4 with (fail)
        obtain ⟨g5, hg5⟩ : ∃ g5, W3.heap.size = g5 := ⟨_, rfl⟩
        rw [hg5] at BK5 ⊢
        clear hg5
        generalize W3.alloc (.cells #[.int .u8 k, .string (bs s), .slice A2 p.length c2] 101) = W4 at *
        obtain ⟨z0, z1, z2, f0, f1, f2⟩ := cells_3 BK5.out
        have HB4 := Aside0.mk HP4.out.below
        have h56 : g5 < W4.heap.size := blk_lt BK5.out
        have h56n : g5 ≠ W4.heap.size := by omega
        have h56m : W4.heap.size ≠ g5 := by omega
        go_region_held3 (fun w' => w'.cell? ⟨g5, 0, none⟩ = some (.int .u8 k) ∧ w'.cell? ⟨g5, 1, none⟩ = some (.string (bs s)) ∧ w'.cell? ⟨g5, 2, none⟩ = some (.slice A2 p.length c2))
          (go_keep)
          (first
            | ((go_at_call 136; with_reducible refine (clone_S A2 c2 p W4.drew (Kd.C_below HI2.out (below_drew1 HB4.out)) s3).mono ?_; rintro e w1 ⟨Av, cv, rfl, hv1, hb1⟩; have h5b := blk_below (w := W4.drew) (blk_drew BK5.out) hb1; have h5w := blk_lt h5b; obtain ⟨q0, q1, q2, q3, q4, q5⟩ := cells_3 h5b; have H5B := Aside0.mk h5b; clear h5b z0 z1 z2 f0 f1 f2))
            | ((go_at_call 136; with_reducible refine (clone_S A2 c2 p ((W4.alloc (.cells #[.int .u8 0, .string ⟨#[]⟩, .slice none 0 0, .slice none 0 0, .slice none 0 0] 37)).drew) (Kd.C_below HI2.out (below_drew1 (below_alloc HB4.out _))) s3).mono ?_; rintro e w1 ⟨Av, cv, rfl, hv1, hb1⟩; have BKz := blk_below (blk_drew (blk_new W4 (.cells #[.int .u8 0, .string ⟨#[]⟩, .slice none 0 0, .slice none 0 0, .slice none 0 0] 37))) hb1; have BKZ := Aside0.mk BKz; obtain ⟨m0, m1, m2, m3, m4, n0, n1, n2, n3, n4⟩ := cells_5 BKz; clear BKz; have h5b := blk_below (blk_drew (blk_alloc BK5.out _)) hb1; have h5w := blk_lt h5b; obtain ⟨q0, q1, q2, q3, q4, q5⟩ := cells_3 h5b; have H5B := Aside0.mk h5b; clear h5b z0 z1 z2 f0 f1 f2)))
        all_goals have hWW : W.heap.size ≤ W4.heap.size := HK4.out.size
        · have HBw := Aside0.mk (below_step (below_drew1 (Below.refl W4.heap.size W4)) hb1)
          have BK6 := Aside0.mk (blk_new w1 (.cells #[.int .u8 k, .string (bs s), .slice Av p.length cv, .slice none 0 0, .slice none 0 0] 37))
          have h46 : W4.heap.size ≤ w1.heap.size := HBw.out.size
          have HBz := Aside0.mk (below_alloc HBw.out (.cells #[.int .u8 k, .string (bs s), .slice Av p.length cv, .slice none 0 0, .slice none 0 0] 37))
          have HPT : Aside0 (Kd.string.R 9 (w1.alloc (.cells #[.int .u8 k, .string (bs s), .slice Av p.length cv, .slice none 0 0, .slice none 0 0] 37)) W.heap.size (fun z => W4.heap.size ≤ z ∧ z ≠ w1.heap.size) (.slice Av p.length cv) (p.map bs)) := ⟨Kd.R_alloc (Kd.R_mono (Kd.R_lower (Kd.R_bound hv1) hWW) (fun z hz => ⟨by have := hz.2.1; simpa using this, by have := hz.2.2.1; omega⟩)) _⟩
          have HR6 : Aside0 (kN.R 37 (w1.alloc (.cells #[.int .u8 k, .string (bs s), .slice Av p.length cv, .slice none 0 0, .slice none 0 0] 37)) W.heap.size (fun z => W.heap.size ≤ z ∧ z ≠ w1.heap.size) (.slice Aa acc.len ca) acc.of) := ⟨Kd.R_below (Kd.R_mono (Kd.R_bound HR4.out) (fun z hz => ⟨hz.1, by have := hz.2.2.1; omega⟩)) HBz.out⟩
          have h6s : w1.heap.size < (w1.alloc (.cells #[.int .u8 k, .string (bs s), .slice Av p.length cv, .slice none 0 0, .slice none 0 0] 37)).heap.size := by simp
          obtain ⟨g6, hg6⟩ : ∃ g6, w1.heap.size = g6 := ⟨_, rfl⟩
          rw [hg6] at BK6 HPT HR6 h6s h46 ⊢
          clear hg6 h5w q0 q1 q2 q3 q4 q5
          have H5C := Aside0.mk (blk_alloc H5B.out (.cells #[.int .u8 k, .string (bs s), .slice Av p.length cv, .slice none 0 0, .slice none 0 0] 37))
          generalize w1.alloc (.cells #[.int .u8 k, .string (bs s), .slice Av p.length cv, .slice none 0 0, .slice none 0 0] 37) = W6 at *
          have hg6g : g ≠ g6 := by omega
          have hw06 : w0.heap.size ≤ g6 := by have := HP4.out.lt; have := HP4.out.ge; omega
          have HP6 : Aside0 (PS w0 W6 g q) := ⟨HP4.out.keep (KeepP.of_below (ok := fun _ => False) HBz.out) (fun h => h) (fun _ h => h.elim)⟩
          have HK6 : Aside0 (KeepP (fun z => z = g) W W6) := ⟨HK4.out.trans (KeepP.of_below HBz.out)⟩
          have HOB : Aside0 (∀ z, (Value.slice Aa acc.len ca).ownBlock = some z → z < W4.heap.size) := ⟨Kd.R_lt HR4.out⟩
          have HOK : Aside0 (∀ z, (W4.heap.size ≤ z ∧ z ≠ g6) → W.heap.size ≤ z ∧ some z ≠ (Value.slice Aa acc.len ca).ownBlock) := ⟨fun z hz => ⟨Nat.le_trans hWW hz.1, fun e => by have := HOB.out z e.symm; omega⟩⟩
          have h66 : W4.heap.size ≤ W6.heap.size := by omega
          obtain ⟨x0, x1, x2, y0, y1, y2⟩ := cells_3 H5C.out
          clear H5B H5C BK5 HP4 HR4 HK4 HB4 hb1 hv1 HBz HBw HI2
          by_cases hk35 : k = 3 ∨ k = 5
          · have hO := HO2.out
            rw [if_pos hk35] at hO
            have hw := within_any a w0 HE.out m HN.out q W6 g g6 k s (.slice Av p.length cv) (by have := HQN.out; omega) hmx HSQ.out HP6.out hg6g hw06 BK6.out
            cases hwi : within k q with
            | none =>
              rw [hwi] at hO hw
              obtain rfl : o = none := hO
              clear hwi
              rcases hk35 with rfl | rfl
              all_goals
                go_wp2_with fail
                refine hw.mono ?_
                rintro e W7 ⟨hk7, rfl⟩
                have HK7 : Aside0 (KeepP (fun z => z = g) W W7) := ⟨HK6.out.trans2 hk7 (fun z hz => hz.elim (fun h => .inl h) (fun h => .inr (by omega)))⟩
                clear hw hk7
                go_wp2
                go_ret2
                exact ⟨HK7.out, rfl⟩
            | some z =>
              obtain ⟨x, y, r1⟩ := z
              rw [hwi] at hO hw
              have hcw := within_cnt hwi
              have HSR : Aside0 (∀ z, z ∈ r1 → z.sm) := ⟨fun z hz => HSQ.out z (within_sub hwi z hz)⟩
              simp only at hO
              have HO3 : Aside0 (o = (parse r1).map (fun z => ((acc.app (.cons k s p x y .nil)).app z.1, z.2))) := ⟨by rw [hO]; cases parse r1 with | none => rfl | some z => simp [app_app, app]⟩
              clear hwi hO HO2
              rcases hk35 with rfl | rfl
              · go_wp2_with fail
                refine hw.mono ?_
                rintro e W7 ⟨hk7, rfl, A3, c3, A4, c4, BK7, hX, hY, hP7⟩
                have HK7 : Aside0 (KeepP (fun z => z = g) W W7) := ⟨HK6.out.trans2 hk7 (fun z hz => hz.elim (fun h => .inl h) (fun h => .inr (by omega)))⟩
                have HR7 : Aside0 (kN.R 37 W7 W.heap.size (fun z => W.heap.size ≤ z) (.slice Aa acc.len ca) acc.of) := ⟨Kd.R_mono (RN.keep HR6.out hk7 (fun z hz e => e.elim (fun h => by omega) hz.2)) (fun z hz => hz.1)⟩
                have HPT7 : Aside0 (Kd.string.R 9 W7 W.heap.size (fun z => W4.heap.size ≤ z ∧ z ≠ g6) (.slice Av p.length cv) (p.map bs)) := ⟨Kd.R_step HPT.out (fun z hz hlt => hk7.blk z hlt (fun e => e.elim (fun h => by omega) hz.2))⟩
                have HX7 : Aside0 (kN.R 37 W7 W.heap.size (fun z => W4.heap.size ≤ z ∧ z ≠ g6) (.slice A3 x.len c3) x.of) := ⟨Kd.R_mono (Kd.R_lower hX (by omega)) (fun z hz => ⟨by omega, by omega⟩)⟩
                have HY7 : Aside0 (kN.R 37 W7 W.heap.size (fun z => W4.heap.size ≤ z ∧ z ≠ g6) (.slice A4 y.len c4) y.of) := ⟨Kd.R_mono (Kd.R_lower hY (by omega)) (fun z hz => ⟨by omega, by omega⟩)⟩
                have HP7 := Aside0.mk hP7
                have BK7' := Aside0.mk BK7
                clear hw hk7 hX hY hP7 BK7
                have hal : (acc.of.length + 1) * 96 ≤ 140737488355328 := by rw [of_len]; have := len_cnt acc; omega
                have hsm : acc.cnt + (1 + x.cnt + y.cnt) + r1.length ≤ l.length := by omega
                have hrq : r1.length < q.length + 1 := by omega
                have HS7 : W.heap.size ≤ W7.heap.size := HK7.out.size
                have HB7 := Aside0.mk (KeepP.below (B := g) HK7.out (fun z h => Nat.le_of_eq h.symm) (Nat.le_of_lt hgW))
                have HG7 : Aside0 (∀ z, some z = (Value.slice Aa acc.len ca).ownBlock → z ≠ g) := ⟨fun z e h => by have := Kd.R_base HR7.out z e.symm; omega⟩
                obtain ⟨z0, z1, z2, z3, z4, f0, f1, f2, f3, f4⟩ := cells_5 BK7'.out
                clear x0 x1 x2 y0 y1 y2
                go_wp2_with (at_builtin; refine Kd.R_append kN (w0 := W7) W.heap.size rfl _ _ 22 37 _ 96 rfl Tryz.underlying22 info_node rfl (by decide) (by decide) (.slice Aa acc.len ca) acc.of ⟨3, bs s, p.map bs, x.of, y.of⟩ [.int .u8 3, .string (bs s), .slice Av p.length cv, .slice A3 x.len c3, .slice A4 y.len c4] (fun z => W.heap.size ≤ z) (fun z => W4.heap.size ≤ z ∧ z ≠ g6) (by rfl) (by rfl) (k37_mkM _ _ _ ⟨3, bs s, p.map bs, x.of, y.of⟩ HPT7.out HX7.out HY7.out) HOK.out (fun z hz => Nat.le_trans HS7 hz) HR7.out (Below.refl _ _) HS7 hal ?_; intro v9 W9 hR9 hB9 hg9 hat9)
                have HB9 := Aside0.mk hB9
                have HR9 := Aside0.mk hR9
                obtain ⟨A9, c9, e9⟩ := Kd.R_slice hR9
                have hlen9 : (acc.of ++ [(⟨3, bs s, p.map bs, x.of, y.of⟩ : SN)]).length = (acc.app (.cons 3 s p x y .nil)).len := by rw [app_len, List.length_append, of_len]; rfl
                rw [hlen9] at e9
                subst e9
                have HP9 : Aside0 (PS w0 W9 g r1) := ⟨HP7.out.keep (KeepP.grown (ok := fun z => some z = (Value.slice Aa acc.len ca).ownBlock) hg9 (fun z hz => hz.symm)) (fun e => HG7.out g e rfl) (fun z e => by have h1 := Kd.R_base HR7.out z e.symm; have h2 := HP7.out.ge; omega)⟩
                have HK9 : Aside0 (KeepP (fun z => z = g) W W9) := ⟨HK7.out.trans2 (KeepP.grown (ok := fun z => some z = (Value.slice Aa acc.len ca).ownBlock) hg9 (fun z hz => hz.symm)) (fun z e => .inr (Kd.R_base HR7.out z e.symm))⟩
                clear hg9 hat9 hB9 hR9
                go_roundg r1.length
                case measure => simp only [List.length_cons]; exact hrq
                case rel => exact ⟨r1, acc.app (.cons 3 s p x y .nil), A9, c9, rfl, rfl, HO3, ⟨by rw [app_cnt]; exact hsm⟩, ⟨HSR.out⟩, ⟨by rw [app_of]; exact HR9.out⟩, HP9, HK9⟩
              · go_wp2_with fail
                refine hw.mono ?_
                rintro e W7 ⟨hk7, rfl, A3, c3, A4, c4, BK7, hX, hY, hP7⟩
                have HK7 : Aside0 (KeepP (fun z => z = g) W W7) := ⟨HK6.out.trans2 hk7 (fun z hz => hz.elim (fun h => .inl h) (fun h => .inr (by omega)))⟩
                have HR7 : Aside0 (kN.R 37 W7 W.heap.size (fun z => W.heap.size ≤ z) (.slice Aa acc.len ca) acc.of) := ⟨Kd.R_mono (RN.keep HR6.out hk7 (fun z hz e => e.elim (fun h => by omega) hz.2)) (fun z hz => hz.1)⟩
                have HPT7 : Aside0 (Kd.string.R 9 W7 W.heap.size (fun z => W4.heap.size ≤ z ∧ z ≠ g6) (.slice Av p.length cv) (p.map bs)) := ⟨Kd.R_step HPT.out (fun z hz hlt => hk7.blk z hlt (fun e => e.elim (fun h => by omega) hz.2))⟩
                have HX7 : Aside0 (kN.R 37 W7 W.heap.size (fun z => W4.heap.size ≤ z ∧ z ≠ g6) (.slice A3 x.len c3) x.of) := ⟨Kd.R_mono (Kd.R_lower hX (by omega)) (fun z hz => ⟨by omega, by omega⟩)⟩
                have HY7 : Aside0 (kN.R 37 W7 W.heap.size (fun z => W4.heap.size ≤ z ∧ z ≠ g6) (.slice A4 y.len c4) y.of) := ⟨Kd.R_mono (Kd.R_lower hY (by omega)) (fun z hz => ⟨by omega, by omega⟩)⟩
                have HP7 := Aside0.mk hP7
                have BK7' := Aside0.mk BK7
                clear hw hk7 hX hY hP7 BK7
                have hal : (acc.of.length + 1) * 96 ≤ 140737488355328 := by rw [of_len]; have := len_cnt acc; omega
                have hsm : acc.cnt + (1 + x.cnt + y.cnt) + r1.length ≤ l.length := by omega
                have hrq : r1.length < q.length + 1 := by omega
                have HS7 : W.heap.size ≤ W7.heap.size := HK7.out.size
                have HB7 := Aside0.mk (KeepP.below (B := g) HK7.out (fun z h => Nat.le_of_eq h.symm) (Nat.le_of_lt hgW))
                have HG7 : Aside0 (∀ z, some z = (Value.slice Aa acc.len ca).ownBlock → z ≠ g) := ⟨fun z e h => by have := Kd.R_base HR7.out z e.symm; omega⟩
                obtain ⟨z0, z1, z2, z3, z4, f0, f1, f2, f3, f4⟩ := cells_5 BK7'.out
                clear x0 x1 x2 y0 y1 y2
                go_wp2_with (at_builtin; refine Kd.R_append kN (w0 := W7) W.heap.size rfl _ _ 22 37 _ 96 rfl Tryz.underlying22 info_node rfl (by decide) (by decide) (.slice Aa acc.len ca) acc.of ⟨5, bs s, p.map bs, x.of, y.of⟩ [.int .u8 5, .string (bs s), .slice Av p.length cv, .slice A3 x.len c3, .slice A4 y.len c4] (fun z => W.heap.size ≤ z) (fun z => W4.heap.size ≤ z ∧ z ≠ g6) (by rfl) (by rfl) (k37_mkM _ _ _ ⟨5, bs s, p.map bs, x.of, y.of⟩ HPT7.out HX7.out HY7.out) HOK.out (fun z hz => Nat.le_trans HS7 hz) HR7.out (Below.refl _ _) HS7 hal ?_; intro v9 W9 hR9 hB9 hg9 hat9)
                have HB9 := Aside0.mk hB9
                have HR9 := Aside0.mk hR9
                obtain ⟨A9, c9, e9⟩ := Kd.R_slice hR9
                have hlen9 : (acc.of ++ [(⟨5, bs s, p.map bs, x.of, y.of⟩ : SN)]).length = (acc.app (.cons 5 s p x y .nil)).len := by rw [app_len, List.length_append, of_len]; rfl
                rw [hlen9] at e9
                subst e9
                have HP9 : Aside0 (PS w0 W9 g r1) := ⟨HP7.out.keep (KeepP.grown (ok := fun z => some z = (Value.slice Aa acc.len ca).ownBlock) hg9 (fun z hz => hz.symm)) (fun e => HG7.out g e rfl) (fun z e => by have h1 := Kd.R_base HR7.out z e.symm; have h2 := HP7.out.ge; omega)⟩
                have HK9 : Aside0 (KeepP (fun z => z = g) W W9) := ⟨HK7.out.trans2 (KeepP.grown (ok := fun z => some z = (Value.slice Aa acc.len ca).ownBlock) hg9 (fun z hz => hz.symm)) (fun z e => .inr (Kd.R_base HR7.out z e.symm))⟩
                clear hg9 hat9 hB9 hR9
                go_roundg r1.length
                case measure => simp only [List.length_cons]; exact hrq
                case rel => exact ⟨r1, acc.app (.cons 5 s p x y .nil), A9, c9, rfl, rfl, HO3, ⟨by rw [app_cnt]; exact hsm⟩, ⟨HSR.out⟩, ⟨by rw [app_of]; exact HR9.out⟩, HP9, HK9⟩
          · have hO := HO2.out
            rw [if_neg hk35] at hO
            have n3 : ((k : Int) == 3) = false := by rw [beq_eq_false_iff_ne]; omega
            have n5 : ((k : Int) == 5) = false := by rw [beq_eq_false_iff_ne]; omega
            have HO3 : Aside0 (o = (parse q).map (fun z => ((acc.app (.cons k s p .nil .nil .nil)).app z.1, z.2))) := ⟨by rw [hO]; cases parse q with | none => rfl | some z => simp [app_app, app]⟩
            obtain ⟨x, hx⟩ : ∃ x : Nodes, x = .nil := ⟨_, rfl⟩
            obtain ⟨y, hy⟩ : ∃ y : Nodes, y = .nil := ⟨_, rfl⟩
            obtain ⟨r1, hr1⟩ : ∃ r1, q = r1 := ⟨_, rfl⟩
            have HO4 : Aside0 (o = (parse r1).map (fun z => ((acc.app (.cons k s p x y .nil)).app z.1, z.2))) := ⟨by rw [hx, hy, ← hr1]; exact HO3.out⟩
            have HSR : Aside0 (∀ z, z ∈ r1 → z.sm) := ⟨hr1 ▸ HSQ.out⟩
            have hcw : x.cnt + y.cnt + r1.length ≤ q.length := by rw [hx, hy, ← hr1]; simp [cnt]
            have HX7 : Aside0 (kN.R 37 W6 W.heap.size (fun z => W4.heap.size ≤ z ∧ z ≠ g6) (.slice none 0 0) x.of) := ⟨hx ▸ Kd.R_nil _ _ _ _ _⟩
            have HY7 : Aside0 (kN.R 37 W6 W.heap.size (fun z => W4.heap.size ≤ z ∧ z ≠ g6) (.slice none 0 0) y.of) := ⟨hy ▸ Kd.R_nil _ _ _ _ _⟩
            have HP7 : Aside0 (PS w0 W6 g r1) := ⟨hr1 ▸ HP6.out⟩
            have HR7 : Aside0 (kN.R 37 W6 W.heap.size (fun z => W.heap.size ≤ z) (.slice Aa acc.len ca) acc.of) := ⟨Kd.R_mono HR6.out (fun z hz => hz.1)⟩
            have HPT7 := HPT
            have BK7' := BK6
            have HK7 := HK6
            clear hO HO2 HO3 hk35 hx hy hr1
            have hal : (acc.of.length + 1) * 96 ≤ 140737488355328 := by rw [of_len]; have := len_cnt acc; omega
            have hsm : acc.cnt + (1 + x.cnt + y.cnt) + r1.length ≤ l.length := by omega
            have hrq : r1.length < q.length + 1 := by omega
            have HS7 : W.heap.size ≤ W6.heap.size := HK7.out.size
            have HB7 := Aside0.mk (KeepP.below (B := g) HK7.out (fun z h => Nat.le_of_eq h.symm) (Nat.le_of_lt hgW))
            have HG7 : Aside0 (∀ z, some z = (Value.slice Aa acc.len ca).ownBlock → z ≠ g) := ⟨fun z e h => by have := Kd.R_base HR7.out z e.symm; omega⟩
            obtain ⟨z0, z1, z2, z3, z4, f0, f1, f2, f3, f4⟩ := cells_5 BK7'.out
            go_wp2_with (at_builtin; refine Kd.R_append kN (w0 := W6) W.heap.size rfl _ _ 22 37 _ 96 rfl Tryz.underlying22 info_node rfl (by decide) (by decide) (.slice Aa acc.len ca) acc.of ⟨k, bs s, p.map bs, x.of, y.of⟩ [.int .u8 k, .string (bs s), .slice Av p.length cv, .slice none 0 0, .slice none 0 0] (fun z => W.heap.size ≤ z) (fun z => W4.heap.size ≤ z ∧ z ≠ g6) (by rfl) (by rfl) (k37_mkM _ _ _ ⟨k, bs s, p.map bs, x.of, y.of⟩ HPT7.out HX7.out HY7.out) HOK.out (fun z hz => Nat.le_trans HS7 hz) HR7.out (Below.refl _ _) HS7 hal ?_; intro v9 W9 hR9 hB9 hg9 hat9)
            have HB9 := Aside0.mk hB9
            have HR9 := Aside0.mk hR9
            obtain ⟨A9, c9, e9⟩ := Kd.R_slice hR9
            have hlen9 : (acc.of ++ [(⟨k, bs s, p.map bs, x.of, y.of⟩ : SN)]).length = (acc.app (.cons k s p x y .nil)).len := by rw [app_len, List.length_append, of_len]; rfl
            rw [hlen9] at e9
            subst e9
            have HP9 : Aside0 (PS w0 W9 g r1) := ⟨HP7.out.keep (KeepP.grown (ok := fun z => some z = (Value.slice Aa acc.len ca).ownBlock) hg9 (fun z hz => hz.symm)) (fun e => HG7.out g e rfl) (fun z e => by have h1 := Kd.R_base HR7.out z e.symm; have h2 := HP7.out.ge; omega)⟩
            have HK9 : Aside0 (KeepP (fun z => z = g) W W9) := ⟨HK7.out.trans2 (KeepP.grown (ok := fun z => some z = (Value.slice Aa acc.len ca).ownBlock) hg9 (fun z hz => hz.symm)) (fun z e => .inr (Kd.R_base HR7.out z e.symm))⟩
            clear hg9 hat9 hB9 hR9
            go_roundg r1.length
            case measure => simp only [List.length_cons]; exact hrq
            case rel => exact ⟨r1, acc.app (.cons k s p x y .nil), A9, c9, rfl, rfl, HO4, ⟨by rw [app_cnt]; exact hsm⟩, ⟨HSR.out⟩, ⟨by rw [app_of]; exact HR9.out⟩, HP9, HK9⟩
        · obtain ⟨g6, hg6⟩ : ∃ g6, g6 = W4.heap.size := ⟨_, rfl⟩
          rw [← hg6] at BKZ ⊢
          have h46 : W4.heap.size ≤ g6 := Nat.le_of_eq hg6.symm
          have h56g : g5 ≠ g6 := by omega
          have HBw := Aside0.mk (below_step (below_drew1 (below_alloc (Below.refl W4.heap.size W4) (.cells #[.int .u8 0, .string ⟨#[]⟩, .slice none 0 0, .slice none 0 0, .slice none 0 0] 37))) hb1)
          have BK6 := Aside0.mk (blk_put (blk_put (blk_put (blk_put (blk_put BKZ.out 0 (.int .u8 k) rfl) 1 (.string (bs s)) rfl) 2 (.slice Av p.length cv) rfl) 3 (.slice none 0 0) rfl) 4 (.slice none 0 0) rfl)
          have HBz := Aside0.mk (below_set (below_set (below_set (below_set (below_set HBw.out (g := g6) (j := 0) (v := .int .u8 k) h46) (j := 1) (v := .string (bs s)) h46) (j := 2) (v := .slice Av p.length cv) h46) (j := 3) (v := .slice none 0 0) h46) (j := 4) (v := .slice none 0 0) h46)
          have hfar : ∀ z, (W4.heap.size ≤ z ∧ z ≠ g6) → z ≠ g6 := fun _ h => h.2
          have hpt : Kd.string.R 9 w1 W.heap.size (fun z => W4.heap.size ≤ z ∧ z ≠ g6) (.slice Av p.length cv) (p.map bs) := Kd.R_mono (Kd.R_lower hv1 (Nat.le_trans hWW (by simp))) (fun z hz => by simp only [World.size_drew, World.size_alloc] at hz; omega)
          have HPT := Aside0.mk (Kd.R_far (Kd.R_far (Kd.R_far (Kd.R_far (Kd.R_far hpt (p := ⟨g6, 0, none⟩) hfar (.int .u8 k)) (p := ⟨g6, 1, none⟩) hfar (.string (bs s))) (p := ⟨g6, 2, none⟩) hfar (.slice Av p.length cv)) (p := ⟨g6, 3, none⟩) hfar (.slice none 0 0)) (p := ⟨g6, 4, none⟩) hfar (.slice none 0 0))
          have HR6 : Aside0 (kN.R 37 (((((w1.setCell ⟨g6, 0, none⟩ (.int .u8 k)).setCell ⟨g6, 1, none⟩ (.string (bs s))).setCell ⟨g6, 2, none⟩ (.slice Av p.length cv)).setCell ⟨g6, 3, none⟩ (.slice none 0 0)).setCell ⟨g6, 4, none⟩ (.slice none 0 0)) W.heap.size (fun z => W.heap.size ≤ z ∧ z ≠ g6) (.slice Aa acc.len ca) acc.of) := ⟨Kd.R_below (Kd.R_mono (Kd.R_bound HR4.out) (fun z hz => ⟨hz.1, by have := hz.2.2.1; omega⟩)) HBz.out⟩
          have h6s : g6 < (((((w1.setCell ⟨g6, 0, none⟩ (.int .u8 k)).setCell ⟨g6, 1, none⟩ (.string (bs s))).setCell ⟨g6, 2, none⟩ (.slice Av p.length cv)).setCell ⟨g6, 3, none⟩ (.slice none 0 0)).setCell ⟨g6, 4, none⟩ (.slice none 0 0)).heap.size := blk_lt BK6.out
          have H5C := Aside0.mk (blk_far (p := ⟨g6, 4, none⟩) (blk_far (p := ⟨g6, 3, none⟩) (blk_far (p := ⟨g6, 2, none⟩) (blk_far (p := ⟨g6, 1, none⟩) (blk_far (p := ⟨g6, 0, none⟩) H5B.out h56g (.int .u8 k)) h56g (.string (bs s))) h56g (.slice Av p.length cv)) h56g (.slice none 0 0)) h56g (.slice none 0 0))
          clear h5w q0 q1 q2 q3 q4 q5 m0 m1 m2 m3 m4 n0 n1 n2 n3 n4 hpt hfar BKZ hg6
          generalize ((((w1.setCell ⟨g6, 0, none⟩ (.int .u8 k)).setCell ⟨g6, 1, none⟩ (.string (bs s))).setCell ⟨g6, 2, none⟩ (.slice Av p.length cv)).setCell ⟨g6, 3, none⟩ (.slice none 0 0)).setCell ⟨g6, 4, none⟩ (.slice none 0 0) = W6 at *
          have hg6g : g ≠ g6 := by omega
          have hw06 : w0.heap.size ≤ g6 := by have := HP4.out.lt; have := HP4.out.ge; omega
          have HP6 : Aside0 (PS w0 W6 g q) := ⟨HP4.out.keep (KeepP.of_below (ok := fun _ => False) HBz.out) (fun h => h) (fun _ h => h.elim)⟩
          have HK6 : Aside0 (KeepP (fun z => z = g) W W6) := ⟨HK4.out.trans (KeepP.of_below HBz.out)⟩
          have HOB : Aside0 (∀ z, (Value.slice Aa acc.len ca).ownBlock = some z → z < W4.heap.size) := ⟨Kd.R_lt HR4.out⟩
          have HOK : Aside0 (∀ z, (W4.heap.size ≤ z ∧ z ≠ g6) → W.heap.size ≤ z ∧ some z ≠ (Value.slice Aa acc.len ca).ownBlock) := ⟨fun z hz => ⟨Nat.le_trans hWW hz.1, fun e => by have := HOB.out z e.symm; omega⟩⟩
          have h66 : W4.heap.size ≤ W6.heap.size := by omega
          obtain ⟨x0, x1, x2, y0, y1, y2⟩ := cells_3 H5C.out
          clear H5B H5C BK5 HP4 HR4 HK4 HB4 hb1 hv1 HBz HBw HI2
          by_cases hk35 : k = 3 ∨ k = 5
          · have hO := HO2.out
            rw [if_pos hk35] at hO
            have hw := within_any a w0 HE.out m HN.out q W6 g g6 k s (.slice Av p.length cv) (by have := HQN.out; omega) hmx HSQ.out HP6.out hg6g hw06 BK6.out
            cases hwi : within k q with
            | none =>
              rw [hwi] at hO hw
              obtain rfl : o = none := hO
              clear hwi
              rcases hk35 with rfl | rfl
              all_goals
                go_wp2_with fail
                refine hw.mono ?_
                rintro e W7 ⟨hk7, rfl⟩
                have HK7 : Aside0 (KeepP (fun z => z = g) W W7) := ⟨HK6.out.trans2 hk7 (fun z hz => hz.elim (fun h => .inl h) (fun h => .inr (by omega)))⟩
                clear hw hk7
                go_wp2
                go_ret2
                exact ⟨HK7.out, rfl⟩
            | some z =>
              obtain ⟨x, y, r1⟩ := z
              rw [hwi] at hO hw
              have hcw := within_cnt hwi
              have HSR : Aside0 (∀ z, z ∈ r1 → z.sm) := ⟨fun z hz => HSQ.out z (within_sub hwi z hz)⟩
              simp only at hO
              have HO3 : Aside0 (o = (parse r1).map (fun z => ((acc.app (.cons k s p x y .nil)).app z.1, z.2))) := ⟨by rw [hO]; cases parse r1 with | none => rfl | some z => simp [app_app, app]⟩
              clear hwi hO HO2
              rcases hk35 with rfl | rfl
              · go_wp2_with fail
                refine hw.mono ?_
                rintro e W7 ⟨hk7, rfl, A3, c3, A4, c4, BK7, hX, hY, hP7⟩
                have HK7 : Aside0 (KeepP (fun z => z = g) W W7) := ⟨HK6.out.trans2 hk7 (fun z hz => hz.elim (fun h => .inl h) (fun h => .inr (by omega)))⟩
                have HR7 : Aside0 (kN.R 37 W7 W.heap.size (fun z => W.heap.size ≤ z) (.slice Aa acc.len ca) acc.of) := ⟨Kd.R_mono (RN.keep HR6.out hk7 (fun z hz e => e.elim (fun h => by omega) hz.2)) (fun z hz => hz.1)⟩
                have HPT7 : Aside0 (Kd.string.R 9 W7 W.heap.size (fun z => W4.heap.size ≤ z ∧ z ≠ g6) (.slice Av p.length cv) (p.map bs)) := ⟨Kd.R_step HPT.out (fun z hz hlt => hk7.blk z hlt (fun e => e.elim (fun h => by omega) hz.2))⟩
                have HX7 : Aside0 (kN.R 37 W7 W.heap.size (fun z => W4.heap.size ≤ z ∧ z ≠ g6) (.slice A3 x.len c3) x.of) := ⟨Kd.R_mono (Kd.R_lower hX (by omega)) (fun z hz => ⟨by omega, by omega⟩)⟩
                have HY7 : Aside0 (kN.R 37 W7 W.heap.size (fun z => W4.heap.size ≤ z ∧ z ≠ g6) (.slice A4 y.len c4) y.of) := ⟨Kd.R_mono (Kd.R_lower hY (by omega)) (fun z hz => ⟨by omega, by omega⟩)⟩
                have HP7 := Aside0.mk hP7
                have BK7' := Aside0.mk BK7
                clear hw hk7 hX hY hP7 BK7
                have hal : (acc.of.length + 1) * 96 ≤ 140737488355328 := by rw [of_len]; have := len_cnt acc; omega
                have hsm : acc.cnt + (1 + x.cnt + y.cnt) + r1.length ≤ l.length := by omega
                have hrq : r1.length < q.length + 1 := by omega
                have HS7 : W.heap.size ≤ W7.heap.size := HK7.out.size
                have HB7 := Aside0.mk (KeepP.below (B := g) HK7.out (fun z h => Nat.le_of_eq h.symm) (Nat.le_of_lt hgW))
                have HG7 : Aside0 (∀ z, some z = (Value.slice Aa acc.len ca).ownBlock → z ≠ g) := ⟨fun z e h => by have := Kd.R_base HR7.out z e.symm; omega⟩
                obtain ⟨z0, z1, z2, z3, z4, f0, f1, f2, f3, f4⟩ := cells_5 BK7'.out
                clear x0 x1 x2 y0 y1 y2
                go_wp2_with (at_builtin; refine Kd.R_append kN (w0 := W7) W.heap.size rfl _ _ 22 37 _ 96 rfl Tryz.underlying22 info_node rfl (by decide) (by decide) (.slice Aa acc.len ca) acc.of ⟨3, bs s, p.map bs, x.of, y.of⟩ [.int .u8 3, .string (bs s), .slice Av p.length cv, .slice A3 x.len c3, .slice A4 y.len c4] (fun z => W.heap.size ≤ z) (fun z => W4.heap.size ≤ z ∧ z ≠ g6) (by rfl) (by rfl) (k37_mkM _ _ _ ⟨3, bs s, p.map bs, x.of, y.of⟩ HPT7.out HX7.out HY7.out) HOK.out (fun z hz => Nat.le_trans HS7 hz) HR7.out (Below.refl _ _) HS7 hal ?_; intro v9 W9 hR9 hB9 hg9 hat9)
                have HB9 := Aside0.mk hB9
                have HR9 := Aside0.mk hR9
                obtain ⟨A9, c9, e9⟩ := Kd.R_slice hR9
                have hlen9 : (acc.of ++ [(⟨3, bs s, p.map bs, x.of, y.of⟩ : SN)]).length = (acc.app (.cons 3 s p x y .nil)).len := by rw [app_len, List.length_append, of_len]; rfl
                rw [hlen9] at e9
                subst e9
                have HP9 : Aside0 (PS w0 W9 g r1) := ⟨HP7.out.keep (KeepP.grown (ok := fun z => some z = (Value.slice Aa acc.len ca).ownBlock) hg9 (fun z hz => hz.symm)) (fun e => HG7.out g e rfl) (fun z e => by have h1 := Kd.R_base HR7.out z e.symm; have h2 := HP7.out.ge; omega)⟩
                have HK9 : Aside0 (KeepP (fun z => z = g) W W9) := ⟨HK7.out.trans2 (KeepP.grown (ok := fun z => some z = (Value.slice Aa acc.len ca).ownBlock) hg9 (fun z hz => hz.symm)) (fun z e => .inr (Kd.R_base HR7.out z e.symm))⟩
                clear hg9 hat9 hB9 hR9
                go_roundg r1.length
                case measure => simp only [List.length_cons]; exact hrq
                case rel => exact ⟨r1, acc.app (.cons 3 s p x y .nil), A9, c9, rfl, rfl, HO3, ⟨by rw [app_cnt]; exact hsm⟩, ⟨HSR.out⟩, ⟨by rw [app_of]; exact HR9.out⟩, HP9, HK9⟩
              · go_wp2_with fail
                refine hw.mono ?_
                rintro e W7 ⟨hk7, rfl, A3, c3, A4, c4, BK7, hX, hY, hP7⟩
                have HK7 : Aside0 (KeepP (fun z => z = g) W W7) := ⟨HK6.out.trans2 hk7 (fun z hz => hz.elim (fun h => .inl h) (fun h => .inr (by omega)))⟩
                have HR7 : Aside0 (kN.R 37 W7 W.heap.size (fun z => W.heap.size ≤ z) (.slice Aa acc.len ca) acc.of) := ⟨Kd.R_mono (RN.keep HR6.out hk7 (fun z hz e => e.elim (fun h => by omega) hz.2)) (fun z hz => hz.1)⟩
                have HPT7 : Aside0 (Kd.string.R 9 W7 W.heap.size (fun z => W4.heap.size ≤ z ∧ z ≠ g6) (.slice Av p.length cv) (p.map bs)) := ⟨Kd.R_step HPT.out (fun z hz hlt => hk7.blk z hlt (fun e => e.elim (fun h => by omega) hz.2))⟩
                have HX7 : Aside0 (kN.R 37 W7 W.heap.size (fun z => W4.heap.size ≤ z ∧ z ≠ g6) (.slice A3 x.len c3) x.of) := ⟨Kd.R_mono (Kd.R_lower hX (by omega)) (fun z hz => ⟨by omega, by omega⟩)⟩
                have HY7 : Aside0 (kN.R 37 W7 W.heap.size (fun z => W4.heap.size ≤ z ∧ z ≠ g6) (.slice A4 y.len c4) y.of) := ⟨Kd.R_mono (Kd.R_lower hY (by omega)) (fun z hz => ⟨by omega, by omega⟩)⟩
                have HP7 := Aside0.mk hP7
                have BK7' := Aside0.mk BK7
                clear hw hk7 hX hY hP7 BK7
                have hal : (acc.of.length + 1) * 96 ≤ 140737488355328 := by rw [of_len]; have := len_cnt acc; omega
                have hsm : acc.cnt + (1 + x.cnt + y.cnt) + r1.length ≤ l.length := by omega
                have hrq : r1.length < q.length + 1 := by omega
                have HS7 : W.heap.size ≤ W7.heap.size := HK7.out.size
                have HB7 := Aside0.mk (KeepP.below (B := g) HK7.out (fun z h => Nat.le_of_eq h.symm) (Nat.le_of_lt hgW))
                have HG7 : Aside0 (∀ z, some z = (Value.slice Aa acc.len ca).ownBlock → z ≠ g) := ⟨fun z e h => by have := Kd.R_base HR7.out z e.symm; omega⟩
                obtain ⟨z0, z1, z2, z3, z4, f0, f1, f2, f3, f4⟩ := cells_5 BK7'.out
                clear x0 x1 x2 y0 y1 y2
                go_wp2_with (at_builtin; refine Kd.R_append kN (w0 := W7) W.heap.size rfl _ _ 22 37 _ 96 rfl Tryz.underlying22 info_node rfl (by decide) (by decide) (.slice Aa acc.len ca) acc.of ⟨5, bs s, p.map bs, x.of, y.of⟩ [.int .u8 5, .string (bs s), .slice Av p.length cv, .slice A3 x.len c3, .slice A4 y.len c4] (fun z => W.heap.size ≤ z) (fun z => W4.heap.size ≤ z ∧ z ≠ g6) (by rfl) (by rfl) (k37_mkM _ _ _ ⟨5, bs s, p.map bs, x.of, y.of⟩ HPT7.out HX7.out HY7.out) HOK.out (fun z hz => Nat.le_trans HS7 hz) HR7.out (Below.refl _ _) HS7 hal ?_; intro v9 W9 hR9 hB9 hg9 hat9)
                have HB9 := Aside0.mk hB9
                have HR9 := Aside0.mk hR9
                obtain ⟨A9, c9, e9⟩ := Kd.R_slice hR9
                have hlen9 : (acc.of ++ [(⟨5, bs s, p.map bs, x.of, y.of⟩ : SN)]).length = (acc.app (.cons 5 s p x y .nil)).len := by rw [app_len, List.length_append, of_len]; rfl
                rw [hlen9] at e9
                subst e9
                have HP9 : Aside0 (PS w0 W9 g r1) := ⟨HP7.out.keep (KeepP.grown (ok := fun z => some z = (Value.slice Aa acc.len ca).ownBlock) hg9 (fun z hz => hz.symm)) (fun e => HG7.out g e rfl) (fun z e => by have h1 := Kd.R_base HR7.out z e.symm; have h2 := HP7.out.ge; omega)⟩
                have HK9 : Aside0 (KeepP (fun z => z = g) W W9) := ⟨HK7.out.trans2 (KeepP.grown (ok := fun z => some z = (Value.slice Aa acc.len ca).ownBlock) hg9 (fun z hz => hz.symm)) (fun z e => .inr (Kd.R_base HR7.out z e.symm))⟩
                clear hg9 hat9 hB9 hR9
                go_roundg r1.length
                case measure => simp only [List.length_cons]; exact hrq
                case rel => exact ⟨r1, acc.app (.cons 5 s p x y .nil), A9, c9, rfl, rfl, HO3, ⟨by rw [app_cnt]; exact hsm⟩, ⟨HSR.out⟩, ⟨by rw [app_of]; exact HR9.out⟩, HP9, HK9⟩
          · have hO := HO2.out
            rw [if_neg hk35] at hO
            have n3 : ((k : Int) == 3) = false := by rw [beq_eq_false_iff_ne]; omega
            have n5 : ((k : Int) == 5) = false := by rw [beq_eq_false_iff_ne]; omega
            have HO3 : Aside0 (o = (parse q).map (fun z => ((acc.app (.cons k s p .nil .nil .nil)).app z.1, z.2))) := ⟨by rw [hO]; cases parse q with | none => rfl | some z => simp [app_app, app]⟩
            obtain ⟨x, hx⟩ : ∃ x : Nodes, x = .nil := ⟨_, rfl⟩
            obtain ⟨y, hy⟩ : ∃ y : Nodes, y = .nil := ⟨_, rfl⟩
            obtain ⟨r1, hr1⟩ : ∃ r1, q = r1 := ⟨_, rfl⟩
            have HO4 : Aside0 (o = (parse r1).map (fun z => ((acc.app (.cons k s p x y .nil)).app z.1, z.2))) := ⟨by rw [hx, hy, ← hr1]; exact HO3.out⟩
            have HSR : Aside0 (∀ z, z ∈ r1 → z.sm) := ⟨hr1 ▸ HSQ.out⟩
            have hcw : x.cnt + y.cnt + r1.length ≤ q.length := by rw [hx, hy, ← hr1]; simp [cnt]
            have HX7 : Aside0 (kN.R 37 W6 W.heap.size (fun z => W4.heap.size ≤ z ∧ z ≠ g6) (.slice none 0 0) x.of) := ⟨hx ▸ Kd.R_nil _ _ _ _ _⟩
            have HY7 : Aside0 (kN.R 37 W6 W.heap.size (fun z => W4.heap.size ≤ z ∧ z ≠ g6) (.slice none 0 0) y.of) := ⟨hy ▸ Kd.R_nil _ _ _ _ _⟩
            have HP7 : Aside0 (PS w0 W6 g r1) := ⟨hr1 ▸ HP6.out⟩
            have HR7 : Aside0 (kN.R 37 W6 W.heap.size (fun z => W.heap.size ≤ z) (.slice Aa acc.len ca) acc.of) := ⟨Kd.R_mono HR6.out (fun z hz => hz.1)⟩
            have HPT7 := HPT
            have BK7' := BK6
            have HK7 := HK6
            clear hO HO2 HO3 hk35 hx hy hr1
            have hal : (acc.of.length + 1) * 96 ≤ 140737488355328 := by rw [of_len]; have := len_cnt acc; omega
            have hsm : acc.cnt + (1 + x.cnt + y.cnt) + r1.length ≤ l.length := by omega
            have hrq : r1.length < q.length + 1 := by omega
            have HS7 : W.heap.size ≤ W6.heap.size := HK7.out.size
            have HB7 := Aside0.mk (KeepP.below (B := g) HK7.out (fun z h => Nat.le_of_eq h.symm) (Nat.le_of_lt hgW))
            have HG7 : Aside0 (∀ z, some z = (Value.slice Aa acc.len ca).ownBlock → z ≠ g) := ⟨fun z e h => by have := Kd.R_base HR7.out z e.symm; omega⟩
            obtain ⟨z0, z1, z2, z3, z4, f0, f1, f2, f3, f4⟩ := cells_5 BK7'.out
            go_wp2_with (at_builtin; refine Kd.R_append kN (w0 := W6) W.heap.size rfl _ _ 22 37 _ 96 rfl Tryz.underlying22 info_node rfl (by decide) (by decide) (.slice Aa acc.len ca) acc.of ⟨k, bs s, p.map bs, x.of, y.of⟩ [.int .u8 k, .string (bs s), .slice Av p.length cv, .slice none 0 0, .slice none 0 0] (fun z => W.heap.size ≤ z) (fun z => W4.heap.size ≤ z ∧ z ≠ g6) (by rfl) (by rfl) (k37_mkM _ _ _ ⟨k, bs s, p.map bs, x.of, y.of⟩ HPT7.out HX7.out HY7.out) HOK.out (fun z hz => Nat.le_trans HS7 hz) HR7.out (Below.refl _ _) HS7 hal ?_; intro v9 W9 hR9 hB9 hg9 hat9)
            have HB9 := Aside0.mk hB9
            have HR9 := Aside0.mk hR9
            obtain ⟨A9, c9, e9⟩ := Kd.R_slice hR9
            have hlen9 : (acc.of ++ [(⟨k, bs s, p.map bs, x.of, y.of⟩ : SN)]).length = (acc.app (.cons k s p x y .nil)).len := by rw [app_len, List.length_append, of_len]; rfl
            rw [hlen9] at e9
            subst e9
            have HP9 : Aside0 (PS w0 W9 g r1) := ⟨HP7.out.keep (KeepP.grown (ok := fun z => some z = (Value.slice Aa acc.len ca).ownBlock) hg9 (fun z hz => hz.symm)) (fun e => HG7.out g e rfl) (fun z e => by have h1 := Kd.R_base HR7.out z e.symm; have h2 := HP7.out.ge; omega)⟩
            have HK9 : Aside0 (KeepP (fun z => z = g) W W9) := ⟨HK7.out.trans2 (KeepP.grown (ok := fun z => some z = (Value.slice Aa acc.len ca).ownBlock) hg9 (fun z hz => hz.symm)) (fun z e => .inr (Kd.R_base HR7.out z e.symm))⟩
            clear hg9 hat9 hB9 hR9
            go_roundg r1.length
            case measure => simp only [List.length_cons]; exact hrq
            case rel => exact ⟨r1, acc.app (.cons k s p x y .nil), A9, c9, rfl, rfl, HO4, ⟨by rw [app_cnt]; exact hsm⟩, ⟨HSR.out⟩, ⟨by rw [app_of]; exact HR9.out⟩, HP9, HK9⟩
end Go.Proofs.YtniibpndgcndbaaGreatDoor.Tpl
namespace Go.Proofs.YtniibpndgcndbaaGreatDoor.Tpl
open Go.RowKit Go.Proofs Go.Proofs.YtniibpndgcndbaaGreatDoor.PB Go.Proofs.YtniibpndgcndbaaGreatDoor.Short Go.Proofs.YtniibpndgcndbaaGreatDoorW.PrintWords Go.Proofs.YtniibpndgcndbaaGreatDoorW.PrintLast Go.Proofs.YtniibpndgcndbaaGreatDoorW.PrintMore Nodes
set_option maxRecDepth 100000 in
theorem nodes_zero (a : Addr) (w0 : World) : NAll a w0 0 := by
  intro l W g hm hs hP
  have : l = [] := List.length_eq_zero_iff.1 (by omega)
  subst this
  have HP := Aside0.mk hP
  obtain ⟨Ap, cp, hgp, _, _, _⟩ := hP
  have z0 : W.cell? ⟨g, 0, none⟩ = some (.slice Ap 0 cp) := (blk_cell hgp 0).trans rfl
  have f0 := blk_frozen hgp 0
  clear hgp
  rw [parse_nil]
  go_enter Tryz.func144, Tryz.ntmps144
  go_wp2
  refine wp_loop_rounds 1 ?_
  rw [rounds_succ]
  go_wp2
  go_ret2
  exact ⟨KeepP.refl _, _, _, rfl, Kd.R_nil _ _ _ _ _, HP.out⟩
theorem nodes_all (a : Addr) (w0 : World) (hE : GE w0 a) : ∀ m, m ≤ 1048576 → NAll a w0 m := by
  intro m
  induction m with
  | zero => intro _; exact nodes_zero a w0
  | succ m ih => intro hm l W g hl hs hP; exact nodes_step a w0 hE m (by omega) (ih (by omega)) l W g hl hs hP
def ARet (o : Option Nodes) (a : Addr) (w0 W : World) (g : Nat) (e : Ending) (w' : World) : Prop :=
  KeepP (fun k => k = g) W w' ∧
  match o with
  | none => ∃ v, e = .returned (.tuple #[v, errv a])
  | some nd => ∃ A c, e = .returned (.tuple #[.slice A nd.len c, .nilIface]) ∧ kN.R 37 w' W.heap.size (fun k => W.heap.size ≤ k) (.slice A nd.len c) nd.of
def allP (l : List Tok) : Option Nodes := match parse l with | none => none | some (nd, r) => if r = [] then some nd else none
set_option maxRecDepth 100000 in
theorem all_any (a : Addr) (w0 : World) (hE : GE w0 a) (l : List Tok) (W : World) (g : Nat) (hm : l.length ≤ 1048576) (hs : ∀ x, x ∈ l → x.sm) (hP : PS w0 W g l) :
    Calls Tryz.prog 96 #[.pointer (some ⟨g, 0, none⟩)] W (ARet (allP l) a w0 W g) := by
  have h := nodes_all a w0 hE _ hm l W g (Nat.le_refl _) hs hP
  have HE := Aside0.mk hE
  clear hP hE hs
  unfold allP
  cases hp : parse l with
  | none =>
    rw [hp] at h
    clear hp
    go_enter Tryz.func96, Tryz.ntmps96
    go_wp2_with fail
    refine h.mono ?_
    rintro e W1 ⟨hk, rfl⟩
    have HK := Aside0.mk hk
    clear hk h
    go_wp2
    go_ret2
    exact ⟨HK.out, _, rfl⟩
  | some z =>
    obtain ⟨nd, r⟩ := z
    rw [hp] at h
    clear hp
    simp only
    cases r with
    | nil =>
      rw [if_pos rfl]
      go_enter Tryz.func96, Tryz.ntmps96
      go_wp2_with fail
      refine h.mono ?_
      rintro e W1 ⟨hk, A, c, rfl, hR, Ap, cp, hgp, _, _, _⟩
      have z0 : W1.cell? ⟨g, 0, none⟩ = some (.slice Ap 0 cp) := (blk_cell hgp 0).trans rfl
      have f0 := blk_frozen hgp 0
      have HK := Aside0.mk hk
      have HR := Aside0.mk hR
      clear hk h hR hgp
      go_wp2
      go_ret2
      exact ⟨HK.out, _, _, rfl, HR.out⟩
    | cons t r =>
      rw [if_neg (by simp)]
      go_enter Tryz.func96, Tryz.ntmps96
      go_wp2_with fail
      refine h.mono ?_
      rintro e W1 ⟨hk, A, c, rfl, hR, hP⟩
      have hge := HE.out.below hP.below
      unfold GE at hge
      obtain ⟨Ap, cp, hgp, _, _, _⟩ := hP
      have hln : (0 : Int) < (((t :: r).length : Nat) : Int) := by simp
      have hli : 0 < (t :: r).length := by simp
      generalize (t :: r).length = n at *
      have z0 : W1.cell? ⟨g, 0, none⟩ = some (.slice Ap n cp) := (blk_cell hgp 0).trans rfl
      have f0 := blk_frozen hgp 0
      have HK := Aside0.mk hk
      clear hk h hR hgp
      go_wp2
      go_ret2
      exact ⟨HK.out, _, rfl⟩
theorem nodesP_eq (l : List Tok) : nodesP l = if toksP l = false then .error 2 else match allP l with | none => .error 7 | some nd => if nd.fitsP = true then .ok nd else .error 11 := by
  unfold nodesP allP
  split
  · rfl
  · cases parse l with
    | none => rfl
    | some z => obtain ⟨nd, r⟩ := z; cases r <;> simp
def PRet (o : Except Int Nodes) (w : World) (e : Ending) (w' : World) : Prop :=
  Below w.heap.size w w' ∧
  match o with
  | .error k => e = .returned (.tuple #[.slice none 0 0, .int .i64 k])
  | .ok nd => ∃ A c, e = .returned (.tuple #[.slice A nd.len c, .int .i64 0]) ∧ kN.R 37 w' w.heap.size (fun k => w.heap.size ≤ k) (.slice A nd.len c) nd.of ∧ Rd w' A c nd
theorem Rd_of_R {w : World} {base : Nat} {ok : Nat → Prop} {A : Option Addr} {c : Nat} {nd : Nodes} (h : kN.R 37 w base ok (.slice A nd.len c) nd.of) : Rd w A c nd := by
  obtain ⟨h1, h2, h3⟩ := Kd.R_reads' h
  rw [of_len] at h3
  exact ⟨h3, h2⟩
set_option maxHeartbeats 1000000 in
set_option maxRecDepth 100000 in
theorem nodesW_any (l : List Tok) (A : Option Addr) (c : Nat) (w : World) (hG : Glob w) (hR : RdT w A c l) (hm : l.length ≤ 1048576) (hs : ∀ x, x ∈ l → x.sm) :
    Calls Tryz.prog 66 #[.slice A l.length c] w (PRet (nodesP l) w) := by
  obtain ⟨o, ho⟩ : ∃ o, nodesP l = o := ⟨_, rfl⟩
  rw [ho]
  rw [nodesP_eq] at ho
  have h1 := check_any A c l w hG hR hm hs
  obtain ⟨a, ha⟩ := hG.2
  have hE : GE w a := ha
  have HE := Aside0.mk hE
  have HR := Aside0.mk hR
  have HS := Aside0.mk hs
  have HG := Aside0.mk hG
  clear ha hE hR hs hG
  cases ht : toksP l with
  | false =>
    rw [ht, if_pos rfl] at ho
    subst ho
    rw [ht] at h1
    clear ht
    go_enter Tryz.func66, Tryz.ntmps66
    go_wp2_with fail
    refine h1.mono ?_
    rintro e W1 ⟨rfl, hb⟩
    have HB := Aside0.mk hb
    clear hb h1
    go_wp2
    go_ret2
    exact ⟨HB.out, rfl⟩
  | true =>
    rw [ht, if_neg (by simp)] at ho
    rw [ht] at h1
    clear ht
    have HO := Aside0.mk ho
    clear ho
    go_enter Tryz.func66, Tryz.ntmps66
    go_wp2_with fail
    refine h1.mono ?_
    rintro e W1 ⟨rfl, hb⟩
    have HB := Aside0.mk hb
    clear hb h1
    have HP : Aside0 (PS w (W1.alloc (.cells #[.slice A l.length c] 141)) W1.heap.size l) := ⟨A, c, blk_new W1 _, HB.out.size, HR.out, below_alloc HB.out _⟩
    have hge1 : w.heap.size ≤ W1.heap.size := HB.out.size
    have HA := Aside0.mk (all_any a w HE.out l _ W1.heap.size hm HS.out HP.out)
    go_wp2_with fail
    refine HA.out.mono ?_
    obtain ⟨g, hg⟩ : ∃ g, W1.heap.size = g := ⟨_, rfl⟩
    rw [hg] at HP hge1 ⊢
    clear hg HA
    generalize W1.alloc (.cells #[.slice A l.length c] 141) = W2 at HP ⊢
    have hlt : g < W2.heap.size := HP.out.lt
    have HB2 := Aside0.mk HP.out.below
    cases hal : allP l with
    | none =>
      rw [hal] at HO
      have HO2 : Except.error 7 = o := HO.out
      subst HO2
      rintro e W3 ⟨hk, v, rfl⟩
      have HB3 := Aside0.mk (HB2.out.trans (hk.below (fun z h => by omega) HB2.out.size))
      have hge := HE.out.below HB3.out
      unfold GE at hge
      clear hk
      go_wp2_with fail
      refine (is_same a _).mono ?_
      rintro e w' ⟨rfl, rfl⟩
      go_wp2
      go_ret2
      exact ⟨HB3.out, rfl⟩
    | some nd =>
      rw [hal] at HO
      have HO2 : (if nd.fitsP = true then Except.ok nd else Except.error 11) = o := HO.out
      have hpp : parse l = some (nd, []) := by
        unfold allP at hal
        cases hp : parse l with
        | none => rw [hp] at hal; cases hal
        | some z =>
          obtain ⟨x, r⟩ := z
          rw [hp] at hal
          simp only at hal
          split at hal
          · rename_i hr; cases hal; rw [hr]
          · cases hal
      have hsm := (parse_sm hpp HS.out hm).1
      have hcn := parse_cnt hpp
      simp only [List.length_nil] at hcn
      have hlc := len_cnt nd
      clear hpp hal HO
      rintro e W3 ⟨hk, A3, c3, rfl, hR3⟩
      have HB3 := Aside0.mk (HB2.out.trans (hk.below (fun z h => by omega) HB2.out.size))
      have hge := HE.out.below HB3.out
      unfold GE at hge
      have HR3 := Aside0.mk (Kd.R_mono (Kd.R_lower hR3 HB2.out.size) (fun z hz => Nat.le_trans HB2.out.size hz))
      have hf := fits_any nd A3 c3 W3 hsm (Rd_of_R hR3) (by omega) (by omega)
      clear hk hR3 hsm
      go_wp2_with fail
      refine (is_nil a _).mono ?_
      rintro e w' ⟨rfl, rfl⟩
      cases hfp : nd.fitsP with
      | false =>
        rw [hfp] at hf HO2
        have HO3 : Except.error 11 = o := HO2
        subst HO3
        clear HO2 hfp
        go_wp2_with fail
        refine hf.mono ?_
        rintro e W4 ⟨rfl, hb⟩
        have HB4 := Aside0.mk (below_step HB3.out hb)
        clear hb hf
        go_wp2
        go_ret2
        exact ⟨HB4.out, rfl⟩
      | true =>
        rw [hfp] at hf HO2
        have HO3 : Except.ok nd = o := HO2
        subst HO3
        clear HO2 hfp
        go_wp2_with fail
        refine hf.mono ?_
        rintro e W4 ⟨rfl, hb⟩
        have HB4 := Aside0.mk (below_step HB3.out hb)
        have HR4 := Aside0.mk (Kd.R_below HR3.out hb)
        clear hb hf
        go_wp2
        go_ret2
        exact ⟨HB4.out, _, _, rfl, HR4.out, Rd_of_R HR4.out⟩
theorem tokensS_long (s : S) (hs : 1024 < s.length) (w : World) (h2 : s.length ≤ 1048576) :
    Calls Tryz.prog 65 #[.string (bs s)] w fun e w' => e = .returned (.tuple #[.slice none 0 0, .int .i64 12]) ∧ w' = w := by
  have hl1 : decide ((1024 : Int) < (((bs s).size : Nat) : Int)) = true := by rw [decide_eq_true_eq, bs_size]; omega
  have hl2 : decide (1024 < (bs s).size) = true := by rw [decide_eq_true_eq, bs_size]; omega
  go_enter Tryz.func65, Tryz.ntmps65
  go_wp2
  go_ret2
  exact ⟨rfl, rfl⟩
set_option maxRecDepth 100000 in
theorem parse_any (s : S) (hs : s.length ≤ 1048576) (w : World) (hG : Glob w) : Calls Tryz.prog 36 #[.string (bs s)] w (PRet (parseS s) w) := by
  unfold parseS
  by_cases hl : 1024 < s.length
  · rw [if_pos hl]
    have h := tokensS_long s hl w hs
    go_enter Tryz.func36, Tryz.ntmps36
    go_wp2_with fail
    refine h.mono ?_
    rintro e W1 ⟨rfl, rfl⟩
    go_wp2
    go_ret2
    exact ⟨Below.refl _ _, rfl⟩
  · rw [if_neg hl]
    have h := tokensS_any s (by omega) w hG
    have hsm := toksS_sm (s.length + 1) s
    cases ht : toksS (s.length + 1) s with
    | none =>
      rw [ht] at h
      clear hsm ht
      go_enter Tryz.func36, Tryz.ntmps36
      go_wp2_with fail
      refine h.mono ?_
      rintro e W1 ⟨rfl, hb⟩
      have HB := Aside0.mk hb
      clear hb h
      go_wp2
      go_ret2
      exact ⟨HB.out, rfl⟩
    | some l =>
      rw [ht] at h
      obtain ⟨h1, h2⟩ := hsm l ht (by omega)
      have HS := Aside0.mk h1
      have HG := Aside0.mk hG
      clear hsm ht h1 hG
      obtain ⟨o, ho⟩ : ∃ o, nodesP l = o := ⟨_, rfl⟩
      simp only [ho]
      have HO := Aside0.mk ho
      clear ho
      go_enter Tryz.func36, Tryz.ntmps36
      go_wp2_with fail
      refine h.mono ?_
      rintro e W1 ⟨⟨v, rfl, hR⟩, hb⟩
      obtain ⟨A, c, rfl, hRT⟩ := rdT_of_R hR
      have hn := nodesW_any l A c W1 (HG.out.below hb) hRT (by omega) HS.out
      have HB := Aside0.mk hb
      clear hb h hR hRT
      rw [HO.out] at hn
      cases o with
      | error k =>
        go_wp2_with fail
        refine hn.mono ?_
        rintro e W2 ⟨hb2, rfl⟩
        have HB2 := Aside0.mk (below_step HB.out hb2)
        clear hb2 hn
        go_wp2
        go_ret2
        exact ⟨HB2.out, rfl⟩
      | ok nd =>
        go_wp2_with fail
        refine hn.mono ?_
        rintro e W2 ⟨hb2, A2, c2, rfl, hR2, hRd⟩
        have HB2 := Aside0.mk (below_step HB.out hb2)
        have HR2 := Aside0.mk (Kd.R_mono (Kd.R_lower hR2 HB.out.size) (fun z hz => Nat.le_trans HB.out.size hz))
        have HRd := Aside0.mk hRd
        clear hb2 hn hR2 hRd
        go_wp2
        go_ret2
        exact ⟨HB2.out, _, _, rfl, HR2.out, HRd.out⟩
end Go.Proofs.YtniibpndgcndbaaGreatDoor.Tpl
namespace Go.Proofs.YtniibpndgcndbaaGreatDoor.Tpl
open Go.RowKit Go.Proofs Go.Proofs.YtniibpndgcndbaaGreatDoor.PB Go.Proofs.YtniibpndgcndbaaGreatDoor.Short Go.Proofs.YtniibpndgcndbaaGreatDoorW.PrintWords Go.Proofs.YtniibpndgcndbaaGreatDoorW.PrintLast Go.Proofs.YtniibpndgcndbaaGreatDoorW.PrintMore Nodes
theorem lens_le (m : Nat) (l : List (List UInt8)) (h : ∀ s, s ∈ l → s.length ≤ m) : Lib.lens l ≤ l.length * m := by
  induction l with
  | nil => simp [Lib.lens]
  | cons x r ih =>
    have h1 := h x (by simp)
    have h2 := ih (fun s hs => h s (by simp [hs]))
    have e : Lib.lens (x :: r) = x.length + Lib.lens r := by simp [Lib.lens]
    rw [e, List.length_cons, Nat.add_mul, Nat.one_mul]
    omega
theorem join_le (p : List S) (hp : p.length ≤ 1048576) (hs : ∀ s, s ∈ p → s.length ≤ 1048576) : (Lib.join ((p.map bs).map (·.data.toList)) [46]).length ≤ 140737488355328 := by
  have e : (p.map bs).map (·.data.toList) = p := by
    rw [List.map_map]
    exact (List.map_congr_left (fun s _ => by simp [bs])).trans (List.map_id p)
  rw [e]
  cases p with
  | nil => simp [Lib.join]
  | cons x r =>
    rw [Lib.join_length]
    have h1 := lens_le 1048576 (x :: r) hs
    have h2 : (x :: r).length * 1048576 ≤ 1048576 * 1048576 := Nat.mul_le_mul_right _ hp
    simp only [List.length_cons, List.length_nil] at h1 h2 hp ⊢
    omega
theorem joinP_any (A : Option Addr) (c : Nat) (p : List S) (w : World) (hC : Kd.string.C w A p.length (p.map bs)) (hc : p.length ≤ c) (h0 : 0 < p.length) (hp : p.length ≤ 1048576) (hs : ∀ s, s ∈ p → s.length ≤ 1048576) :
    Calls Tryz.prog 67 #[.slice A p.length c, .string ⟨#[46]⟩] w fun e w' => (∃ t, e = .returned (.string t)) ∧ Below w.heap.size w w' := by
  have hR : RdS w A c p := ⟨hC, hc⟩
  obtain ⟨bk, o, rfl, _⟩ := cellS hR 0 h0
  have hcell : ∀ (j : Nat) x, (p.map bs)[j]? = some x → w.cell? ⟨bk, o + j, none⟩ = some (.string x) := by
    intro j x hx
    have hj : j < p.length := by have := (List.getElem?_eq_some_iff.1 hx).1; simpa using this
    obtain ⟨bk', o', e, h⟩ := cellS hR j hj
    cases e
    rw [h, List.getElem?_map] at *
    obtain ⟨y, hy, rfl⟩ := Option.map_eq_some_iff.1 hx
    simp [List.getD, hy]
  have hlt : bk < w.heap.size := by
    obtain ⟨x, hx⟩ : ∃ x, (p.map bs)[0]? = some x := ⟨_, List.getElem?_eq_getElem (by simpa using h0)⟩
    exact World.block_lt_of_cell? _ _ (hcell 0 x hx)
  have h := Tryz.strings_Join bk o c (p.map bs) ⟨#[46]⟩ w hcell hlt (by simp; omega) (by simpa using hc) (join_le p hp hs)
  rw [List.length_map] at h
  exact h.mono fun e w' ⟨he, hb⟩ => ⟨⟨_, he⟩, hb⟩
theorem le16 {n : Nat} (h : n ≤ 3145728) : (n + 1) * 16 ≤ 140737488355328 := by omega
theorem any_take {l : List Tok} {j : Nat} {x : Tok} (h : l[j]? = some x) : (l.take (j + 1)).any (fun t => !t.p.isEmpty) = ((l.take j).any (fun t => !t.p.isEmpty) || !x.p.isEmpty) := by
  rw [List.take_add_one, h]
  simp
set_option maxHeartbeats 2000000 in
set_option maxRecDepth 100000 in
theorem paths_any (l : Nodes) (A : Option Addr) (c : Nat) (w : World) (hG : Glob w) (hs : l.sm) (hR : Rd w A c l) (hl : l.len ≤ 1048576) (hc : l.cnt ≤ 1048576) :
    Calls Tryz.prog 37 #[.slice A l.len c] w fun e w' => ∃ Ap n cp, e = .returned (.tuple #[.slice Ap n cp, .int .i64 (if l.chk = true then 0 else 2)]) ∧ (l.chk = true → (n = 0 ↔ pathsP l = false)) ∧ Below w.heap.size w w' := by
  have ht := tokens_any l A c w hG hs hR hl hc
  have htl := toks_len l
  have hsm := toks_sm l hs
  have HC : l.chk = true → l.cnt ≤ 256 := fun h => by
    unfold chk fitsP at h
    simp only [Bool.and_eq_true, decide_eq_true_eq] at h
    exact h.1.2
  obtain ⟨r, hr⟩ : ∃ r : Int, (if l.chk = true then 0 else 2) = r := ⟨_, rfl⟩
  rw [hr] at ht ⊢
  clear hr hs hR hG
  go_enter Tryz.func37, Tryz.ntmps37
  go_wp2_with fail
  refine ht.mono ?_
  rintro e w1 ⟨v, rfl, ⟨hv1, hv2⟩, hb⟩
  obtain ⟨A2, c2, ts, rfl, hT, hts, htn, hte⟩ : ∃ A2 c2 ts, v = .slice A2 (List.length ts) c2 ∧ RdT w1 A2 c2 ts ∧ (∀ x, x ∈ ts → x.sm) ∧ ts.length ≤ 3145728 ∧ (l.chk = true → ts = l.toks) := by
    cases hk : l.chk with
    | true =>
      obtain ⟨A2, c2, e, h⟩ := rdT_of_R (hv1 hk)
      exact ⟨A2, c2, l.toks, e, h, hsm, by simp only [tokv, List.length_map] at htl; have := HC hk; omega, fun _ => rfl⟩
    | false => exact ⟨none, 0, [], hv2 hk, ⟨Kd.C_nil kT w1, Nat.le_refl _⟩, fun x hx => by simp at hx, by simp, fun h => by cases h⟩
  have HT := Aside0.mk hT
  have HTS := Aside0.mk hts
  have HTE := Aside0.mk hte
  have HB1 := Aside0.mk hb
  clear ht htl hsm HC hv1 hv2 hT hts hte hb
  go_wp2
  go_loopw [6, 16] (fun s6 s16 wr => ∃ (j : Nat) (xs : List ByteArray) (u : Value), u = s6 ∧ s16 = .int .i64 j ∧ j ≤ ts.length ∧ xs.length ≤ j ∧ Aside0 (Kd.R Kd.string 9 wr w1.heap.size (fun _ => True) u xs) ∧ Aside0 ((xs = [] ↔ (ts.take j).any (fun t => !t.p.isEmpty) = false)) ∧ Aside0 (Below w1.heap.size w1 wr)) (fun _ v _ => ts.length - (intOf v).toNat)
  case atStart => exact ⟨0, [], _, rfl, rfl, Nat.zero_le _, Nat.zero_le _, ⟨Kd.R_nil _ _ _ _ _⟩, ⟨by simp⟩, ⟨Below.refl _ _⟩⟩
  case round =>
    obtain ⟨j, xs, u6, rfl, rfl, hj, hxj, HR, HX, HW⟩ := hrel
    by_cases hlt : j < ts.length
    · obtain ⟨x, hx⟩ : ∃ x, ts[j]? = some x := ⟨_, List.getElem?_eq_getElem hlt⟩
      have hsx := HTS.out x (List.mem_of_getElem? hx)
      obtain ⟨ad, A3, c3, rfl, y0, y1, y2, i2, l2⟩ := (HT.out.below HW.out).at hx
      have HA := Aside0.mk (any_take hx)
      obtain ⟨k, t, p⟩ := x
      simp only at y0 y1 y2 i2 l2
      have hb1 := below_alloc (Below.refl wr.heap.size wr) (.cells #[.int .u8 k, .string (bs t), .slice A3 p.length c3] 101)
      have BK := blk_new wr (.cells #[.int .u8 k, .string (bs t), .slice A3 p.length c3] 101)
      have HW2 := Aside0.mk (below_step HW.out hb1)
      have HR2 := Aside0.mk (Kd.R_below HR.out hb1)
      have HI := Aside0.mk (Kd.C_below i2 hb1)
      have HSX := Aside0.mk hsx
      clear hx hsx i2 HR HW hb1
      go_upto_region 6 with (fail)
      clear y0 y1 y2
      generalize wr.alloc (.cells #[.int .u8 k, .string (bs t), .slice A3 p.length c3] 101) = W2 at BK HW2 HR2 HI ⊢
      generalize wr.heap.size = g at BK ⊢
      obtain ⟨m0, m1, m2, -⟩ := cells_3 BK
      by_cases hp : p.length = 0
      · have hpe : p.isEmpty = true := by cases p with | nil => rfl | cons => simp at hp
        have HX2 : Aside0 ((xs = [] ↔ (ts.take (j + 1)).any (fun t => !t.p.isEmpty) = false)) := ⟨by rw [HA.out, hpe]; simpa using HX.out⟩
        have hd : decide ((0 : Int) < (p.length : Int)) = false := by rw [decide_eq_false_iff_not]; omega
        clear HX HA
        go_wp2
        go_roundw
        case rel => exact ⟨j + 1, xs, _, rfl, by simp, by omega, by omega, HR2, HX2, HW2⟩
        case measure => simp [intOf]; omega
      · have hpe : p.isEmpty = false := by cases p with | nil => simp at hp | cons => rfl
        have hd : decide ((0 : Int) < (p.length : Int)) = true := by rw [decide_eq_true_eq]; omega
        have hj2 := joinP_any A3 c3 p W2 HI.out l2 (by omega) HSX.out.2.2.1 HSX.out.2.2.2
        clear BK
        go_wp2_with fail
        refine hj2.mono ?_
        rintro e w3 ⟨⟨tj, rfl⟩, hb3⟩
        have HW3 := Aside0.mk (below_step HW2.out hb3)
        have HR3 := Aside0.mk (Kd.R_below HR2.out hb3)
        clear hj2 hb3 m0 m1 m2
        go_wp2_with (at_builtin; go_loud (refine Kd.R_append Kd.string w1.heap.size rfl _ _ 23 9 _ 16 rfl Tryz.underlying23 info_str rfl (by decide) (by decide) u6 xs tj [.string tj] (fun _ => True) (fun _ => False) (by rfl) (by rfl) ?_ (fun _ hk => hk.elim) (fun _ _ => trivial) HR3.out HW3.out HW3.out.size (le16 (by omega)) ?_); (exact rfl); (intro v4 w4 hR4 hB4 hg4 hat4))
        have HX2 : Aside0 ((xs ++ [tj] = [] ↔ (ts.take (j + 1)).any (fun t => !t.p.isEmpty) = false)) := ⟨by rw [HA.out, hpe]; simp⟩
        have HR4 := Aside0.mk hR4
        have HW4 := Aside0.mk hB4
        clear hR4 hB4 hg4 hat4 HX HA
        go_wp2
        go_roundw
        case rel => exact ⟨j + 1, xs ++ [tj], _, rfl, by simp, by omega, by simp; omega, HR4, HX2, HW4⟩
        case measure => simp [intOf]; omega
    · obtain rfl : j = ts.length := by omega
      have hx := HX.out
      rw [List.take_length] at hx
      obtain ⟨Ap, cp, rfl, hle, _⟩ := Kd.R_reads HR.out
      go_wp2
      go_ret2
      exact ⟨Ap, xs.length, cp, rfl, fun hk => by
        have := HTE.out hk
        subst this
        show _ ↔ l.toks.any _ = false
        rw [← hx, List.length_eq_zero_iff], below_step HB1.out HW.out⟩
end Go.Proofs.YtniibpndgcndbaaGreatDoor.Tpl
namespace Go.Proofs.YtniibpndgcndbaaGreatDoor.Tpl
open Go.RowKit Go.Proofs.YtniibpndgcndbaaGreatDoor.PB Go.Proofs.YtniibpndgcndbaaGreatDoor.Short Go.Proofs.YtniibpndgcndbaaGreatDoorW.PrintWords Go.Proofs.YtniibpndgcndbaaGreatDoorW.PrintLast Go.Proofs.YtniibpndgcndbaaGreatDoorW.PrintMore
abbrev SV := S43
abbrev kV : Kd SV := k43
namespace Vals
def of : Vals → List SV
  | nil => []
  | cons k t n i m r => ⟨k, bs t, n, i.of, m.map bs⟩ :: r.of
theorem of_len (l : Vals) : l.of.length = l.len := by
  induction l with
  | nil => rfl
  | cons k t n i m r _ ih => simp [of, len, ih]
theorem drop_zero (l : Vals) : l.drop 0 = l := by cases l <;> rfl
theorem drop_len (l : Vals) : ∀ i, (l.drop i).len = l.len - i := by
  induction l with
  | nil => intro i; cases i <;> simp [drop, len]
  | cons k t n a m r _ ih => intro i; cases i <;> simp [drop, len, ih]
theorem drop_step {l : Vals} : ∀ {j k t n i m r}, l.drop j = cons k t n i m r → j < l.len ∧ l.drop (j + 1) = r ∧ rd_T43 l.of j = ⟨k, bs t, n, i.of, m.map bs⟩ := by
  induction l with
  | nil => intro j k t n i m r h; cases j <;> simp [drop] at h
  | cons k' t' n' i' m' r' _ ih =>
    intro j k t n i m r h
    cases j with
    | zero =>
      simp only [drop, cons.injEq] at h
      obtain ⟨rfl, rfl, rfl, rfl, rfl, rfl⟩ := h
      exact ⟨by simp [len], by simp [drop], rfl⟩
    | succ j =>
      obtain ⟨h1, h2, h3⟩ := ih h
      refine ⟨by simp [len]; exact h1, h2, ?_⟩
      rw [← h3]
      unfold rd_T43
      have e : ((j : Int) + 1).toNat = (j : Int).toNat + 1 := by omega
      simp [of, e]
theorem drop_nil {l : Vals} {i : Nat} (h : l.drop i = nil) : l.len ≤ i := by
  have := drop_len l i
  rw [h] at this
  simp only [len] at this
  omega
theorem sm_drop {l : Vals} (h : l.sm) : ∀ i, (l.drop i).sm := by
  induction l with
  | nil => intro i; cases i <;> exact trivial
  | cons k t n a m r _ ih =>
    intro i
    cases i with
    | zero => exact h
    | succ i => exact ih h.2.2.2.2.2.2.2 i
theorem cnt_drop (l : Vals) : ∀ i, (l.drop i).cnt ≤ l.cnt := by
  induction l with
  | nil => intro i; cases i <;> simp [drop]
  | cons k t n a m r _ ih =>
    intro i
    cases i with
    | zero => exact Nat.le_refl _
    | succ i => have := ih i; simp only [drop, cnt]; omega
def Rd (w : World) (A : Option Addr) (c : Nat) (l : Vals) : Prop := kV.C w A l.len l.of ∧ l.len ≤ c
theorem Rd.below {w w1 : World} {A : Option Addr} {c : Nat} {l : Vals} (h : Rd w A c l) (hb : Below w.heap.size w w1) : Rd w1 A c l := ⟨Kd.C_below h.1 hb, h.2⟩
theorem Rd.at {w : World} {A : Option Addr} {c : Nat} {l : Vals} (h : Rd w A c l) {j : Nat} {k t n i m r} (hd : l.drop j = cons k t n i m r) :
    ∃ ad A3 c3 A4 c4, A = some ad ∧ w.cell? (ad.add (j * 5)) = some (.int .u8 k) ∧ w.cell? ⟨(ad.add (j * 5)).block, (ad.add (j * 5)).off + 1, none⟩ = some (.string (bs t)) ∧ w.cell? ⟨(ad.add (j * 5)).block, (ad.add (j * 5)).off + 2, none⟩ = some (.int .i64 n) ∧
      w.cell? ⟨(ad.add (j * 5)).block, (ad.add (j * 5)).off + 3, none⟩ = some (.slice A3 i.len c3) ∧ w.cell? ⟨(ad.add (j * 5)).block, (ad.add (j * 5)).off + 4, none⟩ = some (.slice A4 m.length c4) ∧ Rd w A3 c3 i ∧ RdS w A4 c4 m := by
  obtain ⟨h1, _, h3⟩ := drop_step hd
  have hq : ((j : Int) < l.len) := by omega
  obtain ⟨ad, A3, c3, A4, c4, e, x0, x1, x2, x3, x4, l3, i3, l4, i4⟩ := at_T43 h.1 (j : Int) (by omega) hq
  rw [h3] at x0 x1 x2 x3 x4 l3 i3 l4 i4
  simp only [Int.toNat_natCast, List.length_map, of_len] at x0 x1 x2 x3 x4 l3 i3 l4 i4
  exact ⟨ad, A3, c3, A4, c4, e, x0, x1, x2, x3, x4, ⟨i3, l3⟩, ⟨by simpa using i4, l4⟩⟩
end Vals
end Go.Proofs.YtniibpndgcndbaaGreatDoor.Tpl
namespace Go.Proofs.YtniibpndgcndbaaGreatDoor.Tpl
set_option linter.unusedSimpArgs false
open Go.RowKit Go.Proofs Go.Proofs.YtniibpndgcndbaaGreatDoor.PB Go.Proofs.YtniibpndgcndbaaGreatDoor.Short Go.Proofs.YtniibpndgcndbaaGreatDoorW.PrintWords Go.Proofs.YtniibpndgcndbaaGreatDoorW.PrintLast Go.Proofs.YtniibpndgcndbaaGreatDoorW.PrintMore
theorem name_ev (s : S) (hs : s.length ≤ 1048576) : Ev (fun k => value_Name.f k (bs s)) (if nameP s = true then 0 else 13) := by
  obtain ⟨k, hk⟩ := name_f s hs
  exact Ev.of (value_Name.mono _) hk
theorem rd_bs {m : List S} {i : Nat} (hi : i < m.length) : rdOf ByteArray.empty (m.map bs) (i : Int) = bs (m.getD i []) := by
  unfold rdOf
  simp [List.getD, hi]
theorem rising_l (m : List S) (hl : m.length ≤ 1048576) (hs : ∀ s, s ∈ m → s.length ≤ 1048576) : ∀ d i, m.length - i = d → i ≤ m.length →
    Ev (fun k => value_rising.l0 k (m.map bs) (m.map bs) (m.length : Int) (i : Int)) (Vals.risingQ (if i = 0 then none else some (m.getD (i - 1) [])) (m.drop i)) := by
  intro d
  induction d with
  | zero =>
    intro i h1 h2
    refine Ev.step (fun k => by rw [value_rising.l0]) ?_
    refine Ev.im (by omega) ?_
    exact Ev.val (by rw [List.drop_eq_nil_of_le (by omega)]; rfl)
  | succ d ih =>
    intro i h1 h2
    have hi : i < m.length := by omega
    have hw := w64 i (by omega)
    have e := ih (i + 1) (by omega) (by omega)
    have hd : m.drop i = m.getD i [] :: m.drop (i + 1) := by rw [List.drop_eq_getElem_cons hi]; simp [List.getD, hi]
    have hm : m.getD i [] ∈ m := by have : m.getD i [] = m[i] := by simp [List.getD, hi]
                                    rw [this]; exact List.getElem_mem hi
    rw [if_neg (Nat.succ_ne_zero i), Nat.add_sub_cancel] at e
    rw [hd]
    refine Ev.step (fun k => by rw [value_rising.l0, rd_bs hi, hw]) ?_
    refine Ev.ip (by omega) (Ev.ip (by omega) (Ev.ip (by rw [List.length_map]; omega) ?_))
    refine Ev.bind (name_ev _ (hs _ hm)) ?_
    unfold Vals.risingQ
    cases hn : nameP (m.getD i []) with
    | false => exact Ev.im (by simp) (Ev.val (by simp))
    | true =>
      refine Ev.ip (by simp) ?_
      cases i with
      | zero =>
        refine Ev.im (by omega) ?_
        exact Ev.eq e (by simp)
      | succ j =>
        have hj : j < m.length := by omega
        have hw2 : wrap64 (((j + 1 : Nat) : Int) - 1) = (j : Int) := by unfold wrap64; omega
        refine Ev.ip (by omega) ?_
        rw [hw2]
        refine Ev.ip (by omega) (Ev.ip (by rw [List.length_map]; omega) ?_)
        rw [rd_bs hj, bytesLess_eq, bs_list, bs_list]
        rw [if_neg (Nat.succ_ne_zero j), Nat.add_sub_cancel]
        by_cases hlt : m.getD j [] < m.getD (j + 1) []
        · refine Ev.ip (by simp only [decide_eq_true_eq]; exact hlt) ?_
          exact Ev.eq e (by show _ = (true && decide (m.getD j [] < m.getD (j + 1) []) && _); rw [decide_eq_true hlt]; rfl)
        · refine Ev.im (by simp only [decide_eq_true_eq]; exact hlt) ?_
          exact Ev.val (by show false = (true && decide (m.getD j [] < m.getD (j + 1) []) && _); rw [decide_eq_false hlt]; rfl)
theorem rising_ev (m : List S) (hl : m.length ≤ 1048576) (hs : ∀ s, s ∈ m → s.length ≤ 1048576) : Ev (fun k => value_rising.f k (m.map bs)) (Vals.risingP m) := by
  have h := rising_l m hl hs m.length 0 (by omega) (Nat.zero_le _)
  unfold value_rising.f
  rw [List.length_map]
  exact Ev.eq h rfl
theorem andNot_one (a : Int) (h1 : -9223372036854775808 ≤ a) (h2 : a ≤ 9223372036854775807) : Go.bits .andNot .i64 a 1 = 0 ↔ a = 0 ∨ a = 1 := by
  have e : Go.bits .andNot .i64 a 1 = IntKind.i64.wrap ((BitVec.ofInt 64 a &&& ~~~BitVec.ofInt 64 1).toNat : Int) := rfl
  have t : (BitVec.ofInt 64 a).toNat = (a % 18446744073709551616).toNat := by simp [BitVec.toNat_ofInt]
  have n1 : (~~~BitVec.ofInt 64 1).toNat = 18446744073709551614 := by decide
  rw [e, BitVec.toNat_and, t, n1, nat_hi64_1, IntKind.wrap_i64]
  omega
theorem leafV_ev (k : Nat) (t : S) (n : Int) (i : Vals) (m : List S) (hn : -9223372036854775808 ≤ n ∧ n ≤ 9223372036854775807) (hi : i.len ≤ 1048576) (hl : m.length ≤ 1048576) (hs : ∀ s, s ∈ m → s.length ≤ 1048576) :
    Ev (fun q => value_leaf.f q k (bs t) n i.of (m.map bs)) (Vals.leafV k t n i.len m) := by
  have w1 : wrap64 ((i.len : Int) + m.length) = i.len + m.length := by unfold wrap64; omega
  have q0 : ((((i.len : Int) + m.length)) == 0) = (i.len + m.length == 0) := by rw [Bool.eq_iff_iff, beq_iff_eq, beq_iff_eq]; omega
  have qt : (bs t).toList = [] ↔ t.isEmpty = true := by rw [bs_list]; cases t <;> simp
  unfold value_leaf.f Vals.leafV
  simp only [Vals.of_len, List.length_map, w1, q0, bs_size, qt]
  by_cases k1 : k = 1
  · subst k1
    refine Ev.ip (by rfl) ?_
    rw [if_pos rfl]
    by_cases c1 : t.length ≤ 4096
    · refine Ev.ip (by omega) ?_
      by_cases c2 : n = 0
      · exact Ev.ip c2 (Ev.val (by simp [c1, c2]))
      · exact Ev.im c2 (Ev.val (by simp [c1, c2]))
    · exact Ev.im (by omega) (Ev.val (by simp [c1]))
  refine Ev.im (by omega) ?_
  rw [if_neg k1]
  by_cases k3 : k = 3
  · subst k3
    refine Ev.ip (by rfl) ?_
    rw [if_pos rfl]
    have hb := andNot_one n hn.1 hn.2
    by_cases c1 : n = 0 ∨ n = 1
    · refine Ev.ip (hb.2 c1) ?_
      have c1' : (n == 0 || n == 1) = true := by simpa using c1
      by_cases c2 : t.isEmpty = true
      · exact Ev.ip c2 (Ev.val (by rw [c1', c2]; simp))
      · exact Ev.im c2 (Ev.val (by simp only [Bool.not_eq_true] at c2; rw [c1', c2]; simp))
    · refine Ev.im (fun h => c1 (hb.1 h)) (Ev.val ?_)
      have c1' : (n == 0 || n == 1) = false := by simpa using c1
      rw [c1']; simp
  refine Ev.im (by omega) ?_
  rw [if_neg k3]
  by_cases k2 : k = 2
  · subst k2
    refine Ev.ip (by rfl) ?_
    rw [if_pos rfl]
    by_cases c2 : t.isEmpty = true
    · exact Ev.ip c2 (Ev.val (by rw [c2]; simp))
    · exact Ev.im c2 (Ev.val (by simp only [Bool.not_eq_true] at c2; rw [c2]; simp))
  refine Ev.im (by omega) ?_
  rw [if_neg k2]
  by_cases k5 : k = 5
  · subst k5
    refine Ev.ip (by rfl) ?_
    rw [if_pos rfl]
    by_cases c2 : t.isEmpty = true
    · refine Ev.ip c2 ?_
      by_cases c3 : n = 0
      · refine Ev.ip c3 ?_
        by_cases c4 : m.length = i.len
        · refine Ev.ip (by omega) ?_
          refine Ev.bind (rising_ev m hl hs) ?_
          exact Ev.val (by rw [c2, c3, c4]; simp)
        · exact Ev.im (by omega) (Ev.val (by simp [c4]))
      · exact Ev.im c3 (Ev.val (by simp [c3]))
    · exact Ev.im c2 (Ev.val (by simp only [Bool.not_eq_true] at c2; rw [c2]; simp))
  refine Ev.im (by omega) ?_
  rw [if_neg k5]
  by_cases k4 : k = 4
  · subst k4
    refine Ev.ip (by rfl) ?_
    rw [if_pos rfl]
    by_cases c2 : t.isEmpty = true
    · refine Ev.ip c2 ?_
      by_cases c3 : n = 0
      · exact Ev.ip c3 (Ev.val (by rw [c2, c3, Bool.eq_iff_iff]; simp))
      · exact Ev.im c3 (Ev.val (by simp [c3]))
    · exact Ev.im c2 (Ev.val (by simp only [Bool.not_eq_true] at c2; rw [c2]; simp))
  refine Ev.im (by omega) ?_
  rw [if_neg k4]
  exact Ev.val rfl
end Go.Proofs.YtniibpndgcndbaaGreatDoor.Tpl
namespace Go.Proofs.YtniibpndgcndbaaGreatDoor.Tpl
open Go.RowKit Go.Proofs Go.Proofs.YtniibpndgcndbaaGreatDoor.PB Go.Proofs.YtniibpndgcndbaaGreatDoor.Short Go.Proofs.YtniibpndgcndbaaGreatDoorW.PrintWords Go.Proofs.YtniibpndgcndbaaGreatDoorW.PrintLast Go.Proofs.YtniibpndgcndbaaGreatDoorW.PrintMore Vals
theorem leafV_any (k : Nat) (t : S) (n : Int) (i : Vals) (m : List S) (A3 : Option Addr) (c3 : Nat) (A4 : Option Addr) (c4 : Nat) (W : World) (hn : -9223372036854775808 ≤ n ∧ n ≤ 9223372036854775807) (hi : i.len ≤ 1048576) (hl : m.length ≤ 1048576) (hs : ∀ s, s ∈ m → s.length ≤ 1048576) (hR : Vals.Rd W A3 c3 i) (hM : RdS W A4 c4 m) :
    Calls Tryz.prog 99 #[.agg #[.int .u8 k, .string (bs t), .int .i64 n, .slice A3 i.len c3, .slice A4 m.length c4]] W fun e w' => e = .returned (.bool (leafV k t n i.len m)) ∧ Below W.heap.size W w' := by
  obtain ⟨q, hq⟩ := (leafV_ev k t n i m hn hi hl hs).rounds
  have h := value_leaf.calls q k (bs t) n A3 c3 i.of A4 c4 (m.map bs) _ W (by rw [of_len]; exact hR.1) (by rw [of_len]; exact hR.2) (by rw [List.length_map]; exact hM.1) (by rw [List.length_map]; exact hM.2) hq
  rw [of_len, List.length_map] at h
  exact h
theorem inV_one_bad (k : Nat) (t : S) (n : Int) (i : Vals) (m : List S) (lv : Nat) (x : Int) (h : lv = 0 ∨ x - 1 < 0 ∨ leafV k t n i.len m = false) : inV (cons k t n i m nil) lv (x, false) = (x - 1, true) := by
  unfold inV
  simp only [Bool.false_eq_true, if_false]
  rw [if_pos]
  · rfl
  · rcases h with h | h | h <;> simp [h]
theorem inV_one_ok (k : Nat) (t : S) (n : Int) (i : Vals) (m : List S) (lv : Nat) (x : Int) (h1 : lv ≠ 0) (h2 : 0 ≤ x - 1) (h3 : leafV k t n i.len m = true) : inV (cons k t n i m nil) lv (x, false) = inV i (lv - 1) (x - 1, false) := by
  conv => lhs; unfold inV
  simp only [Bool.false_eq_true, if_false]
  rw [if_neg]
  · cases inV i (lv - 1) (x - 1, false); rfl
  · simp [h1, h3]; omega
theorem inV_head (k : Nat) (t : S) (n : Int) (i : Vals) (m : List S) (r : Vals) (lv : Nat) (x : Int) : inV (cons k t n i m r) lv (x, false) = inV r lv (inV (cons k t n i m Vals.nil) lv (x, false)) := by
  conv => lhs; unfold inV
  conv => rhs; rhs; unfold inV
  simp only [Bool.false_eq_true, if_false]
  rfl
theorem inV_le (l : Vals) : ∀ lv c, (inV l lv c).1 ≤ c.1 ∧ c.1 - l.cnt ≤ (inV l lv c).1 := by
  induction l with
  | nil => intro lv c; simp [inV, cnt]
  | cons k t n i m r ihi ihr =>
    intro lv c
    unfold inV
    by_cases h : c.2 = true
    · rw [if_pos h]; simp only [cnt]; omega
    · rw [if_neg h]
      simp only
      split
      · have := ihr lv (c.1 - 1, true); simp only [cnt] at this ⊢; omega
      · have h1 := ihi (lv - 1) (c.1 - 1, false)
        have h2 := ihr lv (inV i (lv - 1) (c.1 - 1, false))
        simp only [cnt] at h1 h2 ⊢
        omega
theorem inV_one_le (k : Nat) (t : S) (n : Int) (i : Vals) (m : List S) (lv : Nat) (x : Int) : (inV (cons k t n i m Vals.nil) lv (x, false)).1 ≤ x ∧ x - (1 + i.cnt) ≤ (inV (cons k t n i m Vals.nil) lv (x, false)).1 := by
  have := inV_le (cons k t n i m Vals.nil) lv (x, false)
  simp only [cnt] at this
  omega
abbrev vBox (k : Nat) (t : S) (n : Int) (A3 : Option Addr) (l3 c3 : Nat) (A4 : Option Addr) (l4 c4 : Nat) : Obj := .cells #[.int .u8 k, .string (bs t), .int .i64 n, .slice A3 l3 c3, .slice A4 l4 c4] 43
set_option maxHeartbeats 4000000 in
set_option maxRecDepth 100000 in
theorem vin_any (w0 : World) (g : Nat) (hg0 : w0.heap.size ≤ g) (M : Nat) : ∀ (k : Nat) (t : S) (n : Int) (i : Vals) (m : List S) (A3 : Option Addr) (c3 : Nat) (A4 : Option Addr) (c4 lv : Nat) (x : Int) (w : World), i.cnt < M → (cons k t n i m nil).sm → Vals.Rd w0 A3 c3 i → RdS w0 A4 c4 m → lv ≤ 8 → -1000000000 + i.cnt + 1 ≤ x → x ≤ 1000000000 → Below w0.heap.size w0 w → w.heap[g]? = some (.cells #[.int .i64 x, .bool false] 105 (0, 0)) →
    Calls Tryz.prog 68 #[.pointer (some ⟨g, 0, none⟩), .agg #[.int .u8 k, .string (bs t), .int .i64 n, .slice A3 i.len c3, .slice A4 m.length c4], .int .i64 lv] w fun e w' => e = .returned (.tuple #[]) ∧ w'.heap[g]? = some (.cells #[.int .i64 (inV (cons k t n i m nil) lv (x, false)).1, .bool (inV (cons k t n i m nil) lv (x, false)).2] 105 (0, 0)) ∧ Below w0.heap.size w0 w' ∧ KeepBut w w' g none := by
  induction M with
  | zero => intro k t n i m A3 c3 A4 c4 lv x w h; omega
  | succ M ih =>
    intro k t n i m A3 c3 A4 c4 lv x w hm hs hR hRm hlv hx0 hx1 hB hg
    obtain ⟨s1, s2, s3, s4, s5, s6, s7, _⟩ := hs
    have HR := Aside0.mk hR
    have HRM := Aside0.mk hRm
    have HB := Aside0.mk hB
    have HG := Aside0.mk hg
    have HS := Aside0.mk s7
    have hgl : g < w.heap.size := blk_lt hg
    have hGA := blk_alloc hg (vBox k t n A3 i.len c3 A4 m.length c4)
    have hNA := blk_new w (vBox k t n A3 i.len c3 A4 m.length c4)
    obtain ⟨z0, z1, f0, f1⟩ := cells_2 hg
    obtain ⟨m0, m1, m2, m3, m4, n0, n1, n2, n3, n4⟩ := cells_5 hNA
    clear hR hRm hB hg
    by_cases cA : lv = 0 ∨ x - 1 < 0
    · have e1 := inV_one_bad k t n i m lv x (by rcases cA with h | h <;> simp [h])
      rw [e1]
      clear e1
      have hl : ((lv : Int) == 0) = true ∨ ((lv : Int) == 0) = false := by cases ((lv : Int) == 0) <;> simp
      rcases hl with hl | hl
      all_goals
        go_enter Tryz.func68, Tryz.ntmps68
        go_wp2
        refine bodyPost_ret (results_none rfl _ _ _) rfl ?_
        exact ⟨rfl, blk_alloc (blk_put (blk_put HG.out 0 _ rfl) 1 _ rfl) _, below_alloc (below_set (below_set HB.out hg0) hg0) _, keep_alloc (((KeepBut.refl _ _ _).set_ _ _).set_ _ _) _⟩
    · simp only [not_or] at cA
      obtain ⟨hlv0, hxx⟩ := cA
      have hl : ((lv : Int) == 0) = false := by rw [beq_eq_false_iff_ne]; omega
      have hx3 : 0 ≤ x - 1 := by omega
      go_enter Tryz.func68, Tryz.ntmps68
      go_wp2_with fail
      have HB1 := Aside0.mk (below_alloc (below_set (j := 0) (v := .int .i64 (x - 1)) HB.out hg0) (vBox k t n A3 i.len c3 A4 m.length c4))
      have HG1 := Aside0.mk (blk_alloc (blk_put HG.out 0 (.int .i64 (x - 1)) rfl) (vBox k t n A3 i.len c3 A4 m.length c4))
      have HN1 := Aside0.mk (blk_new (w.setCell ⟨g, 0, none⟩ (.int .i64 (x - 1))) (vBox k t n A3 i.len c3 A4 m.length c4))
      rw [World.size_setCell] at HN1
      have HK1 := Aside0.mk (keep_alloc ((KeepBut.refl w g none).set_ 0 (.int .i64 (x - 1))) (vBox k t n A3 i.len c3 A4 m.length c4))
      generalize hW : (w.setCell ⟨g, 0, none⟩ (.int .i64 (x - 1))).alloc (vBox k t n A3 i.len c3 A4 m.length c4) = W at HB1 HG1 HN1 HK1
      refine (leafV_any k t n i m A3 c3 A4 c4 W s3 s4 s5 s6 (HR.out.below HB1.out) (RdS.below HRM.out HB1.out)).mono ?_
      rintro e w1 ⟨rfl, hb1⟩
      replace HG1 := Aside0.mk (blk_below HG1.out hb1)
      replace HN1 := Aside0.mk (blk_below HN1.out hb1)
      replace HB1 := Aside0.mk (below_step HB1.out hb1)
      replace HK1 := Aside0.mk (HK1.out.trans (KeepBut.of_below hb1 g none) (.inl rfl))
      have hne : w.heap.size ≠ g := by omega
      clear hb1 hW z0 z1 f0 f1 m0 m1 m2 m3 m4 n0 n1 n2 n3 n4 hGA hNA
      obtain ⟨z0, z1, f0, f1⟩ := cells_2 HG1.out
      obtain ⟨m0, m1, m2, m3, m4, n0, n1, n2, n3, n4⟩ := cells_5 HN1.out
      have hgl1 : g < w1.heap.size := blk_lt HG1.out
      cases hlf : leafV k t n i.len m with
      | false =>
        go_wp2
        refine bodyPost_ret (results_none rfl _ _ _) rfl ?_
        rw [inV_one_bad k t n i m lv x (.inr (.inr hlf))]
        exact ⟨rfl, blk_put HG1.out 1 _ rfl, below_set HB1.out hg0, HK1.out.set_ _ _⟩
      | true =>
        have e2 := inV_one_ok k t n i m lv x hlv0 hx3 hlf
        have E2 := Aside0.mk e2
        clear e2
        have hm' := hm
        have hlv1 : (lv : Int) - 1 = ((lv - 1 : Nat) : Int) := by omega
        go_wp2
        go_loopw [45] (fun v wr => ∃ (j : Nat) (x1 : Int), v = .int .i64 j ∧ j ≤ i.len ∧ x1 ≤ 1000000000 ∧ Aside0 (-1000000000 + (i.drop j).cnt ≤ x1) ∧ Aside0 (inV i (lv - 1) (x - 1, false) = inV (i.drop j) (lv - 1) (x1, false)) ∧ Aside0 (wr.heap[g]? = some (.cells #[.int .i64 x1, .bool false] 105 (0, 0))) ∧ Aside0 (Below w0.heap.size w0 wr) ∧ Aside0 (KeepBut w wr g none))
          (fun v _ => i.len - (intOf v).toNat)
        case atStart => exact ⟨0, x - 1, rfl, Nat.zero_le _, by omega, by rw [drop_zero]; exact ⟨by omega⟩, by rw [drop_zero]; exact ⟨rfl⟩, ⟨blk_put HG1.out 1 _ rfl⟩, ⟨below_set HB1.out hg0⟩, ⟨HK1.out.set_ _ _⟩⟩
        case round =>
          obtain ⟨j, x1, rfl, hj, hx2, HX, HE, HGr, HBr, HKr⟩ := hrel
          cases hd : i.drop j with
          | nil =>
            have h1 := drop_nil hd
            obtain rfl : j = i.len := by omega
            rw [hd] at HE
            clear hd
            go_wp2
            go_end0
            rw [E2.out, HE.out]
            exact ⟨rfl, HGr.out, HBr.out, HKr.out⟩
          | cons k' t' n' i' m' r' =>
            obtain ⟨h1, h2, _⟩ := drop_step hd
            obtain ⟨ad, A3', c3', A4', c4', rfl, y0, y1, y2, y3, y4, R3, R4⟩ := HR.out.at hd
            replace y0 := (HBr.out.cell (World.block_lt_of_cell? _ _ y0)).trans y0
            replace y1 := (HBr.out.cell (World.block_lt_of_cell? _ _ y1)).trans y1
            replace y2 := (HBr.out.cell (World.block_lt_of_cell? _ _ y2)).trans y2
            replace y3 := (HBr.out.cell (World.block_lt_of_cell? _ _ y3)).trans y3
            replace y4 := (HBr.out.cell (World.block_lt_of_cell? _ _ y4)).trans y4
            have hsm : (cons k' t' n' i' m' r').sm := hd ▸ sm_drop HS.out j
            have hsm1 : (cons k' t' n' i' m' Vals.nil).sm := by obtain ⟨a1, a2, a3, a4, a5, a6, a7, _⟩ := hsm; exact ⟨a1, a2, a3, a4, a5, a6, a7, trivial⟩
            have hcj := cnt_drop i j
            have hx := HX.out
            rw [hd] at hx hcj
            simp only [cnt] at hx hcj
            have hgr : g < wr.heap.size := blk_lt HGr.out
            clear z0 z1 f0 f1 m0 m1 m2 m3 m4 n0 n1 n2 n3 n4
            obtain ⟨z0, z1, f0, f1⟩ := cells_2 HGr.out
            have hstep : inV (cons k' t' n' i' m' r') (lv - 1) (x1, false) = inV r' (lv - 1) (inV (cons k' t' n' i' m' Vals.nil) (lv - 1) (x1, false)) := inV_head k' t' n' i' m' r' (lv - 1) x1
            have hle := inV_one_le k' t' n' i' m' (lv - 1) x1
            rw [hd, hstep] at HE
            have HD := Aside0.mk h2
            have HE' := Aside0.mk HE.out
            clear HE hstep hd h2
            go_wp2_with fail
            refine (ih k' t' n' i' m' A3' c3' A4' c4' (lv - 1) x1 _ (by omega) hsm1 R3 R4 (by omega) (by omega) (by omega) (below_alloc HBr.out _) (blk_alloc HGr.out _)).mono ?_
            rintro e w2 ⟨rfl, hg2, hb2, hk2⟩
            have HG2 := Aside0.mk hg2
            have HB2 := Aside0.mk hb2
            have HK2 := Aside0.mk (HKr.out.trans ((keep_alloc (KeepBut.refl _ _ _) _).trans hk2 (.inl rfl)) (.inl rfl))
            clear hg2 hb2 hk2 z0 z1 f0 f1 y0 y1 y2 y3 y4
            obtain ⟨y, b, hyb⟩ : ∃ y b, inV (cons k' t' n' i' m' Vals.nil) (lv - 1) (x1, false) = (y, b) := ⟨_, _, rfl⟩
            rw [hyb] at HG2 HE' hle
            simp only at HG2 hle
            clear hyb
            obtain ⟨z0, z1, f0, f1⟩ := cells_2 HG2.out
            have hg2' : g < w2.heap.size := blk_lt HG2.out
            cases b with
            | true =>
              go_wp2
              refine bodyPost_ret (results_none rfl _ _ _) rfl ?_
              rw [E2.out, HE'.out, inV_bad r' _ _ rfl]
              exact ⟨rfl, HG2.out, HB2.out, HK2.out⟩
            | false =>
              go_wp2
              go_roundw
              case rel => exact ⟨j + 1, y, by simp, by omega, by omega, ⟨by rw [HD.out]; omega⟩, ⟨by rw [HE'.out, HD.out]⟩, HG2, HB2, HK2⟩
              case measure => simp [intOf]; omega
end Go.Proofs.YtniibpndgcndbaaGreatDoor.Tpl
namespace Go.Proofs.YtniibpndgcndbaaGreatDoor.Tpl
open Go.RowKit Go.Proofs Go.Proofs.YtniibpndgcndbaaGreatDoor.PB Go.Proofs.YtniibpndgcndbaaGreatDoor.Short Go.Proofs.YtniibpndgcndbaaGreatDoorW.PrintWords Go.Proofs.YtniibpndgcndbaaGreatDoorW.PrintLast Go.Proofs.YtniibpndgcndbaaGreatDoorW.PrintMore Vals
set_option maxRecDepth 100000 in
theorem vchk_any (k : Nat) (t : S) (n : Int) (i : Vals) (m : List S) (A3 : Option Addr) (c3 : Nat) (A4 : Option Addr) (c4 : Nat) (w : World) (hs : (cons k t n i m Vals.nil).sm) (hR : Vals.Rd w A3 c3 i) (hM : RdS w A4 c4 m) (hc : i.cnt ≤ 1048576) :
    Calls Tryz.prog 38 #[.agg #[.int .u8 k, .string (bs t), .int .i64 n, .slice A3 i.len c3, .slice A4 m.length c4]] w fun e w' => e = .returned (.int .i64 (if chkV k t n i m = true then 0 else 2)) ∧ Below w.heap.size w w' := by
  obtain ⟨v, hv⟩ : ∃ v : Int, (if chkV k t n i m = true then 0 else 2) = v := ⟨_, rfl⟩
  rw [hv]
  have HV := Aside0.mk hv
  have HR := Aside0.mk hR
  have HM := Aside0.mk hM
  have HS := Aside0.mk hs
  clear hR hM hs hv
  go_enter Tryz.func38, Tryz.ntmps38
  go_wp2_with fail
  have hg := blk_new (w.alloc (vBox k t n A3 i.len c3 A4 m.length c4)) (.cells #[.int .i64 256, .bool false] 105)
  rw [World.size_alloc] at hg
  have hb := below_alloc (below_alloc (Below.refl w.heap.size w) (vBox k t n A3 i.len c3 A4 m.length c4)) (.cells #[.int .i64 256, .bool false] 105)
  refine (vin_any w (w.heap.size + 1) (Nat.le_succ _) (i.cnt + 1) k t n i m A3 c3 A4 c4 8 256 _ (Nat.lt_succ_self _) HS.out HR.out HM.out (by omega) (by omega) (by omega) hb hg).mono ?_
  rintro e w1 ⟨rfl, hg1, hb1, _⟩
  clear hg hb
  obtain ⟨z0, z1, f0, f1⟩ := cells_2 hg1
  rw [inV_fits] at z1
  have HB1 := Aside0.mk hb1
  have hgl := blk_lt hg1
  clear hb1 hg1 z0 f0 f1
  cases hf : chkV k t n i m
  all_goals
    rw [show fitsV (cons k t n i m Vals.nil) = _ from hf] at z1
    have HF := Aside0.mk hf
    clear hf
    simp only [Bool.not_false, Bool.not_true] at z1
    go_wp2
    go_ret
    exact ⟨by rw [← HV.out, HF.out]; rfl, HB1.out⟩
end Go.Proofs.YtniibpndgcndbaaGreatDoor.Tpl
namespace Go.Proofs.YtniibpndgcndbaaGreatDoor.Tpl
open Go.RowKit Go.Proofs Go.Proofs.YtniibpndgcndbaaGreatDoor.PB Go.Proofs.YtniibpndgcndbaaGreatDoor.Short Go.Proofs.YtniibpndgcndbaaGreatDoorW.PrintWords Go.Proofs.YtniibpndgcndbaaGreatDoorW.PrintLast Go.Proofs.YtniibpndgcndbaaGreatDoorW.PrintMore Vals
set_option maxHeartbeats 1000000 in
set_option maxRecDepth 100000 in
theorem vholds_any (k : Nat) (t : S) (n : Int) (i : Vals) (m : List S) (A3 : Option Addr) (c3 : Nat) (A4 : Option Addr) (c4 : Nat) (w : World) (hs : (cons k t n i m Vals.nil).sm) (hR : Vals.Rd w A3 c3 i) (hM : RdS w A4 c4 m) (hc : i.cnt ≤ 1048576) :
    Calls Tryz.prog 121 #[.agg #[.int .u8 k, .string (bs t), .int .i64 n, .slice A3 i.len c3, .slice A4 m.length c4]] w fun e w' => e = .returned (.tuple #[.bool (holdsV k t n i m), .int .i64 (if chkV k t n i m = true then 0 else 2)]) ∧ Below w.heap.size w w' := by
  have hb0 := below_alloc (Below.refl w.heap.size w) (vBox k t n A3 i.len c3 A4 m.length c4)
  have hn0 := blk_new w (vBox k t n A3 i.len c3 A4 m.length c4)
  have hA := vchk_any k t n i m A3 c3 A4 c4 (w.alloc (vBox k t n A3 i.len c3 A4 m.length c4)) hs (hR.below hb0) (RdS.below hM hb0) hc
  have HB0 := Aside0.mk hb0
  have HN0 := Aside0.mk hn0
  clear hR hM hs hb0 hn0
  obtain ⟨hv, he⟩ : ∃ v : Bool, holdsV k t n i m = v := ⟨_, rfl⟩
  rw [he]
  unfold holdsV at he
  cases hch : chkV k t n i m with
  | false =>
    rw [hch] at hA he
    have HE := Aside0.mk he
    clear he hch
    go_enter Tryz.func121, Tryz.ntmps121
    go_wp2_with fail
    refine hA.mono ?_
    rintro e w1 ⟨rfl, hb⟩
    have HB1 := Aside0.mk (below_step HB0.out hb)
    clear hb hA
    go_wp2
    go_ret2
    exact ⟨by rw [← HE.out]; rfl, HB1.out⟩
  | true =>
    rw [hch] at hA he
    have HE := Aside0.mk he
    clear he hch
    go_enter Tryz.func121, Tryz.ntmps121
    go_wp2_with fail
    refine hA.mono ?_
    rintro e w1 ⟨rfl, hb⟩
    have HB1 := Aside0.mk (below_step HB0.out hb)
    have hn1 := blk_below HN0.out hb
    obtain ⟨m0, m1, m2, m3, m4, n0, n1, n2, n3, n4⟩ := cells_5 hn1
    clear hb hA hn1
    have hl := bs_list t
    by_cases c1 : t = []
    · subst c1
      by_cases c2 : n = 0
      · subst c2
        go_wp2
        go_ret2
        exact ⟨by rw [← HE.out]; simp, HB1.out⟩
      · have c3 : (n == 0) = false := by simpa using c2
        have c4' : (n != 0) = true := by simpa using c2
        go_wp2
        go_ret2
        exact ⟨by rw [← HE.out, c4']; simp, HB1.out⟩
    · have c3 : t.isEmpty = false := by cases t <;> simp_all
      have c4' : (t == []) = false := by cases t <;> simp_all
      have c5 : (bs t).toList.isEmpty = false := by rw [hl]; exact c3
      have c6 : ((bs t).toList == []) = false := by rw [hl]; exact c4'
      go_wp2
      go_ret2
      exact ⟨by rw [← HE.out, c3]; simp, HB1.out⟩
end Go.Proofs.YtniibpndgcndbaaGreatDoor.Tpl
namespace Go.Proofs.YtniibpndgcndbaaGreatDoor.Tpl
open Go.RowKit Go.Proofs Go.Proofs.YtniibpndgcndbaaGreatDoor.PB Go.Proofs.YtniibpndgcndbaaGreatDoor.Short Go.Proofs.YtniibpndgcndbaaGreatDoorW.PrintWords Go.Proofs.YtniibpndgcndbaaGreatDoorW.PrintLast Go.Proofs.YtniibpndgcndbaaGreatDoorW.PrintMore Vals
theorem heapV : Kd.Heap kV := Kd.heap_fix (fun _ hd => Kd.heap_iso _ (Kd.heap_pair (Kd.heap_int _) (Kd.heap_pair Kd.heap_string (Kd.heap_pair (Kd.heap_int _) (Kd.heap_pair (Kd.heap_slice _ hd) (Kd.heap_slice _ Kd.heap_string))))))
def FdV (w : World) (ok : Nat → Prop) (A : Option Addr) (c : Nat) (l : Vals) : Prop := Kd.F kV w ok A l.len l.of ∧ l.len ≤ c
def FdS (w : World) (ok : Nat → Prop) (A : Option Addr) (c : Nat) (l : List S) : Prop := Kd.F Kd.string w ok A l.length (l.map bs) ∧ l.length ≤ c
theorem Rd.fd {w : World} {A : Option Addr} {c : Nat} {l : Vals} (h : Vals.Rd w A c l) : FdV w (fun k => k < w.heap.size) A c l := ⟨Kd.C_F heapV h.1, h.2⟩
theorem RdS.fd {w : World} {A : Option Addr} {c : Nat} {l : List S} (h : RdS w A c l) : FdS w (fun k => k < w.heap.size) A c l := ⟨Kd.C_F Kd.heap_string h.1, h.2⟩
theorem FdV.rd {w : World} {ok : Nat → Prop} {A : Option Addr} {c : Nat} {l : Vals} (h : FdV w ok A c l) : Vals.Rd w A c l := ⟨Kd.F_now h.1, h.2⟩
theorem FdS.rd {w : World} {ok : Nat → Prop} {A : Option Addr} {c : Nat} {l : List S} (h : FdS w ok A c l) : RdS w A c l := ⟨Kd.F_now h.1, h.2⟩
abbrev NV (w : World) (base : Nat) (ok : Nat → Prop) (v : Value) (l : Vals) : Prop := Kd.N kV 43 w base ok v l.of
theorem infoV : (Tryz.prog.info? 43).map (fun i => (i.zero, i.size, i.bytes)) = some (some (.agg #[.int .u8 0, .string ⟨#[]⟩, .int .i64 0, .slice none 0 0, .slice none 0 0]), 5, 80) := by kernel_rfl
theorem nv_empty (w : World) (ok : Nat → Prop) (hok : ok w.heap.size) : NV (w.alloc (.cells #[] 43)) w.heap.size ok (.slice (some ⟨w.heap.size, 0, none⟩) 0 0) Vals.nil := by
  refine Kd.R_N ⟨fun k hk => by simp [Value.ownBlock] at hk; subst hk; exact hok, [], ?_, Reps.none _ _⟩
  exact World.ownsRow_made w #[] 0 (Nat.le_refl _) (Nat.zero_le _) rfl
set_option maxHeartbeats 1000000 in
set_option maxRecDepth 100000 in
theorem cloneV_any (A : Option Addr) (c : Nat) (l : Vals) (w : World) (ok : Nat → Prop) (hF : FdV w ok A c l) (hn : l.len ≤ 1048576) (hf : ∀ k, w.heap.size ≤ k → ok k) :
    Calls Tryz.prog 165 #[.slice A l.len c] w fun e w' => ∃ Av cv, e = .returned (.slice Av l.len cv) ∧ NV w' w.heap.size ok (.slice Av l.len cv) l ∧ Below w.heap.size w w' := by
  have q24 : ∀ (w : World) (a : Option Addr) (n c n' c' : Nat), (binOp .eql 41 (.slice a n c) (.slice none n' c')).run Tryz.prog w = .ok (.bool a.isNone) w := fun w a n c n' c' => Lib.run_eql_slice_nil w _ _ a n c n' c' Tryz.underlying41
  cases A with
  | none =>
    have h0 : l.len = 0 := by
      have h := (Kd.F_now hF.1).2.2
      rcases Nat.eq_zero_or_pos l.len with h1 | h1
      · exact h1
      · obtain ⟨ad, e, _⟩ := h h1; cases e
    have h1 : l = Vals.nil := by cases l with | nil => rfl | cons => simp [Vals.len] at h0
    subst h1
    clear hF
    go_enter Tryz.func165, Tryz.ntmps165
    go_wp2
    go_ret
    exact ⟨_, _, rfl, Kd.N_nil _ _ _ _ _, Below.refl _ _⟩
  | some ad =>
    have HF := Aside0.mk hF
    have HE := Aside0.mk (nv_empty w ok (hf _ (Nat.le_refl _)))
    clear hF
    go_enter Tryz.func165, Tryz.ntmps165
    have hl : ([] : List SV).length + l.len ≤ 1048576 := by simp; omega
    have HL : Aside0 ((([] : List SV).length + l.len) * 80 ≤ 140737488355328) := ⟨by omega⟩
    have HFr : Aside0 (∀ k, (w.alloc (.cells #[] 43)).heap.size ≤ k → ok k) := ⟨fun k hk => hf k (by rw [World.size_alloc] at hk; omega)⟩
    have HS : Aside0 (w.heap.size ≤ (w.alloc (.cells #[] 43)).heap.size) := ⟨by rw [World.size_alloc]; omega⟩
    have HK : Aside0 (∀ k, (ok k ∧ k < w.heap.size) → ok k ∧ some k ≠ (Value.slice (some ⟨w.heap.size, 0, none⟩) 0 0).ownBlock) := ⟨fun k hk => ⟨hk.1, fun e => by simp [Value.ownBlock] at e; omega⟩⟩
    clear hf hl
    go_wp2_with (at_builtin; refine Kd.N_append_rows kV (w0 := w) w.heap.size rfl _ _ 41 43 _ 80 rfl Tryz.underlying41 infoV rfl (by decide) (by decide) (.slice (some ⟨w.heap.size, 0, none⟩) 0 0) [] l.of (some ad) l.len c ok (fun k => ok k ∧ k < w.heap.size) rfl rfl HE.out (Kd.F_below (Kd.F_bound HF.out.1) (below_alloc (Below.refl _ _) _)) HK.out HFr.out (below_alloc (Below.refl _ _) _) HS.out HL.out ?_; intro v1 w1 hN hB hg hat)
    obtain ⟨Av, cv, rfl⟩ := Kd.N_slice hN
    rw [List.nil_append, of_len] at *
    go_ret
    exact ⟨Av, cv, rfl, hN, hB⟩
theorem FdV.below {w0 w : World} {ok : Nat → Prop} {A : Option Addr} {c : Nat} {l : Vals} (h : FdV w0 ok A c l) (hb : Below w0.heap.size w0 w) : FdV w ok A c l := ⟨Kd.F_below h.1 hb, h.2⟩
theorem FdV.mono {w : World} {ok ok' : Nat → Prop} {A : Option Addr} {c : Nat} {l : Vals} (h : FdV w ok A c l) (hk : ∀ k, ok k → ok' k) : FdV w ok' A c l := ⟨Kd.F_mono h.1 hk, h.2⟩
theorem FdS.below {w0 w : World} {ok : Nat → Prop} {A : Option Addr} {c : Nat} {l : List S} (h : FdS w0 ok A c l) (hb : Below w0.heap.size w0 w) : FdS w ok A c l := ⟨Kd.F_below h.1 hb, h.2⟩
abbrev zBox : Obj := .cells #[.int .u8 0, .string ⟨#[]⟩, .int .i64 0, .slice none 0 0, .slice none 0 0] 43
abbrev put5 (W : World) (g o : Nat) (a0 a1 a2 a3 a4 : Value) : World := ((((W.setCell ⟨g, o, none⟩ a0).setCell ⟨g, o + 1, none⟩ a1).setCell ⟨g, o + 2, none⟩ a2).setCell ⟨g, o + 3, none⟩ a3).setCell ⟨g, o + 4, none⟩ a4
theorem put5_far {W : World} {g o : Nat} {a0 a1 a2 a3 a4 : Value} {k : Nat} (h : k ≠ g) : (put5 W g o a0 a1 a2 a3 a4).heap[k]? = W.heap[k]? := by
  unfold put5
  rw [Below.heap_setCell _ _ _ _ h, Below.heap_setCell _ _ _ _ h, Below.heap_setCell _ _ _ _ h, Below.heap_setCell _ _ _ _ h, Below.heap_setCell _ _ _ _ h]
theorem put5_below {w W : World} {g o : Nat} {a0 a1 a2 a3 a4 : Value} (h : Below w.heap.size w W) (hg : w.heap.size ≤ g) : Below w.heap.size w (put5 W g o a0 a1 a2 a3 a4) := below_set (below_set (below_set (below_set (below_set h hg) hg) hg) hg) hg
theorem put5_blk {W : World} {g t : Nat} {a0 a1 a2 a3 a4 b0 b1 b2 b3 b4 : Value} (h : W.heap[g]? = some (.cells #[a0, a1, a2, a3, a4] t (0, 0))) : (put5 W g 0 b0 b1 b2 b3 b4).heap[g]? = some (.cells #[b0, b1, b2, b3, b4] t (0, 0)) := blk_put (blk_put (blk_put (blk_put (blk_put h 0 _ rfl) 1 _ rfl) 2 _ rfl) 3 _ rfl) 4 _ rfl
theorem rd_drop {l : Vals} {j k t n i m r} (h : l.drop j = cons k t n i m r) : l.of.getD (j : Int).toNat z43 = ⟨k, bs t, n, i.of, m.map bs⟩ := (drop_step h).2.2
theorem NV_at {W : World} {base cap : Nat} {ok : Nat → Prop} {A : Option Addr} {l : Vals} {j k t n i m r} (h : NV W base ok (.slice A l.len cap) l) (hd : l.drop j = cons k t n i m r) :
    ∃ g A3 c3 A4 c4, A = some ⟨g, 0, none⟩ ∧ base ≤ g ∧ g < W.heap.size ∧ ok g ∧ (∃ cells, W.heap[g]? = some (.cells cells 43 (0, 0))) ∧ W.cell? ⟨g, j * 5, none⟩ = some (.int .u8 k) ∧ W.cell? ⟨g, j * 5 + 1, none⟩ = some (.string (bs t)) ∧ W.cell? ⟨g, j * 5 + 2, none⟩ = some (.int .i64 n) ∧
      W.cell? ⟨g, j * 5 + 3, none⟩ = some (.slice A3 i.len c3) ∧ W.cell? ⟨g, j * 5 + 4, none⟩ = some (.slice A4 m.length c4) ∧ W.frozen? ⟨g, j * 5, none⟩ = false ∧ W.frozen? ⟨g, j * 5 + 1, none⟩ = false ∧ W.frozen? ⟨g, j * 5 + 2, none⟩ = false ∧ W.frozen? ⟨g, j * 5 + 3, none⟩ = false ∧ W.frozen? ⟨g, j * 5 + 4, none⟩ = false ∧
      FdV W (fun q => ok q ∧ q ≠ g) A3 c3 i ∧ FdS W (fun q => ok q ∧ q ≠ g) A4 c4 m := by
  have hl := (drop_step hd).1
  obtain ⟨g, cap', e, hg1, hg2, hgc⟩ := Kd.N_form h (by rw [of_len]; omega)
  rw [of_len] at e
  injection e with e1 e2 e3
  subst e1
  have hok : ok g := h.1 g (by simp [Value.ownBlock])
  obtain ⟨c, hc1, hc2, hc3, hc4⟩ := Kd.N_elem h z43 (j : Int) (by omega) (by omega)
  rw [rd_drop hd] at hc2
  obtain ⟨A3, c3, A4, c4, rfl, l3, F3, l4, F4⟩ := k43_openF hc2
  simp only [List.length_map, of_len] at l3 F3 l4 F4 hc3
  have hs : Kd.sz kV = 5 := rfl
  refine ⟨g, A3, c3, A4, c4, rfl, hg1, hg2, hok, hgc, ?_⟩
  simp only [Int.toNat_natCast, hs] at hc3 hc4
  exact ⟨hc3 0 _ rfl, hc3 1 _ rfl, hc3 2 _ rfl, hc3 3 _ rfl, hc3 4 _ rfl, hc4 0, hc4 1, hc4 2, hc4 3, hc4 4, ⟨F3, l3⟩, ⟨F4, l4⟩⟩
theorem NV_set {W : World} {base cap g : Nat} {ok okp : Nat → Prop} {l : Vals} {j k t n i m r} (h : NV W base ok (.slice (some ⟨g, 0, none⟩) l.len cap) l) (hd : l.drop j = cons k t n i m r) {A3 : Option Addr} {c3 : Nat} {A4 : Option Addr} {c4 : Nat} (hV : FdV W okp A3 c3 i) (hS : FdS W okp A4 c4 m) (hk : ∀ q, okp q → ok q ∧ q ≠ g) :
    NV (put5 W g (j * 5) (.int .u8 k) (.string (bs t)) (.int .i64 n) (.slice A3 i.len c3) (.slice A4 m.length c4)) base ok (.slice (some ⟨g, 0, none⟩) l.len cap) l := by
  have hl := (drop_step hd).1
  obtain ⟨c, hc1, hc2, hc3, hc4⟩ := Kd.N_elem h z43 (j : Int) (by omega) (by omega)
  have hc1' : c.length = 5 := hc1
  have hset := Kd.N_seg (x' := (⟨k, bs t, n, i.of, m.map bs⟩ : SV)) (okp := okp) (j := 0) (seg := [.int .u8 k, .string (bs t), .int .i64 n, .slice A3 i.len c3, .slice A4 m.length c4]) h (j : Int) (by omega) (by omega) hc1 hc3 (Nat.le_refl 5) (by
    rw [List.drop_eq_nil_of_le (by rw [hc1']; exact Nat.le_refl 5), List.take_zero, List.nil_append, List.append_nil]
    have := k43_mkF W okp (⟨k, bs t, n, i.of, m.map bs⟩ : SV) (A3 := A3) (c3 := c3) (by simpa [of_len] using hV.2) (by simpa [of_len] using hV.1) (A4 := A4) (c4 := c4) (by simpa using hS.2) (by simpa using hS.1)
    simpa [of_len] using this) hk
  have h1 := hset.1
  rw [Int.toNat_natCast] at h1
  have e : l.of.set j (⟨k, bs t, n, i.of, m.map bs⟩ : SV) = l.of := by
    have hj : j < l.of.length := by rw [of_len]; exact hl
    have h2 := rd_drop hd
    rw [Int.toNat_natCast, List.getD_eq_getElem?_getD, List.getElem?_eq_getElem hj, Option.getD_some] at h2
    rw [← h2]
    exact List.set_getElem_self hj
  rw [e] at h1
  exact h1
abbrev OwnRet (k : Nat) (t : S) (n : Int) (i : Vals) (m : List S) (ok0 : Nat → Prop) (w : World) (e : Ending) (w' : World) : Prop :=
  ∃ A3 c3 A4 c4, e = .returned (.agg #[.int .u8 k, .string (bs t), .int .i64 n, .slice A3 i.len c3, .slice A4 m.length c4]) ∧ NV w' w.heap.size (fun q => ok0 q ∨ w.heap.size ≤ q) (.slice A3 i.len c3) i ∧ Kd.string.R 9 w' w.heap.size (fun q => w.heap.size ≤ q) (.slice A4 m.length c4) (m.map bs) ∧ Below w.heap.size w w'
end Go.Proofs.YtniibpndgcndbaaGreatDoor.Tpl
namespace Go.Proofs.YtniibpndgcndbaaGreatDoor.Tpl
open Go.RowKit Go.Proofs Go.Proofs.YtniibpndgcndbaaGreatDoor.PB Go.Proofs.YtniibpndgcndbaaGreatDoor.Short Go.Proofs.YtniibpndgcndbaaGreatDoorW.PrintWords Go.Proofs.YtniibpndgcndbaaGreatDoorW.PrintLast Go.Proofs.YtniibpndgcndbaaGreatDoorW.PrintMore Vals
theorem FdV.bound {w : World} {ok : Nat → Prop} {A : Option Addr} {c : Nat} {l : Vals} (h : FdV w ok A c l) : FdV w (fun q => ok q ∧ q < w.heap.size) A c l := ⟨Kd.F_bound h.1, h.2⟩
theorem FdS.mono {w : World} {ok ok' : Nat → Prop} {A : Option Addr} {c : Nat} {l : List S} (h : FdS w ok A c l) (hk : ∀ k, ok k → ok' k) : FdS w ok' A c l := ⟨Kd.F_mono h.1 hk, h.2⟩
theorem NV.fd {w : World} {base cc : Nat} {ok : Nat → Prop} {A : Option Addr} {l : Vals} (h : NV w base ok (.slice A l.len cc) l) : FdV w ok A cc l := ⟨Kd.N_F h, by have := (Kd.N_reads' h).2.1; exact this⟩
theorem RS.fd {w : World} {base cc : Nat} {ok : Nat → Prop} {A : Option Addr} {l : List S} (h : Kd.string.R 9 w base ok (.slice A l.length cc) (l.map bs)) : FdS w ok A cc l := ⟨by have := Kd.R_F h; exact this, (Kd.R_reads' h).2.1⟩
theorem own_lt1 {W w1 : World} {b q : Nat} (h1 : W.drew.heap.size ≤ w1.heap.size) (h2 : W.heap.size = b + 1 + 1) (h3 : w1.heap.size ≤ q) : b + 1 < q := by rw [World.size_drew] at h1; omega
abbrev vObj (k : Nat) (t : S) (n : Int) (i : Vals) (m : List S) (A3 : Option Addr) (c3 : Nat) (A4 : Option Addr) (c4 : Nat) : Obj := .cells #[.int .u8 k, .string (bs t), .int .i64 n, .slice A3 i.len c3, .slice A4 m.length c4] 43 (0, 0)
def OwnMid (k : Nat) (t : S) (n : Int) (i : Vals) (m : List S) (ok : Nat → Prop) (b1 : Nat) (w wx : World) : Prop :=
  ∃ Av cv Bv dv, wx.heap[b1]? = some (vObj k t n i m Bv dv Av cv) ∧ wx.heap[b1 + 1]? = some zBox ∧ NV wx b1 ok (.slice Bv i.len dv) i ∧ Kd.string.R 9 wx b1 (fun q => b1 + 1 < q) (.slice Av m.length cv) (m.map bs) ∧ Below b1 w wx
theorem own_mid {k : Nat} {t : S} {n : Int} {i : Vals} {m : List S} {ok : Nat → Prop} {b1 : Nat} {w W w1 w2 : World} {A3 : Option Addr} {c3 : Nat} {A4 : Option Addr} {c4 : Nat} {Av : Option Addr} {cv : Nat} {Bv : Option Addr} {dv : Nat} (hok1 : ¬ ok b1)
    (Hb1 : w.heap.size = b1) (Hsz : W.heap.size = b1 + 1 + 1) (HB2 : Below w.heap.size w W) (K2 : w2.heap[b1]? = some (vObj k t n i m A3 c3 A4 c4)) (HK2 : W.heap[b1 + 1]? = some zBox) (hv1 : Kd.string.R 9 w1 W.drew.heap.size (fun q => W.drew.heap.size ≤ q) (.slice Av m.length cv) (m.map bs)) (hc1 : Below W.drew.heap.size W.drew w1)
    (hv2 : NV w2 w1.heap.size ok (.slice Bv i.len dv) i) (hc2 : Below w1.heap.size w1 w2) : OwnMid k t n i m ok b1 w ((w2.setCell ⟨b1, 4, none⟩ (.slice Av m.length cv)).setCell ⟨b1, 3, none⟩ (.slice Bv i.len dv)) := by
  have hs1 := hc1.size
  rw [World.size_drew] at hs1
  have hb : Below W.heap.size W w2 := below_step (below_step (below_drew (Below.refl _ _)) hc1) hc2
  refine ⟨Av, cv, Bv, dv, blk_put (blk_put K2 4 _ rfl) 3 _ rfl, ?_, ?_, ?_, ?_⟩
  · exact blk_far (blk_far (blk_below HK2 hb) (p := ⟨b1, 4, none⟩) (by simp) _) (p := ⟨b1, 3, none⟩) (by simp) _
  · have hn : ∀ q, ok q → q ≠ b1 := fun q hq e => hok1 (e ▸ hq)
    exact Kd.N_far (p := ⟨b1, 3, none⟩) (Kd.N_far (p := ⟨b1, 4, none⟩) (Kd.N_lower hv2 (by omega)) hn _) hn _
  · have hn : ∀ q, b1 + 1 < q → q ≠ b1 := fun q hq e => by omega
    exact Kd.R_far (p := ⟨b1, 3, none⟩) (Kd.R_far (p := ⟨b1, 4, none⟩) (Kd.R_lower (Kd.R_mono (Kd.R_below hv1 hc2) (fun q hq => by rw [World.size_drew] at hq; omega)) (by rw [World.size_drew]; omega)) hn _) hn _
  · subst Hb1
    exact below_set (below_set (below_step HB2 hb) (Nat.le_refl _)) (Nat.le_refl _)
theorem own_step {k : Nat} {t : S} {n : Int} {i : Vals} {m : List S} {okk : Nat → Prop} {b1 g gx j : Nat} {w W1 w2 : World} {Bv : Option Addr} {dv : Nat} {Av : Option Addr} {cv : Nat} {B3 : Option Addr} {d3 : Nat} {B4 : Option Addr} {d4 : Nat} {k' : Nat} {t' : S} {n' : Int} {i' : Vals} {m' : List S} {r' : Vals}
    (hok1 : ¬ okk b1) (hok2 : ¬ okk (b1 + 1)) (hok3 : ∀ q, b1 + 1 < q → okk q) (Hb1 : w.heap.size = b1) (hb2 : Below W1.drew.heap.size W1.drew w2) (HN : NV W1 b1 okk (.slice (some ⟨g, 0, none⟩) i.len dv) i) (hd : i.drop j = cons k' t' n' i' m' r')
    (hn2 : NV w2 W1.drew.heap.size (fun q => (okk q ∧ q ≠ g) ∨ W1.drew.heap.size ≤ q) (.slice B3 i'.len d3) i') (hr2 : Kd.string.R 9 w2 W1.drew.heap.size (fun q => W1.drew.heap.size ≤ q) (.slice B4 m'.length d4) (m'.map bs))
    (K1 : W1.heap[b1]? = some (vObj k t n i m Bv dv Av cv)) (K2 : W1.heap[b1 + 1]? = some zBox) (HR : Kd.string.R 9 W1 b1 (fun q => b1 + 1 < q) (.slice Av m.length cv) (m.map bs)) (HB : Below b1 w W1)
    (Hg : ∃ cells, W1.heap[g]? = some (.cells cells 43 (0, 0))) (Hs : W1.heap.size = gx + 1) (hgl : g < gx + 1) (hokg : okk g) (hlt2 : b1 + 1 < gx) (hg1 : b1 ≤ g) :
    (put5 w2 g (j * 5) (.int .u8 k') (.string (bs t')) (.int .i64 n') (.slice B3 i'.len d3) (.slice B4 m'.length d4)).heap[b1]? = some (vObj k t n i m Bv dv Av cv) ∧ (put5 w2 g (j * 5) (.int .u8 k') (.string (bs t')) (.int .i64 n') (.slice B3 i'.len d3) (.slice B4 m'.length d4)).heap[b1 + 1]? = some zBox ∧
    NV (put5 w2 g (j * 5) (.int .u8 k') (.string (bs t')) (.int .i64 n') (.slice B3 i'.len d3) (.slice B4 m'.length d4)) b1 okk (.slice (some ⟨g, 0, none⟩) i.len dv) i ∧ Kd.string.R 9 (put5 w2 g (j * 5) (.int .u8 k') (.string (bs t')) (.int .i64 n') (.slice B3 i'.len d3) (.slice B4 m'.length d4)) b1 (fun q => b1 + 1 < q) (.slice Av m.length cv) (m.map bs) ∧
    Below b1 w (put5 w2 g (j * 5) (.int .u8 k') (.string (bs t')) (.int .i64 n') (.slice B3 i'.len d3) (.slice B4 m'.length d4)) := by
  have hbd : Below W1.heap.size W1 w2 := below_step (below_drew (Below.refl W1.heap.size W1)) hb2
  rw [World.size_drew] at hn2 hr2
  have hne1 : b1 ≠ g := fun e => hok1 (e ▸ hokg)
  have hne2 : b1 + 1 ≠ g := fun e => hok2 (e ▸ hokg)
  refine ⟨(put5_far hne1).trans (blk_below K1 hbd), (put5_far hne2).trans (blk_below K2 hbd), ?_, ?_, ?_⟩
  · refine NV_set (okp := fun q => (okk q ∧ q ≠ g) ∨ W1.heap.size ≤ q) (Kd.N_below HN hbd) hd (NV.fd hn2) ((RS.fd hr2).mono (fun q hq => .inr hq)) (fun q hq => ?_)
    rcases hq with hq | hq
    · exact hq
    · exact ⟨hok3 q (by omega), by omega⟩
  · obtain ⟨cl, hg⟩ := Hg
    have h1 := Kd.R_types (Kd.R_below HR hbd) (blk_below hg hbd) (by decide)
    exact Kd.R_mono (Kd.R_step h1 (fun q hq _ => put5_far hq.2)) (fun q hq => hq.1)
  · subst Hb1
    exact put5_below (HB.trans ⟨hbd.os, hbd.tape, hbd.output, hbd.size, fun q hq => hbd.block q (by omega)⟩) hg1
set_option maxHeartbeats 4000000 in
set_option maxRecDepth 100000 in
theorem own_any (M : Nat) : ∀ (k : Nat) (t : S) (n : Int) (i : Vals) (m : List S) (A3 : Option Addr) (c3 : Nat) (A4 : Option Addr) (c4 : Nat) (ok0 ok1 : Nat → Prop) (w : World), i.cnt < M → (cons k t n i m Vals.nil).sm → FdV w ok0 A3 c3 i → FdS w ok1 A4 c4 m →
    Calls Tryz.prog 133 #[.agg #[.int .u8 k, .string (bs t), .int .i64 n, .slice A3 i.len c3, .slice A4 m.length c4]] w (OwnRet k t n i m ok0 w) := by
  induction M with
  | zero => intro k t n i m A3 c3 A4 c4 ok0 ok1 w h; omega
  | succ M ih =>
    intro k t n i m A3 c3 A4 c4 ok0 ok1 w hm hs hV hS
    obtain ⟨s1, s2, s3, s4, s5, s6, s7, _⟩ := hs
    have HV := Aside0.mk hV.bound
    have HS := Aside0.mk hS
    have HSM := Aside0.mk s7
    have HM := Aside0.mk hm
    clear hV hS s7 hm
    go_enter Tryz.func133, Tryz.ntmps133
    go_upto_region 1 with (fail)
    have hb2 := below_alloc (below_alloc (Below.refl w.heap.size w) (vBox k t n A3 i.len c3 A4 m.length c4)) zBox
    have BK1 := blk_alloc (blk_new w (vBox k t n A3 i.len c3 A4 m.length c4)) zBox
    have BK2 := blk_new (w.alloc (vBox k t n A3 i.len c3 A4 m.length c4)) zBox
    have hsz : ((w.alloc (vBox k t n A3 i.len c3 A4 m.length c4)).alloc zBox).heap.size = w.heap.size + 1 + 1 := by rw [World.size_alloc, World.size_alloc]
    rw [World.size_alloc] at BK2
    have HB2 := Aside0.mk hb2
    generalize ((w.alloc (vBox k t n A3 i.len c3 A4 m.length c4)).alloc zBox) = W at BK1 BK2 hsz HB2 ⊢
    obtain ⟨b1, hb1⟩ : ∃ b, w.heap.size = b := ⟨_, rfl⟩
    have Hb1 := Aside0.mk hb1
    rw [hb1] at BK1 BK2 hsz ⊢
    clear hb2 hb1
    have HK1 := Aside0.mk BK1
    have HK2 := Aside0.mk BK2
    have Hsz := Aside0.mk hsz
    obtain ⟨z0, z1, z2, z3, z4, f0, f1, f2, f3, f4⟩ := cells_5 BK1
    obtain ⟨okk, hokk⟩ : ∃ f : Nat → Prop, f = fun q => (ok0 q ∧ q < b1) ∨ b1 + 1 < q := ⟨_, rfl⟩
    have hok1 : Aside0 (¬ okk b1) := ⟨by rw [hokk]; rintro (h | h) <;> omega⟩
    have hok2 : Aside0 (¬ okk (b1 + 1)) := ⟨by rw [hokk]; rintro (h | h) <;> omega⟩
    have hok3 : Aside0 (∀ q, b1 + 1 < q → okk q) := ⟨fun q hq => by rw [hokk]; exact .inr hq⟩
    have hok4 : Aside0 (∀ q, okk q → ok0 q ∨ b1 ≤ q) := ⟨fun q hq => by rw [hokk] at hq; rcases hq with h | h; exact .inl h.1; exact .inr (by omega)⟩
    have HV2 : Aside0 (FdV W okk A3 c3 i) := ⟨(HV.out.below HB2.out).mono (fun q hq => by rw [hokk]; have h2 := hq.2; rw [Hb1.out] at h2; exact .inl ⟨hq.1, h2⟩)⟩
    clear hokk
    go_cut [5] from 5 (fun s5 wx => OwnMid k t n i m okk b1 w wx)
    case first =>
      go_region_with (first
        | (go_at_call 136; refine (clone_S A4 c4 m _ ?_ s5).mono ?_; exact (HS.out.below (below_step HB2.out (below_drew (Below.refl _ _)))).rd.1; rintro e w1 ⟨Av, cv, rfl, hv1, hc1⟩; have K1 := blk_below HK1.out (below_step (below_drew (Below.refl _ _)) hc1); obtain ⟨y0, y1, y2, y3, y4, g0, g1, g2, g3, g4⟩ := cells_5 K1)
        | (go_at_call 165; refine (cloneV_any A3 c3 i _ okk ?_ s4 ?_).mono ?_; exact (HV2.out.below (below_step (below_drew (Below.refl _ _)) hc1)); exact (fun q hq => hok3.out q (own_lt1 hc1.size Hsz.out hq)); rintro e w2 ⟨Bv, dv, rfl, hv2, hc2⟩; have K2 := blk_below K1 hc2; obtain ⟨x0, x1, x2, x3, x4, q0, q1, q2, q3, q4⟩ := cells_5 K2))
      all_goals
        (go_wp2_with fail)
        go_meet
        exact own_mid hok1.out Hb1.out Hsz.out HB2.out K2 HK2.out hv1 hc1 hv2 hc2
    case rest =>
      obtain ⟨Av, cv, Bv, dv, K1, K2, hN, hR, hBl⟩ := hcut
      clear z0 z1 z2 z3 z4 f0 f1 f2 f3 f4 BK1 BK2 HK1 HK2 Hsz HB2 hsz HV HS HV2
      obtain ⟨z0, z1, z2, z3, z4, f0, f1, f2, f3, f4⟩ := cells_5 K1
      have HK1 := Aside0.mk K1
      have HK2 := Aside0.mk K2
      have HN := Aside0.mk hN
      have HR := Aside0.mk hR
      have HBl := Aside0.mk hBl
      clear K1 K2 hN hR hBl
      go_wp2
      go_loopw [16] (fun v wr => ∃ j : Nat, v = .int .i64 j ∧ j ≤ i.len ∧ Aside0 (wr.heap[b1]? = some (vObj k t n i m Bv dv Av cv)) ∧ Aside0 (wr.heap[b1 + 1]? = some zBox) ∧ Aside0 (NV wr b1 okk (.slice Bv i.len dv) i) ∧ Aside0 (Kd.string.R 9 wr b1 (fun q => b1 + 1 < q) (.slice Av m.length cv) (m.map bs)) ∧ Aside0 (Below b1 w wr)) (fun v _ => i.len - (intOf v).toNat)
      case atStart => exact ⟨0, rfl, Nat.zero_le _, HK1, HK2, HN, HR, HBl⟩
      case round =>
        clear z0 z1 z2 z3 z4 f0 f1 f2 f3 f4 HK1 HK2 HN HR HBl
        obtain ⟨j, rfl, hj, HK1, HK2, HN, HR, HBl⟩ := hrel
        obtain ⟨z0, z1, z2, z3, z4, f0, f1, f2, f3, f4⟩ := cells_5 HK1.out
        have hlt1 : b1 < wr.heap.size := blk_lt HK1.out
        have hlt2 : b1 + 1 < wr.heap.size := blk_lt HK2.out
        cases hd : i.drop j with
        | nil =>
          have h1 := drop_nil hd
          obtain rfl : j = i.len := by omega
          clear hd
          obtain ⟨x0, x1, x2, x3, x4, q0, q1, q2, q3, q4⟩ := cells_5 HK2.out
          go_wp2
          refine bodyPost_ret (results_cell_row rfl _ _ (b1 + 1) 43 #[.int .u8 k, .string (bs t), .int .i64 n, .slice Bv i.len dv, .slice Av m.length cv] (0, 0) _ rfl (put5_blk HK2.out) Tryz.underlying43 rfl (by kernel_rfl)) rfl ?_
          have hle : w.heap.size = b1 := Hb1.out
          subst hle
          refine ⟨Bv, dv, Av, cv, rfl, ?_, ?_, put5_below HBl.out (Nat.le_succ _)⟩
          · exact Kd.N_mono (Kd.N_step HN.out (fun q hq _ => put5_far (fun e => hok2.out (e ▸ hq)))) hok4.out
          · exact Kd.R_mono (Kd.R_step HR.out (fun q hq _ => put5_far (fun e => by omega))) (fun q hq => by omega)
        | cons k' t' n' i' m' r' =>
          obtain ⟨h1, h2, _⟩ := drop_step hd
          obtain ⟨g, A3', c3', A4', c4', rfl, hg1, hg2, hokg, hgc, y0, y1, y2, y3, y4, u0, u1, u2, u3, u4, hF3, hF4⟩ := NV_at HN.out hd
          obtain ⟨a1, a2, a3, a4, a5, a6, a7, a8⟩ : (cons k' t' n' i' m' r').sm := hd ▸ sm_drop HSM.out j
          have hcj := cnt_drop i j
          rw [hd] at hcj
          simp only [cnt] at hcj
          have hcm : i'.cnt < M := by have := HM.out; omega
          have hsm1 : (cons k' t' n' i' m' Vals.nil).sm := ⟨a1, a2, a3, a4, a5, a6, a7, trivial⟩
          have HD := Aside0.mk hd
          have H2 := Aside0.mk h2
          clear hd h2 a1 a2 a3 a4 a5 a6 a7 a8
          go_upto_region 5 with (fail)
          have hbn := below_alloc (Below.refl wr.heap.size wr) (vBox k' t' n' A3' i'.len c3' A4' m'.length c4')
          have BKn := blk_new wr (vBox k' t' n' A3' i'.len c3' A4' m'.length c4')
          have hF3' := Aside0.mk (hF3.below hbn)
          have hF4' := Aside0.mk (hF4.below hbn)
          have HN' := Aside0.mk (Kd.N_below HN.out hbn)
          have HR' := Aside0.mk (Kd.R_below HR.out hbn)
          have HK1' := Aside0.mk (blk_below HK1.out hbn)
          have HK2' := Aside0.mk (blk_below HK2.out hbn)
          have HBl' := Aside0.mk (HBl.out.alloc (Nat.le_of_lt hlt1) (vBox k' t' n' A3' i'.len c3' A4' m'.length c4'))
          have hs1 : (wr.alloc (vBox k' t' n' A3' i'.len c3' A4' m'.length c4')).heap.size = wr.heap.size + 1 := by rw [World.size_alloc]
          have hgl : g < wr.heap.size + 1 := by omega
          have Hgl := Aside0.mk hgl
          have Hgc := Aside0.mk hgc
          have Hgw : Aside0 (∃ cells, (wr.alloc (vBox k' t' n' A3' i'.len c3' A4' m'.length c4')).heap[g]? = some (.cells cells 43 (0, 0))) := ⟨by obtain ⟨cl, h⟩ := hgc; exact ⟨cl, blk_below h hbn⟩⟩
          clear hF3 hF4 HN HR HK1 HK2 HBl z0 z1 z2 z3 z4 f0 f1 f2 f3 f4 y0 y1 y2 y3 y4 u0 u1 u2 u3 u4 hbn hgc Hgc hgl
          generalize wr.alloc (vBox k' t' n' A3' i'.len c3' A4' m'.length c4') = W1 at BKn hF3' hF4' HN' HR' HK1' HK2' HBl' hs1 Hgw ⊢
          obtain ⟨gx, hgx⟩ : ∃ g, wr.heap.size = g := ⟨_, rfl⟩
          rw [hgx] at BKn hs1 Hgl hlt1 hlt2 hg2 ⊢
          clear hgx
          have Hs1 := Aside0.mk hs1
          have HKn := Aside0.mk BKn
          obtain ⟨z0, z1, z2, z3, z4, f0, f1, f2, f3, f4⟩ := cells_5 HK1'.out
          obtain ⟨x0, x1, x2, x3, x4, q0, q1, q2, q3, q4⟩ := cells_5 BKn
          clear BKn
          go_region_with (
            (go_at_call 133; refine (ih k' t' n' i' m' A3' c3' A4' c4' (fun q => okk q ∧ q ≠ g) (fun q => okk q ∧ q ≠ g) _ hcm hsm1 ?_ ?_).mono ?_; exact (hF3'.out.below (below_drew (Below.refl _ _))); exact (hF4'.out.below (below_drew (Below.refl _ _))); rintro e w2 ⟨B3, d3, B4, d4, rfl, hn2, hr2, hb2⟩; have hbd := below_step (below_drew (Below.refl W1.heap.size W1)) hb2; obtain ⟨z0, z1, z2, z3, z4, f0, f1, f2, f3, f4⟩ := cells_5 (blk_below HK1'.out hbd); obtain ⟨g', B3', e3', B4', e4', hge, _, _, _, _, y0, y1, y2, y3, y4, u0, u1, u2, u3, u4, _, _⟩ := NV_at (Kd.N_below HN'.out hbd) HD.out; obtain rfl : g = g' := by injection hge with hge; injection hge))
          all_goals
            have hlu : (gx + 1) ≤ w2.heap.size := by have := hbd.size; omega
            (go_wp2_with fail)
            go_roundw
            case rel =>
              obtain ⟨e1, e2, e3, e4, e5⟩ := own_step hok1.out hok2.out hok3.out Hb1.out hb2 HN'.out HD.out hn2 hr2 HK1'.out HK2'.out HR'.out HBl'.out Hgw.out Hs1.out Hgl.out hokg hlt2 hg1
              exact ⟨j + 1, by simp, by omega, ⟨e1⟩, ⟨e2⟩, ⟨e3⟩, ⟨e4⟩, ⟨e5⟩⟩
            case measure => simp [intOf]; omega
end Go.Proofs.YtniibpndgcndbaaGreatDoor.Tpl
