/- Part 1 of the proof (texts of this claim, merged in build order; what the claim does not need has been left out). -/
import Derived.Test.YthngelbaheankaaGreatDoorCS0
import Derived.BigQuiet
import Derived.Deep.AppendLies
import Derived.Deep.QuietTactic
import Derived.Ground.Names2Prog
import Derived.Ground.SlgfProg
import Derived.Ground.SlgnProg
import Derived.LaidEql
import Derived.Lib.IndexBytes
import Derived.Lib.SlicesCompact
import Derived.Lib.Split
import Derived.LoopIn
import Derived.LoopNIn
import Derived.Maps.AppendAt
import Derived.OwnWalkIn
import Derived.RangeFuncBound
import Derived.RangeFuncBox
import Derived.RangeFuncCalls
import Derived.RangeFuncLeaves
import Derived.RangeFuncNested
import Derived.RowKitTokens
import Derived.Shelf.Abstract
import Derived.Shelf.LaysM
import Derived.Shelf.RegionOpen
import Derived.Shelf.Slices.Cells
import Derived.Shelf.Slices.Clone
import Derived.Shelf.Slices.CompactS
import Derived.Shelf.Slices.In.SortNone
import Derived.Shelf.Slices.ReverseS
import Derived.Shelf.Slices.Turned
import Derived.Shelf.SlicesE.Clone
import Derived.Shelf.SlicesE.Compact
import Derived.Shelf.SlicesE.DeleteFunc
import Derived.Shelf.SlicesE.Index
import Derived.Shelf.SlicesE.IndexFunc
import Derived.Shelf.SlicesE.Reverse
import Derived.Shelf.Small.Bits
import Derived.Shelf.Sort.Plain
import Derived.Shelf.Strconv.Itoa0
import Derived.Shelf.Strconv.Itoa1
import Derived.Shelf.Strconv.Itoa2
import Derived.Shelf.Strconv.Itoa3
import Derived.Shelf.Strconv.Itoa4
import Derived.Shelf.Strings.Builder1
import Derived.Shelf.Strings.Builder2
import Derived.Shelf.Strings.Builder2Cap
import Derived.Shelf.Strings.BuilderCap
import Derived.Shelf.Strings.BuilderF
import Derived.Shelf.Strings.BuilderK
import Derived.Shelf.Strings.Count
import Derived.Shelf.Strings.Cut
import Derived.Shelf.Strings.Explode
import Derived.Shelf.Strings.OnBuilder
import Derived.Shelf.Strings.Prefix
import Derived.Shelf.Strings.RuneCount
import Derived.Shelf.Strings.Search1
import Derived.Shelf.Strings.Search2
import Derived.Shelf.Strings.Search3
import Derived.Shelf.Strings.Shaped
import Derived.Shelf.Strings.Split
import Derived.Shelf.Strings.SplitShaped
import Derived.Shelf.Unicode.Decode
import Derived.Shelf.Unicode.DecodeSlow
import Derived.Sort.OwnSorted
import Derived.Sort.Walk0
import Derived.Stop.Asserts
import Derived.TacticsInMore
import Derived.Test.YthngelbaheankaaGreatDoorProg
import Derived.WalkKit
import Derived.WalkLawsBesides
set_option linter.unusedVariables false
set_option linter.unusedSimpArgs false
namespace Go.Proofs
open Go.Shelf
def Tryz.lays169_ren : Go.Shelf.Ren := ⟨fun | 169 => 43 | n => n, fun | 70 => 72 | 9 => 9 | 0 => 0 | 72 => 75 | 37 => 73 | 127 => 135 | 3 => 3 | 5 => 5 | n => n, fun | n => n⟩
theorem Tryz.lays169 : Go.Proofs.Lays.n169 Tryz.prog Tryz.lays169_ren := {
  mixed := by kernel_rfl
  f169 := Tryz.func43.trans (congrArg some (by kernel_rfl))
  t0 := Tryz.underlying0
  a0 := Tryz.isAgg0
  z0 := Tryz.sizeOf0
  v0 := Tryz.zeroValue0
  t3 := Tryz.underlying3
  a3 := Tryz.isAgg3
  z3 := Tryz.sizeOf3
  v3 := Tryz.zeroValue3
  t9 := Tryz.underlying9
  a9 := Tryz.isAgg9
  z9 := Tryz.sizeOf9
  v9 := Tryz.zeroValue9
  t37 := Tryz.underlying73
  a37 := Tryz.isAgg73
  z37 := Tryz.sizeOf73
  v37 := Tryz.zeroValue73
  t70 := Tryz.underlying72
  a70 := Tryz.isAgg72
  z70 := Tryz.sizeOf72
  v70 := Tryz.zeroValue72
  t72 := Tryz.underlying75
  a72 := Tryz.isAgg75
  z72 := Tryz.sizeOf75
  v72 := Tryz.zeroValue75
  t127 := Tryz.underlying135
  a127 := Tryz.isAgg135
  z127 := Tryz.sizeOf135
  v127 := Tryz.zeroValue135 }
theorem Tryz.Builder_Extra_169 : Builder.Extra Tryz.prog Tryz.lays169_ren := {
  sizeBuilder := by kernel_rfl
  liesBuilder := by kernel_rfl
  t5 := Tryz.underlying5
  a5 := Tryz.isAgg5
  z5 := Tryz.sizeOf5
  v5 := Tryz.zeroValue5
  infoByte := by kernel_rfl
  cellsByte := by kernel_rfl
  sizeByte := by kernel_rfl
  neB5 := by decide }
def Tryz.lays156_ren : Go.Shelf.Ren := ⟨fun | 156 => 65 | 165 => 111 | 166 => 112 | 169 => 43 | 240 => 162 | 241 => 163 | 276 => 202 | 277 => 203 | n => n, fun | 31 => 25 | 9 => 9 | 3 => 3 | 4 => 4 | 0 => 0 | 20 => 20 | 72 => 75 | 76 => 180 | 70 => 72 | 37 => 73 | 75 => 80 | 127 => 135 | 164 => 147 | 5 => 5 | 80 => 85 | n => n, fun | n => n⟩
theorem Tryz.lays156 : Go.Proofs.Lays.n156 Tryz.prog Tryz.lays156_ren := {
  mixed := by kernel_rfl
  f156 := Tryz.func65.trans (congrArg some (by kernel_rfl))
  f165 := Tryz.func111.trans (congrArg some (by kernel_rfl))
  f166 := Tryz.func112.trans (congrArg some (by kernel_rfl))
  f169 := Tryz.func43.trans (congrArg some (by kernel_rfl))
  f240 := Tryz.func162.trans (congrArg some (by kernel_rfl))
  f241 := Tryz.func163.trans (congrArg some (by kernel_rfl))
  f276 := Tryz.func202.trans (congrArg some (by kernel_rfl))
  f277 := Tryz.func203.trans (congrArg some (by kernel_rfl))
  t0 := Tryz.underlying0
  a0 := Tryz.isAgg0
  z0 := Tryz.sizeOf0
  v0 := Tryz.zeroValue0
  t3 := Tryz.underlying3
  a3 := Tryz.isAgg3
  z3 := Tryz.sizeOf3
  v3 := Tryz.zeroValue3
  t4 := Tryz.underlying4
  a4 := Tryz.isAgg4
  z4 := Tryz.sizeOf4
  v4 := Tryz.zeroValue4
  t9 := Tryz.underlying9
  a9 := Tryz.isAgg9
  z9 := Tryz.sizeOf9
  v9 := Tryz.zeroValue9
  t20 := Tryz.underlying20
  a20 := Tryz.isAgg20
  z20 := Tryz.sizeOf20
  v20 := Tryz.zeroValue20
  t31 := Tryz.underlying25
  a31 := Tryz.isAgg25
  z31 := Tryz.sizeOf25
  v31 := Tryz.zeroValue25
  t37 := Tryz.underlying73
  a37 := Tryz.isAgg73
  z37 := Tryz.sizeOf73
  v37 := Tryz.zeroValue73
  t70 := Tryz.underlying72
  a70 := Tryz.isAgg72
  z70 := Tryz.sizeOf72
  v70 := Tryz.zeroValue72
  t72 := Tryz.underlying75
  a72 := Tryz.isAgg75
  z72 := Tryz.sizeOf75
  v72 := Tryz.zeroValue75
  t75 := Tryz.underlying80
  a75 := Tryz.isAgg80
  z75 := Tryz.sizeOf80
  v75 := Tryz.zeroValue80
  t76 := Tryz.underlying180
  a76 := Tryz.isAgg180
  z76 := Tryz.sizeOf180
  v76 := Tryz.zeroValue180
  t127 := Tryz.underlying135
  a127 := Tryz.isAgg135
  z127 := Tryz.sizeOf135
  v127 := Tryz.zeroValue135
  t164 := Tryz.underlying147
  a164 := Tryz.isAgg147
  z164 := Tryz.sizeOf147
  v164 := Tryz.zeroValue147 }
theorem Tryz.Builder_Extra_156 : Builder.Extra Tryz.prog Tryz.lays156_ren := {
  sizeBuilder := by kernel_rfl
  liesBuilder := by kernel_rfl
  t5 := Tryz.underlying5
  a5 := Tryz.isAgg5
  z5 := Tryz.sizeOf5
  v5 := Tryz.zeroValue5
  infoByte := by kernel_rfl
  cellsByte := by kernel_rfl
  sizeByte := by kernel_rfl
  neB5 := by decide }
open Go.RowKit in
/-- strings.Join: "Join concatenates the elements of its first argument to create a single string. The separator string sep is placed between elements in the resulting string.": HOWEVER MANY ELEMENTS. Below the heap's end the world is as it was. (LAID: no walk: one application.) -/
theorem Tryz.strings_Join (bk o c : Nat) (xs : List ByteArray) (sep : ByteArray) (w : World) (hcells : ∀ (j : Nat) x, xs[j]? = some x → w.cell? ⟨bk, o + j, none⟩ = some (.string x)) (hbk : bk < w.heap.size) (hN : xs.length ≤ 140737488355328) (hcap : xs.length ≤ c) (hlen : (Lib.join (xs.map (·.data.toList)) sep.data.toList).length ≤ 140737488355328) :
    Calls Tryz.prog 65 #[.slice (some ⟨bk, o, none⟩) xs.length c, .string sep] w fun e w' => e = .returned (.string ⟨(Lib.join (xs.map (·.data.toList)) sep.data.toList).toArray⟩) ∧ Below w.heap.size w w' := Any.strings_Join Tryz.lays156 Tryz.Builder_Extra_156 bk o c xs sep w hcells hbk hN hcap hlen
open Go.RowKit in
/-- (*strings.Builder).String: "String returns the accumulated string.": WHATEVER THE BUILDER HOLDS; THE FORM '_f': OF A BUILDER THAT MAY HAVE BEEN READ BEFORE; AND IT IS A BUILDER STILL, holding the same bytes: it can be written on. (LAID: no walk: one application.) -/
theorem Tryz.Builder_String_any_f (B b : Nat) (l : List UInt8) (w : World) (h : Lib.IsBuilderF 75 5 B b (Lib.byteCells l) w) (hBw : B ≤ w.heap.size) :
    Calls Tryz.prog 43 #[.pointer (some ⟨b, 0, none⟩)] w fun e w' => e = .returned (.string ⟨l.toArray⟩) ∧ (Lib.IsBuilderF 75 5 B b (Lib.byteCells l) w' ∧ Below B w w') := Any.Builder_String_any_f Tryz.lays169 Tryz.Builder_Extra_169 B b l w h hBw
def Tryz.lays219_ren : Go.Shelf.Ren := ⟨fun | 219 => 191 | 217 => 218 | 225 => 219 | 224 => 220 | 267 => 221 | 266 => 231 | 314 => 232 | n => n, fun | 9 => 9 | 3 => 3 | 4 => 4 | 5 => 5 | 46 => 186 | 146 => 285 | 51 => 243 | n => n, fun | 1 => 5 | n => n⟩
def Tryz.lays144_ren : Go.Shelf.Ren := ⟨fun | 144 => 196 | 143 => 224 | 219 => 191 | 217 => 218 | 225 => 219 | 224 => 220 | 267 => 221 | 266 => 231 | 314 => 232 | n => n, fun | 9 => 9 | 4 => 4 | 3 => 3 | 5 => 5 | 46 => 186 | 146 => 285 | 51 => 243 | n => n, fun | 1 => 5 | n => n⟩
theorem Tryz.lays144 : Go.Proofs.Lays.n144 Tryz.prog Tryz.lays144_ren := {
  mixed := by kernel_rfl
  f143 := Tryz.func224.trans (congrArg some (by kernel_rfl))
  f144 := Tryz.func196.trans (congrArg some (by kernel_rfl))
  f217 := Tryz.func218.trans (congrArg some (by kernel_rfl))
  f219 := Tryz.func191.trans (congrArg some (by kernel_rfl))
  f224 := Tryz.func220.trans (congrArg some (by kernel_rfl))
  f225 := Tryz.func219.trans (congrArg some (by kernel_rfl))
  f266 := Tryz.func231.trans (congrArg some (by kernel_rfl))
  f267 := Tryz.func221.trans (congrArg some (by kernel_rfl))
  f314 := Tryz.func232.trans (congrArg some (by kernel_rfl))
  t3 := Tryz.underlying3
  a3 := Tryz.isAgg3
  z3 := Tryz.sizeOf3
  v3 := Tryz.zeroValue3
  t4 := Tryz.underlying4
  a4 := Tryz.isAgg4
  z4 := Tryz.sizeOf4
  v4 := Tryz.zeroValue4
  t5 := Tryz.underlying5
  a5 := Tryz.isAgg5
  z5 := Tryz.sizeOf5
  v5 := Tryz.zeroValue5
  t9 := Tryz.underlying9
  a9 := Tryz.isAgg9
  z9 := Tryz.sizeOf9
  v9 := Tryz.zeroValue9
  t46 := Tryz.underlying186
  a46 := Tryz.isAgg186
  z46 := Tryz.sizeOf186
  v46 := Tryz.zeroValue186
  t51 := Tryz.underlying243
  a51 := Tryz.isAgg243
  z51 := Tryz.sizeOf243
  v51 := Tryz.zeroValue243
  t146 := Tryz.underlying285
  a146 := Tryz.isAgg285
  z146 := Tryz.sizeOf285
  v146 := Tryz.zeroValue285
  g1 := by kernel_rfl }
open Go.RowKit Go.Lib in
/-- strings.Contains: "Contains reports whether substr is within s.": IT RETURNS 'Lib.contains s substr'; the world is as it was. (LAID: no walk: one application.) -/
theorem Tryz.strings_Contains (s sub : ByteArray) (m : Int) (w : World) (hs : s.size < 4294967281) (hm : w.cell? ⟨5, 0, none⟩ = some (.int .i64 m)) :
    Calls Tryz.prog 196 #[.string s, .string sub] w fun e w' => e = .returned (.bool (Lib.contains s.data.toList sub.data.toList)) ∧ w' = w := Any.strings_Contains Tryz.lays144 s sub m w hs hm
def Tryz.lays145_ren : Go.Shelf.Ren := ⟨fun | 145 => 105 | 220 => 153 | 219 => 191 | 217 => 218 | 225 => 219 | 224 => 220 | 267 => 221 | 266 => 231 | 314 => 232 | n => n, fun | 9 => 9 | 4 => 4 | 59 => 169 | 3 => 3 | 5 => 5 | 46 => 186 | 146 => 285 | 51 => 243 | n => n, fun | 1 => 5 | n => n⟩
theorem Tryz.lays145 : Go.Proofs.Lays.n145 Tryz.prog Tryz.lays145_ren := {
  mixed := by kernel_rfl
  f145 := Tryz.func105.trans (congrArg some (by kernel_rfl))
  f217 := Tryz.func218.trans (congrArg some (by kernel_rfl))
  f219 := Tryz.func191.trans (congrArg some (by kernel_rfl))
  f220 := Tryz.func153.trans (congrArg some (by kernel_rfl))
  f224 := Tryz.func220.trans (congrArg some (by kernel_rfl))
  f225 := Tryz.func219.trans (congrArg some (by kernel_rfl))
  f266 := Tryz.func231.trans (congrArg some (by kernel_rfl))
  f267 := Tryz.func221.trans (congrArg some (by kernel_rfl))
  f314 := Tryz.func232.trans (congrArg some (by kernel_rfl))
  t3 := Tryz.underlying3
  a3 := Tryz.isAgg3
  z3 := Tryz.sizeOf3
  v3 := Tryz.zeroValue3
  t4 := Tryz.underlying4
  a4 := Tryz.isAgg4
  z4 := Tryz.sizeOf4
  v4 := Tryz.zeroValue4
  t5 := Tryz.underlying5
  a5 := Tryz.isAgg5
  z5 := Tryz.sizeOf5
  v5 := Tryz.zeroValue5
  t9 := Tryz.underlying9
  a9 := Tryz.isAgg9
  z9 := Tryz.sizeOf9
  v9 := Tryz.zeroValue9
  t46 := Tryz.underlying186
  a46 := Tryz.isAgg186
  z46 := Tryz.sizeOf186
  v46 := Tryz.zeroValue186
  t51 := Tryz.underlying243
  a51 := Tryz.isAgg243
  z51 := Tryz.sizeOf243
  v51 := Tryz.zeroValue243
  t59 := Tryz.underlying169
  a59 := Tryz.isAgg169
  z59 := Tryz.sizeOf169
  v59 := Tryz.zeroValue169
  t146 := Tryz.underlying285
  a146 := Tryz.isAgg285
  z146 := Tryz.sizeOf285
  v146 := Tryz.zeroValue285
  g1 := by kernel_rfl }
open Go.RowKit Go.Lib in
/-- strings.Cut: "Cut slices s around the first instance of sep, returning the text before and after sep. The found result reports whether sep appears in s. If sep does not appear in s, cut returns s, "", false.": IT RETURNS 'Lib.cut s sep'; the world is as it was but for the count of draws. (LAID: no walk: one application.) -/
theorem Tryz.strings_Cut (s sep : ByteArray) (m : Int) (w : World) (hs : s.size < 4294967281) (hm : w.cell? ⟨5, 0, none⟩ = some (.int .i64 m)) :
    Calls Tryz.prog 105 #[.string s, .string sep] w fun e w' => e = .returned (.tuple #[.string ⟨(Lib.cut s.data.toList sep.data.toList).1.toArray⟩, .string ⟨(Lib.cut s.data.toList sep.data.toList).2.1.toArray⟩, .bool (Lib.cut s.data.toList sep.data.toList).2.2]) ∧ ∃ n, w' = w.drewN n := Any.strings_Cut Tryz.lays145 s sep m w hs hm
def Tryz.lays190_ren : Go.Shelf.Ren := ⟨fun | 190 => 67 | 125 => 116 | 258 => 115 | 128 => 172 | 129 => 173 | 302 => 164 | 303 => 165 | 304 => 166 | 305 => 167 | 306 => 168 | 307 => 169 | 308 => 119 | 309 => 170 | 310 => 171 | 333 => 204 | 329 => 205 | 330 => 206 | 334 => 207 | 335 => 208 | 336 => 151 | 344 => 227 | n => n, fun | 31 => 25 | 9 => 9 | 3 => 3 | 46 => 186 | 0 => 0 | 51 => 243 | 53 => 245 | 4 => 4 | 183 => 237 | 182 => 236 | 131 => 100 | 5 => 5 | 218 => 266 | 222 => 270 | 228 => 281 | 229 => 282 | n => n, fun | n => n⟩
theorem Tryz.lays190 : Go.Proofs.Lays.n190 Tryz.prog Tryz.lays190_ren := {
  mixed := by kernel_rfl
  f125 := Tryz.func116.trans (congrArg some (by kernel_rfl))
  f128 := Tryz.func172.trans (congrArg some (by kernel_rfl))
  f129 := Tryz.func173.trans (congrArg some (by kernel_rfl))
  f190 := Tryz.func67.trans (congrArg some (by kernel_rfl))
  f258 := Tryz.func115.trans (congrArg some (by kernel_rfl))
  f302 := Tryz.func164.trans (congrArg some (by kernel_rfl))
  f303 := Tryz.func165.trans (congrArg some (by kernel_rfl))
  f304 := Tryz.func166.trans (congrArg some (by kernel_rfl))
  f305 := Tryz.func167.trans (congrArg some (by kernel_rfl))
  f306 := Tryz.func168.trans (congrArg some (by kernel_rfl))
  f307 := Tryz.func169.trans (congrArg some (by kernel_rfl))
  f308 := Tryz.func119.trans (congrArg some (by kernel_rfl))
  f309 := Tryz.func170.trans (congrArg some (by kernel_rfl))
  f310 := Tryz.func171.trans (congrArg some (by kernel_rfl))
  f329 := Tryz.func205.trans (congrArg some (by kernel_rfl))
  f330 := Tryz.func206.trans (congrArg some (by kernel_rfl))
  f333 := Tryz.func204.trans (congrArg some (by kernel_rfl))
  f334 := Tryz.func207.trans (congrArg some (by kernel_rfl))
  f335 := Tryz.func208.trans (congrArg some (by kernel_rfl))
  f336 := Tryz.func151.trans (congrArg some (by kernel_rfl))
  f344 := Tryz.func227.trans (congrArg some (by kernel_rfl))
  t0 := Tryz.underlying0
  a0 := Tryz.isAgg0
  z0 := Tryz.sizeOf0
  v0 := Tryz.zeroValue0
  t3 := Tryz.underlying3
  a3 := Tryz.isAgg3
  z3 := Tryz.sizeOf3
  v3 := Tryz.zeroValue3
  t4 := Tryz.underlying4
  a4 := Tryz.isAgg4
  z4 := Tryz.sizeOf4
  v4 := Tryz.zeroValue4
  t5 := Tryz.underlying5
  a5 := Tryz.isAgg5
  z5 := Tryz.sizeOf5
  v5 := Tryz.zeroValue5
  t9 := Tryz.underlying9
  a9 := Tryz.isAgg9
  z9 := Tryz.sizeOf9
  v9 := Tryz.zeroValue9
  t31 := Tryz.underlying25
  a31 := Tryz.isAgg25
  z31 := Tryz.sizeOf25
  v31 := Tryz.zeroValue25
  t46 := Tryz.underlying186
  a46 := Tryz.isAgg186
  z46 := Tryz.sizeOf186
  v46 := Tryz.zeroValue186
  t51 := Tryz.underlying243
  a51 := Tryz.isAgg243
  z51 := Tryz.sizeOf243
  v51 := Tryz.zeroValue243
  t53 := Tryz.underlying245
  a53 := Tryz.isAgg245
  z53 := Tryz.sizeOf245
  v53 := Tryz.zeroValue245
  t131 := Tryz.underlying100
  a131 := Tryz.isAgg100
  z131 := Tryz.sizeOf100
  v131 := Tryz.zeroValue100
  t182 := Tryz.underlying236
  a182 := Tryz.isAgg236
  z182 := Tryz.sizeOf236
  v182 := Tryz.zeroValue236
  t183 := Tryz.underlying237
  a183 := Tryz.isAgg237
  z183 := Tryz.sizeOf237
  v183 := Tryz.zeroValue237
  t218 := Tryz.underlying266
  a218 := Tryz.isAgg266
  z218 := Tryz.sizeOf266
  v218 := Tryz.zeroValue266
  t222 := Tryz.underlying270
  a222 := Tryz.isAgg270
  z222 := Tryz.sizeOf270
  v222 := Tryz.zeroValue270
  t228 := Tryz.underlying281
  a228 := Tryz.isAgg281
  z228 := Tryz.sizeOf281
  v228 := Tryz.zeroValue281
  t229 := Tryz.underlying282
  a229 := Tryz.isAgg282
  z229 := Tryz.sizeOf282
  v229 := Tryz.zeroValue282 }
open Go.Sort Go.RowKit in
theorem Tryz.slices_Sort_string (blk off cap : Nat) (ss : List (List UInt8)) (w : World) (hH : Holds encStr w blk off ss.toArray) (hblk : blk < w.heap.size) (hsz : ss.length < 4611686018427387904) :
    Calls Tryz.prog 67 #[.slice (some ⟨blk, off, none⟩) ss.length cap] w fun e w' =>
      e = .returned (.tuple #[]) ∧ ∃ n os, w' = grow (putRow encStr (Sort.ahead w n) blk off (ss.mergeSort fun x y => decide (x ≤ y)).toArray) os := Any.slices_Sort_string Tryz.lays190 blk off cap ss w hH hblk hsz
def Tryz.lays207_ren : Go.Shelf.Ren := ⟨fun | 207 => 226 | n => n, fun | 9 => 9 | 4 => 4 | 3 => 3 | n => n, fun | n => n⟩
def Tryz.lays100_ren : Go.Shelf.Ren := ⟨fun | 100 => 197 | 207 => 226 | n => n, fun | 9 => 9 | 4 => 4 | 3 => 3 | n => n, fun | n => n⟩
theorem Tryz.lays100 : Go.Proofs.Lays.n100 Tryz.prog Tryz.lays100_ren := {
  mixed := by kernel_rfl
  f100 := Tryz.func197.trans (congrArg some (by kernel_rfl))
  f207 := Tryz.func226.trans (congrArg some (by kernel_rfl))
  t3 := Tryz.underlying3
  a3 := Tryz.isAgg3
  z3 := Tryz.sizeOf3
  v3 := Tryz.zeroValue3
  t4 := Tryz.underlying4
  a4 := Tryz.isAgg4
  z4 := Tryz.sizeOf4
  v4 := Tryz.zeroValue4
  t9 := Tryz.underlying9
  a9 := Tryz.isAgg9
  z9 := Tryz.sizeOf9
  v9 := Tryz.zeroValue9 }
open Go.RowKit Go.Lib in
/-- strings.HasSuffix: "HasSuffix reports whether the string s ends with suffix.": IT RETURNS 'Lib.hasSuffix s suffix'; the world is as it was. ('hs': no Go string is longer: a caller has it of every string that it was handed.) (LAID: no walk: one application.) -/
theorem Tryz.strings_HasSuffix (s p : ByteArray) (w : World) (hs : s.size ≤ 9223372036854775807) :
    Calls Tryz.prog 197 #[.string s, .string p] w fun e w' => e = .returned (.bool (Lib.hasSuffix s.data.toList p.data.toList)) ∧ w' = w := Any.strings_HasSuffix Tryz.lays100 s p w hs
def Tryz.lays221_ren : Go.Shelf.Ren := ⟨fun | 221 => 193 | 268 => 222 | 138 => 223 | 143 => 224 | 195 => 233 | 197 => 234 | 218 => 235 | 219 => 191 | 260 => 240 | 217 => 218 | 225 => 219 | 224 => 220 | 267 => 221 | 266 => 231 | 314 => 232 | n => n, fun | 9 => 9 | 3 => 3 | 31 => 25 | 4 => 4 | 0 => 0 | 105 => 288 | 21 => 21 | 5 => 5 | 46 => 186 | 119 => 299 | 139 => 302 | 138 => 301 | 146 => 285 | 51 => 243 | n => n, fun | 1 => 5 | 3 => 7 | 4 => 8 | n => n⟩
def Tryz.lays146_ren : Go.Shelf.Ren := ⟨fun | 146 => 155 | 221 => 193 | 268 => 222 | 138 => 223 | 143 => 224 | 195 => 233 | 197 => 234 | 218 => 235 | 219 => 191 | 260 => 240 | 217 => 218 | 225 => 219 | 224 => 220 | 267 => 221 | 266 => 231 | 314 => 232 | n => n, fun | 9 => 9 | 31 => 25 | 3 => 3 | 4 => 4 | 0 => 0 | 105 => 288 | 21 => 21 | 5 => 5 | 46 => 186 | 119 => 299 | 139 => 302 | 138 => 301 | 146 => 285 | 51 => 243 | n => n, fun | 1 => 5 | 3 => 7 | 4 => 8 | n => n⟩
theorem Tryz.lays146 : Go.Proofs.Lays.n146 Tryz.prog Tryz.lays146_ren := {
  mixed := by kernel_rfl
  f138 := Tryz.func223.trans (congrArg some (by kernel_rfl))
  f143 := Tryz.func224.trans (congrArg some (by kernel_rfl))
  f146 := Tryz.func155.trans (congrArg some (by kernel_rfl))
  f195 := Tryz.func233.trans (congrArg some (by kernel_rfl))
  f197 := Tryz.func234.trans (congrArg some (by kernel_rfl))
  f217 := Tryz.func218.trans (congrArg some (by kernel_rfl))
  f218 := Tryz.func235.trans (congrArg some (by kernel_rfl))
  f219 := Tryz.func191.trans (congrArg some (by kernel_rfl))
  f221 := Tryz.func193.trans (congrArg some (by kernel_rfl))
  f224 := Tryz.func220.trans (congrArg some (by kernel_rfl))
  f225 := Tryz.func219.trans (congrArg some (by kernel_rfl))
  f260 := Tryz.func240.trans (congrArg some (by kernel_rfl))
  f266 := Tryz.func231.trans (congrArg some (by kernel_rfl))
  f267 := Tryz.func221.trans (congrArg some (by kernel_rfl))
  f268 := Tryz.func222.trans (congrArg some (by kernel_rfl))
  f314 := Tryz.func232.trans (congrArg some (by kernel_rfl))
  t0 := Tryz.underlying0
  a0 := Tryz.isAgg0
  z0 := Tryz.sizeOf0
  v0 := Tryz.zeroValue0
  t3 := Tryz.underlying3
  a3 := Tryz.isAgg3
  z3 := Tryz.sizeOf3
  v3 := Tryz.zeroValue3
  t4 := Tryz.underlying4
  a4 := Tryz.isAgg4
  z4 := Tryz.sizeOf4
  v4 := Tryz.zeroValue4
  t5 := Tryz.underlying5
  a5 := Tryz.isAgg5
  z5 := Tryz.sizeOf5
  v5 := Tryz.zeroValue5
  t9 := Tryz.underlying9
  a9 := Tryz.isAgg9
  z9 := Tryz.sizeOf9
  v9 := Tryz.zeroValue9
  t21 := Tryz.underlying21
  a21 := Tryz.isAgg21
  z21 := Tryz.sizeOf21
  v21 := Tryz.zeroValue21
  t31 := Tryz.underlying25
  a31 := Tryz.isAgg25
  z31 := Tryz.sizeOf25
  v31 := Tryz.zeroValue25
  t46 := Tryz.underlying186
  a46 := Tryz.isAgg186
  z46 := Tryz.sizeOf186
  v46 := Tryz.zeroValue186
  t51 := Tryz.underlying243
  a51 := Tryz.isAgg243
  z51 := Tryz.sizeOf243
  v51 := Tryz.zeroValue243
  t105 := Tryz.underlying288
  a105 := Tryz.isAgg288
  z105 := Tryz.sizeOf288
  v105 := Tryz.zeroValue288
  t119 := Tryz.underlying299
  a119 := Tryz.isAgg299
  z119 := Tryz.sizeOf299
  t138 := Tryz.underlying301
  a138 := Tryz.isAgg301
  z138 := Tryz.sizeOf301
  v138 := Tryz.zeroValue301
  t139 := Tryz.underlying302
  a139 := Tryz.isAgg302
  z139 := Tryz.sizeOf302
  v139 := Tryz.zeroValue302
  t146 := Tryz.underlying285
  a146 := Tryz.isAgg285
  z146 := Tryz.sizeOf285
  v146 := Tryz.zeroValue285
  g1 := by kernel_rfl
  g3 := by kernel_rfl
  g4 := by kernel_rfl }
open Go.RowKit Go.Lib in
/-- strings.Split. (LAID: no walk: one application.) -/
theorem Tryz.strings_Split (s sep : ByteArray) (m : Int) (w : World) (hs : s.size < 4294967281) (hm : w.cell? ⟨5, 0, none⟩ = some (.int .i64 m)) (h1 : 1 ≤ sep.size) :
    Calls Tryz.prog 155 #[.string s, .string sep] w fun e w' =>
      e = .returned (.slice (some ⟨w.heap.size, 0, none⟩) (Lib.countB s sep + 1) (Lib.countB s sep + 1)) ∧ w' = w.alloc (.cells ((Lib.splitB sep 0 (Lib.countB s sep) s).map Value.string).toArray 9) := Any.strings_Split Tryz.lays146 (by kernel_rfl) s sep m w hs hm h1
def Tryz.lays110_ren : Go.Shelf.Ren := ⟨fun | 110 => 188 | 109 => 217 | n => n, fun | 31 => 25 | 9 => 9 | 4 => 4 | 3 => 3 | 0 => 0 | n => n, fun | n => n⟩
theorem Tryz.lays110 : Go.Proofs.Lays.n110 Tryz.prog Tryz.lays110_ren := {
  mixed := by kernel_rfl
  f109 := Tryz.func217.trans (congrArg some (by kernel_rfl))
  f110 := Tryz.func188.trans (congrArg some (by kernel_rfl))
  t0 := Tryz.underlying0
  a0 := Tryz.isAgg0
  z0 := Tryz.sizeOf0
  v0 := Tryz.zeroValue0
  t3 := Tryz.underlying3
  a3 := Tryz.isAgg3
  z3 := Tryz.sizeOf3
  v3 := Tryz.zeroValue3
  t4 := Tryz.underlying4
  a4 := Tryz.isAgg4
  z4 := Tryz.sizeOf4
  v4 := Tryz.zeroValue4
  t9 := Tryz.underlying9
  a9 := Tryz.isAgg9
  z9 := Tryz.sizeOf9
  v9 := Tryz.zeroValue9
  t31 := Tryz.underlying25
  a31 := Tryz.isAgg25
  z31 := Tryz.sizeOf25
  v31 := Tryz.zeroValue25 }
open Go.Lib in
/-- slices.Contains at []string: "Contains reports whether v is present in s.": IT RETURNS 'Lib.containsS (the elements) v', which is true just where v is among them ('Lib.containsS_iff'); the world is as it was. ITS CALLEE slices.Index IS MET BY ITS OWN CONTRACT OFF THE SHELF (lay that first): no loop is walked here. (LAID: no walk: one application.) -/
theorem Tryz.slices_Contains_string (b off n c : Nat) (zs : List ByteArray) (x : ByteArray) (w : World) (hz : n ≤ zs.length) (hbig : n ≤ 9223372036854775807) (hc : ∀ j, j < zs.length → w.cell? ⟨b, off + j, none⟩ = some (.string (zs.getD j ByteArray.empty))) :
    Calls Tryz.prog 188 #[.slice (some ⟨b, off, none⟩) n c, .string x] w fun e w' => e = .returned (.bool (Lib.containsS (zs.take n) x)) ∧ w' = w := Any.slices_Contains_string Tryz.lays110 b off n c zs x w hz hbig hc
open Go.Lib in
/-- The same at a slice of length 0, a nil one too. (LAID: no walk: one application.) -/
theorem Tryz.slices_Contains_string_empty (a : Option Addr) (c : Nat) (x : ByteArray) (w : World) :
    Calls Tryz.prog 188 #[.slice a 0 c, .string x] w fun e w' => e = .returned (.bool false) ∧ w' = w := Any.slices_Contains_string_empty Tryz.lays110 a c x w
def Tryz.lays194_ren : Go.Shelf.Ren := ⟨fun | 194 => 68 | n => n, fun | 31 => 25 | 9 => 9 | 3 => 3 | 4 => 4 | 0 => 0 | n => n, fun | n => n⟩
theorem Tryz.lays194 : Go.Proofs.Lays.n194 Tryz.prog Tryz.lays194_ren := {
  mixed := by kernel_rfl
  f194 := Tryz.func68.trans (congrArg some (by kernel_rfl))
  t0 := Tryz.underlying0
  a0 := Tryz.isAgg0
  z0 := Tryz.sizeOf0
  v0 := Tryz.zeroValue0
  t3 := Tryz.underlying3
  a3 := Tryz.isAgg3
  z3 := Tryz.sizeOf3
  v3 := Tryz.zeroValue3
  t4 := Tryz.underlying4
  a4 := Tryz.isAgg4
  z4 := Tryz.sizeOf4
  v4 := Tryz.zeroValue4
  t9 := Tryz.underlying9
  a9 := Tryz.isAgg9
  z9 := Tryz.sizeOf9
  v9 := Tryz.zeroValue9
  t31 := Tryz.underlying25
  a31 := Tryz.isAgg25
  z31 := Tryz.sizeOf25
  v31 := Tryz.zeroValue25 }
open Go.RowKit Go.Lib Go.Sort in
/-- slices.Compact at []string: "Compact replaces consecutive runs of equal elements with a single copy. This is like the uniq command found on Unix. Compact modifies the contents of the slice s and returns the modified slice, which may have a smaller length. Compact zeroes the elements between the new length and the original length. The result preserves the nilness of s.": IT RETURNS THE SLICE CUT TO 'Lib.compact zs'; ITS CELLS HOLD 'Lib.compact zs', THEN ZERO VALUES up to the old length; all else is as it was, but for the count of draws. IN THE WORDS OF slices.Sort's CONTRACT ('Holds', 'putRow'): so the everyday 'slices.Sort(xs); xs = slices.Compact(xs)' goes from the one contract to the other. It asks 'zs.length ≤ cap' (every slice's: the reslicing 's[:k]' looks at it). Length 0, nil: '.._empty'. (LAID: no walk: one application.) -/
theorem Tryz.slices_Compact_string (blk off cap : Nat) (zs : List (List UInt8)) (w : World) (hH : Holds encStr w blk off zs.toArray) (hsz : zs.length ≤ 9223372036854775807) (hcap : zs.length ≤ cap) :
    Calls Tryz.prog 68 #[.slice (some ⟨blk, off, none⟩) zs.length cap] w fun e w' => e = .returned (.slice (some ⟨blk, off, none⟩) (Lib.compact zs).length cap) ∧ ∃ q, w' = putRow encStr (Sort.ahead w q) blk off (Lib.compact zs ++ List.replicate (zs.length - (Lib.compact zs).length) []).toArray := Any.slices_Compact_string Tryz.lays194 blk off cap zs w hH hsz hcap
open Go.RowKit Go.Lib Go.Sort in
/-- The same at a slice of length 0, a nil one too: it comes back as it is. (LAID: no walk: one application.) -/
theorem Tryz.slices_Compact_string_empty (a : Option Addr) (cap : Nat) (w : World) :
    Calls Tryz.prog 68 #[.slice a 0 cap] w fun e w' => e = .returned (.slice a 0 cap) ∧ w' = w := Any.slices_Compact_string_empty Tryz.lays194 a cap w
open Go.RowKit Go.Sort in
/-- .. and plain. (LAID: no walk: one application.) -/
theorem Tryz.slices_Sort_string_none (p : Option Addr) (cap : Nat) (w : World) :
    Calls Tryz.prog 67 #[.slice p 0 cap] w fun e w' => e = .returned (.tuple #[]) ∧ w' = w := Any.slices_Sort_string_none Tryz.lays190 p cap w
def Tryz.laysSlH8_f186_ren : Go.Shelf.Ren := ⟨fun | 8 => 186 | 6 => 192 | n => n, fun | 22 => 25 | 23 => 9 | 25 => 95 | 4 => 4 | 3 => 3 | 0 => 0 | n => n, fun | n => n⟩
theorem Tryz.laysSlH8_f186 : Go.Proofs.SlLaysH.n8 Tryz.prog Tryz.laysSlH8_f186_ren := {
  mixed := by kernel_rfl
  f6 := ⟨Tryz.f192.name, by decide, Tryz.func192.trans (congrArg some (by kernel_rfl))⟩
  f8 := ⟨Tryz.f186.name, by decide, Tryz.func186.trans (congrArg some (by kernel_rfl))⟩
  t0 := Tryz.underlying0
  a0 := Tryz.isAgg0
  z0 := Tryz.sizeOf0
  v0 := Tryz.zeroValue0
  t3 := Tryz.underlying3
  a3 := Tryz.isAgg3
  z3 := Tryz.sizeOf3
  v3 := Tryz.zeroValue3
  t4 := Tryz.underlying4
  a4 := Tryz.isAgg4
  z4 := Tryz.sizeOf4
  v4 := Tryz.zeroValue4
  t22 := Tryz.underlying25
  a22 := Tryz.isAgg25
  z22 := Tryz.sizeOf25
  v22 := Tryz.zeroValue25
  a23 := Tryz.isAgg9
  z23 := Tryz.sizeOf9
  t25 := Tryz.underlying95
  a25 := Tryz.isAgg95
  z25 := Tryz.sizeOf95
  v25 := Tryz.zeroValue95 }
open Go.RowKit Go.Lib in
/-- slices.ContainsFunc: "ContainsFunc reports whether at least one element e of s satisfies f(e).": ITS CALLEE slices.IndexFunc IS MET BY ITS OWN CONTRACT. (LAID AT THE INSTANCE 'slices.ContainsFunc[[]string,string]': no walk: one application.) -/
theorem Tryz.slices_ContainsFunc {α : Type} [Inhabited α] (enc : α → Value) (p : α → Bool) (g : Nat) (lb : Array Value) (eg : ∀ args w, (callFunc g args).run Tryz.prog w = .ok (.enter g args) w) (b off n c : Nat) (zs : List α) (w : World) (hp : PredAt Tryz.prog g lb enc p w) (hz : n ≤ zs.length) (hbig : n ≤ 9223372036854775807) (hc : ∀ j, j < zs.length → w.cell? ⟨b, off + j, none⟩ = some (enc zs[j]!)) :
    Calls Tryz.prog 186 #[.slice (some ⟨b, off, none⟩) n c, .func (.func g) #[] lb] w fun e w' => e = .returned (.bool ((zs.take n).any p)) ∧ ∃ q, w' = w.drewN q := AnyE.slices_ContainsFunc Tryz.laysSlH8_f186 enc p g lb eg b off n c zs w hp hz hbig hc
open Go.RowKit Go.Lib in
/-- The same at a slice of length 0, a nil one too. (LAID AT THE INSTANCE 'slices.ContainsFunc[[]string,string]': no walk: one application.) -/
theorem Tryz.slices_ContainsFunc_empty {α : Type} [Inhabited α] (a : Option Addr) (c : Nat) (fv : Value) (w : World) :
    Calls Tryz.prog 186 #[.slice a 0 c, fv] w fun e w' => e = .returned (.bool false) ∧ w' = w := AnyE.slices_ContainsFunc_empty Tryz.laysSlH8_f186 a c fv w
def Tryz.laysSlH10_f154_ren : Go.Shelf.Ren := ⟨fun | 10 => 154 | 6 => 192 | n => n, fun | 22 => 25 | 23 => 9 | 25 => 95 | 3 => 3 | 4 => 4 | 0 => 0 | n => n, fun | n => n⟩
theorem Tryz.laysSlH10_f154 : Go.Proofs.SlLaysH.n10 Tryz.prog Tryz.laysSlH10_f154_ren := {
  mixed := by kernel_rfl
  f6 := ⟨Tryz.f192.name, by decide, Tryz.func192.trans (congrArg some (by kernel_rfl))⟩
  f10 := ⟨Tryz.f154.name, by decide, Tryz.func154.trans (congrArg some (by kernel_rfl))⟩
  t0 := Tryz.underlying0
  a0 := Tryz.isAgg0
  z0 := Tryz.sizeOf0
  v0 := Tryz.zeroValue0
  t3 := Tryz.underlying3
  a3 := Tryz.isAgg3
  z3 := Tryz.sizeOf3
  v3 := Tryz.zeroValue3
  t4 := Tryz.underlying4
  a4 := Tryz.isAgg4
  z4 := Tryz.sizeOf4
  v4 := Tryz.zeroValue4
  t22 := Tryz.underlying25
  a22 := Tryz.isAgg25
  z22 := Tryz.sizeOf25
  v22 := Tryz.zeroValue25
  a23 := Tryz.isAgg9
  z23 := Tryz.sizeOf9
  t25 := Tryz.underlying95
  a25 := Tryz.isAgg95
  z25 := Tryz.sizeOf95
  v25 := Tryz.zeroValue95 }
open Go.RowKit Go.Lib Go.Sort in
theorem Tryz.slices_DeleteFunc {α : Type} [Inhabited α] (enc : α → Value) (hO : OneCell enc) (p : α → Bool) (g : Nat) (lb : Array Value) (eg : ∀ args w, (callFunc g args).run Tryz.prog w = .ok (.enter g args) w) (zr : α) (v23 : ∀ w, (zeroValue 9).run Tryz.prog w = .ok (enc zr) w) (blk off cap : Nat) (d : Array α) (w : World) (hp : PredAt Tryz.prog g lb enc p w) (hpo : PredOver Tryz.prog g lb enc p blk off d.size w) (hH : Holds enc w blk off d) (hsz : d.size ≤ 9223372036854775807) (hcap : d.size ≤ cap) :
    Calls Tryz.prog 154 #[.slice (some ⟨blk, off, none⟩) d.size cap, .func (.func g) #[] lb] w fun e w' => e = .returned (.slice (some ⟨blk, off, none⟩) (d.toList.filter fun x => !p x).length cap) ∧ ∃ q, w' = putRow enc (Sort.ahead w q) blk off ((d.toList.filter fun x => !p x) ++ List.replicate (d.size - (d.toList.filter fun x => !p x).length) zr).toArray := AnyE.slices_DeleteFunc Tryz.laysSlH10_f154 enc hO p g lb eg zr v23 blk off cap d w hp hpo hH hsz hcap
end Go.Proofs
namespace Go.Proofs.YthngelbaheankaaGreatDoor.Tpl
open Go.RowKit Go.Proofs.YthngelbaheankaaGreatDoor.PB Go.Proofs.YthngelbaheankaaGreatDoor.Short Go.Proofs.YthngelbaheankaaGreatDoorW.PrintWords Go.Proofs.YthngelbaheankaaGreatDoorW.PrintLast Go.Proofs.YthngelbaheankaaGreatDoorW.PrintMore Nodes
def Glob (w : World) : Prop := (∃ m, w.cell? ⟨5, 0, none⟩ = some (.int .i64 m)) ∧ ∃ a : Addr, w.cell? ⟨2, 0, none⟩ = some (.iface 305 (.pointer (some a)))
theorem Glob.below {w w' : World} (h : Glob w) (hb : Below w.heap.size w w') : Glob w' := by obtain ⟨⟨m, hm⟩, ⟨a, ha⟩⟩ := h; exact ⟨⟨m, pw_cell_below hb hm⟩, ⟨a, pw_cell_below hb ha⟩⟩
theorem globS {w X : World} (h : Glob w) [s : Stp w X] : Glob X := h.below s.out
theorem row_form {w : World} {A : Option Addr} {p : List ByteArray} (h : Kd.string.C w A p.length p) (hp : 0 < p.length) : ∃ b off, A = some ⟨b, off, none⟩ ∧ ∀ j, j < p.length → w.cell? ⟨b, off + j, none⟩ = some (.string (p.getD j ByteArray.empty)) := by
  obtain ⟨ad, e, hc⟩ := h.2.2 hp
  have cell : ∀ j (hj : j < p.length), w.cell? (ad.add j) = some (.string p[j]) := by
    intro j hj
    obtain ⟨cs, hl, hk, hcell⟩ := hc j _ (List.getElem?_eq_getElem hj)
    have hk' : cs = [.string p[j]] := hk
    subst hk'
    have h0 := hcell 0 _ rfl
    simpa [Kd.string, Kd.scalar] using h0
  have c0 := cell 0 hp
  have hs : ad.spot = none := by
    simp only [Addr.add, if_true] at c0
    unfold World.cell? at c0
    split at c0
    · cases hsp : ad.spot with
      | none => rfl
      | some _ => rw [hsp] at c0; simp at c0
    · cases c0
  obtain ⟨b, off, sp⟩ := ad
  simp only at hs
  subst hs
  refine ⟨b, off, e, fun j hj => ?_⟩
  have := cell j hj
  rw [List.getD_eq_getElem?_getD, List.getElem?_eq_getElem hj, Option.getD_some, ← this]
  unfold Addr.add
  split
  · rename_i h; subst h; rfl
  · rfl
theorem eg_right : ∀ args w, (callFunc 225 args).run Tryz.prog w = .ok (.enter 225 args) w := enters_of Tryz.func225 (by kernel_rfl) rfl
theorem not_name (s : S) (hs : s.length ≤ 1048576) (W : World) : FnGives Tryz.prog 225 #[] #[.string (bs s)] (.bool (!nameP s)) W := by
  obtain ⟨k, hk⟩ := name_f s hs
  unfold FnGives
  have c := value_Name.calls k (bs s) _ W hk
  cases h : nameP s
  all_goals
    rw [h] at c
    go_enter Tryz.func225, Tryz.ntmps225
    go_wp2_with fail
    refine c.mono ?_
    rintro e w1 ⟨rfl, ⟨q, rfl⟩⟩
    go_wp2
    go_ret
    exact ⟨rfl, q, rfl⟩
abbrev SmS := { s : S // s.length ≤ 1048576 }
instance : Inhabited SmS := ⟨⟨[], by decide⟩⟩
def smsv (x : SmS) : Value := .string (bs x.1)
theorem pred_right (w : World) : PredAt Tryz.prog 225 #[] smsv (fun x => !nameP x.1) w := fun W x _ => not_name x.1 x.2 W
def toSm (p : List S) (h : ∀ s, s ∈ p → s.length ≤ 1048576) : List SmS := p.pmap (fun s hs => ⟨s, hs⟩) h
theorem toSm_len (p : List S) (h) : (toSm p h).length = p.length := by simp [toSm]
theorem toSm_any (p : List S) (h) (f : S → Bool) : (toSm p h).any (fun x => f x.1) = p.any f := by
  unfold toSm
  induction p with
  | nil => rfl
  | cons s r ih => simp only [List.pmap_cons, List.any_cons]; rw [ih]
theorem toSm_get (p : List S) (h) (j : Nat) (hj : j < p.length) : smsv (toSm p h)[j]! = .string ((p.map bs).getD j ByteArray.empty) := by
  have : j < (toSm p h).length := by rw [toSm_len]; exact hj
  rw [getElem!_pos (toSm p h) j this]
  simp [smsv, toSm, List.getD, hj]
set_option maxHeartbeats 1000000 in
set_option maxRecDepth 100000 in
theorem right_any (A : Option Addr) (c : Nat) (p : List S) (w : World) (hC : Kd.string.C w A p.length (p.map bs)) (hp : p.length ≤ 1048576) (hs : ∀ s, s ∈ p → s.length ≤ 1048576) :
    Calls Tryz.prog 195 #[.slice A p.length c] w fun e w' => e = .returned (.bool (pathP p)) ∧ ∃ q, w' = w.drewN q := by
  by_cases c1 : p.length < 1
  · have e : pathP p = false := by unfold pathP; simp; intro h; omega
    rw [e]
    go_enter Tryz.func195, Tryz.ntmps195
    go_wp2_with fail
    go_ret
    exact ⟨rfl, 0, rfl⟩
  by_cases c2 : 4 < p.length
  · have e : pathP p = false := by unfold pathP; simp; intro h h2; omega
    rw [e]
    go_enter Tryz.func195, Tryz.ntmps195
    go_wp2_with fail
    go_ret
    exact ⟨rfl, 0, rfl⟩
  obtain ⟨b, off, rfl, hcell⟩ := row_form (by simpa using hC) (show 0 < (p.map bs).length by simp; omega)
  have hcell' : ∀ j, j < (toSm p hs).length → w.cell? ⟨b, off + j, none⟩ = some (smsv (toSm p hs)[j]!) := by
    intro j hj
    rw [toSm_len] at hj
    rw [toSm_get p hs j hj]
    exact hcell j (by simpa using hj)
  have hcon := Aside0.mk (fun q => Tryz.slices_ContainsFunc smsv (fun x => !nameP x.1) 225 #[] eg_right b off p.length c (toSm p hs) (w.drewN q) (pred_right _) (by rw [toSm_len]; exact Nat.le_refl _) (by omega) hcell')
  have hany : ((toSm p hs).take p.length).any (fun x => !nameP x.1) = !p.all nameP := by
    rw [List.take_of_length_le (by rw [toSm_len]; exact Nat.le_refl _), toSm_any p hs (fun s => !nameP s)]
    rw [← List.not_all_eq_any_not]
  have h0 : w.cell? ⟨b, off, none⟩ = some (.string (bs (p.getD 0 []))) := by
    have := hcell 0 (by simp; omega)
    rw [List.getD_eq_getElem?_getD, List.getElem?_map] at this
    rw [show off + 0 = off from rfl] at this
    rw [this]
    simp [List.getD, show 0 < p.length by omega]
  have hpp : pathP p = (!(p.length == 1 && special (p.getD 0 [])) && p.all nameP) := by
    unfold pathP; rw [decide_eq_true (show 1 ≤ p.length by omega), decide_eq_true (show p.length ≤ 4 by omega)]; rfl
  rw [hpp]
  clear hpp
  have hown := scan_own.calls 5 (bs (p.getD 0 [])) _ w (own_f _)
  have hsp := own_special (p.getD 0 [])
  rw [hsp]
  clear hsp
  generalize p.getD 0 [] = s0 at *
  generalize ownP s0 = o at *
  have hall : (!((!p.all nameP))) = p.all nameP := by simp
  by_cases c3 : p.length = 1
  · have e1 : (p.length == 1) = true := by simp [c3]
    rw [e1]
    clear e1
    have e1 : ((p.length : Int) == 1) = true := by simp [c3]
    by_cases co : o = 2
    · subst co
      rw [show (!(true && ((2 : Nat) != 2)) && p.all nameP) = p.all nameP from by simp]
      generalize p.all nameP = r at *
      go_enter Tryz.func195, Tryz.ntmps195
      go_wp2_with fail
      refine hown.mono ?_
      rintro e w1 ⟨rfl, ⟨q, rfl⟩⟩
      go_wp2_with fail
      have h1 := hcon.out q
      rw [c3] at h1 hany
      refine h1.mono ?_
      rintro e w2 ⟨rfl, ⟨q2, rfl⟩⟩
      rw [hany]
      go_wp2
      go_ret
      exact ⟨by first | rfl | simp, q + q2, rfl⟩
    · have e2 : ((o : Int) != 2) = true := by rw [bne_iff_ne]; omega
      have e3 : (o != 2) = true := by rw [bne_iff_ne]; omega
      rw [e3]
      go_enter Tryz.func195, Tryz.ntmps195
      go_wp2_with fail
      refine hown.mono ?_
      rintro e w1 ⟨rfl, ⟨q, rfl⟩⟩
      go_wp2_with fail
      go_ret
      exact ⟨by simp, q, rfl⟩
  · have e1 : (p.length == 1) = false := by simp [c3]
    rw [e1]
    clear e1
    have e1 : ((p.length : Int) == 1) = false := by rw [beq_eq_false_iff_ne]; omega
    rw [show (!(false && (o != 2)) && p.all nameP) = p.all nameP from by simp]
    generalize p.all nameP = r at *
    go_enter Tryz.func195, Tryz.ntmps195
    go_wp2_with fail
    refine (hcon.out 0).mono ?_
    rintro e w2 ⟨rfl, ⟨q2, rfl⟩⟩
    rw [hany]
    go_wp2
    go_ret
    exact ⟨by first | rfl | simp, q2, rfl⟩
theorem hasOpen_any (s : S) (hs : s.length ≤ 1048576) (w : World) (hG : Glob w) : Calls Tryz.prog 196 #[.string (bs s), .string ⟨#[123, 123]⟩] w fun e w' => e = .returned (.bool (hasOpen s)) ∧ w' = w := by
  obtain ⟨⟨m, hm⟩, _⟩ := hG
  exact Tryz.strings_Contains (bs s) ⟨#[123, 123]⟩ m w (by rw [bs_size]; omega) hm
def endsB (s : S) : Bool := s.getLast? == some 123
theorem suffix1 (s : S) : Lib.hasSuffix s [123] = endsB s := by
  unfold Lib.hasSuffix endsB
  rcases List.eq_nil_or_concat s with rfl | ⟨l, x, rfl⟩
  · rfl
  · simp [List.isSuffixOf]
    first | rfl | (rw [Bool.eq_iff_iff]; simp; exact eq_comm)
theorem suffix_any (s : S) (hs : s.length ≤ 1048576) (w : World) : Calls Tryz.prog 197 #[.string (bs s), .string ⟨#[123]⟩] w fun e w' => e = .returned (.bool (endsB s)) ∧ w' = w := by
  rw [← suffix1]
  exact Tryz.strings_HasSuffix (bs s) ⟨#[123]⟩ w (by rw [bs_size]; omega)
set_option maxHeartbeats 1000000 in
set_option maxRecDepth 100000 in
theorem fine_any (A : Option Addr) (c : Nat) (x : Tok) (next txt : Bool) (w : World) (hG : Glob w) (hk : x.k < 256) (ht : x.t.length ≤ 1048576) (hC : Kd.string.C w A x.p.length (x.p.map bs)) (hp : x.p.length ≤ 1048576) (hs : ∀ s, s ∈ x.p → s.length ≤ 1048576) :
    Calls Tryz.prog 159 #[.agg #[.int .u8 x.k, .string (bs x.t), .slice A x.p.length c], .bool next, .bool txt] w fun e w' => e = .returned (.bool (fineP x next txt)) ∧ Below w.heap.size w w' := by
  obtain ⟨k, t, p⟩ := x
  simp only at *
  unfold fineP
  simp only
  by_cases k1 : k = 1
  · subst k1
    rw [if_pos rfl]
    have HG := Aside0.mk hG
    have HS := Aside0.mk hs
    clear hG hC hs
    have hopen := fun W (hW : Glob W) => hasOpen_any t ht W hW
    have hsuf := fun W => suffix_any t ht W
    generalize hasOpen t = o at *
    rw [show (t.getLast? == some 123) = endsB t from rfl]
    generalize endsB t = z at *
    have e0 : (bs t).toList.isEmpty = t.isEmpty := by rw [bs_list]
    generalize t.isEmpty = y at *
    have e1 : ((p.length : Int) == 0) = (p.length == 0) := by rw [Bool.eq_iff_iff]; simp
    generalize (p.length == 0) = n at *
    have hy : y = true ∨ y = false ∧ n = false ∨ y = false ∧ n = true ∧ o = true ∨ y = false ∧ n = true ∧ o = false ∧ txt = true ∨ y = false ∧ n = true ∧ o = false ∧ txt = false ∧ next = false ∨ y = false ∧ n = true ∧ o = false ∧ txt = false ∧ next = true := by
      cases y <;> cases n <;> cases o <;> cases txt <;> cases next <;> simp
    rcases hy with rfl | ⟨rfl, rfl⟩ | ⟨rfl, rfl, rfl⟩ | ⟨rfl, rfl, rfl, rfl⟩ | ⟨rfl, rfl, rfl, rfl, rfl⟩ | ⟨rfl, rfl, rfl, rfl, rfl⟩
    all_goals
      go_enter Tryz.func159, Tryz.ntmps159
      go_wp2_with fail
      go_quiet (first | (go_at_call 196; exact Calls.quiet_of_same (hopen _ (by exact globS HG.out))) | (go_at_call 197; exact Calls.quiet_of_same (hsuf _)))
      go_wp2
      go_ret
      exact ⟨by simp, belS (Below.refl _ _)⟩
  rw [if_neg k1]
  have n1 : ((k : Int) == 1) = false := by rw [beq_eq_false_iff_ne]; omega
  have e0 : (bs t).toList.isEmpty = t.isEmpty := by rw [bs_list]
  have e1 : ((p.length : Int) == 0) = (p.length == 0) := by rw [Bool.eq_iff_iff]; simp
  generalize (p.length == 0) = n at *
  generalize t.isEmpty = y at *
  by_cases k2 : k = 2 ∨ k = 3 ∨ k = 5
  · rw [if_pos k2]
    have hr := Aside0.mk (fun W hb => right_any A c p W (Kd.C_below hC hb) hp hs)
    clear hG hC hs e1
    generalize pathP p = z at *
    have hb : ((k : Int) == 2) = true ∨ (((k : Int) == 2) = false ∧ ((k : Int) == 3) = true) ∨ (((k : Int) == 2) = false ∧ ((k : Int) == 3) = false ∧ ((k : Int) == 5) = true) := by
      rcases k2 with rfl | rfl | rfl
      · exact .inl rfl
      · exact .inr (.inl ⟨rfl, rfl⟩)
      · exact .inr (.inr ⟨rfl, rfl, rfl⟩)
    clear k2
    cases y with
    | false =>
      rcases hb with b1 | ⟨b1, b2⟩ | ⟨b1, b2, b3⟩
      all_goals
        go_enter Tryz.func159, Tryz.ntmps159
        go_wp2_with fail
        go_ret
        exact ⟨by simp, belS (Below.refl _ _)⟩
    | true =>
      rcases hb with b1 | ⟨b1, b2⟩ | ⟨b1, b2, b3⟩
      all_goals
        go_enter Tryz.func159, Tryz.ntmps159
        go_wp2_with fail
        refine (hr.out _ (belS (Below.refl _ _))).mono ?_
        rintro e w1 ⟨rfl, ⟨q, rfl⟩⟩
        go_wp2
        go_ret
        exact ⟨by simp, belS (Below.refl _ _)⟩
  · rw [if_neg k2]
    have n2 : ((k : Int) == 2) = false := by rw [beq_eq_false_iff_ne]; omega
    have n3 : ((k : Int) == 3) = false := by rw [beq_eq_false_iff_ne]; omega
    have n5 : ((k : Int) == 5) = false := by rw [beq_eq_false_iff_ne]; omega
    clear hG hC hs
    by_cases k4 : k = 4 ∨ k = 6
    · rw [if_pos k4]
      have hb : ((k : Int) == 4) = true ∨ (((k : Int) == 4) = false ∧ ((k : Int) == 6) = true) := by
        rcases k4 with rfl | rfl
        · exact .inl rfl
        · exact .inr ⟨rfl, rfl⟩
      clear k4 k2 k1
      rcases hb with b1 | ⟨b1, b2⟩
      all_goals
        cases y
        all_goals
          go_enter Tryz.func159, Tryz.ntmps159
          go_wp2_with fail
          go_ret
          exact ⟨by simp, belS (Below.refl _ _)⟩
    · rw [if_neg k4]
      have n4 : ((k : Int) == 4) = false := by rw [beq_eq_false_iff_ne]; omega
      have n6 : ((k : Int) == 6) = false := by rw [beq_eq_false_iff_ne]; omega
      clear k4 k2 k1
      go_enter Tryz.func159, Tryz.ntmps159
      go_wp2_with fail
      go_ret
      exact ⟨by simp, belS (Below.refl _ _)⟩
end Go.Proofs.YthngelbaheankaaGreatDoor.Tpl
set_option linter.unusedSimpArgs false
namespace Go.Proofs.YthngelbaheankaaGreatDoor.Tpl
open Go.RowKit Go.Proofs.YthngelbaheankaaGreatDoor.PB Go.Proofs.YthngelbaheankaaGreatDoor.Short Go.Proofs.YthngelbaheankaaGreatDoorW.PrintWords Go.Proofs.YthngelbaheankaaGreatDoorW.PrintLast Go.Proofs.YthngelbaheankaaGreatDoorW.PrintMore Nodes
attribute [local go_sem ↓] Go.wp_at_zero Go.wp_at_succ
def Tok.sm (x : Tok) : Prop := x.k < 256 ∧ x.t.length ≤ 1048576 ∧ x.p.length ≤ 1048576 ∧ ∀ s, s ∈ x.p → s.length ≤ 1048576
def RdT (w : World) (A : Option Addr) (c : Nat) (l : List Tok) : Prop := kT.C w A l.length (tokv l) ∧ l.length ≤ c
theorem RdT.below {w w1 : World} {A : Option Addr} {c : Nat} {l : List Tok} (h : RdT w A c l) (hb : Below w.heap.size w w1) : RdT w1 A c l := ⟨Kd.C_below h.1 hb, h.2⟩
theorem RdT.at {w : World} {A : Option Addr} {c : Nat} {l : List Tok} (h : RdT w A c l) {i : Nat} {x : Tok} (hx : l[i]? = some x) :
    ∃ ad A2 c2, A = some ad ∧ w.cell? (ad.add (i * 3)) = some (.int .u8 x.k) ∧ w.cell? ⟨(ad.add (i * 3)).block, (ad.add (i * 3)).off + 1, none⟩ = some (.string (bs x.t)) ∧ w.cell? ⟨(ad.add (i * 3)).block, (ad.add (i * 3)).off + 2, none⟩ = some (.slice A2 x.p.length c2) ∧
      Kd.string.C w A2 x.p.length (x.p.map bs) ∧ x.p.length ≤ c2 := by
  have hi := (List.getElem?_eq_some_iff.1 hx).1
  obtain ⟨ad, A2, c2, e, x0, x1, x2, l2, i2⟩ := at_T110 h.1 (i : Int) (by omega) (by omega)
  have e0 : rd_T110 (tokv l) (i : Int) = Tok.of x := by
    unfold rd_T110 tokv
    simp [List.getD, hx]
  rw [e0] at x0 x1 x2 l2 i2
  simp only [Int.toNat_natCast, Tok.of, List.length_map] at x0 x1 x2 l2 i2
  exact ⟨ad, A2, c2, e, x0, x1, x2, i2, l2⟩
theorem toksP_drop {l : List Tok} {i : Nat} {x : Tok} (hx : l[i]? = some x) : toksP (l.drop i) = (fineP x (decide (i + 1 < l.length)) (match l[i + 1]? with | none => false | some y => y.k == 1) && toksP (l.drop (i + 1))) := by
  have hi := (List.getElem?_eq_some_iff.1 hx).1
  have e : l.drop i = x :: l.drop (i + 1) := by rw [List.drop_eq_getElem_cons hi]; congr 1; exact Option.some.inj ((List.getElem?_eq_getElem hi).symm.trans hx)
  rw [e]
  conv => lhs; unfold toksP
  congr 1
  by_cases h : i + 1 < l.length
  · have e2 := List.drop_eq_getElem_cons h
    rw [e2, List.getElem?_eq_getElem h, decide_eq_true h]
    rfl
  · rw [List.drop_eq_nil_of_le (by omega), List.getElem?_eq_none (by omega), decide_eq_false h]
    rfl
def chkT5 : Bool × List (List Nat × List Nat) := (true, [([], []), ([], []), ([], []), ([2], [2]), ([3], [3]), ([3], [3]), ([5, 3], [3, 5]), ([4, 6, 3], [3, 4, 6]), ([7, 3], [3, 7]), ([8, 3], [3, 8]), ([9, 3], [3, 9]), ([3, 10], [3, 10]), ([0, 1, 11, 3], [0, 1, 11]), ([12], [12])])
def chkB5 : List Nat := [0, 0, 0, 4, 12, 12, 44, 124, 252, 508, 1020, 2044, 4095, 8191]
theorem chktab5 : rtab .any (opsOf Tryz.f107 5) = chkT5 := by kernel_rfl
theorem chkbits5 : waitsOk chkT5.2 chkB5 = true := by kernel_rfl
set_option maxHeartbeats 2000000 in
set_option maxRecDepth 100000 in
theorem check_any (A : Option Addr) (c : Nat) (l : List Tok) (w : World) (hG : Glob w) (hR : RdT w A c l) (hl : l.length ≤ 1048576) (hs : ∀ x, x ∈ l → x.sm) :
    Calls Tryz.prog 107 #[.slice A l.length c] w fun e w' => e = .returned (.int .i64 (if toksP l = true then 0 else 2)) ∧ Below w.heap.size w w' := by
  obtain ⟨r, hr⟩ : ∃ r : Int, (if toksP l = true then 0 else 2) = r := ⟨_, rfl⟩
  rw [hr]
  have Hr := Aside0.mk hr
  clear hr
  have HR := Aside0.mk hR
  have HG := Aside0.mk hG
  have HS := Aside0.mk hs
  clear hR hG hs
  go_enter Tryz.func107, Tryz.ntmps107
  go_wp2
  go_loopw [8] (fun v wr => ∃ i : Nat, v = .int .i64 i ∧ i ≤ l.length ∧ Aside0 (toksP l = toksP (l.drop i)) ∧ Aside0 (Below w.heap.size w wr))
    (fun v _ => l.length - (intOf v).toNat)
  case atStart => exact ⟨0, rfl, Nat.zero_le _, ⟨by simp⟩, ⟨Below.refl _ _⟩⟩
  case round =>
    obtain ⟨i, rfl, hi, HE, HB⟩ := hrel
    by_cases hlt : i < l.length
    · obtain ⟨x, hx⟩ : ∃ x, l[i]? = some x := ⟨_, List.getElem?_eq_getElem hlt⟩
      have hsx := HS.out x (List.mem_of_getElem? hx)
      obtain ⟨ad, A2, c2, rfl, y0, y1, y2, i2, l2⟩ := HR.out.at hx
      replace y0 := (HB.out.cell (World.block_lt_of_cell? _ _ y0)).trans y0
      replace y1 := (HB.out.cell (World.block_lt_of_cell? _ _ y1)).trans y1
      replace y2 := (HB.out.cell (World.block_lt_of_cell? _ _ y2)).trans y2
      have hd := toksP_drop hx
      rw [← HE.out] at hd
      obtain ⟨k, t, p⟩ := x
      simp only at y0 y1 y2 i2 l2
      have HSX := Aside0.mk hsx
      clear hsx
      by_cases hn : i + 1 < l.length
      · obtain ⟨y, hy⟩ : ∃ y, l[i + 1]? = some y := ⟨_, List.getElem?_eq_getElem hn⟩
        obtain ⟨ad', _, _, e, z0, _, _, _, _⟩ := HR.out.at hy
        cases e
        replace z0 := (HB.out.cell (World.block_lt_of_cell? _ _ z0)).trans z0
        rw [hy, decide_eq_true hn] at hd
        simp only at hd
        obtain ⟨ky, ty, py⟩ := y
        simp only at z0 hd
        clear hx hy
        have hb1 : decide ((i : Int) + 1 < (l.length : Int)) = true := by rw [decide_eq_true_eq]; omega
        have hb2 : (0 : Int) ≤ (i : Int) + 1 := by omega
        have hb3 : (i : Int) + 1 < (l.length : Int) := by omega
        have hwr : IntKind.i64.wrap ((i : Int) + 1) = (i : Int) + 1 := by rw [i64_w]; unfold wrap64; omega
        have hky : ((ky : Int) == 1) = (ky == 1) := by rw [Bool.eq_iff_iff, beq_iff_eq, beq_iff_eq]; omega
        have hf := Aside0.mk (fun W hb => fine_any A2 c2 ⟨k, t, p⟩ true (ky == 1) W (HG.out.below hb) HSX.out.1 HSX.out.2.1 (Kd.C_below i2 hb) HSX.out.2.2.1 HSX.out.2.2.2)
        generalize (ky == 1) = kb at *
        generalize hF : fineP ⟨k, t, p⟩ true kb = fb at *
        go_wp2_with fail
        obtain ⟨g, hg⟩ : ∃ g, wr.heap.size = g := ⟨_, rfl⟩
        have BK := Aside0.mk (blk_new wr (.cells #[.int .u8 k, .string (bs t), .slice A2 p.length c2] 110))
        have HBw := Aside0.mk (below_alloc HB.out (.cells #[.int .u8 k, .string (bs t), .slice A2 p.length c2] 110))
        replace z0 := pw_cell_below (below_alloc (Below.refl wr.heap.size wr) (.cells #[.int .u8 k, .string (bs t), .slice A2 p.length c2] 110)) z0
        generalize wr.alloc (.cells #[.int .u8 k, .string (bs t), .slice A2 p.length c2] 110) = W at BK HBw z0 ⊢
        rw [hg] at BK ⊢
        obtain ⟨m0, m1, m2, n0, n1, n2⟩ := cells_3 BK.out
        clear y0 y1 y2 HB
        go_region_held3 (fun w' => w'.cell? ⟨g, 0, none⟩ = some (.int .u8 k) ∧ w'.cell? ⟨g, 1, none⟩ = some (.string (bs t)) ∧ w'.cell? ⟨g, 2, none⟩ = some (.slice A2 p.length c2) ∧ w'.cell? (ad.add ((i + 1) * 3)) = some (.int .u8 ky))
          (first
            | go_keep
            | (have q := cells_3 (blk_below (w := W.drew) BK.out hb4); exact ⟨q.1, q.2.1, q.2.2.1, pw_cell_below hb4 z0⟩))
          (first
            | ((go_at_call 159; refine (hf.out _ (below_drew1 HBw.out)).mono ?_; rintro e w1 ⟨rfl, hb4⟩)))
        have HB1 := Aside0.mk (below_step (below_drew1 HBw.out) hb4)
        clear hb4 hf z0
        cases fb with
        | false =>
          go_wp2
          go_ret
          exact ⟨by rw [← Hr.out, hd]; simp, HB1.out⟩
        | true =>
          go_wp2
          go_roundw
          case rel => exact ⟨i + 1, by simp, by omega, ⟨by rw [hd]; simp⟩, HB1⟩
          case measure => simp [intOf]; omega
      · rw [List.getElem?_eq_none (by omega), decide_eq_false hn] at hd
        simp only at hd
        clear hx
        have hb1 : decide ((i : Int) + 1 < (l.length : Int)) = false := by rw [decide_eq_false_iff_not]; omega
        have hf := Aside0.mk (fun W hb => fine_any A2 c2 ⟨k, t, p⟩ false false W (HG.out.below hb) HSX.out.1 HSX.out.2.1 (Kd.C_below i2 hb) HSX.out.2.2.1 HSX.out.2.2.2)
        generalize hF : fineP ⟨k, t, p⟩ false false = fb at *
        go_wp2_with fail
        obtain ⟨g, hg⟩ : ∃ g, wr.heap.size = g := ⟨_, rfl⟩
        have BK := Aside0.mk (blk_new wr (.cells #[.int .u8 k, .string (bs t), .slice A2 p.length c2] 110))
        have HBw := Aside0.mk (below_alloc HB.out (.cells #[.int .u8 k, .string (bs t), .slice A2 p.length c2] 110))
        generalize wr.alloc (.cells #[.int .u8 k, .string (bs t), .slice A2 p.length c2] 110) = W at BK HBw ⊢
        rw [hg] at BK ⊢
        obtain ⟨m0, m1, m2, n0, n1, n2⟩ := cells_3 BK.out
        clear y0 y1 y2 HB
        have HBD := Aside0.mk (below_drew1 HBw.out)
        have BKD := Aside0.mk (blk_drew BK.out)
        refine start_ (n := 14) (S := fun w' => w'.cell? ⟨g, 0, none⟩ = some (.int .u8 k) ∧ w'.cell? ⟨g, 1, none⟩ = some (.string (bs t)) ∧ w'.cell? ⟨g, 2, none⟩ = some (.slice A2 p.length c2)) (ds := []) #[false, false, false, false, false, false, false, false, false, false, false, false, false, false] (by kernel_rfl) rfl rfl ⟨m0, m1, m2⟩ (fun hHeld => ?_)
        refine with_tabW chktab5 chkbits5 (fun HT_ HW_ => ?_)
        clear m0 m1 m2 n0 n1 n2 BK HBw
        generalize W.drew = W2 at BKD HBD hHeld ⊢
        refine pure_ (i := 1) (N := some 19) (v := ?_) (a' := ?_) #[false, true, false, false, false, false, false, false, false, false, false, false, false, false] rfl rfl (any_of HT_.out (by kernel_rfl)) (fun _ _ _ h => h) (Or.inl ⟨by rfl, ?_⟩) ?_ ?_
        rotate_left
        · intro w'
          go_simp
          with_reducible rfl
        rotate_left
        · simp only [Act.put, List.setIfInBounds_toArray, List.set_cons_zero, List.set_cons_succ, i64_w, i32_w]
          rfl
        refine pure_ (i := 2) (N := some 20) (v := ?_) (a' := ?_) #[false, true, true, false, false, false, false, false, false, false, false, false, false, false] rfl rfl (any_of HT_.out (by kernel_rfl)) (fun _ _ _ h => h) (Or.inl ⟨by rfl, ?_⟩) ?_ ?_
        rotate_left
        · intro w'
          go_simp
          with_reducible rfl
        rotate_left
        · simp only [Act.put, List.setIfInBounds_toArray, List.set_cons_zero, List.set_cons_succ, i64_w, i32_w]
          rfl
        refine pure_ (i := 3) (N := some 21) (v := ?_) (a' := ?_) #[false, true, true, true, false, false, false, false, false, false, false, false, false, false] rfl rfl (any_of HT_.out (by kernel_rfl)) (fun _ _ _ h => h) (Or.inl ⟨by rfl, ?_⟩) ?_ ?_
        rotate_left
        · intro w'
          go_simp
          with_reducible rfl
        rotate_left
        · simp only [Act.put, List.setIfInBounds_toArray, List.set_cons_zero, List.set_cons_succ, i64_w, i32_w]
          rfl
        refine pure_ (i := 4) (N := some 22) (v := undef) (a' := ?_) #[false, true, true, true, true, false, false, false, false, false, false, false, false, false] rfl rfl (any_of HT_.out (by kernel_rfl)) (fun _ _ _ h => h) (Or.inr ⟨by rfl, rfl⟩) ?_ ?_
        rotate_left
        · simp only [Act.put, List.setIfInBounds_toArray, List.set_cons_zero, List.set_cons_succ, i64_w, i32_w]
          rfl
        refine pure_ (i := 5) (N := some 23) (v := undef) (a' := ?_) #[false, true, true, true, true, true, false, false, false, false, false, false, false, false] rfl rfl (any_of HT_.out (by kernel_rfl)) (fun _ _ _ h => h) (Or.inr ⟨by rfl, rfl⟩) ?_ ?_
        rotate_left
        · simp only [Act.put, List.setIfInBounds_toArray, List.set_cons_zero, List.set_cons_succ, i64_w, i32_w]
          rfl
        refine pure_ (i := 6) (N := some 24) (v := undef) (a' := ?_) #[false, true, true, true, true, true, true, false, false, false, false, false, false, false] rfl rfl (any_of HT_.out (by kernel_rfl)) (fun _ _ _ h => h) (Or.inr ⟨by rfl, rfl⟩) ?_ ?_
        rotate_left
        · simp only [Act.put, List.setIfInBounds_toArray, List.set_cons_zero, List.set_cons_succ, i64_w, i32_w]
          rfl
        refine pure_ (i := 7) (N := some 25) (v := undef) (a' := ?_) #[false, true, true, true, true, true, true, true, false, false, false, false, false, false] rfl rfl (any_of HT_.out (by kernel_rfl)) (fun _ _ _ h => h) (Or.inr ⟨by rfl, rfl⟩) ?_ ?_
        rotate_left
        · simp only [Act.put, List.setIfInBounds_toArray, List.set_cons_zero, List.set_cons_succ, i64_w, i32_w]
          rfl
        refine pure_ (i := 8) (N := some 26) (v := undef) (a' := ?_) #[false, true, true, true, true, true, true, true, true, false, false, false, false, false] rfl rfl (any_of HT_.out (by kernel_rfl)) (fun _ _ _ h => h) (Or.inr ⟨by rfl, rfl⟩) ?_ ?_
        rotate_left
        · simp only [Act.put, List.setIfInBounds_toArray, List.set_cons_zero, List.set_cons_succ, i64_w, i32_w]
          rfl
        refine pure_ (i := 9) (N := some 27) (v := undef) (a' := ?_) #[false, true, true, true, true, true, true, true, true, true, false, false, false, false] rfl rfl (any_of HT_.out (by kernel_rfl)) (fun _ _ _ h => h) (Or.inr ⟨by rfl, rfl⟩) ?_ ?_
        rotate_left
        · simp only [Act.put, List.setIfInBounds_toArray, List.set_cons_zero, List.set_cons_succ, i64_w, i32_w]
          rfl
        refine pure_ (i := 10) (N := some 28) (v := undef) (a' := ?_) #[false, true, true, true, true, true, true, true, true, true, true, false, false, false] rfl rfl (any_of HT_.out (by kernel_rfl)) (fun _ _ _ h => h) (Or.inr ⟨by rfl, rfl⟩) ?_ ?_
        rotate_left
        · simp only [Act.put, List.setIfInBounds_toArray, List.set_cons_zero, List.set_cons_succ, i64_w, i32_w]
          rfl
        refine pure_ (i := 11) (N := some 29) (v := ?_) (a' := ?_) #[false, true, true, true, true, true, true, true, true, true, true, true, false, false] rfl rfl (any_of HT_.out (by kernel_rfl)) (fun _ _ _ h => h) (Or.inl ⟨by rfl, ?_⟩) ?_ ?_
        rotate_left
        · intro w'
          go_simp
          with_reducible rfl
        rotate_left
        · simp only [Act.put, List.setIfInBounds_toArray, List.set_cons_zero, List.set_cons_succ, i64_w, i32_w]
          rfl
        refine take_ (i := 0) (N := some 18) (v := ?_) (a' := ?_) #[true, true, true, true, true, true, true, true, true, true, true, true, false, false] rfl rfl (take_ofW HT_.out HW_.out (by kernel_rfl)) (fun _ _ _ h => h) (Or.inl ⟨by rfl, ?_⟩) hHeld ?_ ?_
        rotate_left
        · rintro w' ⟨s0, s1, s2⟩
          go_simp
          with_reducible rfl
        rotate_left
        · simp only [Act.put, List.setIfInBounds_toArray, List.set_cons_zero, List.set_cons_succ, i64_w, i32_w]
          rfl
        refine one_ (i := 12) (N := some 30) #[true, true, true, true, true, true, true, true, true, true, true, true, true, false] rfl rfl (one_of HT_.out (by kernel_rfl)) (by decide) (fun K hK => ?_)
        refine goes_ Tryz.func159 (by kernel_rfl) rfl #[.agg #[.int .u8 k, .string (bs t), .slice A2 p.length c2], .bool false, .bool false] (by rfl) rfl rfl (by (try simp only [List.map_toArray, List.map_cons, List.map_nil]); first | done | rfl) ?_
        refine (hf.out _ HBD.out).mono ?_
        rintro e w1 ⟨rfl, hb4⟩
        refine ⟨_, rfl, ?_⟩
        have q := cells_3 (blk_below BKD.out hb4)
        refine hK.out _ _ ⟨q.1, q.2.1, q.2.2.1⟩ (fun hHeld => ?_)
        clear hK K
        refine norm_ (a' := ?_) ?_ ?_
        rotate_left
        · show Act.put _ (some 30) _ = _
          simp only [Act.put, List.setIfInBounds_toArray, List.set_cons_zero, List.set_cons_succ, i64_w, i32_w]
          rfl
        refine pure_ (i := 13) (N := some 31) (v := ?_) (a' := ?_) #[true, true, true, true, true, true, true, true, true, true, true, true, true, true] rfl rfl (any_of HT_.out (by kernel_rfl)) (fun _ _ _ h => h) (Or.inl ⟨by rfl, ?_⟩) ?_ ?_
        rotate_left
        · intro w'
          go_simp
          with_reducible rfl
        rotate_left
        · simp only [Act.put, List.setIfInBounds_toArray, List.set_cons_zero, List.set_cons_succ, i64_w, i32_w]
          rfl
        refine done_ (done_of HT_.out (by kernel_rfl)) ?_
        have HB1 := Aside0.mk (below_step HBD.out hb4)
        clear hb4 hf q
        cases fb with
        | false =>
          go_wp2
          go_ret
          exact ⟨by rw [← Hr.out, hd]; simp, HB1.out⟩
        | true =>
          go_wp2
          go_roundw
          case rel => exact ⟨i + 1, by simp, by omega, ⟨by rw [hd]; simp⟩, HB1⟩
          case measure => simp [intOf]; omega
    · obtain rfl : i = l.length := by omega
      go_wp2
      go_ret
      exact ⟨by rw [← Hr.out, HE.out]; simp [toksP], HB.out⟩
end Go.Proofs.YthngelbaheankaaGreatDoor.Tpl
namespace Go.Proofs.YthngelbaheankaaGreatDoor.Tpl
open Go.RowKit Go.Proofs.YthngelbaheankaaGreatDoor.PB Go.Proofs.YthngelbaheankaaGreatDoor.Short Go.Proofs.YthngelbaheankaaGreatDoorW.PrintWords Go.Proofs.YthngelbaheankaaGreatDoorW.PrintLast Go.Proofs.YthngelbaheankaaGreatDoorW.PrintMore Nodes
theorem toks_sm (l : Nodes) (h : l.sm) : ∀ x, x ∈ l.toks → x.sm := by
  induction l with
  | nil => intro x hx; simp [toks] at hx
  | cons k t p a b r iha ihb ihr =>
    obtain ⟨s1, s2, s3, s4, s5, s6, s7, s8, s9⟩ := h
    intro x hx
    have h4 : (⟨4, [], []⟩ : Tok).sm := ⟨by decide, by decide, by decide, fun s hs => by simp at hs⟩
    have h6 : (⟨6, [], []⟩ : Tok).sm := ⟨by decide, by decide, by decide, fun s hs => by simp at hs⟩
    simp only [toks, List.mem_cons, List.mem_append] at hx
    rcases hx with rfl | hx | hx
    · exact ⟨s1, s2, s3, s4⟩
    · by_cases hk : k = 3 ∨ k = 5
      · rw [if_pos hk] at hx
        simp only [List.mem_append, List.mem_singleton] at hx
        rcases hx with hx | hx | rfl
        · exact iha s7 x hx
        · cases hb : b.isNil with
          | true => rw [hb] at hx; simp at hx
          | false =>
            rw [hb] at hx
            simp only [Bool.false_eq_true, if_false, List.mem_cons] at hx
            rcases hx with rfl | hx
            · exact h4
            · exact ihb s8 x hx
        · exact h6
      · rw [if_neg hk] at hx; simp at hx
    · exact ihr s9 x hx
theorem rdT_of_R {w : World} {base : Nat} {ok : Nat → Prop} {v : Value} {l : List Tok} (h : kT.R 110 w base ok v (tokv l)) : ∃ A c, v = .slice A l.length c ∧ RdT w A c l := by
  obtain ⟨A, c, e, hl, hc⟩ := Kd.R_reads h
  have e2 : (tokv l).length = l.length := by simp [tokv]
  rw [e2] at e hl hc
  exact ⟨A, c, e, hc, hl⟩
set_option maxHeartbeats 1000000 in
set_option maxRecDepth 100000 in
theorem tokens_any (l : Nodes) (A : Option Addr) (c : Nat) (w : World) (hG : Glob w) (hs : l.sm) (hR : Rd w A c l) (hl : l.len ≤ 1048576) (hc : l.cnt ≤ 1048576) :
    Calls Tryz.prog 64 #[.slice A l.len c] w fun e w' => ∃ v, e = .returned (.tuple #[v, .int .i64 (if l.chk = true then 0 else 2)]) ∧ ((l.chk = true → kT.R 110 w' w.heap.size (fun k => w.heap.size ≤ k) v (tokv l.toks)) ∧ (l.chk = false → v = .slice none 0 0)) ∧ Below w.heap.size w w' := by
  have hf := fits_any l A c w hs hR hl hc
  obtain ⟨r, hr⟩ : ∃ r : Int, (if l.chk = true then 0 else 2) = r := ⟨_, rfl⟩
  rw [hr]
  have Hr := Aside0.mk hr
  have HR := Aside0.mk hR
  have HS := Aside0.mk hs
  have HG := Aside0.mk hG
  clear hr hR hs hG
  cases hfp : l.fitsP with
  | false =>
    rw [hfp] at hf
    have hch : l.chk = false := by unfold chk; rw [hfp]; rfl
    go_enter Tryz.func64, Tryz.ntmps64
    go_wp2_with fail
    refine hf.mono ?_
    rintro e w1 ⟨rfl, hb⟩
    go_wp2
    go_ret2
    exact ⟨_, by rw [← Hr.out, hch]; rfl, ⟨fun h => (by rw [hch] at h; cases h), fun _ => rfl⟩, hb⟩
  | true =>
    rw [hfp] at hf
    have hcn : l.cnt ≤ 256 := by unfold fitsP at hfp; simp at hfp; exact hfp.2
    have hlen := toks_len l
    have hchk : l.chk = toksP l.toks := by unfold chk; rw [hfp]; rfl
    go_enter Tryz.func64, Tryz.ntmps64
    go_wp2_with fail
    refine hf.mono ?_
    rintro e w1 ⟨rfl, hb⟩
    go_wp2_with fail
    refine (put_any w l.cnt l A c [] (.slice none 0 0) (fun k => w.heap.size ≤ k) w1 (Nat.le_refl _) (by simp; omega) HS.out HR.out hb (fun _ h => h) (fun k hk => Nat.le_trans hb.size hk) (Kd.R_nil _ _ _ _ _)).mono ?_
    rintro e w2 ⟨v, rfl, hO, hK⟩
    rw [List.nil_append] at hO
    have hb2 := hb.trans (hK.below (B := w.heap.size) (fun _ h => h) hb.size)
    obtain ⟨A2, c2, rfl, hRT⟩ := rdT_of_R hO
    have hO' := Aside0.mk hO
    have hb2' := Aside0.mk hb2
    clear hO hK hb
    go_wp2_with fail
    refine (check_any A2 c2 l.toks w2 (HG.out.below hb2) hRT (by simp only [tokv, List.length_map] at hlen; omega) (toks_sm l HS.out)).mono ?_
    rintro e w3 ⟨rfl, hb3⟩
    cases htp : toksP l.toks with
    | false =>
      rw [htp] at hchk
      go_wp2
      go_ret2
      exact ⟨_, by rw [← Hr.out, hchk]; rfl, ⟨fun h => (by rw [hchk] at h; cases h), fun _ => rfl⟩, below_step hb2'.out hb3⟩
    | true =>
      rw [htp] at hchk
      go_wp2
      go_ret2
      exact ⟨_, by rw [← Hr.out, hchk]; rfl, ⟨fun _ => Kd.R_below hO'.out hb3, fun h => (by rw [hchk] at h; cases h)⟩, below_step hb2'.out hb3⟩
theorem chk_any (l : Nodes) (A : Option Addr) (c : Nat) (w : World) (hG : Glob w) (hs : l.sm) (hR : Rd w A c l) (hl : l.len ≤ 1048576) (hc : l.cnt ≤ 1048576) :
    Calls Tryz.prog 38 #[.slice A l.len c] w fun e w' => e = .returned (.int .i64 (if l.chk = true then 0 else 2)) ∧ Below w.heap.size w w' := by
  have h := tokens_any l A c w hG hs hR hl hc
  generalize (if l.chk = true then (0 : Int) else 2) = r at *
  clear hG hs hR
  go_enter Tryz.func38, Tryz.ntmps38
  go_wp2_with fail
  refine h.mono ?_
  rintro e w1 ⟨v, rfl, _, hb⟩
  go_wp2
  go_ret
  exact ⟨rfl, hb⟩
end Go.Proofs.YthngelbaheankaaGreatDoor.Tpl
namespace Go.Proofs.YthngelbaheankaaGreatDoor.Tpl
set_option linter.unusedSimpArgs false
open Go.RowKit Go.Proofs.YthngelbaheankaaGreatDoor.PB Go.Proofs.YthngelbaheankaaGreatDoor.Short Go.Proofs.YthngelbaheankaaGreatDoorW.PrintWords Go.Proofs.YthngelbaheankaaGreatDoorW.PrintLast Go.Proofs.YthngelbaheankaaGreatDoorW.PrintMore Nodes
theorem same_l0 (p q : List S) (h : p.length = q.length) (hp : p.length ≤ 1048576) : ∀ d i, p.length - i = d → i ≤ p.length → bellmanref01_SameTexts.l0 (d + 1) (p.map bs) (q.map bs) (p.length : Int) (i : Int) = some (decide (p.drop i = q.drop i)) := by
  intro d
  induction d with
  | zero =>
    intro i h1 h2
    rw [bellmanref01_SameTexts.l0, if_neg (by omega), List.drop_eq_nil_of_le (by omega), List.drop_eq_nil_of_le (by omega)]; rfl
  | succ d ih =>
    intro i h1 h2
    have hi : i < p.length := by omega
    have hq : i < q.length := by omega
    have e1 : p.drop i = p.getD i [] :: p.drop (i + 1) := by rw [List.drop_eq_getElem_cons hi]; simp [List.getD, hi]
    have e2 : q.drop i = q.getD i [] :: q.drop (i + 1) := by rw [List.drop_eq_getElem_cons hq]; simp [List.getD, hq]
    rw [bellmanref01_SameTexts.l0, if_pos (by omega), if_pos (by omega), if_pos (by rw [List.length_map]; omega), if_pos (by rw [List.length_map]; omega), rd_map p i hi, rd_map q i hq, bs_list, bs_list, w64 i (by omega), e1, e2]
    by_cases c : p.getD i [] = q.getD i []
    · rw [if_pos c, ih (i + 1) (by omega) (by omega), c]; simp
    · rw [if_neg c]; congr 1; symm; rw [decide_eq_false_iff_not]; intro h; exact c (List.cons.inj h).1
theorem same_f (p q : List S) (hp : p.length ≤ 1048576) : ∃ k, bellmanref01_SameTexts.f k (p.map bs) (q.map bs) = some (decide (p = q)) := by
  by_cases h : p.length = q.length
  · have e := same_l0 p q h hp _ 0 rfl (Nat.zero_le _)
    refine ⟨p.length - 0 + 1, ?_⟩
    unfold bellmanref01_SameTexts.f
    rw [if_pos (by simp [h]), List.length_map]
    exact e
  · refine ⟨0, ?_⟩
    unfold bellmanref01_SameTexts.f
    rw [if_neg (by simp; omega)]
    have : p ≠ q := fun e => h (by rw [e])
    simp [this]
end Go.Proofs.YthngelbaheankaaGreatDoor.Tpl
namespace Go.Proofs.YthngelbaheankaaGreatDoor.Tpl
open Go.RowKit Go.Proofs Go.Shelf Go.Proofs.YthngelbaheankaaGreatDoor.PB Go.Proofs.YthngelbaheankaaGreatDoor.Short Go.Proofs.YthngelbaheankaaGreatDoorW.PrintWords Go.Proofs.YthngelbaheankaaGreatDoorW.PrintLast Go.Proofs.YthngelbaheankaaGreatDoorW.PrintMore Nodes
attribute [local go_sem] Oper.semAt_some
structure Lk where
  k : Nat
  t : S
  A2 : Option Addr
  c2 : Nat
  p : List S
  A3 : Option Addr
  n3 : Nat
  c3 : Nat
  A4 : Option Addr
  n4 : Nat
  c4 : Nat
  lv : Nat
  wi : Bool
def Lk.enc (x : Lk) : Value := .agg #[.int .u8 x.k, .string (bs x.t), .slice x.A2 x.p.length x.c2, .slice x.A3 x.n3 x.c3, .slice x.A4 x.n4 x.c4, .int .i64 x.lv, .bool x.wi]
def Lk.er (x : Lk) : Look := ⟨x.k, x.t, x.p, x.lv, x.wi⟩
def GLk (w0 : World) := { x : Lk // (Kd.string.C w0 x.A2 x.p.length (x.p.map bs) ∧ x.p.length ≤ x.c2) ∧ x.t.length ≤ 1048576 ∧ x.lv ≤ 2000000 }
def ers {w0 : World} (l : List (GLk w0)) : List Look := l.map fun x => x.1.er
def KpN (n₀ : Nat) (W W' : World) : Prop := Below n₀ W W' ∧ ∀ (i : Nat) (cs : Array Value), W.heap[i]? = some (.cells cs 116 (0, 0)) → W'.heap[i]? = some (.cells cs 116 (0, 0))
theorem KpN.refl (n₀ : Nat) (W : World) : KpN n₀ W W := ⟨Below.refl _ _, fun _ _ h => h⟩
theorem KpN.trans {n₀ : Nat} {A B C : World} (h : KpN n₀ A B) (k : KpN n₀ B C) : KpN n₀ A C := ⟨h.1.trans k.1, fun i cs hi => k.2 i cs (h.2 i cs hi)⟩
theorem KpN.alloc {n₀ : Nat} {A B : World} (h : KpN n₀ A B) (hn : n₀ ≤ B.heap.size) (o : Obj) : KpN n₀ A (B.alloc o) := ⟨h.1.alloc hn o, fun i cs hi => blk_alloc (h.2 i cs hi) o⟩
theorem KpN.of_below {n₀ : Nat} {W W' : World} (h : Below W.heap.size W W') (hn : n₀ ≤ W.heap.size) : KpN n₀ W W' := ⟨h.mono hn, fun _ _ hi => blk_below hi h⟩
theorem KpN.set {n₀ : Nat} {W W' : World} {B : Nat} {t : TypeId} {v : Value} (h : KpN n₀ W W') (hb : Boxed W' B t v) (ht : t ≠ 116) (hn : n₀ ≤ B) (u : Value) : KpN n₀ W (W'.setCell ⟨B, 0, none⟩ u) :=
  ⟨h.1.setCell (p := ⟨B, 0, none⟩) hn _, fun i cs hi => blk_far (h.2 i cs hi) (fun e => by have e' : i = B := e; subst e'; have := (h.2 i cs hi).symm.trans hb; injection this with this; injection this with _ this; exact ht this.symm) u⟩
theorem KeepsOthers.of_below {W W' : World} (h : Below W.heap.size W W') : KeepsOthers W W' := ⟨h.size, fun _ _ hk _ => blk_below hk h⟩
theorem KpN.b {n₀ : Nat} {w : World} (hn : n₀ ≤ w.heap.size) (W : World) (l : Nat) (o o' : Obj) (hl : w.heap.size ≤ l) (h : W.heap[l]? = some o) (hc : o.isCells = false) (hw : o.isWalk = false) : KpN n₀ W (W.putObj l o') :=
  ⟨belowK_b hn W l o o' hl h hc hw, fun i cs hi => by
    rw [World.putObj_heap_other (fun e => by subst e; rw [h] at hi; cases hi; simp [Obj.isCells] at hc)]
    exact hi⟩
theorem roomN {F : Fence} (hd : F.depth = none) (k : Nat) : F.room k := fun d h => by rw [hd] at h; cases h
theorem YieldAt.anyDepth {F : Fence} (hd : F.depth = none) {m : Nat} (m' : Nat) {P : Program} {l : Nat} {args : Array Value} {W : World} {R : Ending → World → Prop} (h : YieldAt F m P l args W R) : YieldAt F m' P l args W R := by
  obtain ⟨fn, tmps, assign, body, hy, hR⟩ := h
  exact ⟨fn, tmps, assign, body, hy, ⟨hR.1, fun c cs _ => hR.2 c cs (roomN hd _)⟩⟩
section
variable {w0 : World} {ys ys2 ys3 q : List (GLk w0)} {X : GLk w0} {k : Nat} {t : S} {A2 : Option Addr} {c2 : Nat} {p : List S} {A3 : Option Addr} {n3 c3 : Nat} {A4 : Option Addr} {n4 c4 : Nat} {lv : Nat} {wi kf : Bool} {a b r : Nodes} {hh : (Kd.string.C w0 A2 p.length (p.map bs) ∧ p.length ≤ c2) ∧ t.length ≤ 1048576 ∧ lv ≤ 2000000}
theorem ers_app (a b : List (GLk w0)) : ers (a ++ b) = ers a ++ ers b := by simp [ers]
theorem ers_X (hX : X = ⟨⟨k, t, A2, c2, p, A3, n3, c3, A4, n4, c4, lv, wi⟩, hh⟩) : ers [X] = [⟨k, t, p, lv, wi⟩] := by rw [hX]; rfl
theorem flat_cons : flat (cons k t p a b r) lv wi = [⟨k, t, p, lv, wi⟩] ++ (flat a (lv + 1) (wi || k == 5) ++ (flat b (lv + 1) wi ++ flat r lv wi)) := rfl
theorem fin1 (hX : X = ⟨⟨k, t, A2, c2, p, A3, n3, c3, A4, n4, c4, lv, wi⟩, hh⟩) : ers (ys ++ [X]) <+: ers ys ++ flat (cons k t p a b r) lv wi := by
  rw [ers_app, ers_X hX, flat_cons, ← List.append_assoc]; exact List.prefix_append _ _
theorem fin2 (hX : X = ⟨⟨k, t, A2, c2, p, A3, n3, c3, A4, n4, c4, lv, wi⟩, hh⟩) (hq : ers q <+: flat a (lv + 1) (wi || kf)) (hkf : (k == 5) = kf) : ers (ys ++ [X] ++ q) <+: ers ys ++ flat (cons k t p a b r) lv wi := by
  obtain ⟨s, hs⟩ := hq
  rw [ers_app, ers_app, ers_X hX, flat_cons, hkf, ← hs]
  exact ⟨s ++ (flat b (lv + 1) wi ++ flat r lv wi), by simp [List.append_assoc]⟩
theorem fin3 (hX : X = ⟨⟨k, t, A2, c2, p, A3, n3, c3, A4, n4, c4, lv, wi⟩, hh⟩) (h2 : ers ys2 = flat a (lv + 1) (wi || kf)) (hq : ers q <+: flat b (lv + 1) wi) (hkf : (k == 5) = kf) : ers (ys ++ [X] ++ ys2 ++ q) <+: ers ys ++ flat (cons k t p a b r) lv wi := by
  obtain ⟨s, hs⟩ := hq
  rw [ers_app, ers_app, ers_app, ers_X hX, flat_cons, hkf, ← hs, h2]
  exact ⟨s ++ flat r lv wi, by simp [List.append_assoc]⟩
theorem fin4 (hX : X = ⟨⟨k, t, A2, c2, p, A3, n3, c3, A4, n4, c4, lv, wi⟩, hh⟩) (h2 : ers ys2 = flat a (lv + 1) (wi || kf)) (h3 : ers ys3 = flat b (lv + 1) wi) (hkf : (k == 5) = kf) : ers (ys ++ [X] ++ ys2 ++ ys3) ++ flat r lv wi = ers ys ++ flat (cons k t p a b r) lv wi := by
  rw [ers_app, ers_app, ers_app, ers_X hX, flat_cons, hkf, h2, h3]
  simp [List.append_assoc]
end
theorem walk_bounds {ca cb cr cn m lv N pl yl : Nat} (h : yl + (1 + ca + cb + cr) = cn) (hm : cn < m + 1) (hv : lv + cn ≤ 2000000) (hN : pl + cn ≤ N) :
    ca < m ∧ lv + 1 + ca ≤ 2000000 ∧ pl + (yl + 1) + ca ≤ N ∧ cb < m ∧ lv + 1 + cb ≤ 2000000 ∧ pl + (yl + 1) + ca + cb ≤ N ∧ pl + yl < N := by omega
set_option maxRecDepth 100000 in
set_option maxHeartbeats 4000000 in
theorem walk_inner (F : Fence) (hd : F.depth = none) (h70 : F.fn 114) (hro : F.round = none) (w0 : World) (l N : Nat) (J Jx : List (GLk w0) → World → Prop)
    (hJa : ∀ s W o, J s W → J s (W.alloc o))
    (hY : ∀ m pre x W, J pre W → pre.length < N → YieldAt F m Tryz.prog l #[x.1.enc] W fun e W' =>
      (e = .returned (.bool true) ∧ J (pre ++ [x]) W' ∧ KpN w0.heap.size W W') ∨ (e = .returned (.bool false) ∧ Jx (pre ++ [x]) W')) (m : Nat) :
    ∀ (nd : Nodes) (n : Nat) (A : Option Addr) (c lv : Nat) (wi : Bool) (pre : List (GLk w0)) (W : World), nd.cnt < m → lv + nd.cnt ≤ 2000000 → nd.len ≤ 1048576 → nd.sm → Rd w0 A c nd → Below w0.heap.size w0 W → J pre W → pre.length + nd.cnt ≤ N →
      CallsIn F n Tryz.prog 114 #[.slice A nd.len c, .int .i64 lv, .bool wi, .func (.yield l) #[] #[]] W fun e W' =>
        (e = .returned (.bool true) ∧ ∃ ys, ers ys = flat nd lv wi ∧ J (pre ++ ys) W' ∧ KpN w0.heap.size W W') ∨ (e = .returned (.bool false) ∧ ∃ q, ers q <+: flat nd lv wi ∧ Jx (pre ++ q) W') := by
  induction m with
  | zero => intro nd n A c lv wi pre W hm; omega
  | succ m ih =>
    intro nd n A c lv wi pre W hm hlv hll hs hR hB hJ hN
    have hdd : ∀ k : Nat, (F.depth.isSome = true → 1 ≤ k) := fun k h => by rw [hd] at h; cases h
    have HR := Aside0.mk hR
    have HS := Aside0.mk hs
    have HB := Aside0.mk hB
    have HN := Aside0.mk hN
    have HM := Aside0.mk hm
    have HV := Aside0.mk hlv
    have HJ := Aside0.mk hJ
    have hlv1 : lv ≤ 2000000 := by omega
    clear hR hs hB hN hm hJ hlv
    refine callsIn_of_wp Tryz.func114 rfl h70 ?_ hro
    simp only [Tryz.ntmps114, List.size_toArray, List.length_cons, List.length_nil, Nat.reduceAdd, Nat.reduceSub, Array.replicate_succ, Array.replicate_zero, List.push_toArray, List.append_toArray, List.nil_append, List.cons_append]
    gi_wp2
    gi_loopw [13] (fun v wr => ∃ (i : Nat) (ys : List (GLk w0)), v = .int .i64 i ∧ i ≤ nd.len ∧ Aside0 (ers ys ++ flat (nd.drop i) lv wi = flat nd lv wi) ∧ Aside0 (J (pre ++ ys) wr) ∧ Aside0 (KpN w0.heap.size W wr))
      (fun v _ => nd.len - (intOf v).toNat)
    case atStart => exact ⟨0, [], rfl, Nat.zero_le _, ⟨by rw [drop_zero]; rfl⟩, ⟨by rw [List.append_nil]; exact HJ.out⟩, ⟨KpN.refl _ _⟩⟩
    case round =>
      obtain ⟨i, ys, rfl, hi, HE, HJr, HK⟩ := hrel
      cases hdr : nd.drop i with
      | nil =>
        have h1 := drop_nil hdr
        obtain rfl : i = nd.len := by omega
        rw [hdr] at HE
        clear hdr
        gi_wp2
        go_ret
        exact .inl ⟨rfl, ys, by simpa [flat] using HE.out, HJr.out, HK.out⟩
      | cons k t p a b r =>
        obtain ⟨h1, h2, _⟩ := drop_step hdr
        have HBr := Aside0.mk (HB.out.trans HK.out.1)
        obtain ⟨ad, A2, c2, A3, c3, A4, c4, rfl, y0, y1, y2, y3, y4, i2, l2, R3, R4⟩ := HR.out.at hdr
        replace y0 := (HBr.out.cell (World.block_lt_of_cell? _ _ y0)).trans y0
        replace y1 := (HBr.out.cell (World.block_lt_of_cell? _ _ y1)).trans y1
        replace y2 := (HBr.out.cell (World.block_lt_of_cell? _ _ y2)).trans y2
        replace y3 := (HBr.out.cell (World.block_lt_of_cell? _ _ y3)).trans y3
        replace y4 := (HBr.out.cell (World.block_lt_of_cell? _ _ y4)).trans y4
        obtain ⟨s1, s2, s3, s4, s5, s6, s7, s8, s9⟩ : (cons k t p a b r).sm := hdr ▸ sm_drop HS.out i
        have HE' := Aside0.mk (hdr ▸ HE.out : ers ys ++ flat (cons k t p a b r) lv wi = flat nd lv wi)
        have hcd := cnt_drop nd i
        have hc0 : (nd.drop i).cnt = 1 + a.cnt + b.cnt + r.cnt := by rw [hdr]; rfl
        have hys : (ers ys).length + (1 + a.cnt + b.cnt + r.cnt) = nd.cnt := by have := congrArg List.length HE'.out; rw [List.length_append, flat_len, flat_len] at this; simpa [cnt] using this
        rw [show (ers ys).length = ys.length from by simp [ers]] at hys
        clear hdr HE hcd hc0
        obtain ⟨X, hX⟩ : ∃ X : GLk w0, X = ⟨⟨k, t, A2, c2, p, A3, a.len, c3, A4, b.len, c4, lv, wi⟩, ⟨i2, l2⟩, s2, hlv1⟩ := ⟨_, rfl⟩
        have hXe : X.1.enc = .agg #[.int .u8 k, .string (bs t), .slice A2 p.length c2, .slice A3 a.len c3, .slice A4 b.len c4, .int .i64 lv, .bool wi] := by rw [hX]; rfl
        have BK := Aside0.mk (blk_new wr (.cells #[.int .u8 k, .string (bs t), .slice A2 p.length c2, .slice A3 a.len c3, .slice A4 b.len c4] 116))
        have HKW := Aside0.mk (HK.out.alloc HBr.out.size (.cells #[.int .u8 k, .string (bs t), .slice A2 p.length c2, .slice A3 a.len c3, .slice A4 b.len c4] 116))
        have HJW := hJa _ _ (.cells #[.int .u8 k, .string (bs t), .slice A2 p.length c2, .slice A3 a.len c3, .slice A4 b.len c4] 116) HJr.out
        obtain ⟨hb1, hb2, hb3, hb4, hb5, hb6, hb7⟩ := walk_bounds hys HM.out HV.out HN.out
        have hyl : (pre ++ ys).length < N := by rw [List.length_append]; exact hb7
        obtain ⟨fn, tmps, assign, body, hy, hRR⟩ := hY (n - 1) (pre ++ ys) X _ HJW hyl
        rw [hXe] at hy
        obtain ⟨g, hg⟩ : ∃ g, wr.heap.size = g := ⟨_, rfl⟩
        gi_wp2_with fail
        refine hRR.mono ?_
        rintro e W2 (⟨rfl, hJ2, hk2⟩ | ⟨rfl, hx2⟩)
        · clear hRR hy
          have BK2 := Aside0.mk (hk2.2 _ _ BK.out)
          rw [hg] at BK2
          have HK2 := Aside0.mk (HKW.out.trans hk2)
          have HJ2 := Aside0.mk hJ2
          have HB2 := Aside0.mk (HB.out.trans HK2.out.1)
          clear hk2 hJ2 BK HKW HJr HK HBr y0 y1 y2 y3 y4
          obtain ⟨m0, m1, m2, m3, m4, n0, n1, n2, n3, n4⟩ := cells_5 BK2.out
          obtain ⟨kf, hkf⟩ : ∃ kf, (k == 5) = kf := ⟨_, rfl⟩
          have hk5 : ((k : Int) == 5) = kf := by rw [← hkf, Bool.eq_iff_iff, beq_iff_eq, beq_iff_eq]; omega
          have hor : (wi || k == 5) = (wi || kf) := by rw [hkf]
          have ihA := Aside0.mk (ih a (n - 1) A3 c3 (lv + 1) (wi || kf) (pre ++ (ys ++ [X])) W2 hb1 hb2 s5 s7 R3 HB2.out (by rw [← List.append_assoc]; exact HJ2.out) (by rw [List.length_append, List.length_append, List.length_singleton]; exact hb3))
          cases wi with
          | false =>
            have ihA1 := ihA.out
            rw [Int.natCast_succ, Bool.false_or] at ihA1
            gi_wp2_with fail
            refine ihA1.mono ?_
            clear ihA1 ihA
            rintro e W3 (⟨rfl, ys2, hy2, hJ3, hk3⟩ | ⟨rfl, q, hq, hx3⟩)
            · have BK3 := Aside0.mk (hk3.2 _ _ BK2.out)
              have HK3 := Aside0.mk (HK2.out.trans hk3)
              have HB3 := Aside0.mk (HB2.out.trans hk3.1)
              have HJ3 := Aside0.mk hJ3
              have HY2 := Aside0.mk hy2
              have hyl2 : ys2.length = a.cnt := by have := congrArg List.length hy2; rw [flat_len] at this; simpa [ers] using this
              clear hk3 hJ3 hy2 m0 m1 m2 m3 m4 n0 n1 n2 n3 n4
              obtain ⟨m0, m1, m2, m3, m4, n0, n1, n2, n3, n4⟩ := cells_5 BK3.out
              have ihB1 := ih b (n - 1) A4 c4 (lv + 1) false (pre ++ (ys ++ [X]) ++ ys2) W3 hb4 hb5 s6 s8 R4 HB3.out HJ3.out (by rw [List.length_append, List.length_append, List.length_append, List.length_singleton, hyl2]; exact hb6)
              rw [Int.natCast_succ] at ihB1
              gi_wp2_with fail
              refine ihB1.mono ?_
              clear ihB1
              rintro e W4 (⟨rfl, ys3, hy3, hJ4, hk4⟩ | ⟨rfl, q, hq, hx4⟩)
              · have HK4 := Aside0.mk (HK3.out.trans hk4)
                have HJ4 := Aside0.mk hJ4
                have HY3 := Aside0.mk hy3
                clear hk4 hJ4 hy3
                gi_wp2
                go_roundw
                case rel => exact ⟨i + 1, ys ++ [X] ++ ys2 ++ ys3, by simp, by omega, ⟨by rw [h2, ← HE'.out]; exact fin4 (X := X) hX HY2.out HY3.out hkf⟩, ⟨by simpa [List.append_assoc] using HJ4.out⟩, HK4⟩
                case measure => simp [intOf]; omega
              · gi_wp2
                go_ret
                exact .inr ⟨rfl, ys ++ [X] ++ ys2 ++ q, by rw [← HE'.out]; exact fin3 (X := X) hX HY2.out hq hkf, by simpa [List.append_assoc] using hx4⟩
            · gi_wp2
              first
                | go_ret
                | (refine ⟨fun _ h => (by cases h), ?_⟩; gi_wp2; go_ret)
              exact .inr ⟨rfl, ys ++ [X] ++ q, by rw [← HE'.out]; exact fin2 (X := X) hX hq hkf, by simpa [List.append_assoc] using hx3⟩
          | true =>
            have ihA1 := ihA.out
            rw [Int.natCast_succ, Bool.true_or] at ihA1
            gi_wp2_with fail
            refine ihA1.mono ?_
            clear ihA1 ihA
            rintro e W3 (⟨rfl, ys2, hy2, hJ3, hk3⟩ | ⟨rfl, q, hq, hx3⟩)
            · have BK3 := Aside0.mk (hk3.2 _ _ BK2.out)
              have HK3 := Aside0.mk (HK2.out.trans hk3)
              have HB3 := Aside0.mk (HB2.out.trans hk3.1)
              have HJ3 := Aside0.mk hJ3
              have HY2 := Aside0.mk hy2
              have hyl2 : ys2.length = a.cnt := by have := congrArg List.length hy2; rw [flat_len] at this; simpa [ers] using this
              clear hk3 hJ3 hy2 m0 m1 m2 m3 m4 n0 n1 n2 n3 n4
              obtain ⟨m0, m1, m2, m3, m4, n0, n1, n2, n3, n4⟩ := cells_5 BK3.out
              have ihB1 := ih b (n - 1) A4 c4 (lv + 1) true (pre ++ (ys ++ [X]) ++ ys2) W3 hb4 hb5 s6 s8 R4 HB3.out HJ3.out (by rw [List.length_append, List.length_append, List.length_append, List.length_singleton, hyl2]; exact hb6)
              rw [Int.natCast_succ] at ihB1
              gi_wp2_with fail
              refine ihB1.mono ?_
              clear ihB1
              rintro e W4 (⟨rfl, ys3, hy3, hJ4, hk4⟩ | ⟨rfl, q, hq, hx4⟩)
              · have HK4 := Aside0.mk (HK3.out.trans hk4)
                have HJ4 := Aside0.mk hJ4
                have HY3 := Aside0.mk hy3
                clear hk4 hJ4 hy3
                gi_wp2
                go_roundw
                case rel => exact ⟨i + 1, ys ++ [X] ++ ys2 ++ ys3, by simp, by omega, ⟨by rw [h2, ← HE'.out]; exact fin4 (X := X) hX HY2.out HY3.out hkf⟩, ⟨by simpa [List.append_assoc] using HJ4.out⟩, HK4⟩
                case measure => simp [intOf]; omega
              · gi_wp2
                go_ret
                exact .inr ⟨rfl, ys ++ [X] ++ ys2 ++ q, by rw [← HE'.out]; exact fin3 (X := X) hX HY2.out hq hkf, by simpa [List.append_assoc] using hx4⟩
            · gi_wp2
              first
                | go_ret
                | (refine ⟨fun _ h => (by cases h), ?_⟩; gi_wp2; go_ret)
              exact .inr ⟨rfl, ys ++ [X] ++ q, by rw [← HE'.out]; exact fin2 (X := X) hX hq hkf, by simpa [List.append_assoc] using hx3⟩
        · clear hRR hy
          gi_wp2
          first
            | go_ret
            | (refine ⟨fun _ h => (by cases h), ?_⟩; gi_wp2; go_ret)
            | (refine ⟨fun _ h => (by cases h), ?_⟩; gi_wp2; refine ⟨fun _ h => (by cases h), ?_⟩; gi_wp2; go_ret)
          exact .inr ⟨rfl, ys ++ [X], by rw [← HE'.out]; exact fin1 (X := X) hX, by simpa [List.append_assoc] using hx2⟩
set_option maxHeartbeats 1000000 in
/-- the closure of vet.all -/
theorem all1_in (F : Fence) (hd : F.depth = none) (n : Nat) (h69 : F.fn 113) (h70 : F.fn 114) (hro : F.round = none) (w0 : World) (l Bt : Nat) (A : Option Addr) (c : Nat) (nd : Nodes) (J Jx : List (GLk w0) → World → Prop)
    (hJa : ∀ s W o, J s W → J s (W.alloc o)) (hcn : nd.cnt ≤ 1048576) (hll : nd.len ≤ 1048576) (hs : nd.sm) (hR : Rd w0 A c nd)
    (hY : ∀ pre x W, J pre W → pre.length < nd.cnt → YieldAt F (n - 1) Tryz.prog l #[x.1.enc] W fun e W' =>
      (e = .returned (.bool true) ∧ J (pre ++ [x]) W' ∧ KpN w0.heap.size W W') ∨ (e = .returned (.bool false) ∧ Jx (pre ++ [x]) W'))
    (W : World) (hB : Below w0.heap.size w0 W) (hBt : W.cell? ⟨Bt, 0, none⟩ = some (.slice A nd.len c)) (h0 : J [] W) :
    CallsIn F n Tryz.prog 113 #[.func (.yield l) #[] #[], .pointer (some ⟨Bt, 0, none⟩)] W fun e W' => (∃ v, e = .returned v) ∧
      ((∃ ys, ers ys = flat nd 1 false ∧ J ys W') ∨ (∃ pre, ers pre <+: flat nd 1 false ∧ Jx pre W')) := by
  have hdd : ∀ k : Nat, (F.depth.isSome = true → 1 ≤ k) := fun k h => by rw [hd] at h; cases h
  have hp := walk_inner F hd h70 hro w0 l nd.cnt J Jx hJa (fun m pre x W hj hl => YieldAt.anyDepth hd m (hY pre x W hj hl)) (nd.cnt + 1) nd (n - 1) A c 1 false [] W (by omega) (by omega) hll hs hR hB h0 (by simp)
  clear hY hJa hs hR
  refine callsIn_of_wp Tryz.func113 rfl h69 ?_ hro
  simp only [Tryz.ntmps113, List.size_toArray, List.length_cons, List.length_nil, Nat.reduceAdd, Nat.reduceSub, Array.replicate_succ, Array.replicate_zero, List.push_toArray, List.append_toArray, List.nil_append, List.cons_append]
  gi_wp2_with fail
  refine hp.mono ?_
  rintro e W1 (⟨rfl, ys, hy, hJ, _⟩ | ⟨rfl, q, hq, hx⟩)
  · gi_wp2
    go_end0
    exact ⟨⟨_, rfl⟩, .inl ⟨_, hy, by simpa using hJ⟩⟩
  · gi_wp2
    go_end0
    exact ⟨⟨_, rfl⟩, .inr ⟨q, hq, by simpa using hx⟩⟩
theorem all_in (F : Fence) (n : Nat) (h39 : F.fn 66) (hro : F.round = none) (A : Option Addr) (m c : Nat) (w : World) :
    CallsIn F n Tryz.prog 66 #[.slice A m c] w fun e w' => e = .returned (.func (.func 113) #[] #[.pointer (some ⟨w.heap.size, 0, none⟩)]) ∧ w' = w.alloc (.cells #[.slice A m c] 22) := by
  refine callsIn_of_wp Tryz.func66 rfl h39 ?_ hro
  simp only [Tryz.ntmps66, List.size_toArray, List.length_cons, List.length_nil, Nat.reduceAdd, Nat.reduceSub, Array.replicate_succ, Array.replicate_zero, List.push_toArray, List.append_toArray, List.nil_append, List.cons_append]
  gi_wp2
  go_ret
  exact ⟨rfl, rfl⟩
theorem all_stops (F : Fence) (hd : F.depth = none) (n : Nat) (h69 : F.fn 113) (h70 : F.fn 114) (hro : F.round = none) (w0 : World) (Bt : Nat) (A : Option Addr) (c : Nat) (nd : Nodes) (hcn : nd.cnt ≤ 1048576) (hll : nd.len ≤ 1048576) (hs : nd.sm) (hR : Rd w0 A c nd)
    (w : World) (hB : Below w0.heap.size w0 w) (hc : w.cell? ⟨Bt, 0, none⟩ = some (.slice A nd.len c)) :
    SeqStopsK F n Tryz.prog 113 #[.pointer (some ⟨Bt, 0, none⟩)] (fun x : GLk w0 => #[x.1.enc]) (KpN w0.heap.size) (fun ys => ers ys = flat nd 1 false) (fun pre => ers pre <+: flat nd 1 false) nd.cnt w := fun l J Jx W hW hJ _ hY h0 =>
  all1_in F hd n h69 h70 hro w0 l Bt A c nd J Jx (fun s W o hs => hJ s W _ none hs (World.grownBy_alloc W o none) (fun r e => by cases e)) hcn hll hs hR hY W (hB.trans (hW.mono hB.size)) (pw_cell_below hW hc) h0
end Go.Proofs.YthngelbaheankaaGreatDoor.Tpl
namespace Go.Proofs.YthngelbaheankaaGreatDoor.Tpl
open Go.RowKit Go.Proofs Go.Shelf Go.Proofs.YthngelbaheankaaGreatDoor.PB Go.Proofs.YthngelbaheankaaGreatDoor.Short Go.Proofs.YthngelbaheankaaGreatDoorW.PrintWords Go.Proofs.YthngelbaheankaaGreatDoorW.PrintLast Go.Proofs.YthngelbaheankaaGreatDoorW.PrintMore Nodes
attribute [local go_sem] Oper.semAt_some Lk.enc
def thisP (l : Nodes) : Int := if l.chk = true then (if lostP l = true then 13 else 0) else 2
def badL (x : Look) : Bool := isThis x.p && !x.wi
set_option maxRecDepth 100000 in
set_option maxHeartbeats 4000000 in
theorem this_any (l : Nodes) (A : Option Addr) (c : Nat) (w : World) (hG : Glob w) (hs : l.sm) (hR : Rd w A c l) (hl : l.len ≤ 1048576) (hc : l.cnt ≤ 1048576) :
    Calls Tryz.prog 149 #[.slice A l.len c] w fun e w' => e = .returned (.int .i64 (thisP l)) ∧ Below w.heap.size w w' := by
  have hA := chk_any l A c (w.alloc (.cells #[.int .i64 0] 29)) (hG.below (below_alloc (Below.refl _ _) _)) hs (hR.below (below_alloc (Below.refl _ _) _)) hl hc
  cases hch : l.chk with
  | false =>
    have ht : thisP l = 2 := by unfold thisP; rw [hch]; rfl
    rw [hch] at hA
    rw [ht]
    go_enter Tryz.func149, Tryz.ntmps149
    go_wp2_with fail
    refine hA.mono ?_
    rintro e w1 ⟨rfl, hb⟩
    have B0 : Boxed w1 w.heap.size 29 (.int .i64 0) := (hb.block _ (by simp)).trans (Boxed.new w _ _)
    have hb' := (below_alloc (Below.refl w.heap.size w) (.cells #[.int .i64 0] 29)).trans (hb.mono (by simp))
    clear hb hA hR
    have z0 := B0.cell
    have z1 := B0.frozen
    have c5 := (B0.set (.int .i64 2)).cell
    go_wp2
    refine bodyPost_ret (v := .int .i64 2) (by simp [results, Tryz.f149, go_sem, c5]) rfl ?_
    exact ⟨rfl, hb'.setCell (p := ⟨w.heap.size, 0, none⟩) (Nat.le_refl _) _⟩
  | true =>
    have ht : thisP l = if lostP l = true then 13 else 0 := by unfold thisP; rw [hch]; rfl
    rw [hch] at hA
    obtain ⟨r, hr⟩ : ∃ r : Int, (if lostP l = true then 13 else 0) = r := ⟨_, rfl⟩
    rw [ht, hr]
    refine (callsIn_wide (n := 8)).1 ?_
    refine callsIn_of_wp_marks Tryz.func149 rfl trivial ?_ rfl
    simp only [Tryz.ntmps149, List.size_toArray, List.length_cons, List.length_nil, Nat.reduceAdd, Nat.reduceSub, Array.replicate_succ, Array.replicate_zero, List.push_toArray, List.append_toArray, List.nil_append, List.cons_append]
    gi_wp2_with fail
    refine ⟨trivial, ?_⟩
    refine (callsIn_wide.2 hA).mono ?_
    rintro e w1 ⟨rfl, hb⟩
    have B0 : Boxed w1 w.heap.size 29 (.int .i64 0) := (hb.block _ (by simp)).trans (Boxed.new w _ _)
    have hb' := (below_alloc (Below.refl w.heap.size w) (.cells #[.int .i64 0] 29)).trans (hb.mono (by simp))
    clear hb hA
    gi_wp2_with fail
    refine ⟨trivial, ?_⟩
    refine (all_in Fence.wide _ trivial rfl A l.len c w1).mono ?_
    rintro e W0 ⟨rfl, hW0⟩
    have BT : Boxed W0 w1.heap.size 22 (.slice A l.len c) := by rw [hW0]; exact Boxed.new w1 _ _
    have BR : Boxed W0 w.heap.size 29 (.int .i64 0) := by rw [hW0]; exact B0.alloc _
    have hB0 : Below w.heap.size w W0 := by rw [hW0]; exact hb'.alloc hb'.size _
    have hsz : w1.heap.size < W0.heap.size := BT.lt
    have hsz2 : w.heap.size < w1.heap.size := B0.lt
    clear hW0 B0 hb'
    gi_wp2_with fail
    generalize w1.heap.size = bt at *
    have hlost := lost_flat l 1 8 (by unfold chk fitsP at hch; simp at hch; exact hch.1.1)
    refine wpIn_rangeFunc_ownH rfl (by decide) (gf := 113) (lb := #[.pointer (some ⟨bt, 0, none⟩)]) rfl trivial (enters_of Tryz.func113 (by kernel_rfl) rfl)
      (all_stops Fence.wide rfl _ trivial trivial rfl w bt A c l hc hl hs hR W0 hB0 BT.cell) KpN.trans (KpN.b (by omega)) (Below.refl _ _) (fun _ => rfl)
      (fun pre W => (Boxed W w.heap.size 29 (.int .i64 0) ∧ (ers pre).any badL = false) ∧ Below w.heap.size w W)
      (fun cd pre W => (Boxed W w.heap.size 29 (.int .i64 13) ∧ cd = .ret ∧ (ers pre).any badL = true) ∧ Below w.heap.size w W)
      (OwnFrom.and (OwnFrom.and (Own.from (boxed_own _ _ _) _) (ownFrom_pure _ _)) (ownFrom_below (Nat.le_refl _) (by omega)))
      (fun cd => OwnFrom.and (OwnFrom.and (Own.from (boxed_own _ _ _) _) (ownFrom_pure _ _)) (ownFrom_below (Nat.le_refl _) (by omega)))
      ⟨⟨BR, rfl⟩, hB0⟩
      (fun x a' W => ∃ Bx, w.heap.size < Bx ∧ W.heap[Bx]? = some (.cells #[.int .u8 x.1.k, .string (bs x.1.t), .slice x.1.A2 x.1.p.length x.1.c2, .slice x.1.A3 x.1.n3 x.1.c3, .slice x.1.A4 x.1.n4 x.1.c4, .int .i64 x.1.lv, .bool x.1.wi] 118 (0, 0)) ∧
        a' = { tmps := #[.slice A l.len c, undef, .pointer (some ⟨w.heap.size, 0, none⟩), .int .i64 0, .pointer (some ⟨Bx, 0, none⟩), .slice A l.len c, .int .i64 0, .int .i64 0, .bool false, undef, .slice A l.len c, .func (.func 113) #[] #[.pointer (some ⟨bt, 0, none⟩)], .agg #[.int .u8 x.1.k, .string (bs x.1.t), .slice x.1.A2 x.1.p.length x.1.c2, .slice x.1.A3 x.1.n3 x.1.c3, .slice x.1.A4 x.1.n4 x.1.c4, .int .i64 x.1.lv, .bool x.1.wi], undef, undef, undef, undef, undef, undef, undef, undef, undef, undef, undef, undef, undef, undef, undef, undef, undef, undef], defers := [] })
      (fun x a' _ X Y row hs hg hr => by obtain ⟨Bx, h1, h2, h3⟩ := hs; exact ⟨Bx, h1, blk_grown h2 hg (fun e => by obtain ⟨o, ho, hcl⟩ := (hr Bx e.symm).2; rw [h2] at ho; cases ho; cases hcl), h3⟩)
      ?assign ?body ?done ?stop
    case assign =>
      rintro lp pre x W K ⟨⟨b1, b2⟩, b3⟩ hK
      obtain ⟨⟨k, t, A2, c2, p, A3, n3, c3, A4, n4, c4, lv, wi⟩, hx⟩ := x
      gi_wp2
      exact hK _ _ ((KeepsOthers.alloc _ _).from _) ((KpN.refl _ W).alloc b3.size _) ⟨⟨b1.alloc _, b2⟩, b3.alloc b3.size _⟩ ⟨W.heap.size, b1.lt, World.alloc_heap_new W _, rfl⟩
    case body =>
      rintro lp pre x a' W hl2 ⟨rr, hr⟩ ⟨⟨b1, b2⟩, b3⟩ ⟨Bx, hBx, bX, rfl⟩ hlt
      obtain ⟨⟨k, t, A2, c2, p, A3, n3, c3, A4, n4, c4, lv, wi⟩, hx⟩ := x
      simp only at bX hx
      obtain ⟨m0, m1, m2, m3, m4, m5, m6, f0, f1, f2, f3, f4, f5, f6⟩ := cells_7 bX
      have z0 := b1.cell
      have z1 := b1.frozen
      have hX : ∀ fb : Bool, badL ⟨k, t, p, lv, wi⟩ = fb → (ers (pre ++ [⟨⟨k, t, A2, c2, p, A3, n3, c3, A4, n4, c4, lv, wi⟩, hx⟩])).any badL = fb := by
        intro fb h; rw [ers_app, List.any_append, b2, Bool.false_or]; show (badL _ || false) = fb; rw [Bool.or_false]; exact h
      cases p with
      | nil =>
        gi_wp2
        exact ⟨KeepsFrom.refl _ _, KpN.refl _ _, ⟨b1, hX false rfl⟩, b3⟩
      | cons s q =>
        obtain ⟨bp, op, rfl, hcell⟩ := row_form (p := (s :: q).map bs) (by simpa using hx.1.1) (by simp)
        have p0 := pw_cell_below b3 (hcell 0 (by simp))
        simp only [List.map_cons, List.getD_cons_zero, Nat.add_zero] at p0
        clear hcell
        by_cases hs : s = thisS
        · have e0 : ((bs s).toList == [116, 104, 105, 115]) = true := by rw [bs_list, beq_iff_eq]; exact hs
          have Hs := Aside0.mk hs
          clear hs
          cases wi with
          | true =>
            gi_wp2
            exact ⟨KeepsFrom.refl _ _, KpN.refl _ _, ⟨b1, hX false (by simp [badL])⟩, b3⟩
          | false =>
            gi_wp2
            exact ⟨(KeepsOthers.setCell _ _ _).from _, ⟨b1.set _, rfl, hX true (by simp [badL, isThis, Hs.out])⟩, b3.setCell (p := ⟨w.heap.size, 0, none⟩) (Nat.le_refl _) _⟩
        · have e0 : ((bs s).toList == [116, 104, 105, 115]) = false := by rw [bs_list, beq_eq_false_iff_ne]; exact hs
          gi_wp2
          exact ⟨KeepsFrom.refl _ _, KpN.refl _ _, ⟨b1, hX false (by simp [badL, isThis, hs])⟩, b3⟩
    case done =>
      rintro D ys W hD hys ⟨⟨b1, b2⟩, b3⟩ hK
      have z0 := b1.cell
      have z1 := b1.frozen
      have hlf : lostP l = false := by rw [← hlost]; rw [hys] at b2; exact b2
      rw [hlf] at hr
      have hr0 : r = 0 := hr.symm
      subst hr0
      have hK' := (KeepsOthers.setCell W ⟨w.heap.size, 0, none⟩ (.int .i64 0)).same D _ hK rfl
      gi_wp2
      refine ⟨by simp, .inl ⟨_, _, rfl, run_takeDeferred hK', ?_⟩⟩
      have hc5 := cell_kept (b1.set (.int .i64 0)).cell (grownBy_putObj' _ D (.deferred none)) (fun r e => by cases e; exact ⟨_, hK', rfl⟩)
      refine ⟨.int .i64 0, ?_, rfl, (b3.setCell (p := ⟨w.heap.size, 0, none⟩) (Nat.le_refl _) _).trans (belowK_b (w := w) (Nat.le_refl _) _ D _ _ (by omega) hK' rfl rfl)⟩
      simp [results, Tryz.f149, go_sem, hc5]
    case stop =>
      rintro D cd pre W hD hpre ⟨⟨b1, rfl, b2⟩, b3⟩ hK
      have hlf : lostP l = true := by
        rw [← hlost]
        obtain ⟨q, hq⟩ := hpre
        rw [← hq, List.any_append]
        show ((ers pre).any badL || _) = true
        rw [b2]; rfl
      rw [hlf] at hr
      have hr0 : r = 13 := hr.symm
      subst hr0
      gi_wp2
      refine ⟨by simp, .inl ⟨_, _, rfl, run_takeDeferred hK, ?_⟩⟩
      have hc5 := cell_kept b1.cell (grownBy_putObj' _ D (.deferred none)) (fun r e => by cases e; exact ⟨_, hK, rfl⟩)
      refine ⟨.int .i64 13, ?_, rfl, b3.trans (belowK_b (w := w) (Nat.le_refl _) W D _ _ (by omega) hK rfl rfl)⟩
      simp [results, Tryz.f149, go_sem, hc5]
end Go.Proofs.YthngelbaheankaaGreatDoor.Tpl
namespace Go.Proofs.YthngelbaheankaaGreatDoor.Tpl
set_option linter.unusedSimpArgs false
open Go.RowKit Go.Proofs.YthngelbaheankaaGreatDoor.PB Go.Proofs.YthngelbaheankaaGreatDoor.Short Go.Proofs.YthngelbaheankaaGreatDoorW.PrintWords Go.Proofs.YthngelbaheankaaGreatDoorW.PrintLast Go.Proofs.YthngelbaheankaaGreatDoorW.PrintMore Nodes
theorem Ev.eq {α : Type} {a : Nat → Option α} {r r' : α} (k : Ev a r) (h : r = r') : Ev a r' := h ▸ k
theorem Ev.val {α : Type} {r r' : α} (h : r = r') : Ev (fun _ => some r) r' := h ▸ Ev.now r
theorem tokv_len (l : List Tok) : (tokv l).length = l.length := by simp [tokv]
theorem beqI (a : Nat) (b : Nat) : (((a : Nat) : Int) == ((b : Nat) : Int)) = (a == b) := by rw [Bool.eq_iff_iff, beq_iff_eq, beq_iff_eq]; omega
end Go.Proofs.YthngelbaheankaaGreatDoor.Tpl
namespace Go.Proofs.YthngelbaheankaaGreatDoor.Tpl
open Go.RowKit
def splitC (c : UInt8) : S → List S
  | [] => [[]]
  | x :: r => if x = c then [] :: splitC c r else match splitC c r with | [] => [[x]] | h :: t => (x :: h) :: t
theorem splitC_ne (c : UInt8) (s : S) : splitC c s ≠ [] := by
  cases s with
  | nil => simp [splitC]
  | cons x r => unfold splitC; split; · simp
                split <;> simp
theorem splitC_miss (c : UInt8) (s : S) (h : Lib.index s [c] = -1) : splitC c s = [s] := by
  induction s with
  | nil => rfl
  | cons x r ih =>
    rw [Lib.index] at h
    by_cases hx : x = c
    · subst hx; simp at h
    · have h1 : [c].isPrefixOf (x :: r) = false := by simp [List.isPrefixOf]; exact fun e => hx e.symm
      rw [h1] at h
      have hg := Lib.index_ge r [c]
      have h2 : Lib.index r [c] = -1 := by
        by_cases h2 : Lib.index r [c] = -1
        · exact h2
        · simp [h2] at h; omega
      rw [splitC, if_neg hx, ih h2]
theorem splitC_hit (c : UInt8) (s : S) (i : Nat) (h : Lib.index s [c] = i) : splitC c s = s.take i :: splitC c (s.drop (i + 1)) ∧ i < s.length := by
  induction s generalizing i with
  | nil => simp [Lib.index] at h
  | cons x r ih =>
    rw [Lib.index] at h
    by_cases hx : x = c
    · subst hx
      simp at h
      obtain rfl : i = 0 := by omega
      exact ⟨by simp [splitC], by simp⟩
    · have h1 : [c].isPrefixOf (x :: r) = false := by simp [List.isPrefixOf]; exact fun e => hx e.symm
      rw [h1] at h
      have hg := Lib.index_ge r [c]
      by_cases h2 : Lib.index r [c] = -1
      · simp [h2] at h
      · simp [h2] at h
        obtain ⟨j, hj⟩ : ∃ j : Nat, Lib.index r [c] = j := ⟨(Lib.index r [c]).toNat, by omega⟩
        obtain rfl : i = j + 1 := by omega
        obtain ⟨e, hl⟩ := ih j hj
        refine ⟨?_, by simp; omega⟩
        rw [splitC, if_neg hx, e]; simp
theorem splitK_C (c : UInt8) : ∀ fuel (s : S), s.length < fuel → Lib.splitK [c] 0 (Lib.countFrom [c] fuel s) s = splitC c s := by
  intro fuel
  induction fuel with
  | zero => intro s h; omega
  | succ n ih =>
    intro s h
    unfold Lib.countFrom
    by_cases h1 : Lib.index s [c] = -1
    · rw [if_pos (by simp [h1]), splitC_miss c s h1]; rfl
    · have hg := Lib.index_ge s [c]
      obtain ⟨j, hj⟩ : ∃ j : Nat, Lib.index s [c] = j := ⟨(Lib.index s [c]).toNat, by omega⟩
      obtain ⟨e, hl⟩ := splitC_hit c s j hj
      rw [if_neg (by simp [h1]), Nat.add_comm, Lib.splitK, if_neg (by simp [h1]), hj, e]
      simp only [Int.toNat_natCast, Nat.add_zero, List.length_singleton]
      rw [ih (s.drop (j + 1)) (by rw [List.length_drop]; omega)]
theorem split_C (c : UInt8) (s : S) : Lib.splitK [c] 0 (Lib.count s [c]) s = splitC c s := splitK_C c _ s (Nat.lt_succ_self _)
theorem splitC_size (c : UInt8) (s : S) : (splitC c s).length ≤ s.length + 1 ∧ ∀ x, x ∈ splitC c s → x.length ≤ s.length := by
  induction s with
  | nil => simp [splitC]
  | cons x r ih =>
    unfold splitC
    split
    · refine ⟨by simp; exact ih.1, fun y hy => ?_⟩
      rcases List.mem_cons.1 hy with rfl | hy
      · simp
      · have := ih.2 y hy; simp; omega
    · cases hs : splitC c r with
      | nil => exact absurd hs (splitC_ne c r)
      | cons h t =>
        rw [hs] at ih
        refine ⟨by have := ih.1; simp at this ⊢; omega, fun y hy => ?_⟩
        rcases List.mem_cons.1 hy with rfl | hy
        · have := ih.2 h (by simp); simp; omega
        · have := ih.2 y (by simp [hy]); simp; omega
def wordsP (s : S) : List S := (splitC 32 s).filter (fun x => !x.isEmpty)
theorem wordsP_size (s : S) : (wordsP s).length ≤ s.length + 1 ∧ ∀ x, x ∈ wordsP s → x.length ≤ s.length :=
  ⟨Nat.le_trans (List.length_filter_le _ _) (splitC_size 32 s).1, fun x hx => (splitC_size 32 s).2 x (List.mem_filter.1 hx).1⟩
def pathOf (s : S) : Option (List S) := if pathP (splitC 46 s) = true then some (splitC 46 s) else none
def tagP (s : S) : Option Tok :=
  if (wordsP s).length = 0 ∨ 2 < (wordsP s).length then none
  else if ownP ((wordsP s).getD 0 []) = 4 ∨ ownP ((wordsP s).getD 0 []) = 6 then (if (wordsP s).length = 1 then some ⟨ownP ((wordsP s).getD 0 []), [], []⟩ else none)
  else if (ownP ((wordsP s).getD 0 []) ≠ 2 ∧ (wordsP s).length ≠ 2) ∨ (ownP ((wordsP s).getD 0 []) = 2 ∧ (wordsP s).length ≠ 1) then none
  else match pathOf ((wordsP s).getD ((wordsP s).length - 1) []) with | none => none | some p => some ⟨ownP ((wordsP s).getD 0 []), [], p⟩
def tagY (n : Nat) (x0 x1 : S) : Option Tok :=
  if ownP x0 = 4 ∨ ownP x0 = 6 then (if n = 1 then some ⟨ownP x0, [], []⟩ else none)
  else if (ownP x0 ≠ 2 ∧ n ≠ 2) ∨ (ownP x0 = 2 ∧ n ≠ 1) then none
  else match pathOf x1 with | none => none | some q => some ⟨ownP x0, [], q⟩
def tagX (n : Nat) (x0 x1 : S) : Option Tok := if n = 0 ∨ 2 < n then none else tagY n x0 x1
def tagW (p : List S) : Option Tok := tagX p.length (p.getD 0 []) (p.getD (p.length - 1) [])
theorem tagP_eq (s : S) : tagP s = tagW (wordsP s) := rfl
def txtTok (s : S) : List Tok := if s = [] then [] else [⟨1, s, []⟩]
def toksS : Nat → S → Option (List Tok)
  | 0, _ => none
  | n + 1, s =>
    if s = [] then some [] else
    if (Lib.cut s [123, 123]).2.2 = false then some (txtTok (Lib.cut s [123, 123]).1) else
    if (Lib.cut (Lib.cut s [123, 123]).2.1 [125, 125]).2.2 = false then none else
    match tagP (Lib.cut (Lib.cut s [123, 123]).2.1 [125, 125]).1 with
    | none => none
    | some t => match toksS n (Lib.cut (Lib.cut s [123, 123]).2.1 [125, 125]).2.1 with
      | none => none
      | some r => some (txtTok (Lib.cut s [123, 123]).1 ++ t :: r)
theorem cut_sizes (s : S) (c : UInt8) : (Lib.cut s [c, c]).1.length ≤ s.length ∧ (Lib.cut s [c, c]).2.1.length ≤ s.length ∧ ((Lib.cut s [c, c]).2.2 = true → (Lib.cut s [c, c]).2.1.length + 2 ≤ s.length) := by
  unfold Lib.cut
  split
  · rename_i h
    have := Lib.index_room s [c, c] h
    simp only [List.length_take, List.length_drop, List.length_cons, List.length_nil] at *
    refine ⟨by omega, by omega, fun _ => by omega⟩
  · simp
theorem ownP_lt (s : S) : ownP s < 256 := by
  unfold ownP
  repeat' split
  all_goals omega
theorem pathOf_some {s : S} {p : List S} (h : pathOf s = some p) : p = splitC 46 s ∧ pathP p = true := by
  unfold pathOf at h
  split at h
  · rename_i h2; cases h; exact ⟨rfl, h2⟩
  · cases h
theorem tagP_sm {s : S} {t : Tok} (h : tagP s = some t) (hs : s.length ≤ 1048575) : t.sm := by
  have hw := wordsP_size s
  unfold tagP at h
  split at h
  · cases h
  split at h
  · split at h
    · cases h; exact ⟨ownP_lt _, by simp, by simp, fun x hx => by simp at hx⟩
    · cases h
  split at h
  · cases h
  rename_i h1 h2 h3
  cases hp : pathOf ((wordsP s).getD ((wordsP s).length - 1) []) with
  | none => rw [hp] at h; cases h
  | some p =>
    rw [hp] at h
    cases h
    obtain ⟨rfl, _⟩ := pathOf_some hp
    have hx : ((wordsP s).getD ((wordsP s).length - 1) []).length ≤ s.length := by
      by_cases hl : (wordsP s).length - 1 < (wordsP s).length
      · refine hw.2 _ ?_
        have e : (wordsP s).getD ((wordsP s).length - 1) [] = (wordsP s)[(wordsP s).length - 1] := by simp [List.getD, hl]
        rw [e]; exact List.getElem_mem hl
      · have e : (wordsP s).getD ((wordsP s).length - 1) [] = [] := by simp [List.getD]; omega
        rw [e]; simp
    have hz := splitC_size 46 ((wordsP s).getD ((wordsP s).length - 1) [])
    exact ⟨ownP_lt _, by simp, by simp only; omega, fun x hx => by have := hz.2 x hx; omega⟩
theorem toksS_sm : ∀ (n : Nat) (s : S) (l : List Tok), toksS n s = some l → s.length ≤ 1048575 → (∀ x, x ∈ l → x.sm) ∧ l.length ≤ 2 * s.length := by
  intro n
  induction n with
  | zero => intro s l h; cases h
  | succ n ih =>
    intro s l h hs
    have c1 := cut_sizes s 123
    have c2 := cut_sizes (Lib.cut s [123, 123]).2.1 125
    unfold toksS at h
    split at h
    · cases h; exact ⟨fun x hx => by simp at hx, by simp⟩
    have ht : ∀ x, x ∈ txtTok (Lib.cut s [123, 123]).1 → x.sm := by
      intro x hx
      unfold txtTok at hx
      split at hx
      · simp at hx
      · simp only [List.mem_singleton] at hx
        subst hx
        exact ⟨show 1 < 256 by decide, by simp only; omega, by simp, fun y hy => by simp at hy⟩
    have hl : (txtTok (Lib.cut s [123, 123]).1).length ≤ 1 := by unfold txtTok; split <;> simp
    have hsl : 0 < s.length := by rename_i hne; cases s with | nil => exact absurd rfl hne | cons => simp
    split at h
    · cases h; exact ⟨ht, by omega⟩
    split at h
    · cases h
    rename_i hne h1 h2
    have hb1 : (Lib.cut s [123, 123]).2.2 = true := by simpa using h1
    have hb2 : (Lib.cut (Lib.cut s [123, 123]).2.1 [125, 125]).2.2 = true := by simpa using h2
    cases htg : tagP (Lib.cut (Lib.cut s [123, 123]).2.1 [125, 125]).1 with
    | none => rw [htg] at h; cases h
    | some t =>
      rw [htg] at h
      simp only at h
      cases hr : toksS n (Lib.cut (Lib.cut s [123, 123]).2.1 [125, 125]).2.1 with
      | none => rw [hr] at h; cases h
      | some r =>
        rw [hr] at h
        cases h
        have c3 := c1.2.2 hb1
        have c4 := c2.2.2 hb2
        obtain ⟨i1, i2⟩ := ih _ _ hr (by omega)
        have i3 := tagP_sm htg (by omega)
        refine ⟨fun x hx => ?_, by simp only [List.length_append, List.length_cons]; omega⟩
        rcases List.mem_append.1 hx with hx | hx
        · exact ht x hx
        · rcases List.mem_cons.1 hx with rfl | hx
          · exact i3
          · exact i1 x hx
theorem toksS_fuel : ∀ (n m : Nat) (s : S), s.length < n → s.length < m → toksS n s = toksS m s := by
  intro n
  induction n with
  | zero => intro m s h; omega
  | succ n ih =>
    intro m s h1 h2
    obtain ⟨m, rfl⟩ : ∃ q, m = q + 1 := ⟨m - 1, by omega⟩
    have c1 := cut_sizes s 123
    have c2 := cut_sizes (Lib.cut s [123, 123]).2.1 125
    unfold toksS
    split
    · rfl
    split
    · rfl
    split
    · rfl
    rename_i h3 h4
    have hb1 : (Lib.cut s [123, 123]).2.2 = true := by simpa using h3
    have hb2 : (Lib.cut (Lib.cut s [123, 123]).2.1 [125, 125]).2.2 = true := by simpa using h4
    rw [ih m _ (by have := c1.2.2 hb1; omega) (by have := c1.2.2 hb1; omega)]
end Go.Proofs.YthngelbaheankaaGreatDoor.Tpl
namespace Go.Proofs.YthngelbaheankaaGreatDoor.Tpl
open Go.RowKit Nodes
def headK (l : List Tok) : Nat := match l with | [] => 0 | t :: _ => t.k
def withP (f : List Tok → Option (Nodes × List Tok)) (k : Nat) (l : List Tok) : Option (Nodes × Nodes × List Tok) :=
  match f l with
  | none => none
  | some (a, r1) =>
    if k = 3 ∧ headK r1 = 4 then
      match f r1.tail with
      | none => none
      | some (b, r2) => if headK r2 = 6 then some (a, b, r2.tail) else none
    else if headK r1 = 6 then some (a, .nil, r1.tail) else none
def stops (k : Nat) : Bool := k == 4 || k == 6
def parN : Nat → List Tok → Option (Nodes × List Tok)
  | 0, _ => none
  | _ + 1, [] => some (.nil, [])
  | n + 1, t :: r =>
    if stops t.k = true then some (.nil, t :: r)
    else if t.k = 3 ∨ t.k = 5 then
      match withP (parN n) t.k r with
      | none => none
      | some (a, b, r1) => match parN n r1 with | none => none | some (rest, r2) => some (.cons t.k t.t t.p a b rest, r2)
    else match parN n r with | none => none | some (rest, r2) => some (.cons t.k t.t t.p .nil .nil rest, r2)
theorem withP_len {f : List Tok → Option (Nodes × List Tok)} {k : Nat} {l r : List Tok} {a b : Nodes} (hf : ∀ l nd r, f l = some (nd, r) → r.length ≤ l.length) (h : withP f k l = some (a, b, r)) : r.length ≤ l.length := by
  unfold withP at h
  cases h1 : f l with
  | none => rw [h1] at h; cases h
  | some x =>
    obtain ⟨a1, r1⟩ := x
    rw [h1] at h
    have l1 := hf _ _ _ h1
    simp only at h
    split at h
    · cases h2 : f r1.tail with
      | none => rw [h2] at h; cases h
      | some y =>
        obtain ⟨b1, r2⟩ := y
        rw [h2] at h
        have l2 := hf _ _ _ h2
        simp only at h
        split at h
        · cases h; simp only [List.length_tail] at *; omega
        · cases h
    · split at h
      · cases h; simp only [List.length_tail] at *; omega
      · cases h
theorem parN_len : ∀ n l nd r, parN n l = some (nd, r) → r.length ≤ l.length := by
  intro n
  induction n with
  | zero => intro l nd r h; cases h
  | succ n ih =>
    intro l nd r h
    cases l with
    | nil => cases h; simp
    | cons t q =>
      rw [parN] at h
      split at h
      · cases h; simp
      split at h
      · cases h1 : withP (parN n) t.k q with
        | none => rw [h1] at h; cases h
        | some x =>
          obtain ⟨a, b, r1⟩ := x
          rw [h1] at h
          have l1 := withP_len ih h1
          simp only at h
          cases h2 : parN n r1 with
          | none => rw [h2] at h; cases h
          | some y =>
            obtain ⟨c, r2⟩ := y
            rw [h2] at h
            have l2 := ih _ _ _ h2
            cases h; simp only [List.length_cons]; omega
      · cases h2 : parN n q with
        | none => rw [h2] at h; cases h
        | some y =>
          obtain ⟨c, r2⟩ := y
          rw [h2] at h
          have l2 := ih _ _ _ h2
          cases h; simp only [List.length_cons]; omega
theorem withP_congr {f g : List Tok → Option (Nodes × List Tok)} {k : Nat} {l : List Tok} (hf : ∀ l nd r, f l = some (nd, r) → r.length ≤ l.length) (h : ∀ q, q.length ≤ l.length → f q = g q) : withP f k l = withP g k l := by
  unfold withP
  rw [← h l (Nat.le_refl _)]
  cases h1 : f l with
  | none => rfl
  | some x =>
    obtain ⟨a1, r1⟩ := x
    have l1 := hf _ _ _ h1
    simp only
    rw [← h r1.tail (by simp only [List.length_tail]; omega)]
theorem parN_fuel : ∀ n m l, l.length < n → l.length < m → parN n l = parN m l := by
  intro n
  induction n with
  | zero => intro m l h; omega
  | succ n ih =>
    intro m l h1 h2
    obtain ⟨m, rfl⟩ : ∃ q, m = q + 1 := ⟨m - 1, by omega⟩
    cases l with
    | nil => rfl
    | cons t q =>
      simp only [List.length_cons] at h1 h2
      rw [parN, parN]
      have hw : withP (parN n) t.k q = withP (parN m) t.k q := withP_congr (parN_len n) (fun z hz => ih m z (by omega) (by omega))
      rw [hw, ih m q (by omega) (by omega)]
      split
      · rfl
      split
      · cases h3 : withP (parN m) t.k q with
        | none => rfl
        | some x =>
          obtain ⟨a, b, r1⟩ := x
          have l1 := withP_len (parN_len m) h3
          simp only
          rw [ih m r1 (by omega) (by omega)]
      · rfl
def parse (l : List Tok) : Option (Nodes × List Tok) := parN (l.length + 1) l
def within (k : Nat) (l : List Tok) : Option (Nodes × Nodes × List Tok) := withP parse k l
theorem parse_len {l r : List Tok} {nd : Nodes} (h : parse l = some (nd, r)) : r.length ≤ l.length := parN_len _ _ _ _ h
theorem within_len {k : Nat} {l r : List Tok} {a b : Nodes} (h : within k l = some (a, b, r)) : r.length ≤ l.length := withP_len (fun _ _ _ => parse_len) h
theorem parse_nil : parse [] = some (.nil, []) := rfl
theorem parse_cons (t : Tok) (r : List Tok) : parse (t :: r) = if stops t.k = true then some (.nil, t :: r)
    else if t.k = 3 ∨ t.k = 5 then
      match within t.k r with
      | none => none
      | some (a, b, r1) => match parse r1 with | none => none | some (rest, r2) => some (.cons t.k t.t t.p a b rest, r2)
    else match parse r with | none => none | some (rest, r2) => some (.cons t.k t.t t.p .nil .nil rest, r2) := by
  have hw : withP (parN (r.length + 1)) t.k r = within t.k r := withP_congr (parN_len _) (fun z hz => parN_fuel _ _ z (by omega) (by omega))
  unfold parse
  rw [List.length_cons, parN, hw]
  split
  · rfl
  split
  · cases h3 : within t.k r with
    | none => rfl
    | some x =>
      obtain ⟨a, b, r1⟩ := x
      have l1 := within_len h3
      simp only
      rw [parN_fuel (r.length + 1) (r1.length + 1) r1 (by omega) (by omega)]
  · rfl
theorem withP_cnt {f : List Tok → Option (Nodes × List Tok)} {k : Nat} {l r : List Tok} {a b : Nodes} (hf : ∀ l nd r, f l = some (nd, r) → nd.cnt + r.length ≤ l.length) (h : withP f k l = some (a, b, r)) : a.cnt + b.cnt + r.length ≤ l.length := by
  unfold withP at h
  cases h1 : f l with
  | none => rw [h1] at h; cases h
  | some x =>
    obtain ⟨a1, r1⟩ := x
    rw [h1] at h
    have l1 := hf _ _ _ h1
    simp only at h
    split at h
    · cases h2 : f r1.tail with
      | none => rw [h2] at h; cases h
      | some y =>
        obtain ⟨b1, r2⟩ := y
        rw [h2] at h
        have l2 := hf _ _ _ h2
        simp only at h
        split at h
        · cases h; simp only [List.length_tail] at *; omega
        · cases h
    · split at h
      · cases h; simp only [List.length_tail, Nodes.cnt] at *; omega
      · cases h
theorem parN_cnt : ∀ n l nd r, parN n l = some (nd, r) → nd.cnt + r.length ≤ l.length := by
  intro n
  induction n with
  | zero => intro l nd r h; cases h
  | succ n ih =>
    intro l nd r h
    cases l with
    | nil => cases h; simp [Nodes.cnt]
    | cons t q =>
      rw [parN] at h
      split at h
      · cases h; simp [Nodes.cnt]
      split at h
      · cases h1 : withP (parN n) t.k q with
        | none => rw [h1] at h; cases h
        | some x =>
          obtain ⟨a, b, r1⟩ := x
          rw [h1] at h
          have l1 := withP_cnt ih h1
          simp only at h
          cases h2 : parN n r1 with
          | none => rw [h2] at h; cases h
          | some y =>
            obtain ⟨c, r2⟩ := y
            rw [h2] at h
            have l2 := ih _ _ _ h2
            cases h; simp only [List.length_cons, Nodes.cnt]; omega
      · cases h2 : parN n q with
        | none => rw [h2] at h; cases h
        | some y =>
          obtain ⟨c, r2⟩ := y
          rw [h2] at h
          have l2 := ih _ _ _ h2
          cases h; simp only [List.length_cons, Nodes.cnt]; omega
theorem parse_cnt {l r : List Tok} {nd : Nodes} (h : parse l = some (nd, r)) : nd.cnt + r.length ≤ l.length := parN_cnt _ _ _ _ h
theorem within_cnt {k : Nat} {l r : List Tok} {a b : Nodes} (h : within k l = some (a, b, r)) : a.cnt + b.cnt + r.length ≤ l.length := withP_cnt (fun _ _ _ => parse_cnt) h
theorem withP_sub {f : List Tok → Option (Nodes × List Tok)} {k : Nat} {l r : List Tok} {a b : Nodes} (hf : ∀ l nd r, f l = some (nd, r) → ∀ x, x ∈ r → x ∈ l) (h : withP f k l = some (a, b, r)) : ∀ x, x ∈ r → x ∈ l := by
  unfold withP at h
  cases h1 : f l with
  | none => rw [h1] at h; cases h
  | some x =>
    obtain ⟨a1, r1⟩ := x
    rw [h1] at h
    have l1 := hf _ _ _ h1
    simp only at h
    split at h
    · cases h2 : f r1.tail with
      | none => rw [h2] at h; cases h
      | some y =>
        obtain ⟨b1, r2⟩ := y
        rw [h2] at h
        have l2 := hf _ _ _ h2
        simp only at h
        split at h
        · cases h; exact fun x hx => l1 x (List.mem_of_mem_tail (l2 x (List.mem_of_mem_tail hx)))
        · cases h
    · split at h
      · cases h; exact fun x hx => l1 x (List.mem_of_mem_tail hx)
      · cases h
theorem parN_sub : ∀ n l nd r, parN n l = some (nd, r) → ∀ x, x ∈ r → x ∈ l := by
  intro n
  induction n with
  | zero => intro l nd r h; cases h
  | succ n ih =>
    intro l nd r h
    cases l with
    | nil => cases h; exact fun x hx => hx
    | cons t q =>
      rw [parN] at h
      split at h
      · cases h; exact fun x hx => hx
      split at h
      · cases h1 : withP (parN n) t.k q with
        | none => rw [h1] at h; cases h
        | some x =>
          obtain ⟨a, b, r1⟩ := x
          rw [h1] at h
          have l1 := withP_sub ih h1
          simp only at h
          cases h2 : parN n r1 with
          | none => rw [h2] at h; cases h
          | some y =>
            obtain ⟨c, r2⟩ := y
            rw [h2] at h
            have l2 := ih _ _ _ h2
            cases h; exact fun x hx => List.mem_cons_of_mem _ (l1 x (l2 x hx))
      · cases h2 : parN n q with
        | none => rw [h2] at h; cases h
        | some y =>
          obtain ⟨c, r2⟩ := y
          rw [h2] at h
          have l2 := ih _ _ _ h2
          cases h; exact fun x hx => List.mem_cons_of_mem _ (l2 x hx)
theorem parse_sub {l r : List Tok} {nd : Nodes} (h : parse l = some (nd, r)) : ∀ x, x ∈ r → x ∈ l := parN_sub _ _ _ _ h
theorem within_sub {k : Nat} {l r : List Tok} {a b : Nodes} (h : within k l = some (a, b, r)) : ∀ x, x ∈ r → x ∈ l := withP_sub (fun _ _ _ => parse_sub) h
theorem withP_sm' {f : List Tok → Option (Nodes × List Tok)} {k : Nat} {l r : List Tok} {a b : Nodes} (hfl : ∀ l nd r, f l = some (nd, r) → r.length ≤ l.length) (hf : ∀ q nd z, f q = some (nd, z) → (∀ x, x ∈ q → x.sm) → q.length ≤ 1048576 → nd.sm ∧ (∀ x, x ∈ z → x.sm)) (hl : ∀ x, x ∈ l → x.sm) (hn : l.length ≤ 1048576) (h : withP f k l = some (a, b, r)) : a.sm ∧ b.sm ∧ ∀ x, x ∈ r → x.sm := by
  have ht : ∀ q : List Tok, (∀ x, x ∈ q → x.sm) → ∀ x, x ∈ q.tail → x.sm := fun q hq x hx => hq x (List.mem_of_mem_tail hx)
  unfold withP at h
  cases h1 : f l with
  | none => rw [h1] at h; cases h
  | some x =>
    obtain ⟨a1, r1⟩ := x
    rw [h1] at h
    obtain ⟨s1, t1⟩ := hf _ _ _ h1 hl hn
    have l1 := hfl _ _ _ h1
    simp only at h
    split at h
    · cases h2 : f r1.tail with
      | none => rw [h2] at h; cases h
      | some y =>
        obtain ⟨b1, r2⟩ := y
        rw [h2] at h
        obtain ⟨s2, t2⟩ := hf _ _ _ h2 (ht _ t1) (by simp only [List.length_tail]; omega)
        simp only at h
        split at h
        · cases h; exact ⟨s1, s2, ht _ t2⟩
        · cases h
    · split at h
      · cases h; exact ⟨s1, trivial, ht _ t1⟩
      · cases h
theorem parN_sm : ∀ n l nd r, parN n l = some (nd, r) → (∀ x, x ∈ l → x.sm) → l.length ≤ 1048576 → nd.sm ∧ (∀ x, x ∈ r → x.sm) := by
  intro n
  induction n with
  | zero => intro l nd r h; cases h
  | succ n ih =>
    intro l nd r h hl hn
    cases l with
    | nil => cases h; exact ⟨trivial, fun x hx => by simp at hx⟩
    | cons t q =>
      simp only [List.length_cons] at hn
      have hq : ∀ x, x ∈ q → x.sm := fun x hx => hl x (by simp [hx])
      obtain ⟨t1, t2, t3, t4⟩ := hl t (by simp)
      rw [parN] at h
      split at h
      · cases h; exact ⟨trivial, hl⟩
      split at h
      · cases h1 : withP (parN n) t.k q with
        | none => rw [h1] at h; cases h
        | some x =>
          obtain ⟨a, b, r1⟩ := x
          rw [h1] at h
          have hcn := withP_cnt (parN_cnt n) h1
          have hw := withP_sm' (parN_len n) (fun z nd y hz hs hm => ih z nd y hz hs hm) hq (by omega) h1
          simp only at h
          cases h2 : parN n r1 with
          | none => rw [h2] at h; cases h
          | some y =>
            obtain ⟨c, r2⟩ := y
            rw [h2] at h
            obtain ⟨s2, z2⟩ := ih _ _ _ h2 hw.2.2 (by omega)
            have la := len_cnt a
            have lb := len_cnt b
            cases h; exact ⟨⟨t1, t2, t3, t4, by omega, by omega, hw.1, hw.2.1, s2⟩, z2⟩
      · cases h2 : parN n q with
        | none => rw [h2] at h; cases h
        | some y =>
          obtain ⟨c, r2⟩ := y
          rw [h2] at h
          obtain ⟨s2, z2⟩ := ih _ _ _ h2 hq (by omega)
          cases h; exact ⟨⟨t1, t2, t3, t4, by simp [Nodes.len], by simp [Nodes.len], trivial, trivial, s2⟩, z2⟩
theorem parse_sm {l r : List Tok} {nd : Nodes} (h : parse l = some (nd, r)) (hl : ∀ x, x ∈ l → x.sm) (hn : l.length ≤ 1048576) : nd.sm ∧ (∀ x, x ∈ r → x.sm) := parN_sm _ _ _ _ h hl hn
def nodesP (l : List Tok) : Except Int Nodes :=
  if toksP l = false then .error 2 else
  match parse l with
  | none => .error 7
  | some (nd, r) => if r ≠ [] then .error 7 else if nd.fitsP = true then .ok nd else .error 11
def parseS (s : S) : Except Int Nodes :=
  if 1024 < s.length then .error 12 else
  match toksS (s.length + 1) s with
  | none => .error 7
  | some l => nodesP l
end Go.Proofs.YthngelbaheankaaGreatDoor.Tpl
namespace Go.Proofs.YthngelbaheankaaGreatDoor.Tpl
open Go.RowKit Go.Proofs Go.Shelf Go.Proofs.YthngelbaheankaaGreatDoor.PB Go.Proofs.YthngelbaheankaaGreatDoor.Short Go.Proofs.YthngelbaheankaaGreatDoorW.PrintWords Go.Proofs.YthngelbaheankaaGreatDoorW.PrintLast Go.Proofs.YthngelbaheankaaGreatDoorW.PrintMore Nodes
attribute [local go_sem] Oper.semAt_some Lk.enc
def firsts (l : List Look) : List S := l.filterMap fun x => rootOf x.p
theorem firsts_snoc {w0 : World} (pre : List (GLk w0)) (x : GLk w0) : firsts (ers (pre ++ [x])) = firsts (ers pre) ++ (match rootOf x.1.p with | none => [] | some s => [s]) := by
  rw [ers_app]
  unfold firsts
  rw [List.filterMap_append]
  congr 1
  show List.filterMap (fun x : Look => rootOf x.p) [x.1.er] = _
  rw [List.filterMap_cons, List.filterMap_nil]
  rw [show x.1.er.p = x.1.p from rfl]
  cases rootOf x.1.p <;> rfl
theorem append_stepIn {F : Fence} {n : Nat} {P : Program} {o : Oper} {a : Act} {W w' : World} {K : Act → World → Prop} {Q : Exit → Act → World → Prop} {s x : Operand} {t : TypeId} {v ax v' : Value}
    (hop : o.op = Op.call { callee := Callee.builtin Builtin.append, args := #[s, x], argTypes := #[t, t] }) (hs : a.eval s = v) (hx : a.eval x = ax) (hrun : (Builtin.append_ #[t, t] o.type #[v, ax]).run P W = .ok v' w') (hK : K (a.put o.dst v') w') : Oper.wpIn F n P o a W K Q := by
  unfold Oper.wpIn
  refine ⟨?_, ?_⟩
  · simp [Oper.about, hop, resolve, Target.leads, Sem.run_pure]
  · rw [Oper.semAt_plain F _ _ (by rw [hop]; intro c hc'; cases hc')]
    simp [execOp, hop, resolve, invoke, builtin, hs, hx, hrun, Result.andThen]
    exact hK
theorem any_one {F : Fence} {n : Nat} {P : Program} {md : Region.Mode} {ops : Array Oper} {Q : Exit → Act → World → Prop} {fuel : Nat} {listed : Array Bool} {a : Act} {w : World} (i : Nat) (o : Oper) (hr : Region.ready md ops listed = [i]) (hi : ops[i]? = some o) (hw : Region.wanted o (yielded ops a.tmps) = true)
    (h : o.wpIn F n P a w (wpAnyIn F n P md ops Q fuel (listed.setIfInBounds i true)) Q) : wpAnyIn F n P md ops Q (fuel + 1) listed a w := by
  refine ⟨fun e => (by rw [hr] at e; cases e), fun j hj => ?_⟩
  rw [hr] at hj
  obtain rfl := List.mem_singleton.1 hj
  unfold wpOpIn
  rw [hi]
  simp only [hw, if_true]
  exact h
theorem any_two {F : Fence} {n : Nat} {P : Program} {md : Region.Mode} {ops : Array Oper} {Q : Exit → Act → World → Prop} {fuel : Nat} {listed : Array Bool} {a : Act} {w : World} (i j : Nat) (o o' : Oper) (hr : Region.ready md ops listed = [i, j]) (hi : ops[i]? = some o) (hj : ops[j]? = some o') (hw : Region.wanted o (yielded ops a.tmps) = true) (hw' : Region.wanted o' (yielded ops a.tmps) = true)
    (h : o.wpIn F n P a w (wpAnyIn F n P md ops Q fuel (listed.setIfInBounds i true)) Q) (h' : o'.wpIn F n P a w (wpAnyIn F n P md ops Q fuel (listed.setIfInBounds j true)) Q) : wpAnyIn F n P md ops Q (fuel + 1) listed a w := by
  refine ⟨fun e => (by rw [hr] at e; cases e), fun k hk => ?_⟩
  rw [hr] at hk
  unfold wpOpIn
  rcases List.mem_cons.1 hk with rfl | hk
  · rw [hi]; simp only [hw, if_true]; exact h
  · obtain rfl := List.mem_singleton.1 hk
    rw [hj]; simp only [hw', if_true]; exact h'
theorem holdsRow_own1 {w0 : World} {n₀ : Nat} (nb : Nat) : Own (fun (pre : List (GLk w0)) W => ∃ v, Boxed W nb 25 v ∧ W.ownsRow n₀ 9 1 v (firsts (ers pre)).length ((firsts (ers pre)).map (fun s => Value.string (bs s)))) := by
  intro pre X Y row ⟨v, h1, h2⟩ hg hr
  refine ⟨v, h1.kept hg (fun e => ?_), own_move h2 (fun k hk => hg.block k (own_lt h2 k hk) (fun e => ?_))⟩
  · obtain ⟨o, ho, hc⟩ := hr nb e.symm
    rw [show X.heap[nb]? = _ from h1] at ho; cases ho; cases hc
  · obtain ⟨o, ho, hc⟩ := hr k e.symm
    obtain ⟨cells, hcl⟩ := own_typed h2 k hk
    rw [hcl] at ho; cases ho; cases hc
theorem roots_fin {w W w2 : World} {nb B : Nat} {o : Obj} {v v' : Value} {n m : Nat} {xs ys : List Value} (_b1 : Boxed W nb 25 v) (b2 : W.ownsRow w.heap.size 9 1 v n xs) (b3 : Below w.heap.size w W) (hnb : w.heap.size ≤ nb)
    (hgr : (W.alloc o).drew.grownBy w2 v.ownBlock) (hown : w2.ownsRow w.heap.size 9 1 v' m ys) (c1 : Boxed w2 nb 25 v) :
    KeepsFrom B W (w2.setCell ⟨nb, 0, none⟩ v') ∧ KpN w.heap.size W (w2.setCell ⟨nb, 0, none⟩ v') ∧ (∃ u, Boxed (w2.setCell ⟨nb, 0, none⟩ v') nb 25 u ∧ (w2.setCell ⟨nb, 0, none⟩ v').ownsRow w.heap.size 9 1 u m ys) ∧ Below w.heap.size w (w2.setCell ⟨nb, 0, none⟩ v') := by
  have hg : W.grownBy w2 v.ownBlock := ⟨hgr.os, hgr.tape, hgr.output, Nat.le_trans (by show W.heap.size ≤ (W.alloc o).heap.size; rw [World.size_alloc]; omega) hgr.size, fun k hk hne => (hgr.block k (by show k < (W.alloc o).heap.size; rw [World.size_alloc]; omega) hne).trans (Below.heap_alloc W o k hk)⟩
  have hko : KeepsOthers W w2 := KeepsOthers.of_grownBy hg (fun j o' e ho => by
    obtain ⟨cells, hcl⟩ := own_typed b2 j e
    rw [hcl] at ho; cases ho; rfl)
  have hbl : Below w.heap.size W w2 := ⟨hg.os, hg.tape, hg.output, hg.size, fun k hk => hg.block k (Nat.lt_of_lt_of_le hk b3.size) (fun e => by have := own_base b2 k e.symm; omega)⟩
  have hkp : KpN w.heap.size W w2 := ⟨hbl, fun i cs hi => (hg.block i (blk_lt hi) (fun e => by
    obtain ⟨cells, hcl⟩ := own_typed b2 i e.symm
    rw [hi] at hcl; injection hcl with hcl; injection hcl with _ hcl; exact absurd hcl (by decide))).trans hi⟩
  exact ⟨(hko.trans (KeepsOthers.setCell _ _ _)).from _, hkp.set c1 (by decide) hnb _, ⟨_, c1.set _, own_setCell hown (c1.not_row (by decide) hown) _⟩, (b3.trans hbl).setCell (p := ⟨nb, 0, none⟩) hnb _⟩
theorem grow_nil (w : World) : Sort.grow w #[] = w := by cases w; simp [Sort.grow]
theorem sort_own {w : World} {base n : Nat} {v : Value} {ss : List S} (h : w.ownsRow base 9 1 v n (ss.map fun s => Value.string (bs s))) (hn : n = ss.length) (hsm : ss.length ≤ 1048576) :
    Calls Tryz.prog 67 #[v] w fun e w' => e = .returned (.tuple #[]) ∧ w.grownBy w' v.ownBlock ∧ w'.ownsRow base 9 1 v n ((ss.mergeSort fun x y => decide (x ≤ y)).map fun s => Value.string (bs s)) := by
  subst hn
  rcases h.2 with ⟨rfl, h0⟩ | ⟨g, cap, cur, rfl, hbase, hb, h1, h2, h3, h4⟩
  · have : ss = [] := List.length_eq_zero_iff.1 h0
    subst this
    refine (Tryz.slices_Sort_string_none none 0 w).mono ?_
    rintro e w' ⟨rfl, rfl⟩
    exact ⟨rfl, World.grownBy.refl _ _, by simpa using h⟩
  · rw [Nat.mul_one] at h4
    refine (Tryz.slices_Sort_string g 0 cap ss w (holds_of_block hb h4) (Array.getElem?_eq_some_iff.1 hb).1 (by omega)).mono ?_
    rintro e w' ⟨rfl, n, os, rfl⟩
    exact ⟨rfl, grownBy_sorted _, ownsRow_sorted (ts := ss.mergeSort fun x y => decide (x ≤ y)) (by simp) hbase hb h1 h2 h3⟩
theorem comp_own {w : World} {base n : Nat} {v : Value} {ss : List S} (h : w.ownsRow base 9 1 v n (ss.map fun s => Value.string (bs s))) (hn : n = ss.length) (hsm : ss.length ≤ 1048576) :
    Calls Tryz.prog 68 #[v] w fun e w' => ∃ A c, e = .returned (.slice A (Lib.compact ss).length c) ∧ (Lib.compact ss).length ≤ c ∧ w.grownBy w' v.ownBlock ∧ Kd.string.C w' A (Lib.compact ss).length ((Lib.compact ss).map bs) := by
  subst hn
  rcases h.2 with ⟨rfl, h0⟩ | ⟨g, cap, cur, rfl, hbase, hb, h1, h2, h3, h4⟩
  · have : ss = [] := List.length_eq_zero_iff.1 h0
    subst this
    refine (Tryz.slices_Compact_string_empty none 0 w).mono ?_
    rintro e w' ⟨rfl, rfl⟩
    exact ⟨none, 0, rfl, Nat.le_refl _, World.grownBy.refl _ _, ⟨rfl, by decide, fun h => absurd h (by decide)⟩⟩
  · rw [Nat.mul_one] at h4
    have hH := holds_of_block hb h4
    have hle := Lib.compact_length_le ss
    refine (Tryz.slices_Compact_string g 0 cap ss w hH (by omega) h1).mono ?_
    rintro e w' ⟨rfl, q, rfl⟩
    refine ⟨_, cap, rfl, by omega, by have := grownBy_sorted (w := w) (g := g) (n := q) (os := #[]) (Lib.compact ss ++ List.replicate (ss.length - (Lib.compact ss).length) []).toArray; rwa [grow_nil] at this, ?_⟩
    refine ⟨by simp, by omega, fun hp => ⟨_, rfl, fun j p hj => ⟨[.string p], rfl, rfl, fun i u hu => ?_⟩⟩⟩
    have hjl : j < (Lib.compact ss).length := by have := (List.getElem?_eq_some_iff.1 hj).1; simpa using this
    have hi0 : i = 0 := by have := (List.getElem?_eq_some_iff.1 hu).1; simpa using this
    subst hi0
    have hu' : u = .string p := by simpa using hu.symm
    subst hu'
    have hc := Sort.cell?_putRow encStr (Sort.ahead w q) g 0 ss.toArray (Lib.compact ss ++ List.replicate (ss.length - (Lib.compact ss).length) []).toArray hH (by simp; omega) j (by simp; omega)
    have hp' : p = bs (Lib.compact ss)[j] := by rw [List.getElem?_map, List.getElem?_eq_getElem hjl] at hj; simpa using hj.symm
    have hadd : (⟨g, 0, none⟩ : Addr).add (j * Kd.string.sz + 0) = ⟨g, 0 + j, none⟩ := by rw [add_plain]; simp [Kd.string, Kd.scalar]
    rw [hadd, hc, hp']
    congr 1
    rw [getElem!_pos _ _ (by simp; omega)]
    show Value.string (bs _) = _
    congr 2
    simp [List.getElem_append_left, hjl]
theorem C_kept {w w' : World} {A : Option Addr} {n : Nat} {p : List ByteArray} (h : Kd.string.C w A n p) (hk : ∀ a v, w.cell? a = some v → w'.cell? a = some v) : Kd.string.C w' A n p := by
  refine ⟨h.1, h.2.1, fun hn => ?_⟩
  obtain ⟨ad, e, hc⟩ := h.2.2 hn
  refine ⟨ad, e, fun j x hj => ?_⟩
  obtain ⟨cs, hl, hx, hcell⟩ := hc j x hj
  exact ⟨cs, hl, hx, fun i u hu => hk _ _ (hcell i u hu)⟩
theorem roots_eq (l : Nodes) : Lib.compact ((firsts (flat l 1 false)).mergeSort fun x y => decide (x ≤ y)) = rootsP l := compact_sort _
set_option maxRecDepth 100000 in
set_option maxHeartbeats 4000000 in
theorem roots_any (l : Nodes) (A : Option Addr) (c : Nat) (w : World) (hG : Glob w) (hs : l.sm) (hR : Rd w A c l) (hl : l.len ≤ 1048576) (hc : l.cnt ≤ 1048576) :
    Calls Tryz.prog 36 #[.slice A l.len c] w fun e w' => ∃ A2 c2 n, e = .returned (.tuple #[.slice A2 n c2, .int .i64 (if l.chk = true then 0 else 2)]) ∧ (l.chk = true → n = (rootsP l).length ∧ Kd.string.C w' A2 n ((rootsP l).map bs) ∧ n ≤ c2) ∧ (l.chk = false → n = 0) ∧ Below w.heap.size w w' := by
  have hA := chk_any l A c w hG hs hR hl hc
  cases hch : l.chk with
  | false =>
    rw [hch] at hA
    simp only [Bool.false_eq_true, if_false]
    go_enter Tryz.func36, Tryz.ntmps36
    go_wp2_with fail
    refine hA.mono ?_
    rintro e w1 ⟨rfl, hb⟩
    clear hA hR
    go_wp2
    go_ret2
    exact ⟨none, 0, 0, rfl, fun h => (by cases h), fun _ => rfl, hb⟩
  | true =>
    rw [hch] at hA
    simp only [if_true]
    refine (callsIn_wide (n := 8)).1 ?_
    refine callsIn_of_wp_marks Tryz.func36 rfl trivial ?_ rfl
    simp only [Tryz.ntmps36, List.size_toArray, List.length_cons, List.length_nil, Nat.reduceAdd, Nat.reduceSub, Array.replicate_succ, Array.replicate_zero, List.push_toArray, List.append_toArray, List.nil_append, List.cons_append]
    gi_wp2_with fail
    refine ⟨trivial, ?_⟩
    refine (callsIn_wide.2 hA).mono ?_
    rintro e w1 ⟨rfl, hb⟩
    clear hA
    gi_wp2_with fail
    refine ⟨trivial, ?_⟩
    refine (all_in Fence.wide _ trivial rfl A l.len c _).mono ?_
    rintro e W0 ⟨rfl, hW0⟩
    have hbN := Boxed.new w1 25 (.slice none 0 0)
    rw [World.size_alloc]
    have BT : Boxed W0 (w1.heap.size + 1) 22 (.slice A l.len c) := by rw [hW0]; have := Boxed.new (w1.alloc (.cells #[.slice none 0 0] 25)) 22 (.slice A l.len c); rwa [World.size_alloc] at this
    have BN : Boxed W0 w1.heap.size 25 (.slice none 0 0) := by rw [hW0]; exact hbN.alloc _
    have hB0 : Below w.heap.size w W0 := by rw [hW0]; exact (hb.alloc hb.size _).alloc (by rw [World.size_alloc]; have := hb.size; omega) _
    have hsz : w1.heap.size + 1 < W0.heap.size := BT.lt
    have hsz2 : w.heap.size ≤ w1.heap.size := hb.size
    clear hW0 hb hbN
    gi_wp2_with fail
    generalize w1.heap.size = nb at *
    have hle0 : w.heap.size ≤ W0.heap.size := hB0.size
    refine wpIn_rangeFunc_ownH rfl (by decide) (gf := 113) (lb := #[.pointer (some ⟨nb + 1, 0, none⟩)]) rfl trivial (enters_of Tryz.func113 (by kernel_rfl) rfl)
      (all_stops Fence.wide rfl _ trivial trivial rfl w (nb + 1) A c l hc hl hs hR W0 hB0 BT.cell) KpN.trans (KpN.b (by omega)) (Below.refl _ _) (fun _ => rfl)
      (fun pre W => (∃ v, Boxed W nb 25 v ∧ W.ownsRow w.heap.size 9 1 v (firsts (ers pre)).length ((firsts (ers pre)).map (fun s => Value.string (bs s)))) ∧ Below w.heap.size w W)
      (fun _ _ _ => False)
      (OwnFrom.and (Own.from (holdsRow_own1 nb) _) (ownFrom_below (Nat.le_refl _) (by omega)))
      (fun _ _ _ _ _ hs _ _ => hs)
      ⟨⟨_, BN, by simpa [firsts, ers] using World.ownsRow_nil W0 w.heap.size 9 1⟩, hB0⟩
      (fun x a' W => ∃ Bx, nb < Bx ∧ W.heap[Bx]? = some (.cells #[.int .u8 x.1.k, .string (bs x.1.t), .slice x.1.A2 x.1.p.length x.1.c2, .slice x.1.A3 x.1.n3 x.1.c3, .slice x.1.A4 x.1.n4 x.1.c4, .int .i64 x.1.lv, .bool x.1.wi] 118 (0, 0)) ∧
        a' = { tmps := #[.slice A l.len c, undef, .slice none 0 0, .int .i64 0, .int .i64 0, .pointer (some ⟨nb, 0, none⟩), .pointer (some ⟨Bx, 0, none⟩), .slice A l.len c, .int .i64 0, .int .i64 0, .bool false, undef, .slice A l.len c, .func (.func 113) #[] #[.pointer (some ⟨nb + 1, 0, none⟩)], .agg #[.int .u8 x.1.k, .string (bs x.1.t), .slice x.1.A2 x.1.p.length x.1.c2, .slice x.1.A3 x.1.n3 x.1.c3, .slice x.1.A4 x.1.n4 x.1.c4, .int .i64 x.1.lv, .bool x.1.wi], undef, undef, undef, undef, undef, undef, undef, undef, undef, undef, undef, undef, undef, undef, undef, undef, undef, undef, undef, undef, undef, undef, undef, undef, undef], defers := [] })
      (fun x a' _ X Y row hs hg hr => by obtain ⟨Bx, h1, h2, h3⟩ := hs; exact ⟨Bx, h1, blk_grown h2 hg (fun e => by obtain ⟨o, ho, hcl⟩ := (hr Bx e.symm).2; rw [h2] at ho; cases ho; cases hcl), h3⟩)
      ?assign ?body ?done ?stop
    case assign =>
      rintro lp pre x W K ⟨⟨v, b1, b2⟩, b3⟩ hK
      obtain ⟨⟨k, t, A2, c2, p, A3, n3, c3, A4, n4, c4, lv, wi⟩, hx⟩ := x
      gi_wp2
      exact hK _ _ ((KeepsOthers.alloc _ _).from _) ((KpN.refl _ W).alloc b3.size _) ⟨⟨v, b1.alloc _, b2.alloc _⟩, b3.alloc b3.size _⟩ ⟨W.heap.size, b1.lt, World.alloc_heap_new W _, rfl⟩
    case body =>
      rintro lp pre x a' W hl2 ⟨rr, hrr⟩ ⟨⟨v, b1, b2⟩, b3⟩ ⟨Bx, hBx, bX, rfl⟩ hlt
      have hF := firsts_snoc pre x
      obtain ⟨⟨k, t, A2, c2, p, A3, n3, c3, A4, n4, c4, lv, wi⟩, hx⟩ := x
      simp only at bX hx hF
      obtain ⟨m0, m1, m2, m3, m4, m5, m6, f0, f1, f2, f3, f4, f5, f6⟩ := cells_7 bX
      have z0 := b1.cell
      have z1 := b1.frozen
      cases p with
      | nil =>
        gi_wp2
        exact ⟨KeepsFrom.refl _ _, KpN.refl _ _, ⟨v, b1, by rw [hF]; simpa [rootOf] using b2⟩, b3⟩
      | cons s q =>
        obtain ⟨bp, op, rfl, hcell⟩ := row_form (p := (s :: q).map bs) (by simpa using hx.1.1) (by simp)
        have p0 := pw_cell_below b3 (hcell 0 (by simp))
        simp only [List.map_cons, List.getD_cons_zero, Nat.add_zero] at p0
        clear hcell
        by_cases hs : s = thisS
        · have e0 : ((bs s).toList == [116, 104, 105, 115]) = true := by rw [bs_list, beq_iff_eq]; exact hs
          have Hs := Aside0.mk hs
          clear hs
          gi_wp2
          exact ⟨KeepsFrom.refl _ _, KpN.refl _ _, ⟨v, b1, by rw [hF]; simpa [rootOf, Hs.out] using b2⟩, b3⟩
        · have e0 : ((bs s).toList == [116, 104, 105, 115]) = false := by rw [bs_list, beq_eq_false_iff_ne]; exact hs
          have Hs := Aside0.mk hs
          clear hs
          have hmx : Tryz.prog.follows .mixedOrders = true := by kernel_rfl
          obtain ⟨i0, hi, hz0, hz1, hz2⟩ := info_parts info_str
          have hfl : (firsts (ers pre)).length ≤ pre.length := by unfold firsts; refine Nat.le_trans (List.length_filterMap_le _ _) (by simp [ers])
          obtain ⟨g, cap, w2, hrun, hown2, hgr2, hat2, hlt2⟩ := run_append_lies (P := Tryz.prog) (w := (W.alloc (.cells #[.string (bs s)] 9)).drew) 25 25 w.heap.size 9 i0 (.string ⟨#[]⟩) 1 16 Tryz.underlying25 hi hz0 hz1 hz2 rfl (by decide) v _ _ ((b2.alloc _).drew) ⟨W.heap.size, 0, none⟩ 1 1 [.string (bs s)] rfl
            (World.news_of_block (cs := #[.string (bs s)]) (t := 9) (fr := (0, 0)) (heap_alloc_new W _)) (by simp [Value.oneCell']) (by decide) (by unfold maxLen; omega) (by omega) (by have := b3.size; show w.heap.size ≤ (W.alloc _).heap.size; rw [World.size_alloc]; omega) (W.heap.size + 1) (by simp)
          gi_wp2
          have c1 : Boxed w2 nb 25 v := ((b1.alloc (.cells #[.string (bs s)] 9))).kept (W := (W.alloc (.cells #[.string (bs s)] 9)).drew) hgr2 (b1.not_row (by decide) b2)
          have z2 := c1.cell
          have z4 := (b1.alloc (.cells #[.string (bs s)] 9)).cell
          have hlt1 := b1.lt
          have z3 := c1.frozen
          have hnbw : w.heap.size ≤ nb := hsz2
          refine wpIn_region_any hmx ?_
          change wpAnyIn _ _ _ _ _ _ (8 + 1) _ _ W.drew
          refine any_two 0 1 _ _ (by kernel_rfl) rfl rfl (by rfl) (by rfl) ?_ ?_
          · gi_wp2
            refine any_one 1 _ (by kernel_rfl) rfl (by rfl) ?_
            gi_wp2
            refine any_one 2 _ (by kernel_rfl) rfl (by rfl) ?_
            gi_wp2
            refine any_one 3 _ (by kernel_rfl) rfl (by rfl) ?_
            gi_wp2
            refine any_one 4 _ (by kernel_rfl) rfl (by rfl) ?_
            gi_wp2
            refine any_one 5 _ (by kernel_rfl) rfl (by rfl) ?_
            gi_wp2
            refine any_one 6 _ (by kernel_rfl) rfl (by rfl) ?_
            gi_wp2
            refine any_one 7 _ (by kernel_rfl) rfl (by rfl) ?_
            refine append_stepIn (by rfl) (by rfl) (by rfl) hrun ?_
            refine any_one 8 _ (by kernel_rfl) rfl (by rfl) ?_
            gi_wp2
            refine ⟨by kernel_rfl, ?_⟩
            have hfin := roots_fin (B := W0.heap.size) b1 b2 b3 hnbw hgr2 hown2 c1
            exact ⟨hfin.1, hfin.2.1, by rw [hF]; simpa [rootOf, Hs.out] using hfin.2.2.1, hfin.2.2.2⟩
          · gi_wp2
            refine any_two 0 2 _ _ (by kernel_rfl) rfl rfl (by rfl) (by rfl) ?_ ?_
            · gi_wp2
              refine any_one 2 _ (by kernel_rfl) rfl (by rfl) ?_
              gi_wp2
              refine any_one 3 _ (by kernel_rfl) rfl (by rfl) ?_
              gi_wp2
              refine any_one 4 _ (by kernel_rfl) rfl (by rfl) ?_
              gi_wp2
              refine any_one 5 _ (by kernel_rfl) rfl (by rfl) ?_
              gi_wp2
              refine any_one 6 _ (by kernel_rfl) rfl (by rfl) ?_
              gi_wp2
              refine any_one 7 _ (by kernel_rfl) rfl (by rfl) ?_
              refine append_stepIn (by rfl) (by rfl) (by rfl) hrun ?_
              refine any_one 8 _ (by kernel_rfl) rfl (by rfl) ?_
              gi_wp2
              refine ⟨by kernel_rfl, ?_⟩
              have hfin := roots_fin (B := W0.heap.size) b1 b2 b3 hnbw hgr2 hown2 c1
              exact ⟨hfin.1, hfin.2.1, by rw [hF]; simpa [rootOf, Hs.out] using hfin.2.2.1, hfin.2.2.2⟩
            · gi_wp2
              refine any_two 0 3 _ _ (by kernel_rfl) rfl rfl (by rfl) (by rfl) ?_ ?_
              · gi_wp2
                refine any_one 3 _ (by kernel_rfl) rfl (by rfl) ?_
                gi_wp2
                refine any_one 4 _ (by kernel_rfl) rfl (by rfl) ?_
                gi_wp2
                refine any_one 5 _ (by kernel_rfl) rfl (by rfl) ?_
                gi_wp2
                refine any_one 6 _ (by kernel_rfl) rfl (by rfl) ?_
                gi_wp2
                refine any_one 7 _ (by kernel_rfl) rfl (by rfl) ?_
                refine append_stepIn (by rfl) (by rfl) (by rfl) hrun ?_
                refine any_one 8 _ (by kernel_rfl) rfl (by rfl) ?_
                gi_wp2
                refine ⟨by kernel_rfl, ?_⟩
                have hfin := roots_fin (B := W0.heap.size) b1 b2 b3 hnbw hgr2 hown2 c1
                exact ⟨hfin.1, hfin.2.1, by rw [hF]; simpa [rootOf, Hs.out] using hfin.2.2.1, hfin.2.2.2⟩
              · gi_wp2
                refine any_two 0 4 _ _ (by kernel_rfl) rfl rfl (by rfl) (by rfl) ?_ ?_
                · gi_wp2
                  refine any_one 4 _ (by kernel_rfl) rfl (by rfl) ?_
                  gi_wp2
                  refine any_one 5 _ (by kernel_rfl) rfl (by rfl) ?_
                  gi_wp2
                  refine any_one 6 _ (by kernel_rfl) rfl (by rfl) ?_
                  gi_wp2
                  refine any_one 7 _ (by kernel_rfl) rfl (by rfl) ?_
                  refine append_stepIn (by rfl) (by rfl) (by rfl) hrun ?_
                  refine any_one 8 _ (by kernel_rfl) rfl (by rfl) ?_
                  gi_wp2
                  refine ⟨by kernel_rfl, ?_⟩
                  have hfin := roots_fin (B := W0.heap.size) b1 b2 b3 hnbw hgr2 hown2 c1
                  exact ⟨hfin.1, hfin.2.1, by rw [hF]; simpa [rootOf, Hs.out] using hfin.2.2.1, hfin.2.2.2⟩
                · gi_wp2
                  refine any_two 0 5 _ _ (by kernel_rfl) rfl rfl (by rfl) (by rfl) ?_ ?_
                  · gi_wp2
                    refine any_one 5 _ (by kernel_rfl) rfl (by rfl) ?_
                    gi_wp2
                    refine any_one 6 _ (by kernel_rfl) rfl (by rfl) ?_
                    gi_wp2
                    refine any_one 7 _ (by kernel_rfl) rfl (by rfl) ?_
                    refine append_stepIn (by rfl) (by rfl) (by rfl) hrun ?_
                    refine any_one 8 _ (by kernel_rfl) rfl (by rfl) ?_
                    gi_wp2
                    refine ⟨by kernel_rfl, ?_⟩
                    have hfin := roots_fin (B := W0.heap.size) b1 b2 b3 hnbw hgr2 hown2 c1
                    exact ⟨hfin.1, hfin.2.1, by rw [hF]; simpa [rootOf, Hs.out] using hfin.2.2.1, hfin.2.2.2⟩
                  · gi_wp2
                    refine any_two 0 6 _ _ (by kernel_rfl) rfl rfl (by rfl) (by rfl) ?_ ?_
                    · gi_wp2
                      refine any_one 6 _ (by kernel_rfl) rfl (by rfl) ?_
                      gi_wp2
                      refine any_one 7 _ (by kernel_rfl) rfl (by rfl) ?_
                      refine append_stepIn (by rfl) (by rfl) (by rfl) hrun ?_
                      refine any_one 8 _ (by kernel_rfl) rfl (by rfl) ?_
                      gi_wp2
                      refine ⟨by kernel_rfl, ?_⟩
                      have hfin := roots_fin (B := W0.heap.size) b1 b2 b3 hnbw hgr2 hown2 c1
                      exact ⟨hfin.1, hfin.2.1, by rw [hF]; simpa [rootOf, Hs.out] using hfin.2.2.1, hfin.2.2.2⟩
                    · gi_wp2
                      refine any_one 0 _ (by kernel_rfl) rfl (by rfl) ?_
                      gi_wp2
                      refine any_one 7 _ (by kernel_rfl) rfl (by rfl) ?_
                      refine append_stepIn (by rfl) (by rfl) (by rfl) hrun ?_
                      refine any_one 8 _ (by kernel_rfl) rfl (by rfl) ?_
                      gi_wp2
                      refine ⟨by kernel_rfl, ?_⟩
                      have hfin := roots_fin (B := W0.heap.size) b1 b2 b3 hnbw hgr2 hown2 c1
                      exact ⟨hfin.1, hfin.2.1, by rw [hF]; simpa [rootOf, Hs.out] using hfin.2.2.1, hfin.2.2.2⟩
    case done =>
      rintro D ys W hD hys ⟨⟨v, b1, b2⟩, b3⟩ hK
      have z0 := b1.cell
      have z1 := b1.frozen
      rw [hys] at b2
      have hfl : (firsts (flat l 1 false)).length ≤ 1048576 := by unfold firsts; refine Nat.le_trans (List.length_filterMap_le _ _) ?_; rw [flat_len]; exact hc
      have hreq := roots_eq l
      generalize hfs : firsts (flat l 1 false) = fs at *
      have hDl : D < W.heap.size := (Array.getElem?_eq_some_iff.1 hK).1
      gi_wp2_with fail
      refine ⟨trivial, ?_⟩
      refine (callsIn_wide.2 (sort_own b2 rfl hfl)).mono ?_
      rintro e w3 ⟨rfl, hg3, ho3⟩
      have c1 : Boxed w3 nb 25 v := b1.kept hg3 (b1.not_row (by decide) b2)
      have hK3 : w3.heap[D]? = some (.deferred (some [])) := (hg3.block D hDl (fun e => by obtain ⟨cells, hcl⟩ := own_typed b2 D e.symm; rw [hK] at hcl; cases hcl)).trans hK
      have hb3 : Below w.heap.size w w3 := b3.trans ⟨hg3.os, hg3.tape, hg3.output, hg3.size, fun k hk => hg3.block k (Nat.lt_of_lt_of_le hk b3.size) (fun e => by have := own_base b2 k e.symm; omega)⟩
      have hDl3 : D < w3.heap.size := (Array.getElem?_eq_some_iff.1 hK3).1
      clear z0 z1
      have z0 := c1.cell
      have z1 := c1.frozen
      gi_wp2_with fail
      refine ⟨trivial, ?_⟩
      refine (callsIn_wide.2 (comp_own ho3 (by simp) (by simpa using hfl))).mono ?_
      rintro e w4 ⟨A2, c2, rfl, hle4, hg4, hC⟩
      have hK4 : w4.heap[D]? = some (.deferred (some [])) := (hg4.block D hDl3 (fun e => by obtain ⟨cells, hcl⟩ := own_typed ho3 D e.symm; rw [hK3] at hcl; cases hcl)).trans hK3
      have hb4 : Below w.heap.size w w4 := hb3.trans ⟨hg4.os, hg4.tape, hg4.output, hg4.size, fun k hk => hg4.block k (Nat.lt_of_lt_of_le hk hb3.size) (fun e => by have := own_base ho3 k e.symm; omega)⟩
      rw [hreq] at hle4 hC ⊢
      gi_wp2
      refine ⟨by simp, .inl ⟨_, _, rfl, run_takeDeferred hK4, ?_⟩⟩
      exact ⟨_, results_tmp2 rfl _ _ _, A2, c2, (rootsP l).length, rfl, fun _ => ⟨rfl, C_kept hC (fun a u ha => cell_kept ha (grownBy_putObj' _ D (.deferred none)) (fun r e => by cases e; exact ⟨_, hK4, rfl⟩)), hle4⟩, fun h => (by cases h), hb4.trans (belowK_b (w := w) (Nat.le_refl _) w4 D _ _ (by omega) hK4 rfl rfl)⟩
    case stop =>
      rintro D cd pre W _ _ h _
      exact h.elim
end Go.Proofs.YthngelbaheankaaGreatDoor.Tpl
namespace Go.Proofs.YthngelbaheankaaGreatDoor.Tpl
open Go.RowKit Go.Proofs Go.Shelf Go.Proofs.YthngelbaheankaaGreatDoor.PB Go.Proofs.YthngelbaheankaaGreatDoor.Short Go.Proofs.YthngelbaheankaaGreatDoorW.PrintWords Go.Proofs.YthngelbaheankaaGreatDoorW.PrintLast Go.Proofs.YthngelbaheankaaGreatDoorW.PrintMore Nodes
theorem containsS_map (p : List S) (s : S) : Lib.containsS (p.map bs) (bs s) = p.contains s := by
  have hi : ∀ a b : S, bs a = bs b → a = b := fun a b h => by rw [← bs_list a, h, bs_list]
  rw [Bool.eq_iff_iff, Lib.containsS_iff, List.contains_iff_mem, List.mem_map]
  constructor
  · rintro ⟨x, hx, e⟩; rw [← hi _ _ e]; exact hx
  · intro h; exact ⟨s, h, rfl⟩
def RdS (w : World) (A : Option Addr) (c : Nat) (p : List S) : Prop := Kd.string.C w A p.length (p.map bs) ∧ p.length ≤ c
theorem contains_any (A : Option Addr) (c : Nat) (p : List S) (s : S) (w : World) (hR : RdS w A c p) (hp : p.length ≤ 1048576) : Calls Tryz.prog 188 #[.slice A p.length c, .string (bs s)] w fun e w' => e = .returned (.bool (p.contains s)) ∧ w' = w := by
  by_cases h0 : p.length = 0
  · have : p = [] := List.length_eq_zero_iff.1 h0
    subst this
    exact Tryz.slices_Contains_string_empty A c (bs s) w
  · obtain ⟨b, off, rfl, hcell⟩ := row_form (by simpa using hR.1) (show 0 < (p.map bs).length by simp; omega)
    have h := Tryz.slices_Contains_string b off p.length c (p.map bs) (bs s) w (by simp) (by omega) hcell
    rw [List.take_of_length_le (by simp), containsS_map] at h
    exact h
theorem eg_only : ∀ args w, (callFunc 187 args).run Tryz.prog w = .ok (.enter 187 args) w := enters_of Tryz.func187 (by kernel_rfl) rfl
theorem pred_only (A : Option Addr) (c nb : Nat) (p : List S) (w : World) (hp : p.length ≤ 1048576) (hR : RdS w A c p) (hb : w.cell? ⟨nb, 0, none⟩ = some (.slice A p.length c)) :
    PredAt Tryz.prog 187 #[.pointer (some ⟨nb, 0, none⟩)] (fun s : S => Value.string (bs s)) (fun s => !p.contains s) w := by
  intro W s hB
  unfold FnGives
  change Calls _ _ _ _ fun e w' => e = .returned (.bool (!p.contains s)) ∧ ∃ q, w' = W.drewN q
  have hc := contains_any A c p s W ⟨Kd.C_below hR.1 hB, hR.2⟩ hp
  have hb' := pw_cell_below hB hb
  generalize p.contains s = r at *
  clear hR
  go_enter Tryz.func187, Tryz.ntmps187
  go_wp2_with fail
  refine hc.mono ?_
  rintro e w1 ⟨rfl, rfl⟩
  go_wp2
  go_ret
  exact ⟨by simp, 0, rfl⟩
def onlyP (l : Nodes) (names : List S) : Int := if l.chk = true then (if (rootsP l).all names.contains = true then 0 else 13) else 2
set_option maxRecDepth 100000 in
set_option maxHeartbeats 1000000 in
theorem only_any (l : Nodes) (A : Option Addr) (c : Nat) (An : Option Addr) (cn : Nat) (names : List S) (w : World) (hG : Glob w) (hs : l.sm) (hR : Rd w A c l) (hl : l.len ≤ 1048576) (hc : l.cnt ≤ 1048576) (hRn : RdS w An cn names) (hn : names.length ≤ 1048576) :
    Calls Tryz.prog 148 #[.slice A l.len c, .slice An names.length cn] w fun e w' => e = .returned (.int .i64 (onlyP l names)) ∧ Below w.heap.size w w' := by
  have hA := roots_any l A c (w.alloc (.cells #[.slice An names.length cn] 25)) (hG.below (below_alloc (Below.refl _ _) _)) hs (hR.below (below_alloc (Below.refl _ _) _)) hl hc
  have HN := Aside0.mk hRn
  have hlen : (rootsP l).length ≤ 1048576 := by
    have h1 : (rootsP l).length ≤ (flat l 1 false).length := by
      rw [← roots_eq]
      refine Nat.le_trans (Lib.compact_length_le _) ?_
      rw [List.length_mergeSort]; exact List.length_filterMap_le _ _
    rw [flat_len] at h1; omega
  clear hG hs hR hRn
  unfold onlyP
  cases hch : l.chk with
  | false =>
    rw [hch] at hA
    simp only [Bool.false_eq_true, if_false]
    go_enter Tryz.func148, Tryz.ntmps148
    go_wp2_with fail
    refine hA.mono ?_
    rintro e w1 ⟨A2, c2, n, rfl, _, _, hb⟩
    have hb' := (below_alloc (Below.refl w.heap.size w) (.cells #[.slice An names.length cn] 25)).trans (hb.mono (by simp))
    clear hb hA
    go_wp2
    go_ret
    exact ⟨rfl, hb'⟩
  | true =>
    rw [hch] at hA
    obtain ⟨q, hq⟩ : ∃ q, (rootsP l).all names.contains = q := ⟨_, rfl⟩
    simp only [if_true, hq]
    go_enter Tryz.func148, Tryz.ntmps148
    go_wp2_with fail
    refine hA.mono ?_
    rintro e w1 ⟨A2, c2, n, rfl, h1, _, hb⟩
    obtain ⟨rfl, hC, hle⟩ := h1 (by first | rfl | trivial)
    have B0 : Boxed w1 w.heap.size 25 (.slice An names.length cn) := (hb.block _ (by simp)).trans (Boxed.new w _ _)
    have hb' := (below_alloc (Below.refl w.heap.size w) (.cells #[.slice An names.length cn] 25)).trans (hb.mono (by simp))
    have hP := pred_only An cn w.heap.size names w1 hn ⟨Kd.C_below HN.out.1 hb', HN.out.2⟩ B0.cell
    have hcon : Calls Tryz.prog 186 #[.slice A2 (rootsP l).length c2, .func (.func 187) #[] #[.pointer (some ⟨w.heap.size, 0, none⟩)]] w1 fun e w' => e = .returned (.bool (!q)) ∧ ∃ k, w' = w1.drewN k := by
      by_cases h0 : (rootsP l).length = 0
      · have e0 : rootsP l = [] := List.length_eq_zero_iff.1 h0
        have hq' : q = true := by rw [← hq, e0]; rfl
        rw [hq', h0]
        refine (Tryz.slices_ContainsFunc_empty (α := S) A2 c2 _ w1).mono ?_
        rintro e w' ⟨rfl, rfl⟩
        exact ⟨rfl, 0, rfl⟩
      · obtain ⟨b, off, rfl, hcell⟩ := row_form (by simpa using hC) (show 0 < ((rootsP l).map bs).length by simp; omega)
        have h := Tryz.slices_ContainsFunc (fun s : S => Value.string (bs s)) (fun s => !names.contains s) 187 #[.pointer (some ⟨w.heap.size, 0, none⟩)] eg_only b off (rootsP l).length c2 (rootsP l) w1 hP (Nat.le_refl _) (by omega) (fun j hj => by
          have := hcell j (by simpa using hj)
          rw [this, getElem!_pos (rootsP l) j hj]; simp [List.getD, hj])
        rw [List.take_length, ← List.not_all_eq_any_not, hq] at h
        exact h
    clear hb hA hP hC h1
    go_wp2_with fail
    refine hcon.mono ?_
    rintro e w2 ⟨rfl, ⟨k, rfl⟩⟩
    cases q
    all_goals
      go_wp2
      go_ret
      exact ⟨by simp, pw_below_drewN hb' _⟩
end Go.Proofs.YthngelbaheankaaGreatDoor.Tpl
namespace Go.Proofs.YthngelbaheankaaGreatDoor.Tpl
open Go.RowKit Go.Proofs Go.Proofs.YthngelbaheankaaGreatDoor.PB Go.Proofs.YthngelbaheankaaGreatDoor.Short Go.Proofs.YthngelbaheankaaGreatDoorW.PrintWords Go.Proofs.YthngelbaheankaaGreatDoorW.PrintLast Go.Proofs.YthngelbaheankaaGreatDoorW.PrintMore Nodes
attribute [local go_sem ↓] Go.wp_at_zero Go.wp_at_succ
theorem lit_R (xs : List ByteArray) (W : World) (base : Nat) (ok : Nat → Prop) (h : base ≤ W.heap.size) (hx : xs.length ≤ 1048576) (hok : ok W.heap.size) : Kd.string.R 9 (W.alloc (.cells (xs.map Value.string).toArray 9)) base ok (.slice (some ⟨W.heap.size, 0, none⟩) xs.length xs.length) xs := by
  refine Kd.R_of_own ?_ (fun k hk => by simp [Value.ownBlock] at hk; subst hk; exact hok)
  have h2 := World.ownsRow_lit (base := base) (e := 9) (size := 1) W (xs.map Value.string).toArray xs.length h (by simp [maxLen]; omega) (by simp)
  simpa [encs] using h2
theorem RdS.below {w w1 : World} {A : Option Addr} {c : Nat} {p : List S} (h : RdS w A c p) (hb : Below w.heap.size w w1) : RdS w1 A c p := ⟨Kd.C_below h.1 hb, h.2⟩
end Go.Proofs.YthngelbaheankaaGreatDoor.Tpl
namespace Go.Proofs.YthngelbaheankaaGreatDoor.Tpl
open Go.RowKit Go.Proofs Go.Proofs.YthngelbaheankaaGreatDoor.PB Go.Proofs.YthngelbaheankaaGreatDoor.Short Go.Proofs.YthngelbaheankaaGreatDoorW.PrintWords Go.Proofs.YthngelbaheankaaGreatDoorW.PrintLast Go.Proofs.YthngelbaheankaaGreatDoorW.PrintMore Nodes
theorem cellS {w : World} {A : Option Addr} {c : Nat} {p : List S} (hR : RdS w A c p) (i : Nat) (hi : i < p.length) : ∃ b off, A = some ⟨b, off, none⟩ ∧ w.cell? ⟨b, off + i, none⟩ = some (.string (bs (p.getD i []))) := by
  obtain ⟨b, off, e, hc⟩ := row_form (p := p.map bs) (by simpa using hR.1) (by simp; omega)
  refine ⟨b, off, e, ?_⟩
  rw [hc i (by simpa using hi)]
  simp [List.getD, hi]
end Go.Proofs.YthngelbaheankaaGreatDoor.Tpl
namespace Go.Proofs.YthngelbaheankaaGreatDoor.Tpl
open Go.RowKit Go.Proofs Go.Proofs.YthngelbaheankaaGreatDoor.PB Go.Proofs.YthngelbaheankaaGreatDoor.Short Go.Proofs.YthngelbaheankaaGreatDoorW.PrintWords Go.Proofs.YthngelbaheankaaGreatDoorW.PrintLast Go.Proofs.YthngelbaheankaaGreatDoorW.PrintMore Nodes
attribute [local go_sem ↓] Go.wp_at_zero Go.wp_at_succ
theorem map_bs_data (l : List ByteArray) (q : List S) (h : l.map (·.data.toList) = q) : l = q.map bs := by
  subst h
  rw [List.map_map]
  conv => lhs; rw [← List.map_id l]
  refine List.map_congr_left fun x _ => ?_
  rfl
theorem split_any (c : UInt8) (s : S) (hs : s.length ≤ 1048576) (w : World) (hG : Glob w) :
    Calls Tryz.prog 155 #[.string (bs s), .string ⟨#[c]⟩] w fun e w' => e = .returned (.slice (some ⟨w.heap.size, 0, none⟩) (splitC c s).length (splitC c s).length) ∧ w' = w.alloc (.cells (((splitC c s).map bs).map Value.string).toArray 9) := by
  obtain ⟨⟨m, hm⟩, _⟩ := hG
  have h := Tryz.strings_Split (bs s) ⟨#[c]⟩ m w (by rw [bs_size]; omega) hm (by simp [ByteArray.size])
  have e1 : Lib.countB (bs s) ⟨#[c]⟩ = Lib.count s [c] := rfl
  have e2 : Lib.splitB ⟨#[c]⟩ 0 (Lib.countB (bs s) ⟨#[c]⟩) (bs s) = (splitC c s).map bs := map_bs_data _ _ (by rw [Lib.splitB_data, e1]; exact split_C c s)
  have e3 : Lib.countB (bs s) ⟨#[c]⟩ + 1 = (splitC c s).length := by
    have := Lib.splitB_all ⟨#[c]⟩ (by simp [ByteArray.size]) 0 _ (bs s) rfl
    rw [← this, e2, List.length_map]
  rw [e3, e2] at h
  exact h
theorem eg_tag : ∀ args w, (callFunc 156 args).run Tryz.prog w = .ok (.enter 156 args) w := enters_of Tryz.func156 (by kernel_rfl) rfl
theorem is_empty (s : S) (W : World) : FnGives Tryz.prog 156 #[] #[.string (bs s)] (.bool s.isEmpty) W := by
  unfold FnGives
  have e0 : (bs s).toList.isEmpty = s.isEmpty := by rw [bs_list]
  generalize s.isEmpty = q at *
  go_enter Tryz.func156, Tryz.ntmps156
  go_wp2
  go_ret
  exact ⟨by simp, 0, rfl⟩
theorem zero_str : ∀ w : World, (zeroValue 9).run Tryz.prog w = .ok (.string (bs [])) w := fun _ => by kernel_rfl
theorem putRow_below {α : Type} [Inhabited α] (enc : α → Value) (w : World) (blk off : Nat) (d : Array α) {B : Nat} (h : B ≤ blk) : Below B w (Go.Sort.putRow enc w blk off d) := by
  refine ⟨rfl, rfl, rfl, by rw [Go.Sort.size_putRow]; exact Nat.le_refl _, fun i hi => ?_⟩
  unfold Go.Sort.putRow Go.Sort.mapBlock
  show (w.heap.modify blk _)[i]? = _
  rw [Array.getElem?_modify, if_neg (by omega)]
theorem C_of_cells {w : World} {b off : Nat} {l : List S} (hl : l.length ≤ 1048577) (h : ∀ j, j < l.length → w.cell? ⟨b, off + j, none⟩ = some (.string (bs (l.getD j [])))) : Kd.string.C w (some ⟨b, off, none⟩) l.length (l.map bs) := by
  refine Kd.C_of_reads (enc := Value.string) (d := ByteArray.empty) (h1 := fun _ => rfl) ⟨by simp, by omega, fun _ => ⟨_, rfl, fun j hj => ?_⟩⟩
  have e : (Addr.add ⟨b, off, none⟩ j) = ⟨b, off + j, none⟩ := by unfold Addr.add; split <;> simp_all
  rw [e, h j hj]
  simp [List.getD, hj]
theorem holds_blk {g : Nat} {p : List S} {w : World} (hb : w.heap[g]? = some (.cells ((p.map bs).map Value.string).toArray 9 (0, 0))) : Go.Sort.Holds (fun s : S => Value.string (bs s)) w g 0 p.toArray := by
  intro j hj
  have hj' : j < p.length := by simpa using hj
  rw [Nat.zero_add]
  refine ⟨(blk_cell hb j).trans ?_, blk_frozen hb j⟩
  rw [getElem!_pos p.toArray j hj]
  simp [hj']
theorem filt_get (p : List S) (f : S → Bool) (n j : Nat) (h : j < (p.filter f).length) : ((p.filter f ++ List.replicate n []).toArray)[j]! = (p.filter f).getD j [] := by
  rw [getElem!_pos _ j (by simp; omega)]
  simp [List.getD, h, List.getElem_append_left h]
theorem delete_any (g : Nat) (p : List S) (w : World) (B : Nat) (hB : B ≤ g) (hb : w.heap[g]? = some (.cells ((p.map bs).map Value.string).toArray 9 (0, 0))) (hp : p.length ≤ 1048577) :
    Calls Tryz.prog 154 #[.slice (some ⟨g, 0, none⟩) p.length p.length, .func (.func 156) #[] #[]] w fun e w' => e = .returned (.slice (some ⟨g, 0, none⟩) (p.filter fun x => !x.isEmpty).length p.length) ∧ RdS w' (some ⟨g, 0, none⟩) p.length (p.filter fun x => !x.isEmpty) ∧ Below B w w' := by
  have h := Tryz.slices_DeleteFunc (fun s : S => Value.string (bs s)) (fun _ => rfl) (fun s => s.isEmpty) 156 #[] eg_tag [] zero_str g 0 p.length p.toArray w (fun W x _ => is_empty x W) (fun _ _ _ x _ => is_empty x _) (holds_blk hb) (by simp; omega) (by simp)
  simp only [List.size_toArray] at h
  refine h.mono ?_
  rintro e w' ⟨rfl, q, rfl⟩
  have hlen : (p.filter fun x => !x.isEmpty).length ≤ p.length := List.length_filter_le _ _
  have hsz : ((p.filter fun x => !x.isEmpty) ++ List.replicate (p.length - (p.filter fun x => !x.isEmpty).length) ([] : S)).toArray.size = p.toArray.size := by simp; omega
  refine ⟨by simp, ⟨C_of_cells (by omega) (fun j hj => ?_), hlen⟩, ?_⟩
  · have h2 := Go.Sort.cell?_putRow (fun s : S => Value.string (bs s)) (Go.Sort.ahead w q) g 0 p.toArray _ (holds_blk hb) hsz j (by rw [hsz]; simp; omega)
    rw [filt_get p _ _ j hj] at h2
    exact h2
  · exact Below.trans (b := Go.Sort.ahead w q) ⟨rfl, rfl, rfl, Nat.le_refl _, fun _ _ => rfl⟩ (putRow_below _ _ _ _ _ hB)
def RowIf (b : Bool) (w' : World) (base : Nat) (v : Value) (p : List S) : Prop := b = true → ∃ A c, v = .slice A p.length c ∧ Kd.string.R 9 w' base (fun k => base ≤ k) v (p.map bs)
theorem RowIf.no {w' : World} {base : Nat} {v : Value} {p : List S} : RowIf false w' base v p := fun h => by cases h
theorem RowIf.yes {b : Bool} {w' : World} {base : Nat} {A : Option Addr} {n c : Nat} {p : List S} (hn : p.length = n) (h : Kd.string.R 9 w' base (fun k => base ≤ k) (.slice A n c) (p.map bs)) : RowIf b w' base (.slice A n c) p := fun _ => ⟨A, c, by rw [hn], h⟩
theorem path_any (s : S) (hs : s.length ≤ 1048575) (w : World) (hG : Glob w) :
    Calls Tryz.prog 158 #[.string (bs s)] w fun e w' => ∃ v, e = .returned (.tuple #[v, .int .i64 (if pathP (splitC 46 s) = true then 0 else 13)]) ∧ RowIf (pathP (splitC 46 s)) w' w.heap.size v (splitC 46 s) ∧ Below w.heap.size w w' := by
  have h := split_any 46 s (by omega) w hG
  have hz := splitC_size 46 s
  generalize splitC 46 s = p at *
  have hl : p.length ≤ 1048576 := by omega
  have hR := lit_R (p.map bs) w w.heap.size (fun k => w.heap.size ≤ k) (Nat.le_refl _) (by simpa using hl) (Nat.le_refl _)
  rw [List.length_map] at hR
  have hr := right_any (some ⟨w.heap.size, 0, none⟩) p.length p (w.alloc (.cells ((p.map bs).map Value.string).toArray 9)) (by have := (Kd.R_reads' hR).2.2; simpa using this) hl (fun x hx => by have := hz.2 x hx; omega)
  have HR := Aside0.mk hR
  clear hR hG hz
  have hB := Aside0.mk (below_alloc (Below.refl w.heap.size w) (.cells ((p.map bs).map Value.string).toArray 9))
  generalize w.heap.size = g at *
  generalize w.alloc (.cells ((p.map bs).map Value.string).toArray 9) = W at *
  generalize pathP p = b at *
  have hN := Aside0.mk hl
  clear hl
  obtain ⟨n, hn⟩ : ∃ n, p.length = n := ⟨_, rfl⟩
  rw [hn] at h hr HR
  have HNN := Aside0.mk hn
  clear hn
  cases b
  all_goals
    go_enter Tryz.func158, Tryz.ntmps158
    go_wp2_with fail
    refine h.mono ?_
    rintro e w1 ⟨rfl, rfl⟩
    go_wp2_with fail
    refine hr.mono ?_
    rintro e w2 ⟨rfl, ⟨q, rfl⟩⟩
    go_wp2
    go_ret2
    first
      | exact ⟨_, rfl, RowIf.no, pw_below_drewN hB.out q⟩
      | exact ⟨_, rfl, RowIf.yes HNN.out (Kd.R_drewN HR.out q), pw_below_drewN hB.out q⟩
end Go.Proofs.YthngelbaheankaaGreatDoor.Tpl
namespace Go.Proofs.YthngelbaheankaaGreatDoor.Tpl
open Go.RowKit Go.Proofs Go.Proofs.YthngelbaheankaaGreatDoor.PB Go.Proofs.YthngelbaheankaaGreatDoor.Short Go.Proofs.YthngelbaheankaaGreatDoorW.PrintWords Go.Proofs.YthngelbaheankaaGreatDoorW.PrintLast Go.Proofs.YthngelbaheankaaGreatDoorW.PrintMore Nodes
theorem blk3 {W : World} {g t : Nat} {a0 a1 a2 b0 b1 b2 : Value} (h : W.heap[g]? = some (.cells #[a0, a1, a2] t (0, 0))) : (((W.setCell ⟨g, 0, none⟩ b0).setCell ⟨g, 1, none⟩ b1).setCell ⟨g, 2, none⟩ b2).heap[g]? = some (.cells #[b0, b1, b2] t (0, 0)) := blk_put (blk_put (blk_put h 0 _ rfl) 1 _ rfl) 2 _ rfl
theorem below3 {w W : World} {g : Nat} {b0 b1 b2 : Value} (h : Below w.heap.size w W) (hg : w.heap.size ≤ g) : Below w.heap.size w (((W.setCell ⟨g, 0, none⟩ b0).setCell ⟨g, 1, none⟩ b1).setCell ⟨g, 2, none⟩ b2) := below_set (below_set (below_set h hg) hg) hg
theorem below_ahead' (w : World) (q : Nat) : Below w.heap.size w (w.drewN q) := pw_below_drewN (Below.refl _ _) q
def TokRet (o : Option Tok) (e : Ending) (w' : World) (base : Nat) : Prop :=
  match o with
  | none => e = .returned (.tuple #[.agg #[.int .u8 0, .string ⟨#[]⟩, .slice none 0 0], .int .i64 7])
  | some t => ∃ A c, e = .returned (.tuple #[.agg #[.int .u8 t.k, .string (bs t.t), .slice A t.p.length c], .int .i64 0]) ∧ Kd.string.R 9 w' base (fun k => base ≤ k) (.slice A t.p.length c) (t.p.map bs)
theorem R_set3 {W : World} {g : Nat} {b0 b1 b2 : Value} {base : Nat} {ok : Nat → Prop} {v : Value} {l : List ByteArray} {a0 a1 a2 : Value} (h : Kd.string.R 9 W base ok v l) (hb : W.heap[g]? = some (.cells #[a0, a1, a2] 110 (0, 0))) :
    Kd.string.R 9 (((W.setCell ⟨g, 0, none⟩ b0).setCell ⟨g, 1, none⟩ b1).setCell ⟨g, 2, none⟩ b2) base ok v l := by
  have hne : ∀ q, q ∈ 9 :: Kd.string.E → q ≠ 110 := by decide
  have h1 := Kd.R_set h hb hne 0 b0
  have h2 := Kd.R_set h1 (blk_put hb 0 b0 rfl) hne 1 b1
  exact Kd.R_set h2 (blk_put (blk_put hb 0 b0 rfl) 1 b1 rfl) hne 2 b2
set_option maxHeartbeats 4000000 in
set_option maxRecDepth 100000 in
theorem tag_any (s : S) (hs : s.length ≤ 1048575) (w : World) (hG : Glob w) :
    Calls Tryz.prog 106 #[.string (bs s)] w fun e w' => TokRet (tagP s) e w' w.heap.size ∧ Below w.heap.size w w' := by
  obtain ⟨o, ho⟩ : ∃ o, tagP s = o := ⟨_, rfl⟩
  rw [ho]
  rw [tagP_eq] at ho
  have HO := Aside0.mk ho
  clear ho
  have hwsz := wordsP_size s
  have hsz32 := splitC_size 32 s
  have hsp := fun W (hW : Glob W) => split_any 32 s (by omega) W hW
  have HG := Aside0.mk hG
  clear hG
  go_enter Tryz.func106, Tryz.ntmps106
  go_wp2_with fail
  have hB0 := Aside0.mk (below_alloc (Below.refl w.heap.size w) (.cells #[.int .u8 0, .string ⟨#[]⟩, .slice none 0 0] 110))
  have BK0 := Aside0.mk (blk_new w (.cells #[.int .u8 0, .string ⟨#[]⟩, .slice none 0 0] 110))
  have hgt : w.heap.size < (w.alloc (.cells #[.int .u8 0, .string ⟨#[]⟩, .slice none 0 0] 110)).heap.size := by simp
  generalize w.alloc (.cells #[.int .u8 0, .string ⟨#[]⟩, .slice none 0 0] 110) = W0 at hB0 BK0 hgt ⊢
  obtain ⟨g, hg⟩ : ∃ g, w.heap.size = g := ⟨_, rfl⟩
  rw [hg] at BK0 hgt ⊢
  have hge : w.heap.size ≤ g := Nat.le_of_eq hg
  clear hg
  refine (hsp W0 (HG.out.below hB0.out)).mono ?_
  rintro e W1 ⟨rfl, rfl⟩
  have hB1 := Aside0.mk (below_alloc hB0.out (.cells (((splitC 32 s).map bs).map Value.string).toArray 9))
  have BK1 := Aside0.mk (blk_alloc BK0.out (.cells (((splitC 32 s).map bs).map Value.string).toArray 9))
  have hdel := delete_any W0.heap.size (splitC 32 s) (W0.alloc (.cells (((splitC 32 s).map bs).map Value.string).toArray 9)) (g + 1) hgt (blk_new W0 _) (by omega)
  rw [show (splitC 32 s).filter (fun x => !x.isEmpty) = wordsP s from rfl] at hdel
  clear hB0 BK0 hsp
  generalize W0.alloc (.cells (((splitC 32 s).map bs).map Value.string).toArray 9) = W1 at hB1 BK1 hdel ⊢
  generalize (splitC 32 s).length = n1 at *
  go_wp2_with fail
  refine hdel.mono ?_
  rintro e W2 ⟨rfl, hRd, hb2⟩
  have hB2 := Aside0.mk (hB1.out.trans (hb2.mono (by omega)))
  have BK2 := Aside0.mk ((hb2.block g (by omega)).trans BK1.out)
  clear hB1 BK1 hb2 hdel
  generalize wordsP s = p at *
  obtain ⟨z0, z1, z2, f0, f1, f2⟩ := cells_3 BK2.out
  by_cases h0 : p.length = 0
  · obtain rfl : o = none := by rw [← HO.out]; unfold tagW tagX; rw [if_pos (.inl h0)]
    have e0 : ((p.length : Int) == 0) = true := by rw [beq_iff_eq]; omega
    clear h0
    go_wp2
    refine bodyPost_ret (results_ct rfl _ _ g 110 #[.int .u8 0, .string ⟨#[]⟩, .slice none 0 0] (0, 0) _ rfl (blk3 BK2.out) Tryz.underlying110 rfl (by kernel_rfl)) rfl ?_
    exact ⟨rfl, below3 hB2.out hge⟩
  have e0 : ((p.length : Int) == 0) = false := by rw [beq_eq_false_iff_ne]; omega
  by_cases h2 : 2 < p.length
  · obtain rfl : o = none := by rw [← HO.out]; unfold tagW tagX; rw [if_pos (.inr h2)]
    have e2 : decide ((2 : Int) < (p.length : Int)) = true := by rw [decide_eq_true_eq]; omega
    have e3 : decide (2 < p.length) = true := by rw [decide_eq_true_eq]; omega
    clear h0 h2
    go_wp2
    refine bodyPost_ret (results_ct rfl _ _ g 110 #[.int .u8 0, .string ⟨#[]⟩, .slice none 0 0] (0, 0) _ rfl (blk3 BK2.out) Tryz.underlying110 rfl (by kernel_rfl)) rfl ?_
    exact ⟨rfl, below3 hB2.out hge⟩
  have e2 : decide ((2 : Int) < (p.length : Int)) = false := by rw [decide_eq_false_iff_not]; omega
  have e3 : decide (2 < p.length) = false := by rw [decide_eq_false_iff_not]; omega
  obtain ⟨b, off, hA, hc0⟩ := cellS hRd 0 (by omega)
  cases hA
  obtain ⟨b, off, hA, hc1⟩ := cellS hRd (p.length - 1) (by omega)
  cases hA
  have hl1 : (0 : Int) ≤ (p.length : Int) - 1 := by omega
  have hl2 : (p.length : Int) - 1 < (p.length : Int) := by omega
  have hl3 : 0 < p.length := by omega
  have hx0 : (p.getD (p.length - 1) []).length ≤ s.length := by
    have hlt : p.length - 1 < p.length := by omega
    have e : p.getD (p.length - 1) [] = p[p.length - 1] := by simp [List.getD, hlt]
    rw [e]; exact hwsz.2 _ (List.getElem_mem _)
  replace hc0 : W2.cell? ⟨W0.heap.size, 0, none⟩ = some (.string (bs (p.getD 0 []))) := hc0
  replace hc1 : W2.cell? ⟨W0.heap.size, p.length - 1, none⟩ = some (.string (bs (p.getD (p.length - 1) []))) := by rw [← Nat.zero_add (p.length - 1)]; simpa using hc1
  have HO2 : tagX p.length (p.getD 0 []) (p.getD (p.length - 1) []) = o := HO.out
  generalize p.getD 0 [] = x0 at *
  generalize p.getD (p.length - 1) [] = x1 at *
  have hn12 : p.length = 1 ∨ p.length = 2 := by omega
  clear hwsz hsz32 hRd HO h0 h2
  generalize p.length = n at *
  have hown := ownP_lt x0
  go_wp2_with fail
  refine (scan_own.calls 5 (bs x0) _ _ (own_f _)).mono ?_
  rintro e W3 ⟨rfl, ⟨q3, rfl⟩⟩
  have hbD := below_ahead' W2 q3
  have hB := Aside0.mk (below_step hB2.out hbD)
  have BK := Aside0.mk (blk_below BK2.out hbD)
  have HGD := Aside0.mk (HG.out.below hB.out)
  replace hc1 := pw_cell_below hbD hc1
  generalize W2.drewN q3 = W at *
  clear hB2 BK2 z0 z1 z2 f0 f1 f2 hbD HG hc0
  obtain ⟨z0, z1, z2, f0, f1, f2⟩ := cells_3 BK.out
  have HT : o = tagY n x0 x1 := by rw [← HO2, tagX, if_neg (by omega)]
  unfold tagY at HT
  clear HO2
  generalize ownP x0 = k at *
  by_cases k46 : k = 4 ∨ k = 6
  · rw [if_pos k46] at HT
    have hb : ((k : Int) == 4) = true ∨ (((k : Int) == 4) = false ∧ ((k : Int) == 6) = true) := by
      rcases k46 with rfl | rfl
      · exact .inl rfl
      · exact .inr ⟨rfl, rfl⟩
    clear k46
    rcases hn12 with rfl | rfl
    · obtain rfl := HT
      rcases hb with b1 | ⟨b1, b2⟩
      all_goals
        go_wp2
        refine bodyPost_ret (results_ct rfl _ _ g 110 #[.int .u8 k, .string ⟨#[]⟩, .slice none 0 0] (0, 0) _ rfl (blk3 BK.out) Tryz.underlying110 rfl (by kernel_rfl)) rfl ?_
        exact ⟨⟨none, 0, rfl, Kd.R_nil _ _ _ _ _⟩, below3 hB.out hge⟩
    · obtain rfl := HT
      rcases hb with b1 | ⟨b1, b2⟩
      all_goals
        go_wp2
        refine bodyPost_ret (results_ct rfl _ _ g 110 #[.int .u8 0, .string ⟨#[]⟩, .slice none 0 0] (0, 0) _ rfl (blk3 BK.out) Tryz.underlying110 rfl (by kernel_rfl)) rfl ?_
        exact ⟨rfl, below3 hB.out hge⟩
  rw [if_neg k46] at HT
  have n4 : ((k : Int) == 4) = false := by rw [beq_eq_false_iff_ne]; omega
  have n6 : ((k : Int) == 6) = false := by rw [beq_eq_false_iff_ne]; omega
  by_cases hbad : (k ≠ 2 ∧ n ≠ 2) ∨ (k = 2 ∧ n ≠ 1)
  · rw [if_pos hbad] at HT
    obtain rfl := HT
    have hb : (((k : Int) == 2) = false ∧ ((k : Int) != 2) = true ∧ n = 1) ∨ (k = 2 ∧ n = 2) := by
      rw [beq_eq_false_iff_ne, bne_iff_ne]; omega
    clear hbad k46 hn12
    rcases hb with ⟨b1, b2, rfl⟩ | ⟨rfl, rfl⟩
    all_goals
      go_wp2
      refine bodyPost_ret (results_ct rfl _ _ g 110 #[.int .u8 0, .string ⟨#[]⟩, .slice none 0 0] (0, 0) _ rfl (blk3 BK.out) Tryz.underlying110 rfl (by kernel_rfl)) rfl ?_
      exact ⟨rfl, below3 hB.out hge⟩
  rw [if_neg hbad] at HT
  have hb : (((k : Int) == 2) = false ∧ ((k : Int) != 2) = true ∧ n = 2) ∨ (k = 2 ∧ n = 1) := by
    rw [beq_eq_false_iff_ne, bne_iff_ne]; omega
  have hP := path_any x1 (by omega) W HGD.out
  unfold pathOf at HT
  have HT := Aside0.mk HT
  clear hbad k46 hn12
  generalize hpp : pathP (splitC 46 x1) = pp at *
  rcases hb with ⟨b1, b2, rfl⟩ | ⟨rfl, rfl⟩
  all_goals
    cases pp
    · have ho : o = none := HT.out
      obtain rfl := ho
      go_wp2_with fail
      refine hP.mono ?_
      rintro e W4 ⟨v, rfl, hv, hb4⟩
      have hB4 := Aside0.mk (below_step hB.out hb4)
      have BK4 := Aside0.mk (blk_below BK.out hb4)
      clear hB BK z0 z1 z2 f0 f1 f2 hb4
      obtain ⟨z0, z1, z2, f0, f1, f2⟩ := cells_3 BK4.out
      go_wp2
      refine bodyPost_ret (results_ct rfl _ _ g 110 #[.int .u8 0, .string ⟨#[]⟩, .slice none 0 0] (0, 0) _ rfl (blk3 BK4.out) Tryz.underlying110 rfl (by kernel_rfl)) rfl ?_
      exact ⟨rfl, below3 hB4.out hge⟩
    · have ho : o = some ⟨_, [], splitC 46 x1⟩ := HT.out
      obtain rfl := ho
      go_wp2_with fail
      refine hP.mono ?_
      rintro e W4 ⟨v, rfl, hv, hb4⟩
      obtain ⟨A, c, rfl, hR4⟩ := hv rfl
      have hB4 := Aside0.mk (below_step hB.out hb4)
      have BK4 := Aside0.mk (blk_below BK.out hb4)
      have HR4 := Aside0.mk (Kd.R_mono (Kd.R_lower hR4 hB.out.size) (fun k hk => Nat.le_trans hB.out.size hk))
      clear hB BK z0 z1 z2 f0 f1 f2 hb4 hR4
      obtain ⟨z0, z1, z2, f0, f1, f2⟩ := cells_3 BK4.out
      go_wp2
      refine bodyPost_ret (results_ct rfl _ _ g 110 #[.int .u8 _, .string ⟨#[]⟩, .slice A (splitC 46 x1).length c] (0, 0) _ rfl (blk3 BK4.out) Tryz.underlying110 rfl (by kernel_rfl)) rfl ?_
      exact ⟨⟨A, c, rfl, R_set3 HR4.out BK4.out⟩, below3 hB4.out hge⟩
end Go.Proofs.YthngelbaheankaaGreatDoor.Tpl
namespace Go.Proofs.YthngelbaheankaaGreatDoor.Tpl
open Go.RowKit Go.Proofs Go.Proofs.YthngelbaheankaaGreatDoor.PB Go.Proofs.YthngelbaheankaaGreatDoor.Short Go.Proofs.YthngelbaheankaaGreatDoorW.PrintWords Go.Proofs.YthngelbaheankaaGreatDoorW.PrintLast Go.Proofs.YthngelbaheankaaGreatDoorW.PrintMore Nodes
def strOf : Value → Nat | .string b => b.size | _ => 0
theorem cut_any (c : UInt8) (s : S) (hs : s.length ≤ 1048576) (w : World) (hG : Glob w) :
    Calls Tryz.prog 105 #[.string (bs s), .string ⟨#[c, c]⟩] w fun e w' => e = .returned (.tuple #[.string (bs (Lib.cut s [c, c]).1), .string (bs (Lib.cut s [c, c]).2.1), .bool (Lib.cut s [c, c]).2.2]) ∧ ∃ n, w' = w.drewN n := by
  obtain ⟨⟨m, hm⟩, _⟩ := hG
  exact Tryz.strings_Cut (bs s) ⟨#[c, c]⟩ m w (by rw [bs_size]; omega) hm
def ToksRet (o : Option (List Tok)) (e : Ending) (w' : World) (base : Nat) : Prop :=
  match o with
  | none => e = .returned (.tuple #[.slice none 0 0, .int .i64 7])
  | some l => ∃ v, e = .returned (.tuple #[v, .int .i64 0]) ∧ kT.R 110 w' base (fun k => base ≤ k) v (tokv l)
theorem txt_len (s : S) : (txtTok s).length ≤ 1 := by unfold txtTok; split <;> simp
theorem tok_M (w : World) (base : Nat) (t : S) : kT.M w base (fun _ => False) (Tok.of ⟨1, t, []⟩) [.int .u8 1, .string (bs t), .slice none 0 0] := k110_mkM w base _ (Tok.of ⟨1, t, []⟩) (Kd.R_nil _ _ _ _ _)
theorem tok_M7 {w : World} {base : Nat} {okp : Nat → Prop} {k : Nat} {t : S} {p : List S} {A : Option Addr} {c : Nat} (h : Kd.string.R 9 w base okp (.slice A p.length c) (p.map bs)) : kT.M w base okp (Tok.of ⟨k, t, p⟩) [.int .u8 k, .string (bs t), .slice A p.length c] := k110_mkM w base _ (Tok.of ⟨k, t, p⟩) h
theorem tk_bnd {a r x : Nat} (h : a + 2 * r ≤ 2048) (h0 : 0 < r) (hx : x ≤ 1) : (a + 1) * 48 ≤ 140737488355328 ∧ (a + x + 1) * 48 ≤ 140737488355328 := by omega
theorem tk_bnd2 {a r x rs r2 : Nat} (h : a + 2 * r ≤ 2048) (hx : x ≤ 1) (h1 : rs + 2 ≤ r) (h2 : r2 + 2 ≤ rs) : a + x + 1 + 2 * r2 ≤ 2048 := by omega
set_option maxHeartbeats 4000000 in
set_option maxRecDepth 100000 in
theorem tokensS_any (s : S) (hs : s.length ≤ 1024) (w : World) (hG : Glob w) :
    Calls Tryz.prog 62 #[.string (bs s)] w fun e w' => ToksRet (toksS (s.length + 1) s) e w' w.heap.size ∧ Below w.heap.size w w' := by
  obtain ⟨o, ho⟩ : ∃ o, toksS (s.length + 1) s = o := ⟨_, rfl⟩
  rw [ho]
  have HO := Aside0.mk ho
  have HG := Aside0.mk hG
  have hl0 : decide ((((bs s).size : Nat) : Int) > 1024) = false := by rw [decide_eq_false_iff_not, bs_size]; omega
  have hl1 : decide ((1024 : Int) < (((bs s).size : Nat) : Int)) = false := hl0
  have hl2 : decide (1024 < (bs s).size) = false := by rw [decide_eq_false_iff_not, bs_size]; omega
  clear ho hG
  go_enter Tryz.func62, Tryz.ntmps62
  go_wp2
  go_loopw [0, 4] (fun v0 v4 wr => ∃ (r : S) (acc : List Tok), v0 = .string (bs r) ∧ Aside0 (o = (toksS (r.length + 1) r).map (acc ++ ·)) ∧ Aside0 (acc.length + 2 * r.length ≤ 2048) ∧ Aside0 (kT.R 110 wr w.heap.size (fun k => w.heap.size ≤ k) v4 (tokv acc)) ∧ Aside0 (Below w.heap.size w wr))
    (fun v0 _ _ => strOf v0)
  case atStart => exact ⟨s, [], rfl, ⟨by rw [HO.out]; cases o <;> rfl⟩, ⟨by simp; omega⟩, ⟨Kd.R_nil _ _ _ _ _⟩, ⟨Below.refl _ _⟩⟩
  case round =>
    obtain ⟨r, acc, rfl, HE, HL, HR, HB⟩ := hrel
    by_cases hr : r = []
    · have e0 : (bs r).toList.isEmpty = true := by rw [bs_list, hr]; rfl
      have ho : o = some acc := by rw [HE.out, hr]; simp [toksS]
      subst ho
      clear hr hl0 hl1 hl2
      go_wp2
      go_ret2
      exact ⟨⟨_, rfl, HR.out⟩, HB.out⟩
    · have e0 : (bs r).toList.isEmpty = false := by rw [bs_list]; cases r with | nil => exact absurd rfl hr | cons => rfl
      have hr0 : 0 < r.length := by cases r with | nil => exact absurd rfl hr | cons => simp
      have hrl := HL.out
      have hE := HE.out
      rw [toksS, if_neg hr] at hE
      have hsz1 := cut_sizes r 123
      have hcut := fun W hW => cut_any 123 r (by omega) W hW
      obtain ⟨tx, rs, is, hc⟩ : ∃ tx rs is, Lib.cut r [123, 123] = (tx, rs, is) := ⟨_, _, _, rfl⟩
      rw [hc] at hE hsz1
      simp only [hc] at hcut
      simp only at hE hsz1
      have HE2 := Aside0.mk hE
      have HS1 := Aside0.mk hsz1
      have HC := Aside0.mk hcut
      clear hE hsz1 hcut hc hr hl0 hl1 hl2
      go_wp2_with fail
      refine (HC.out _ (HG.out.below HB.out)).mono ?_
      rintro e W0 ⟨rfl, ⟨q0, rfl⟩⟩
      have HB0 := Aside0.mk (pw_below_drewN HB.out q0)
      have HR0 := Aside0.mk (Kd.R_drewN HR.out q0)
      clear HC HR HB
      generalize wr.drewN q0 = W0 at HB0 HR0 ⊢
      have hap : ((tokv acc).length + 1) * 48 ≤ 140737488355328 := by rw [tokv_len]; exact (tk_bnd hrl hr0 (Nat.zero_le 1)).1
      have hap2 : ((tokv (acc ++ txtTok tx)).length + 1) * 48 ≤ 140737488355328 := by rw [tokv_len, List.length_append]; exact (tk_bnd hrl hr0 (txt_len tx)).2
      cases is with
      | false =>
        obtain rfl : o = some (acc ++ txtTok tx) := by have h := HE2.out; simpa using h
        clear HE2
        by_cases htx : tx = []
        · have e1 : (bs tx).toList.isEmpty = true := by rw [bs_list, htx]; rfl
          have HTX : Aside0 (acc ++ txtTok tx = acc) := ⟨by rw [htx]; simp [txtTok]⟩
          clear htx
          go_wp2
          go_ret2
          exact ⟨⟨_, rfl, by rw [HTX.out]; exact HR0.out⟩, HB0.out⟩
        · have e1 : (bs tx).toList.isEmpty = false := by rw [bs_list]; cases tx with | nil => exact absurd rfl htx | cons => rfl
          have HTX : Aside0 (tokv (acc ++ txtTok tx) = tokv acc ++ [Tok.of ⟨1, tx, []⟩]) := ⟨by unfold txtTok; rw [if_neg htx]; simp [tokv]⟩
          clear htx
          go_wp2_with (at_builtin; refine Kd.R_append kT w.heap.size rfl _ _ 103 110 _ 48 rfl Tryz.underlying103 info110 rfl (by decide) (by decide) u4 (tokv acc) (Tok.of ⟨1, tx, []⟩) [.int .u8 1, .string (bs tx), .slice none 0 0] (fun k => w.heap.size ≤ k) (fun _ => False) rfl rfl (tok_M _ _ tx) (fun _ h => h.elim) (fun k hk => Nat.le_trans HB0.out.size hk) HR0.out HB0.out HB0.out.size hap ?_; intro v5 W5 hR5 hB5 hg5 hat5)
          have HR5 := Aside0.mk hR5
          have HB5 := Aside0.mk hB5
          clear hR5 hB5
          go_ret2
          exact ⟨⟨_, rfl, by rw [HTX.out]; exact HR5.out⟩, HB5.out⟩
      | true =>
        have hrs := HS1.out.2.2 rfl
        have hrl2 : rs.length ≤ 1048575 := by omega
        have hE := HE2.out
        rw [if_neg (by simp)] at hE
        have hsz2 := cut_sizes rs 125
        have hcut := fun W hW => cut_any 125 rs (by omega) W hW
        obtain ⟨xn, rs2, en, hc⟩ : ∃ xn rs2 en, Lib.cut rs [125, 125] = (xn, rs2, en) := ⟨_, _, _, rfl⟩
        rw [hc] at hE hsz2
        simp only [hc] at hcut
        simp only at hE hsz2
        have HE3 := Aside0.mk hE
        have HS2 : Aside0 (xn.length ≤ 1048575) := ⟨by omega⟩
        have HC2 := Aside0.mk hcut
        have hbn : en = true → acc.length + (txtTok tx).length + 1 + 2 * rs2.length ≤ 2048 ∧ rs2.length < r.length := fun h => ⟨tk_bnd2 hrl (txt_len tx) hrs (hsz2.2.2 h), by have := hsz2.2.2 h; omega⟩
        have HBN := Aside0.mk hbn
        clear hE hsz2 hcut hc HE2 HS1 hrs hbn
        by_cases htx : tx = []
        · have e1 : (bs tx).toList.isEmpty = true := by rw [bs_list, htx]; rfl
          have HTX : Aside0 (acc ++ txtTok tx = acc) := ⟨by rw [htx]; simp [txtTok]⟩
          clear htx
          go_wp2_with fail
          have hR5 := HR0.out
          rw [← HTX.out] at hR5
          have hB5 := HB0.out
          generalize W0 = W5 at *
          generalize u4 = v5 at *
          have HR5 := Aside0.mk hR5
          have HB5 := Aside0.mk hB5
          clear hR5 hB5 HR0 HB0
          refine (HC2.out _ (HG.out.below HB5.out)).mono ?_
          rintro e W6 ⟨rfl, ⟨q6, rfl⟩⟩
          have HB6 := Aside0.mk (pw_below_drewN HB5.out q6)
          have HR6 := Aside0.mk (Kd.R_drewN HR5.out q6)
          clear HC2 HR5 HB5
          generalize W5.drewN q6 = W6 at HB6 HR6 ⊢
          cases en with
          | false =>
            obtain rfl : o = none := by have h := HE3.out; simpa using h
            go_wp2
            go_ret2
            exact ⟨rfl, HB6.out⟩
          | true =>
            have hbn := HBN.out rfl
            have hE := HE3.out
            simp only [Bool.true_eq_false, if_false] at hE
            have htag := tag_any xn (by have := HS2.out; omega) W6 (HG.out.below HB6.out)
            cases htg : tagP xn with
            | none =>
              rw [htg] at hE htag
              obtain rfl : o = none := hE
              clear htg
              go_wp2_with fail
              refine htag.mono ?_
              rintro e W7 ⟨rfl, hb7⟩
              have HB7 := Aside0.mk (below_step HB6.out hb7)
              clear hb7
              go_wp2
              go_ret2
              exact ⟨rfl, below_alloc HB7.out _⟩
            | some tk =>
              rw [htg] at hE htag
              simp only at hE
              have HE4 := Aside0.mk hE
              obtain ⟨tkk, tkt, tkp⟩ := tk
              clear hE htg
              go_wp2_with fail
              refine htag.mono ?_
              rintro e W7 ⟨⟨A7, c7, rfl, hR7⟩, hb7⟩
              have HB7 := Aside0.mk (below_step HB6.out hb7)
              have HR8 := Aside0.mk (Kd.R_below HR6.out hb7)
              have HLT : Aside0 (∀ k, W6.heap.size ≤ k → w.heap.size ≤ k ∧ some k ≠ v5.ownBlock) := ⟨fun k hk => ⟨Nat.le_trans HB6.out.size hk, fun e => by have := Kd.R_lt HR6.out k e.symm; omega⟩⟩
              have HR7 := Aside0.mk (Kd.R_lower hR7 HB6.out.size)
              clear hb7 hR7 HR6
              simp only at HR7
              go_upto_region 15 with (fail)
              have BK8 := Aside0.mk (blk_new W7 (.cells #[.int .u8 tkk, .string (bs tkt), .slice A7 tkp.length c7] 110))
              replace HR8 := Aside0.mk (Kd.R_alloc HR8.out (.cells #[.int .u8 tkk, .string (bs tkt), .slice A7 tkp.length c7] 110))
              replace HR7 := Aside0.mk (Kd.R_alloc HR7.out (.cells #[.int .u8 tkk, .string (bs tkt), .slice A7 tkp.length c7] 110))
              replace HB7 := Aside0.mk (below_alloc HB7.out (.cells #[.int .u8 tkk, .string (bs tkt), .slice A7 tkp.length c7] 110))
              obtain ⟨g7, hg7⟩ : ∃ g7, W7.heap.size = g7 := ⟨_, rfl⟩
              rw [hg7] at BK8 ⊢
              clear hg7
              generalize W7.alloc (.cells #[.int .u8 tkk, .string (bs tkt), .slice A7 tkp.length c7] 110) = W8 at BK8 HR8 HR7 HB7 ⊢
              obtain ⟨z0, z1, z2, f0, f1, f2⟩ := cells_3 BK8.out
              go_wp2_with (at_builtin; refine Kd.R_append kT w.heap.size rfl _ _ 103 110 _ 48 rfl Tryz.underlying103 info110 rfl (by decide) (by decide) v5 (tokv (acc ++ txtTok tx)) (Tok.of ⟨tkk, tkt, tkp⟩) [.int .u8 tkk, .string (bs tkt), .slice A7 tkp.length c7] (fun k => w.heap.size ≤ k) (fun k => W6.heap.size ≤ k) rfl rfl (tok_M7 HR7.out) HLT.out (fun k hk => Nat.le_trans HB7.out.size hk) HR8.out HB7.out HB7.out.size hap2 ?_; intro v9 W9 hR9 hB9 hg9 hat9)
              go_roundw
              case rel => exact ⟨rs2, acc ++ txtTok tx ++ [⟨tkk, tkt, tkp⟩], rfl, ⟨by rw [HE4.out, toksS_fuel r.length (rs2.length + 1) rs2 hbn.2 (Nat.lt_succ_self _)]; cases toksS (rs2.length + 1) rs2 <;> simp⟩, ⟨by simp only [List.length_append, List.length_singleton]; exact hbn.1⟩, ⟨by have := hR9; simpa [tokv] using this⟩, ⟨hB9⟩⟩
              case measure => simp only [strOf, bs_size]; exact hbn.2
        · have e1 : (bs tx).toList.isEmpty = false := by rw [bs_list]; cases tx with | nil => exact absurd rfl htx | cons => rfl
          have HTX : Aside0 (tokv (acc ++ txtTok tx) = tokv acc ++ [Tok.of ⟨1, tx, []⟩]) := ⟨by unfold txtTok; rw [if_neg htx]; simp [tokv]⟩
          clear htx
          go_wp2_with (at_builtin; refine Kd.R_append kT w.heap.size rfl _ _ 103 110 _ 48 rfl Tryz.underlying103 info110 rfl (by decide) (by decide) u4 (tokv acc) (Tok.of ⟨1, tx, []⟩) [.int .u8 1, .string (bs tx), .slice none 0 0] (fun k => w.heap.size ≤ k) (fun _ => False) rfl rfl (tok_M _ _ tx) (fun _ h => h.elim) (fun k hk => Nat.le_trans HB0.out.size hk) HR0.out HB0.out HB0.out.size hap ?_; intro v5 W5 hR5 hB5 hg5 hat5)
          rw [← HTX.out] at hR5
          have HR5 := Aside0.mk hR5
          have HB5 := Aside0.mk hB5
          clear hR5 hB5 HR0 HB0
          refine (HC2.out _ (HG.out.below HB5.out)).mono ?_
          rintro e W6 ⟨rfl, ⟨q6, rfl⟩⟩
          have HB6 := Aside0.mk (pw_below_drewN HB5.out q6)
          have HR6 := Aside0.mk (Kd.R_drewN HR5.out q6)
          clear HC2 HR5 HB5
          generalize W5.drewN q6 = W6 at HB6 HR6 ⊢
          cases en with
          | false =>
            obtain rfl : o = none := by have h := HE3.out; simpa using h
            go_wp2
            go_ret2
            exact ⟨rfl, HB6.out⟩
          | true =>
            have hbn := HBN.out rfl
            have hE := HE3.out
            simp only [Bool.true_eq_false, if_false] at hE
            have htag := tag_any xn (by have := HS2.out; omega) W6 (HG.out.below HB6.out)
            cases htg : tagP xn with
            | none =>
              rw [htg] at hE htag
              obtain rfl : o = none := hE
              clear htg
              go_wp2_with fail
              refine htag.mono ?_
              rintro e W7 ⟨rfl, hb7⟩
              have HB7 := Aside0.mk (below_step HB6.out hb7)
              clear hb7
              go_wp2
              go_ret2
              exact ⟨rfl, below_alloc HB7.out _⟩
            | some tk =>
              rw [htg] at hE htag
              simp only at hE
              have HE4 := Aside0.mk hE
              obtain ⟨tkk, tkt, tkp⟩ := tk
              clear hE htg
              go_wp2_with fail
              refine htag.mono ?_
              rintro e W7 ⟨⟨A7, c7, rfl, hR7⟩, hb7⟩
              have HB7 := Aside0.mk (below_step HB6.out hb7)
              have HR8 := Aside0.mk (Kd.R_below HR6.out hb7)
              have HLT : Aside0 (∀ k, W6.heap.size ≤ k → w.heap.size ≤ k ∧ some k ≠ v5.ownBlock) := ⟨fun k hk => ⟨Nat.le_trans HB6.out.size hk, fun e => by have := Kd.R_lt HR6.out k e.symm; omega⟩⟩
              have HR7 := Aside0.mk (Kd.R_lower hR7 HB6.out.size)
              clear hb7 hR7 HR6
              simp only at HR7
              go_upto_region 15 with (fail)
              have BK8 := Aside0.mk (blk_new W7 (.cells #[.int .u8 tkk, .string (bs tkt), .slice A7 tkp.length c7] 110))
              replace HR8 := Aside0.mk (Kd.R_alloc HR8.out (.cells #[.int .u8 tkk, .string (bs tkt), .slice A7 tkp.length c7] 110))
              replace HR7 := Aside0.mk (Kd.R_alloc HR7.out (.cells #[.int .u8 tkk, .string (bs tkt), .slice A7 tkp.length c7] 110))
              replace HB7 := Aside0.mk (below_alloc HB7.out (.cells #[.int .u8 tkk, .string (bs tkt), .slice A7 tkp.length c7] 110))
              obtain ⟨g7, hg7⟩ : ∃ g7, W7.heap.size = g7 := ⟨_, rfl⟩
              rw [hg7] at BK8 ⊢
              clear hg7
              generalize W7.alloc (.cells #[.int .u8 tkk, .string (bs tkt), .slice A7 tkp.length c7] 110) = W8 at BK8 HR8 HR7 HB7 ⊢
              obtain ⟨z0, z1, z2, f0, f1, f2⟩ := cells_3 BK8.out
              go_wp2_with (at_builtin; refine Kd.R_append kT w.heap.size rfl _ _ 103 110 _ 48 rfl Tryz.underlying103 info110 rfl (by decide) (by decide) v5 (tokv (acc ++ txtTok tx)) (Tok.of ⟨tkk, tkt, tkp⟩) [.int .u8 tkk, .string (bs tkt), .slice A7 tkp.length c7] (fun k => w.heap.size ≤ k) (fun k => W6.heap.size ≤ k) rfl rfl (tok_M7 HR7.out) HLT.out (fun k hk => Nat.le_trans HB7.out.size hk) HR8.out HB7.out HB7.out.size hap2 ?_; intro v9 W9 hR9 hB9 hg9 hat9)
              go_roundw
              case rel => exact ⟨rs2, acc ++ txtTok tx ++ [⟨tkk, tkt, tkp⟩], rfl, ⟨by rw [HE4.out, toksS_fuel r.length (rs2.length + 1) rs2 hbn.2 (Nat.lt_succ_self _)]; cases toksS (rs2.length + 1) rs2 <;> simp⟩, ⟨by simp only [List.length_append, List.length_singleton]; exact hbn.1⟩, ⟨by have := hR9; simpa [tokv] using this⟩, ⟨hB9⟩⟩
              case measure => simp only [strOf, bs_size]; exact hbn.2
end Go.Proofs.YthngelbaheankaaGreatDoor.Tpl
namespace Go.Proofs.YthngelbaheankaaGreatDoor.Tpl
open Go.RowKit Go.Proofs Go.Proofs.YthngelbaheankaaGreatDoor.PB Go.Proofs.YthngelbaheankaaGreatDoor.Short Go.Proofs.YthngelbaheankaaGreatDoorW.PrintWords Go.Proofs.YthngelbaheankaaGreatDoorW.PrintLast Go.Proofs.YthngelbaheankaaGreatDoorW.PrintMore Nodes
theorem KeepP.set {ok : Nat → Prop} {w w1 : World} (h : KeepP ok w w1) {p : Addr} (hp : ok p.block ∨ w.heap.size ≤ p.block) (u : Value) : KeepP ok w (w1.setCell p u) := by
  refine ⟨h.os, h.tape, h.output, by have := h.size; simpa [World.setCell] using this, fun i hi hn => ?_⟩
  refine (Below.heap_setCell w1 p u i ?_).trans (h.blk i hi hn)
  rintro rfl
  rcases hp with hp | hp
  · exact hn hp
  · omega
theorem KeepP.alloc {ok : Nat → Prop} {w w1 : World} (h : KeepP ok w w1) (o : Obj) : KeepP ok w (w1.alloc o) := h.trans (KeepP.of_below (below_alloc (Below.refl _ _) o))
theorem below_step' {w0 W W1 : World} (h : Below w0.heap.size w0 W) (hb : Below W.heap.size W W1) : Below w0.heap.size w0 W1 := below_step h hb
theorem RdT.tail {w : World} {A : Option Addr} {c : Nat} {t : Tok} {r : List Tok} (h : RdT w A c (t :: r)) : RdT w (if c = 1 then A else A.map (·.add 3)) (c - 1) r := by
  have hl := h.2
  simp only [List.length_cons] at hl
  refine ⟨?_, by omega⟩
  have h1 := h.1
  refine ⟨by simp [tokv], by have := h1.2.1; simp only [List.length_cons] at this; omega, fun h0 => ?_⟩
  obtain ⟨ad, e, hc⟩ := h1.2.2 (by simp)
  subst e
  rw [if_neg (by omega)]
  refine ⟨ad.add 3, rfl, fun i x hx => ?_⟩
  obtain ⟨cs, g1, g2, g3⟩ := hc (i + 1) x (by simpa [tokv] using hx)
  refine ⟨cs, g1, g2, fun j v hv => ?_⟩
  have := g3 j v hv
  rw [← this]
  congr 1
  rw [Addr.add_add]
  congr 1
  have : kT.sz = 3 := rfl
  rw [this]; omega
def PS (w0 W : World) (g : Nat) (l : List Tok) : Prop := ∃ A c, W.heap[g]? = some (.cells #[.slice A l.length c] 176 (0, 0)) ∧ w0.heap.size ≤ g ∧ RdT w0 A c l ∧ Below w0.heap.size w0 W
theorem is_any (w0 W : World) (g : Nat) (l : List Tok) (k : Nat) (hk : 0 < k) (h : PS w0 W g l) : Calls Tryz.prog 198 #[.pointer (some ⟨g, 0, none⟩), .int .u8 k] W fun e w' => e = .returned (.bool (headK l == k)) ∧ W = w' := by
  obtain ⟨A, c, hg, hge, hR, hB⟩ := h
  have z0 := (blk_cell hg 0).trans rfl
  have f0 := blk_frozen hg 0
  cases l with
  | nil =>
    have e0 : (headK [] == k) = false := by rw [beq_eq_false_iff_ne]; show (0 : Nat) ≠ k; omega
    rw [e0]
    clear hg hR hB
    simp only [List.length_nil] at z0
    go_enter Tryz.func198, Tryz.ntmps198
    go_wp2
    go_ret
    exact ⟨rfl, rfl⟩
  | cons t r =>
    have hd : headK (t :: r) = t.k := rfl
    obtain ⟨ad, A2, c2, rfl, y0, y1, y2, i2, l2⟩ := hR.at (i := 0) (x := t) rfl
    replace y0 := (hB.cell (World.block_lt_of_cell? _ _ y0)).trans y0
    rw [hd]
    have e0 : ((t.k : Int) == (k : Int)) = (t.k == k) := beqI _ _
    generalize t.k = tk at *
    have hln : 0 < (t :: r).length := by simp
    have hli : (0 : Int) < (((t :: r).length : Nat) : Int) := by simp
    rw [Nat.zero_mul, Addr.add_zero'] at y0
    clear hg hR hB hd y1 y2 i2 l2
    generalize (t :: r).length = n at *
    generalize (tk == k) = q at *
    go_enter Tryz.func198, Tryz.ntmps198
    go_wp2
    go_ret
    exact ⟨by simp, rfl⟩
set_option maxHeartbeats 1000000 in
set_option maxRecDepth 100000 in
theorem take_any (w0 W : World) (g : Nat) (t : Tok) (r : List Tok) (h : PS w0 W g (t :: r)) : Calls Tryz.prog 199 #[.pointer (some ⟨g, 0, none⟩)] W fun e w' => ∃ A2 c2, e = .returned (.agg #[.int .u8 t.k, .string (bs t.t), .slice A2 t.p.length c2]) ∧ Kd.string.C w0 A2 t.p.length (t.p.map bs) ∧ t.p.length ≤ c2 ∧ PS w0 w' g r ∧ KeepP (fun k => k = g) W w' := by
  obtain ⟨A, c, hg, hge, hR, hB⟩ := h
  obtain ⟨i0, hi, hz0, hz1, hz2⟩ := info_parts info110
  have hcut := cut_from (P := Tryz.prog) 103 110 .i64 Tryz.underlying103 hi 3 hz1 A (t :: r).length c 1 (by omega) (by simp; omega)
  have hT := hR.tail
  obtain ⟨X, hX⟩ : ∃ X, (if c = 1 then A else A.map (·.add 3)) = X := ⟨_, rfl⟩
  rw [hX] at hT
  have hX' : (if c = (1 : Int).toNat then A else A.map (·.add ((1 : Int).toNat * 3))) = X := hX
  rw [hX'] at hcut
  have hcut' : ∀ W : World, (Instr.slice 103 (.slice A (t :: r).length c) (some (.int .i64 1)) none none).run Tryz.prog W = .ok (.slice X r.length (c - 1)) W := hcut
  clear hcut hX hX'
  obtain ⟨ad, A2, c2, rfl, y0, y1, y2, i2, l2⟩ := hR.at (i := 0) (x := t) rfl
  replace y0 := (hB.cell (World.block_lt_of_cell? _ _ y0)).trans y0
  replace y1 := (hB.cell (World.block_lt_of_cell? _ _ y1)).trans y1
  replace y2 := (hB.cell (World.block_lt_of_cell? _ _ y2)).trans y2
  rw [Nat.zero_mul, Addr.add_zero'] at y0 y1 y2
  have hli : (0 : Int) < (((t :: r).length : Nat) : Int) := by simp
  have hln : 0 < (t :: r).length := by simp
  generalize (t :: r).length = n at *
  have hgW : g < W.heap.size := blk_lt hg
  have HG := Aside0.mk hg
  have HB := Aside0.mk hB
  have HT := Aside0.mk hT
  obtain ⟨k, s, p⟩ := t
  simp only at *
  clear hR hi hz0 hz1 hz2 hg hB hT
  go_enter Tryz.func199, Tryz.ntmps199
  go_upto_region 1 with (fail)
  have hb1 := below_alloc (Below.refl W.heap.size W) (.cells #[.int .u8 0, .string ⟨#[]⟩, .slice none 0 0] 110)
  have BK1 := blk_new W (.cells #[.int .u8 0, .string ⟨#[]⟩, .slice none 0 0] 110)
  replace y0 := pw_cell_below hb1 y0
  replace y1 := pw_cell_below hb1 y1
  replace y2 := pw_cell_below hb1 y2
  have HG1 := blk_below HG.out hb1
  have hs1 : (W.alloc (.cells #[.int .u8 0, .string ⟨#[]⟩, .slice none 0 0] 110)).heap.size = W.heap.size + 1 := by simp
  have HK1 : KeepP (fun k => k = g) W (W.alloc (.cells #[.int .u8 0, .string ⟨#[]⟩, .slice none 0 0] 110)) := KeepP.of_below hb1
  have hB1 := below_step' HB.out hb1
  obtain ⟨g1, hg1⟩ : ∃ g1, W.heap.size = g1 := ⟨_, rfl⟩
  rw [hg1] at BK1 hs1 hgW ⊢
  generalize W.alloc (.cells #[.int .u8 0, .string ⟨#[]⟩, .slice none 0 0] 110) = W1 at *
  have z0 : W1.cell? ⟨g, 0, none⟩ = some (.slice (some ad) n c) := (blk_cell HG1 0).trans rfl
  have f0 := blk_frozen HG1 0
  have HG1' := Aside0.mk HG1
  have BK1' := Aside0.mk BK1
  have HK1' := Aside0.mk HK1
  have HB1' := Aside0.mk hB1
  have hne : g1 ≠ g := by omega
  have hgs := hg1
  clear HG1 BK1 hb1 HK1 hB1 hg1
  have Hgs := Aside0.mk hgs
  clear hgs
  go_upto_region 2 with (fail)
  have hb2 := below_alloc (Below.refl W1.heap.size W1) (.cells #[.int .u8 k, .string (bs s), .slice A2 p.length c2] 110)
  have BK2 := blk_new W1 (.cells #[.int .u8 k, .string (bs s), .slice A2 p.length c2] 110)
  rw [hs1] at BK2
  replace HG1' := Aside0.mk (blk_below HG1'.out hb2)
  replace BK1' := Aside0.mk (blk_below BK1'.out hb2)
  replace HK1' := Aside0.mk (HK1'.out.trans (KeepP.of_below hb2))
  replace HB1' := Aside0.mk (below_step HB1'.out hb2)
  clear z0 f0 hb2 y0 y1 y2
  generalize W1.alloc (.cells #[.int .u8 k, .string (bs s), .slice A2 p.length c2] 110) = W2 at *
  have z0 : W2.cell? ⟨g, 0, none⟩ = some (.slice (some ad) n c) := (blk_cell HG1'.out 0).trans rfl
  have f0 := blk_frozen HG1'.out 0
  obtain ⟨x0, x1, x2, q0, q1, q2⟩ := cells_3 BK1'.out
  obtain ⟨m0, m1, m2, n0, n1, n2⟩ := cells_3 BK2
  have hne2 : g1 + 1 ≠ g := by omega
  have hne3 : g ≠ g1 := by omega
  have BK2' := Aside0.mk BK2
  clear BK2
  go_wp2
  refine bodyPost_ret (results_cell_row rfl _ _ g1 110 #[.int .u8 k, .string (bs s), .slice A2 p.length c2] (0, 0) _ rfl (blk3 (blk_far BK1'.out (p := ⟨g, 0, none⟩) hne _)) Tryz.underlying110 rfl (by kernel_rfl)) rfl ?_
  refine ⟨A2, c2, rfl, i2, l2, ⟨X, c - 1, ?_, hge, HT.out, ?_⟩, ?_⟩
  · exact blk_far (blk_far (blk_far (blk_put HG1'.out 0 _ rfl) (p := ⟨g1, 0, none⟩) hne3 _) (p := ⟨g1, 1, none⟩) hne3 _) (p := ⟨g1, 2, none⟩) hne3 _
  · have hle : w0.heap.size ≤ g1 := by omega
    exact below3 (below_set HB1'.out hge) hle
  · have hle : W.heap.size ≤ g1 := Nat.le_of_eq Hgs.out
    exact KeepP.set (KeepP.set (KeepP.set (KeepP.set HK1'.out (.inl rfl) _) (.inr hle) _) (.inr hle) _) (.inr hle) _
end Go.Proofs.YthngelbaheankaaGreatDoor.Tpl
namespace Go.Proofs.YthngelbaheankaaGreatDoor.Tpl
open Go.RowKit Go.Proofs Go.Extern.Stop Go.Stop Go.Extern Go.Proofs.YthngelbaheankaaGreatDoor.PB Go.Proofs.YthngelbaheankaaGreatDoor.Short Go.Proofs.YthngelbaheankaaGreatDoorW.PrintWords Go.Proofs.YthngelbaheankaaGreatDoorW.PrintLast Go.Proofs.YthngelbaheankaaGreatDoorW.PrintMore Nodes
abbrev errv (a : Addr) : Value := .iface 305 (.pointer (some a))
theorem isTypeOf (v : Value) (w : World) : (Extern.ReflectliteType.typeOf #[.iface 305 v]).run Tryz.prog w = .ok (.iface 211 (.agg #[.pointer (some ⟨11, 305, none⟩)])) w := by kernel_rfl
theorem isComparable (w : World) : (callFunc 275 #[.agg #[.pointer (some ⟨11, 305, none⟩)]]).run Tryz.prog w = .ok (.value (.bool true)) w := by
  have h32 := @run_callFunc_extern Tryz.prog 275 _ (Extern.ReflectliteType.method fun t => do Rtype.noPackHeld "Comparable" t; pure (.bool (← typeInfo t).comparable)) Tryz.func275 (by kernel_rfl) (by kernel_rfl) (by kernel_rfl) (by kernel_rfl)
  have e : ((Extern.ReflectliteType.method fun t => do Rtype.noPackHeld "Comparable" t; pure (.bool (← typeInfo t).comparable)) #[.agg #[.pointer (some ⟨11, 305, none⟩)]]).run Tryz.prog w = .ok (.bool true) w := by kernel_rfl
  rw [h32, e]; rfl
theorem isMethodComparable (v : Value) (w : World) : (Go.method 434 211 v "Comparable").run Tryz.prog w = .ok (275, v) w := by kernel_rfl
theorem isComp : (Tryz.prog.info? 305).map (·.comparable) = some true := by kernel_rfl
theorem isSize : (Tryz.prog.info? 323).map (·.size) = some 1 := by kernel_rfl
set_option maxRecDepth 100000 in
/-- errors.Is(x, x), x a pointer to an errors.errorString. -/
theorem is_same (a : Addr) (w : World) :
    Calls Tryz.prog 75 #[errv a, errv a] w fun e w' => e = .returned (.bool true) ∧ w' = w := by
  unfold errv
  obtain ⟨i, hi, hcmp⟩ := Option.map_eq_some_iff.1 isComp
  obtain ⟨j, hj, hjs⟩ := Option.map_eq_some_iff.1 isSize
  have h8 := @run_callFunc_extern Tryz.prog 126 _ Extern.ReflectliteType.typeOf Tryz.func126 (by kernel_rfl) (by kernel_rfl) (by kernel_rfl) (by kernel_rfl)
  have tT := isTypeOf
  have cT := isComparable
  have mR := isMethodComparable
  have heq := run_eql_iface_ptr_same (P := Tryz.prog) w a Tryz.underlying80 Tryz.underlying305 hi hcmp hj
  go_enter Tryz.func75, Tryz.ntmps75
  go_wp2
  refine wp_loop_rounds 1 ?_
  rw [rounds_succ]
  go_wp2
  go_ret
  exact ⟨rfl, rfl⟩
set_option maxRecDepth 100000 in
/-- errors.Is(nil, x). -/
theorem is_nil (b : Addr) (w : World) :
    Calls Tryz.prog 75 #[.nilIface, errv b] w fun e w' => e = .returned (.bool false) ∧ w' = w := by
  unfold errv
  have hn := run_eql_iface_nil_left (P := Tryz.prog) w 305 (.pointer (some b)) Tryz.underlying80
  go_enter Tryz.func75, Tryz.ntmps75
  go_wp2
  go_ret
  exact ⟨rfl, rfl⟩
end Go.Proofs.YthngelbaheankaaGreatDoor.Tpl
namespace Go.Proofs.YthngelbaheankaaGreatDoor.Tpl
open Go.RowKit Go.Proofs Go.Extern.Stop Go.Stop Go.Extern Go.Proofs.YthngelbaheankaaGreatDoor.PB Go.Proofs.YthngelbaheankaaGreatDoor.Short Go.Proofs.YthngelbaheankaaGreatDoorW.PrintWords Go.Proofs.YthngelbaheankaaGreatDoorW.PrintLast Go.Proofs.YthngelbaheankaaGreatDoorW.PrintMore
theorem as_nil (t : Value) (w : World) :
    Calls Tryz.prog 50 #[.nilIface, t] w fun e w' => e = .returned (.bool false) ∧ w' = w := by
  go_enter Tryz.func50, Tryz.ntmps50
  go_wp2
  go_ret
  exact ⟨rfl, rfl⟩
def GTyp (w : World) : Prop := w.cell? ⟨1, 0, none⟩ = some (.iface 211 (.agg #[.pointer (some ⟨11, 80, none⟩)]))
theorem GTyp.below {w w' : World} (h : GTyp w) (hb : Below w.heap.size w w') : GTyp w' := pw_cell_below hb h
end Go.Proofs.YthngelbaheankaaGreatDoor.Tpl
namespace Go.Proofs.YthngelbaheankaaGreatDoor.Tpl
open Go.RowKit Go.Proofs Go.Extern.Stop Go.Stop Go.Extern Go.Proofs.YthngelbaheankaaGreatDoor.PB Go.Proofs.YthngelbaheankaaGreatDoor.Short Go.Proofs.YthngelbaheankaaGreatDoorW.PrintWords Go.Proofs.YthngelbaheankaaGreatDoorW.PrintLast Go.Proofs.YthngelbaheankaaGreatDoorW.PrintMore
theorem fa_valueOf27 (t : Addr) (w : World) : (ReflectliteValue.unpack (.iface 94 (.pointer (some t)))).run Tryz.prog w
    = .ok (.agg #[.pointer (some ⟨11, 94, none⟩), .pointer (some ⟨w.heap.size, 0, none⟩), .int .u64 150]) (w.alloc (.cells #[.pointer (some t)] 94)) := by kernel_rfl
theorem fa_type27 (a : Addr) (w : World) : (ReflectliteValue.methodAny (ReflectliteValue.valueError "reflectlite.Value.Type" 0) (fun t _ _ _ => ReflectliteType.toType t) #[.agg #[.pointer (some ⟨11, 94, none⟩), .pointer (some a), .int .u64 150]]).run Tryz.prog w
    = .ok (.iface 211 (.agg #[.pointer (some ⟨11, 94, none⟩)])) w := by kernel_rfl
theorem fa_methodKind (h : Value) (w : World) : (Go.method 434 211 (.agg #[h]) "Kind").run Tryz.prog w = .ok (261, h) w := by kernel_rfl
theorem fa_kind27 (w : World) : ((ReflectliteType.abiMethod fun t => (fun a : Nat => Value.int IntKind.u8 (a : Int)) <$> Rtype.kind t) #[.pointer (some ⟨11, 94, none⟩)]).run Tryz.prog w = .ok (.int .u8 22) w := by kernel_rfl
theorem fa_kind25 (w : World) : ((ReflectliteType.abiMethod fun t => (fun a : Nat => Value.int IntKind.u8 (a : Int)) <$> Rtype.kind t) #[.pointer (some ⟨11, 91, none⟩)]).run Tryz.prog w = .ok (.int .u8 22) w := by kernel_rfl
theorem fa_rlm (z : Sem Value) (f : TypeId → Addr → Nat → Nat → Sem Value) (v : Value) :
    ReflectliteValue.method z f #[v] = (do match ← ReflectliteValue.parts v with | none => z | some (t, a, fl) => f t a fl (fl % 32)) := rfl
theorem fa_parts27 (a : Addr) (w : World) : (ReflectliteValue.parts (.agg #[.pointer (some ⟨11, 94, none⟩), .pointer (some a), .int .u64 150])).run Tryz.prog w = .ok (some (94, a, 150)) w := by kernel_rfl
theorem fa_isNil27 (a p : Addr) (W : World) (ha : W.cell? a = some (.pointer (some p))) :
    (ReflectliteValue.method (ReflectliteValue.valueError "reflectlite.Value.IsNil" 0) ReflectliteValue.isNil #[.agg #[.pointer (some ⟨11, 94, none⟩), .pointer (some a), .int .u64 150]]).run Tryz.prog W = .ok (.bool false) W := by
  rw [fa_rlm]
  simp only [Sem.run_bind, fa_parts27, Result.andThen]
  simp [ReflectliteValue.isNil, loadVar, isAgg, underlying, Tryz.underlying94, ha, Result.andThen]
theorem fa_methodElem (h : Value) (w : World) : (Go.method 434 211 (.agg #[h]) "Elem").run Tryz.prog w = .ok (276, .agg #[h]) w := by kernel_rfl
theorem fa_methodImplements (h : Value) (w : World) : (Go.method 434 211 (.agg #[h]) "Implements").run Tryz.prog w = .ok (277, .agg #[h]) w := by kernel_rfl
theorem fa_methodAssignableTo (h : Value) (w : World) : (Go.method 434 211 (.agg #[h]) "AssignableTo").run Tryz.prog w = .ok (274, .agg #[h]) w := by kernel_rfl
theorem fa_elem27 (w : World) : (ReflectliteType.method ReflectliteType.elem #[.agg #[.pointer (some ⟨11, 94, none⟩)]]).run Tryz.prog w = .ok (.iface 211 (.agg #[.pointer (some ⟨11, 91, none⟩)])) w := by kernel_rfl
theorem fa_implements25 (w : World) : (ReflectliteType.relation "Implements" ReflectliteType.implements_ #[.agg #[.pointer (some ⟨11, 91, none⟩)], .iface 211 (.agg #[.pointer (some ⟨11, 80, none⟩)])]).run Tryz.prog w = .ok (.bool true) w := by kernel_rfl
theorem fa_typeOf25 (v : Value) (w : World) : (ReflectliteType.typeOf #[.iface 91 v]).run Tryz.prog w = .ok (.iface 211 (.agg #[.pointer (some ⟨11, 91, none⟩)])) w := by kernel_rfl
theorem fa_assignable25 (w : World) : (ReflectliteType.relation "AssignableTo" ReflectliteType.assignableTo #[.agg #[.pointer (some ⟨11, 91, none⟩)], .iface 211 (.agg #[.pointer (some ⟨11, 91, none⟩)])]).run Tryz.prog w = .ok (.bool true) w := by kernel_rfl
theorem fa_valueOf25 (e : Addr) (w : World) : (ReflectliteValue.unpack (.iface 91 (.pointer (some e)))).run Tryz.prog w
    = .ok (.agg #[.pointer (some ⟨11, 91, none⟩), .pointer (some ⟨w.heap.size, 0, none⟩), .int .u64 150]) (w.alloc (.cells #[.pointer (some e)] 91)) := by kernel_rfl
theorem fa_elemOf27 (w : World) : (Rtype.elem? 94).run Tryz.prog w = .ok (some 91) w := by kernel_rfl
theorem fa_mk25 (p : Addr) (w : World) : (ReflectliteValue.mk 91 p ReflectliteValue.flagAddr).run Tryz.prog w = .ok (.agg #[.pointer (some ⟨11, 91, none⟩), .pointer (some p), .int .u64 406]) w := by kernel_rfl
theorem fa_elemV27 (a p : Addr) (W : World) (ha : W.cell? a = some (.pointer (some p))) :
    (ReflectliteValue.method (ReflectliteValue.valueError "reflectlite.Value.Elem" 0) ReflectliteValue.elem #[.agg #[.pointer (some ⟨11, 94, none⟩), .pointer (some a), .int .u64 150]]).run Tryz.prog W
      = .ok (.agg #[.pointer (some ⟨11, 91, none⟩), .pointer (some p), .int .u64 406]) W := by
  rw [fa_rlm]
  simp only [Sem.run_bind, fa_parts27, Result.andThen]
  simp [ReflectliteValue.elem, loadVar, isAgg, underlying, Tryz.underlying94, ha, Result.andThen, fa_elemOf27, fa_mk25]
theorem fa_rls (v x : Value) : ReflectliteValue.set #[v, x] = (do
    let (some (dst, a, fl), some (src, b, _)) := (← ReflectliteValue.parts v, ← ReflectliteValue.parts x)
      | unsupported (.noEntry "extern/(internal/reflectlite.Value).Set.zeroValue")
    if fl / ReflectliteValue.flagAddr % 2 == 0 then unsupported (.noEntry "extern/(internal/reflectlite.Value).Set.unaddressable")
    let val ← loadVar src b
    if ← Rtype.directlyAssignable dst src then storeVar dst a val
    else if ← Rtype.implements dst src then
      if (← Rtype.kind src) == 20 then
        match val with
        | .nilIface => unsupported (.noEntry "extern/reflectlite: a nil value of one interface type handed on as a value of another")
        | _ => storeVar dst a val
      else storeVar dst a (.iface src val)
    else panicString ("reflectlite.Set: value of type " ++ (← Rtype.spelt src) ++ " is not assignable to type " ++ (← Rtype.spelt dst))
    pure (.tuple #[])) := rfl
theorem fa_parts25a (a : Addr) (w : World) : (ReflectliteValue.parts (.agg #[.pointer (some ⟨11, 91, none⟩), .pointer (some a), .int .u64 406])).run Tryz.prog w = .ok (some (91, a, 406)) w := by kernel_rfl
theorem fa_parts25 (a : Addr) (w : World) : (ReflectliteValue.parts (.agg #[.pointer (some ⟨11, 91, none⟩), .pointer (some a), .int .u64 150])).run Tryz.prog w = .ok (some (91, a, 150)) w := by kernel_rfl
theorem fa_direct25 (w : World) : (Rtype.directlyAssignable 91 91).run Tryz.prog w = .ok true w := by kernel_rfl
theorem fa_set25 (ta b e : Addr) (old : Value) (W : World) (hb : W.cell? b = some (.pointer (some e))) (ht : W.cell? ta = some old) (hf : W.frozen? ta = false) :
    (ReflectliteValue.set #[.agg #[.pointer (some ⟨11, 91, none⟩), .pointer (some ta), .int .u64 406], .agg #[.pointer (some ⟨11, 91, none⟩), .pointer (some b), .int .u64 150]]).run Tryz.prog W
      = .ok (.tuple #[]) (W.setCell ta (.pointer (some e))) := by
  rw [fa_rls]
  simp only [Sem.run_bind, fa_parts25a, fa_parts25, Result.andThen]
  simp [ReflectliteValue.flagAddr, loadVar, isAgg, underlying, Tryz.underlying91, hb, Result.andThen, fa_direct25, storeVar, Value.cells, storeCells, Addr.add]
  rw [run_store Tryz.prog W ta _ _ (by rfl)]
  simp [ht, hf]
set_option maxHeartbeats 4000000 in
theorem fa_hit0 (e t : Addr) (old : Value) (w : World) (hg : w.cell? ⟨1, 0, none⟩ = some (.iface 211 (.agg #[.pointer (some ⟨11, 80, none⟩)]))) (ht0 : w.cell? t = some old) (hf0 : w.frozen? t = false) :
    Calls Tryz.prog 50 #[.iface 91 (.pointer (some e)), .iface 94 (.pointer (some t))] w fun ev w' => ev = .returned (.bool true) ∧ w' = ((((w.alloc (.cells #[.pointer (some t)] 94)).alloc (.cells #[.pointer (some ⟨11, 94, none⟩), .pointer (some ⟨w.heap.size, 0, none⟩), .int .u64 150] 150)).alloc (.cells #[.pointer (some ⟨11, 94, none⟩), .pointer (some ⟨w.heap.size, 0, none⟩), .int .u64 150] 150)).alloc (.cells #[.pointer (some e)] 91)).setCell t (.pointer (some e)) := by
  have h6 := @run_callFunc_extern Tryz.prog 89 _ (fun args => ReflectliteValue.unpack (args.getD 0 (.tuple #[]))) Tryz.func89 (by kernel_rfl) (by kernel_rfl) (by kernel_rfl) (by kernel_rfl)
  have h7 := @run_callFunc_extern Tryz.prog 90 _ (ReflectliteValue.methodAny (ReflectliteValue.valueError "reflectlite.Value.Type" 0) (fun t _ _ _ => ReflectliteType.toType t)) Tryz.func90 (by kernel_rfl) (by kernel_rfl) (by kernel_rfl) (by kernel_rfl)
  have h8 := @run_callFunc_extern Tryz.prog 91 _ (ReflectliteValue.method (ReflectliteValue.valueError "reflectlite.Value.IsNil" 0) ReflectliteValue.isNil) Tryz.func91 (by kernel_rfl) (by kernel_rfl) (by kernel_rfl) (by kernel_rfl)
  have h27 := @run_callFunc_extern Tryz.prog 261 _ (ReflectliteType.abiMethod fun t => do pure (.int .u8 (← Rtype.kind t))) Tryz.func261 (by kernel_rfl) (by kernel_rfl) (by kernel_rfl) (by kernel_rfl)
  have h37 := @run_callFunc_extern Tryz.prog 276 _ (ReflectliteType.method ReflectliteType.elem) Tryz.func276 (by kernel_rfl) (by kernel_rfl) (by kernel_rfl) (by kernel_rfl)
  have h38 := @run_callFunc_extern Tryz.prog 277 _ (ReflectliteType.relation "Implements" ReflectliteType.implements_) Tryz.func277 (by kernel_rfl) (by kernel_rfl) (by kernel_rfl) (by kernel_rfl)
  have h10 := @run_callFunc_extern Tryz.prog 126 _ ReflectliteType.typeOf Tryz.func126 (by kernel_rfl) (by kernel_rfl) (by kernel_rfl) (by kernel_rfl)
  have h35 := @run_callFunc_extern Tryz.prog 274 _ (ReflectliteType.relation "AssignableTo" ReflectliteType.assignableTo) Tryz.func274 (by kernel_rfl) (by kernel_rfl) (by kernel_rfl) (by kernel_rfl)
  have h11 := @run_callFunc_extern Tryz.prog 145 _ (ReflectliteValue.method (ReflectliteValue.valueError "reflectlite.Value.Elem" 0) ReflectliteValue.elem) Tryz.func145 (by kernel_rfl) (by kernel_rfl) (by kernel_rfl) (by kernel_rfl)
  have h12 := @run_callFunc_extern Tryz.prog 146 _ ReflectliteValue.set Tryz.func146 (by kernel_rfl) (by kernel_rfl) (by kernel_rfl) (by kernel_rfl)
  have tO := fa_typeOf25
  have mA := fa_methodAssignableTo
  have a25 := fa_assignable25
  have v25 := fa_valueOf25
  have f6 := fa_valueOf27
  have f7 := fa_type27
  have mK := fa_methodKind
  have mE := fa_methodElem
  have mI := fa_methodImplements
  have k27 := fa_kind27
  have k25 := fa_kind25
  have e27 := fa_elem27
  have i25 := fa_implements25
  have n8 := fa_isNil27 ⟨w.heap.size, 0, none⟩ t ((w.alloc (.cells #[.pointer (some t)] 94)).alloc (.cells #[.pointer (some ⟨11, 94, none⟩), .pointer (some ⟨w.heap.size, 0, none⟩), .int .u64 150] 150)) (by simp)
  have hlt : 1 < w.heap.size := by
    rcases Nat.lt_or_ge 1 w.heap.size with h | h
    · exact h
    · simp [World.cell?, Array.getElem?_eq_none h] at hg
  have hg2 : ((w.alloc (.cells #[.pointer (some t)] 94)).alloc (.cells #[.pointer (some ⟨11, 94, none⟩), .pointer (some ⟨w.heap.size, 0, none⟩), .int .u64 150] 150)).cell? ⟨1, 0, none⟩ = some (.iface 211 (.agg #[.pointer (some ⟨11, 80, none⟩)])) := by
    rw [World.cell?_alloc_lt _ _ ⟨1, 0, none⟩ (by rw [World.size_alloc]; exact Nat.lt_succ_of_lt hlt), World.cell?_alloc_lt _ _ ⟨1, 0, none⟩ hlt]; exact hg
  have htl : t.block < w.heap.size := by
    rcases Nat.lt_or_ge t.block w.heap.size with h | h
    · exact h
    · simp [World.cell?, Array.getElem?_eq_none h] at ht0
  have el := fa_elemV27 ⟨w.heap.size, 0, none⟩ t (((w.alloc (.cells #[.pointer (some t)] 94)).alloc (.cells #[.pointer (some ⟨11, 94, none⟩), .pointer (some ⟨w.heap.size, 0, none⟩), .int .u64 150] 150)).alloc (.cells #[.pointer (some ⟨11, 94, none⟩), .pointer (some ⟨w.heap.size, 0, none⟩), .int .u64 150] 150)) (by rw [World.cell?_alloc_lt _ _ ⟨w.heap.size, 0, none⟩ (by simp; omega)]; simp)
  have st := fa_set25 t ⟨w.heap.size + 1 + 1 + 1, 0, none⟩ e old ((((w.alloc (.cells #[.pointer (some t)] 94)).alloc (.cells #[.pointer (some ⟨11, 94, none⟩), .pointer (some ⟨w.heap.size, 0, none⟩), .int .u64 150] 150)).alloc (.cells #[.pointer (some ⟨11, 94, none⟩), .pointer (some ⟨w.heap.size, 0, none⟩), .int .u64 150] 150)).alloc (.cells #[.pointer (some e)] 91))
    (by rw [World.cell?_alloc_at _ _ _ _ (by simp)]; rfl)
    (by rw [World.cell?_alloc_lt _ _ t (by simp; omega), World.cell?_alloc_lt _ _ t (by simp; omega), World.cell?_alloc_lt _ _ t (by simp; omega), World.cell?_alloc_lt _ _ t htl]; exact ht0)
    (by rw [World.frozen?_alloc_old _ _ t (by simp; omega), World.frozen?_alloc_old _ _ t (by simp; omega), World.frozen?_alloc_old _ _ t (by simp; omega), World.frozen?_alloc_old _ _ t (Nat.ne_of_lt htl)]; exact hf0)
  go_enter Tryz.func50, Tryz.ntmps50
  go_wp2
  refine wp_loop_rounds 1 ?_
  rw [rounds_succ]
  go_wp2
  go_ret
  exact ⟨rfl, rfl⟩
theorem fa_hit (e : Addr) (g : Nat) (old : Value) (w : World) (hG : GTyp w) (ht : w.heap[g]? = some (.cells #[old] 91 (0, 0))) :
    Calls Tryz.prog 50 #[.iface 91 (.pointer (some e)), .iface 94 (.pointer (some ⟨g, 0, none⟩))] w fun ev w' => ev = .returned (.bool true) ∧ KeepP (fun k => k = g) w w' := by
  refine (fa_hit0 e ⟨g, 0, none⟩ old w hG ((blk_cell ht 0).trans rfl) (blk_frozen ht 0)).mono ?_
  rintro ev w' ⟨rfl, rfl⟩
  exact ⟨rfl, KeepP.set (ok := fun k => k = g) (p := ⟨g, 0, none⟩) (KeepP.alloc (KeepP.alloc (KeepP.alloc (KeepP.alloc (KeepP.refl w) _) _) _) _) (.inl rfl) _⟩
end Go.Proofs.YthngelbaheankaaGreatDoor.Tpl
namespace Go.Proofs.YthngelbaheankaaGreatDoor.Tpl
open Go.RowKit Go.Proofs Go.Proofs.YthngelbaheankaaGreatDoor.PB Go.Proofs.YthngelbaheankaaGreatDoor.Short Go.Proofs.YthngelbaheankaaGreatDoorW.PrintWords Go.Proofs.YthngelbaheankaaGreatDoorW.PrintLast Go.Proofs.YthngelbaheankaaGreatDoorW.PrintMore Nodes
attribute [local go_sem ↓] Go.wp_at_zero Go.wp_at_succ
def GE (w : World) (a : Addr) : Prop := w.cell? ⟨2, 0, none⟩ = some (errv a)
theorem GE.below {w w1 : World} {a : Addr} (h : GE w a) (hb : Below w.heap.size w w1) : GE w1 a := pw_cell_below hb h
def NRet (o : Option (Nodes × List Tok)) (a : Addr) (w0 W : World) (g : Nat) (e : Ending) (w' : World) : Prop :=
  KeepP (fun k => k = g) W w' ∧
  match o with
  | none => e = .returned (.tuple #[.slice none 0 0, errv a])
  | some (nd, r) => ∃ A c, e = .returned (.tuple #[.slice A nd.len c, .nilIface]) ∧ kN.R 116 w' W.heap.size (fun k => W.heap.size ≤ k) (.slice A nd.len c) nd.of ∧ PS w0 w' g r
def WRet (o : Option (Nodes × Nodes × List Tok)) (a : Addr) (w0 W : World) (g gn k : Nat) (t : S) (vp : Value) (e : Ending) (w' : World) : Prop :=
  KeepP (fun q => q = g ∨ q = gn) W w' ∧
  match o with
  | none => e = .returned (errv a)
  | some (x, y, r) => e = .returned .nilIface ∧ ∃ A3 c3 A4 c4, w'.heap[gn]? = some (.cells #[.int .u8 k, .string (bs t), vp, .slice A3 x.len c3, .slice A4 y.len c4] 116 (0, 0)) ∧
      kN.R 116 w' W.heap.size (fun k => W.heap.size ≤ k) (.slice A3 x.len c3) x.of ∧ kN.R 116 w' W.heap.size (fun k => W.heap.size ≤ k) (.slice A4 y.len c4) y.of ∧ PS w0 w' g r
def NAll (a : Addr) (w0 : World) (m : Nat) : Prop := ∀ (l : List Tok) (W : World) (g : Nat), l.length ≤ m → (∀ x, x ∈ l → x.sm) → PS w0 W g l → Calls Tryz.prog 160 #[.pointer (some ⟨g, 0, none⟩)] W (NRet (parse l) a w0 W g)
theorem PS.keep {w0 W W1 : World} {g : Nat} {l : List Tok} (h : PS w0 W g l) {ok : Nat → Prop} (hk : KeepP ok W W1) (hg : ¬ ok g) (hok : ∀ k, ok k → w0.heap.size ≤ k) : PS w0 W1 g l := by
  obtain ⟨A, c, h1, h2, h3, h4⟩ := h
  exact ⟨A, c, hk.blkOf h1 hg, h2, h3, h4.trans (hk.below hok h4.size)⟩
theorem PS.set {w0 W : World} {g gn j : Nat} {l : List Tok} (h : PS w0 W g l) (hg : g ≠ gn) (hb : w0.heap.size ≤ gn) (u : Value) : PS w0 (W.setCell ⟨gn, j, none⟩ u) g l := by
  obtain ⟨A, c, h1, h2, h3, h4⟩ := h
  exact ⟨A, c, blk_far h1 (p := ⟨gn, j, none⟩) hg u, h2, h3, below_set h4 hb⟩
theorem PS.below {w0 W : World} {g : Nat} {l : List Tok} (h : PS w0 W g l) : Below w0.heap.size w0 W := by obtain ⟨_, _, _, _, _, h4⟩ := h; exact h4
theorem PS.ge {w0 W : World} {g : Nat} {l : List Tok} (h : PS w0 W g l) : w0.heap.size ≤ g := by obtain ⟨_, _, _, h2, _⟩ := h; exact h2
theorem PS.lt {w0 W : World} {g : Nat} {l : List Tok} (h : PS w0 W g l) : g < W.heap.size := by obtain ⟨_, _, h1, _⟩ := h; exact blk_lt h1
theorem RN.keep {W W1 : World} {base : Nat} {v : Value} {l : List SN} {ok ok2 : Nat → Prop} (h : kN.R 116 W base ok v l) (hk : KeepP ok2 W W1) (hok : ∀ k, ok k → ¬ ok2 k) : kN.R 116 W1 base ok v l := Kd.R_step h (fun k ho hlt => hk.blk k hlt (hok k ho))
set_option maxHeartbeats 4000000 in
set_option maxRecDepth 100000 in
theorem within_any (a : Addr) (w0 : World) (hE : GE w0 a) (m : Nat) (hN : NAll a w0 m) (l : List Tok) (W : World) (g gn k : Nat) (t : S) (vp : Value) (hm : l.length ≤ m) (hmx : m ≤ 1048576) (hs : ∀ x, x ∈ l → x.sm) (hP : PS w0 W g l) (hne : g ≠ gn) (hgn : w0.heap.size ≤ gn) (hb : W.heap[gn]? = some (.cells #[.int .u8 k, .string (bs t), vp, .slice none 0 0, .slice none 0 0] 116 (0, 0))) :
    Calls Tryz.prog 200 #[.pointer (some ⟨g, 0, none⟩), .pointer (some ⟨gn, 0, none⟩)] W (WRet (within k l) a w0 W g gn k t vp) := by
  obtain ⟨o, ho⟩ : ∃ o, within k l = o := ⟨_, rfl⟩
  rw [ho]
  have HO := Aside0.mk ho
  have h1 := hN l W g hm hs hP
  have HE := Aside0.mk hE
  have HB := Aside0.mk hb
  have HN := Aside0.mk hN
  have HS := Aside0.mk hs
  have hgW : gn < W.heap.size := blk_lt hb
  have hgP : g < W.heap.size := hP.lt
  have HP := Aside0.mk hP
  have hgn0 := hP.ge
  clear ho hE hb hP hs hN
  unfold within withP at HO
  cases hp : parse l with
  | none =>
    rw [hp] at h1 HO
    obtain rfl : o = none := HO.out.symm
    clear hp
    go_enter Tryz.func200, Tryz.ntmps200
    go_wp2_with fail
    refine h1.mono ?_
    rintro e W1 ⟨hk, rfl⟩
    have BK := Aside0.mk (hk.blkOf HB.out (show ¬ gn = g from fun e => hne e.symm))
    have HK := Aside0.mk hk
    clear hk h1
    obtain ⟨z0, z1, z2, z3, z4, f0, f1, f2, f3, f4⟩ := cells_5 BK.out
    go_wp2
    go_ret
    exact ⟨KeepP.set (HK.out.mono fun _ h => .inl h) (.inl (.inr rfl)) _, rfl⟩
  | some x =>
    obtain ⟨x, r1⟩ := x
    rw [hp] at h1 HO
    have hl1 := parse_len hp
    have hs1 := (parse_sm hp HS.out (Nat.le_trans hm hmx)).2
    clear hp
    have HO1 : Aside0 ((if k = 3 ∧ headK r1 = 4 then (match parse r1.tail with | none => none | some (b, r2) => if headK r2 = 6 then some (x, b, r2.tail) else none) else if headK r1 = 6 then some (x, Nodes.nil, r1.tail) else none) = o) := ⟨HO.out⟩
    clear HO
    have HS1 := Aside0.mk hs1
    clear hs1
    go_enter Tryz.func200, Tryz.ntmps200
    go_wp2_with fail
    refine h1.mono ?_
    rintro e W1 ⟨hk, A3, c3, rfl, hR1, hP1⟩
    have BK := Aside0.mk (hk.blkOf HB.out (show ¬ gn = g from fun e => hne e.symm))
    have HK2 := Aside0.mk (KeepP.set (hk.mono (ok' := fun q => q = g ∨ q = gn) fun _ h => .inl h) (p := ⟨gn, 3, none⟩) (.inl (.inr rfl)) (.slice A3 x.len c3))
    have HP2 := Aside0.mk (hP1.set (j := 3) hne hgn (.slice A3 x.len c3))
    have HR2 := Aside0.mk (Kd.R_far hR1 (p := ⟨gn, 3, none⟩) (fun k hk e => by simp only at e; omega) (.slice A3 x.len c3))
    have BK2 := Aside0.mk (blk_put BK.out 3 (.slice A3 x.len c3) rfl)
    clear hk h1 hR1 hP1
    obtain ⟨z0, z1, z2, z3, z4, f0, f1, f2, f3, f4⟩ := cells_5 BK.out
    go_upto_region 5 with (fail)
    clear z0 z1 z2 z3 z4 f0 f1 f2 f3 f4 BK HB HP
    generalize W1.setCell ⟨gn, 3, none⟩ (.slice A3 x.len c3) = W2 at *
    obtain ⟨z0, z1, z2, z3, z4, f0, f1, f2, f3, f4⟩ := cells_5 BK2.out
    have hi4 := is_any w0 W2 g r1 4 (by decide) HP2.out
    by_cases c34 : k = 3 ∧ headK r1 = 4
    · obtain ⟨rfl, h4⟩ := c34
      cases hr1 : r1 with
      | nil => rw [hr1] at h4; simp [headK] at h4
      | cons t1 q1 =>
        subst hr1
        have h4b : (headK (t1 :: q1) == 4) = true := by rw [beq_iff_eq]; exact h4
        have HO2 := HO1.out
        rw [if_pos ⟨rfl, h4⟩] at HO2
        simp only [List.tail_cons] at HO2
        rw [h4b] at hi4
        have htk := take_any w0 W2 g t1 q1 HP2.out
        have hlq : q1.length ≤ m := by simp only [List.length_cons] at hl1; omega
        have hsq : ∀ x, x ∈ q1 → x.sm := fun x hx => HS1.out x (by simp [hx])
        have HO3 := Aside0.mk HO2
        clear h4 h4b HO1 HO2
        go_wp2_with fail
        refine hi4.mono ?_
        rintro e w' ⟨rfl, rfl⟩
        go_wp2_with fail
        refine htk.mono ?_
        rintro e W3 ⟨A9, c9, rfl, _, _, hP3, hK3⟩
        have HK3 := Aside0.mk (HK2.out.trans (hK3.mono (ok' := fun q => q = g ∨ q = gn) fun _ h => .inl h))
        have BK3 := Aside0.mk (hK3.blkOf BK2.out (show ¬ gn = g from fun e => hne e.symm))
        have HR3 := Aside0.mk (RN.keep HR2.out hK3 (fun k hk e => by omega))
        have h2 := HN.out q1 W3 g hlq hsq hP3
        have hs3 := HK3.out.size
        clear hP3 hK3 hi4 htk z0 z1 z2 z3 z4 f0 f1 f2 f3 f4
        cases hp2 : parse q1 with
        | none =>
          rw [hp2] at h2 HO3
          obtain rfl : o = none := HO3.out.symm
          clear hp2
          go_wp2_with fail
          refine h2.mono ?_
          rintro e W4 ⟨hk, rfl⟩
          have BK4 := Aside0.mk (hk.blkOf BK3.out (show ¬ gn = g from fun e => hne e.symm))
          have HK4 := Aside0.mk (HK3.out.trans (hk.mono (ok' := fun q => q = g ∨ q = gn) fun _ h => .inl h))
          clear hk h2
          obtain ⟨z0, z1, z2, z3, z4, f0, f1, f2, f3, f4⟩ := cells_5 BK4.out
          go_wp2
          go_ret
          exact ⟨KeepP.set HK4.out (.inl (.inr rfl)) _, rfl⟩
        | some y =>
          obtain ⟨y, r2⟩ := y
          rw [hp2] at h2 HO3
          simp only at HO3
          clear hp2
          go_wp2_with fail
          refine h2.mono ?_
          rintro e W4 ⟨hk, A4, c4, rfl, hR4, hP4⟩
          have BK4 := Aside0.mk (hk.blkOf BK3.out (show ¬ gn = g from fun e => hne e.symm))
          have HK5 := Aside0.mk (KeepP.set (HK3.out.trans (hk.mono (ok' := fun q => q = g ∨ q = gn) fun _ h => .inl h)) (p := ⟨gn, 4, none⟩) (.inl (.inr rfl)) (.slice A4 y.len c4))
          have HP5 := Aside0.mk (hP4.set (j := 4) hne hgn (.slice A4 y.len c4))
          have HR5 := Aside0.mk (Kd.R_far (RN.keep HR3.out hk (fun k hk e => by omega)) (p := ⟨gn, 4, none⟩) (fun k hk e => by simp only at e; omega) (.slice A4 y.len c4))
          have HY5 := Aside0.mk (Kd.R_far (Kd.R_mono (Kd.R_lower hR4 hs3) (fun k hk => Nat.le_trans hs3 hk)) (p := ⟨gn, 4, none⟩) (fun k hk e => by simp only at e; omega) (.slice A4 y.len c4))
          have BK5 := Aside0.mk (blk_put BK4.out 4 (.slice A4 y.len c4) rfl)
          clear hk h2 hR4 hP4
          obtain ⟨z0, z1, z2, z3, z4, f0, f1, f2, f3, f4⟩ := cells_5 BK4.out
          go_upto_region 10 with (fail)
          clear z0 z1 z2 z3 z4 f0 f1 f2 f3 f4 BK4
          generalize W4.setCell ⟨gn, 4, none⟩ (.slice A4 y.len c4) = W5 at *
          have hge := HE.out.below HP5.out.below
          unfold GE at hge
          have hi6 := is_any w0 W5 g r2 6 (by decide) HP5.out
          cases h6 : (headK r2 == 6) with
          | false =>
            obtain rfl : o = none := by rw [← HO3.out, if_neg (by simpa using h6)]
            rw [h6] at hi6
            clear h6
            go_wp2_with fail
            refine hi6.mono ?_
            rintro e w' ⟨rfl, rfl⟩
            go_wp2
            go_ret
            exact ⟨HK5.out, rfl⟩
          | true =>
            cases hr2 : r2 with
            | nil => rw [hr2] at h6; simp [headK] at h6
            | cons t2 r3 =>
              obtain rfl : o = some (x, y, r3) := by rw [← HO3.out, if_pos (by simpa using h6), hr2]; rfl
              rw [h6] at hi6
              have htk := take_any w0 W5 g t2 r3 (hr2 ▸ HP5.out)
              clear h6 hr2
              go_wp2_with fail
              refine hi6.mono ?_
              rintro e w' ⟨rfl, rfl⟩
              go_wp2_with fail
              refine htk.mono ?_
              rintro e W9 ⟨A9, c9, rfl, _, _, hP9, hK9⟩
              have HP9 := Aside0.mk hP9
              have HK9 := Aside0.mk hK9
              clear hP9 hK9 hi6 htk
              go_wp2
              go_ret
              exact ⟨HK5.out.trans (HK9.out.mono fun _ h => .inl h), rfl, _, _, _, _, HK9.out.blkOf BK5.out (show ¬ gn = g from fun e => hne e.symm), RN.keep HR5.out HK9.out (fun k hk e => by omega), RN.keep HY5.out HK9.out (fun k hk e => by omega), HP9.out⟩
    · have HO2 := HO1.out
      rw [if_neg c34] at HO2
      have HO3 := Aside0.mk HO2
      clear HO1 HO2
      have hk3 : ((k : Int) == 3) = false ∨ (k = 3 ∧ (headK r1 == 4) = false) := by
        by_cases hk : k = 3
        · right; exact ⟨hk, by rw [beq_eq_false_iff_ne]; exact fun h => c34 ⟨hk, h⟩⟩
        · left; rw [beq_eq_false_iff_ne]; omega
      clear c34
      rcases hk3 with hk3 | ⟨rfl, hq4⟩
      · go_upto_region 10 with (fail)
        have hge := HE.out.below HP2.out.below
        unfold GE at hge
        have hi6 := is_any w0 W2 g r1 6 (by decide) HP2.out
        cases h6 : (headK r1 == 6) with
        | false =>
          obtain rfl : o = none := by rw [← HO3.out, if_neg (by simpa using h6)]
          rw [h6] at hi6
          clear h6
          go_wp2_with fail
          refine hi6.mono ?_
          rintro e w' ⟨rfl, rfl⟩
          go_wp2
          go_ret
          exact ⟨HK2.out, rfl⟩
        | true =>
          cases hr2 : r1 with
          | nil => rw [hr2] at h6; simp [headK] at h6
          | cons t2 r3 =>
            obtain rfl : o = some (x, Nodes.nil, r3) := by rw [← HO3.out, if_pos (by simpa using h6), hr2]; rfl
            rw [h6] at hi6
            have htk := take_any w0 W2 g t2 r3 (hr2 ▸ HP2.out)
            clear h6 hr2
            go_wp2_with fail
            refine hi6.mono ?_
            rintro e w' ⟨rfl, rfl⟩
            go_wp2_with fail
            refine htk.mono ?_
            rintro e W9 ⟨A9, c9, rfl, _, _, hP9, hK9⟩
            have HP9 := Aside0.mk hP9
            have HK9 := Aside0.mk hK9
            clear hP9 hK9 hi6 htk
            go_wp2
            go_ret
            exact ⟨HK2.out.trans (HK9.out.mono fun _ h => .inl h), rfl, _, _, _, _, HK9.out.blkOf BK2.out (show ¬ gn = g from fun e => hne e.symm), RN.keep HR2.out HK9.out (fun k hk e => by omega), Kd.R_nil _ _ _ _ _, HP9.out⟩
      · rw [hq4] at hi4
        clear hq4
        go_upto_region 10 with (go_at_call 198; refine hi4.mono ?_; rintro e w' ⟨rfl, rfl⟩)
        have hge := HE.out.below HP2.out.below
        unfold GE at hge
        have hi6 := is_any w0 W2 g r1 6 (by decide) HP2.out
        cases h6 : (headK r1 == 6) with
        | false =>
          obtain rfl : o = none := by rw [← HO3.out, if_neg (by simpa using h6)]
          rw [h6] at hi6
          clear h6
          go_wp2_with fail
          refine hi6.mono ?_
          rintro e w' ⟨rfl, rfl⟩
          go_wp2
          go_ret
          exact ⟨HK2.out, rfl⟩
        | true =>
          cases hr2 : r1 with
          | nil => rw [hr2] at h6; simp [headK] at h6
          | cons t2 r3 =>
            obtain rfl : o = some (x, Nodes.nil, r3) := by rw [← HO3.out, if_pos (by simpa using h6), hr2]; rfl
            rw [h6] at hi6
            have htk := take_any w0 W2 g t2 r3 (hr2 ▸ HP2.out)
            clear h6 hr2
            go_wp2_with fail
            refine hi6.mono ?_
            rintro e w' ⟨rfl, rfl⟩
            go_wp2_with fail
            refine htk.mono ?_
            rintro e W9 ⟨A9, c9, rfl, _, _, hP9, hK9⟩
            have HP9 := Aside0.mk hP9
            have HK9 := Aside0.mk hK9
            clear hP9 hK9 hi6 htk
            go_wp2
            go_ret
            exact ⟨HK2.out.trans (HK9.out.mono fun _ h => .inl h), rfl, _, _, _, _, HK9.out.blkOf BK2.out (show ¬ gn = g from fun e => hne e.symm), RN.keep HR2.out HK9.out (fun k hk e => by omega), Kd.R_nil _ _ _ _ _, HP9.out⟩
end Go.Proofs.YthngelbaheankaaGreatDoor.Tpl
namespace Go.Proofs.YthngelbaheankaaGreatDoor.Tpl
open Go.RowKit Go.Proofs Go.Proofs.YthngelbaheankaaGreatDoor.PB Go.Proofs.YthngelbaheankaaGreatDoor.Short Go.Proofs.YthngelbaheankaaGreatDoorW.PrintWords Go.Proofs.YthngelbaheankaaGreatDoorW.PrintLast Go.Proofs.YthngelbaheankaaGreatDoorW.PrintMore Nodes
attribute [local go_sem ↓] Go.wp_at_zero Go.wp_at_succ
theorem KeepP.trans2 {ok ok2 : Nat → Prop} {w w1 w2 : World} (h : KeepP ok w w1) (k : KeepP ok2 w1 w2) (hk : ∀ i, ok2 i → ok i ∨ w.heap.size ≤ i) : KeepP ok w w2 :=
  ⟨k.os.trans h.os, k.tape.trans h.tape, k.output.trans h.output, Nat.le_trans h.size k.size, fun i hi hn => (k.blk i (Nat.lt_of_lt_of_le hi h.size) (fun c => (hk i c).elim hn (fun h2 => by omega))).trans (h.blk i hi hn)⟩
theorem info_node : (Tryz.prog.info? 116).map (fun i => (i.zero, i.size, i.bytes)) = some (some (.agg #[.int .u8 0, .string ⟨#[]⟩, .slice none 0 0, .slice none 0 0, .slice none 0 0]), 5, 96) := by kernel_rfl
theorem app_len (x y : Nodes) : (x.app y).len = x.len + y.len := by
  induction x with
  | nil => simp [app, len]
  | cons k t p a b r _ _ ih => simp only [app, len, ih]; omega
theorem app_of (x y : Nodes) : (x.app y).of = x.of ++ y.of := by
  induction x with
  | nil => simp [app, of]
  | cons k t p a b r _ _ ih => simp [app, of, ih]
theorem app_nil (x : Nodes) : x.app nil = x := by
  induction x with
  | nil => rfl
  | cons k t p a b r _ _ ih => rw [app, ih]
theorem app_app (x y z : Nodes) : (x.app y).app z = x.app (y.app z) := by
  induction x with
  | nil => rfl
  | cons k t p a b r _ _ ih => rw [app, app, app, ih]
theorem app_cnt (x y : Nodes) : (x.app y).cnt = x.cnt + y.cnt := by
  induction x with
  | nil => simp [app, cnt]
  | cons k t p a b r _ _ ih => simp only [app, cnt, ih]; omega
set_option maxHeartbeats 4000000 in
set_option maxRecDepth 100000 in
theorem nodes_step (a : Addr) (w0 : World) (hE : GE w0 a) (m : Nat) (hmx : m ≤ 1048576) (hN : NAll a w0 m) (l : List Tok) (W : World) (g : Nat) (hm : l.length ≤ m + 1) (hs : ∀ x, x ∈ l → x.sm) (hP : PS w0 W g l) :
    Calls Tryz.prog 160 #[.pointer (some ⟨g, 0, none⟩)] W (NRet (parse l) a w0 W g) := by
  obtain ⟨o, ho⟩ : ∃ o, parse l = o := ⟨_, rfl⟩
  rw [ho]
  have HO := Aside0.mk ho
  have HE := Aside0.mk hE
  have HN := Aside0.mk hN
  have HS := Aside0.mk hs
  have hgW : g < W.heap.size := hP.lt
  have hg0 := hP.ge
  have HP := Aside0.mk hP
  clear ho hE hN hs hP
  go_enter Tryz.func160, Tryz.ntmps160
  go_wp2
  go_loopg [4] l.length (fun kq v4 wr => ∃ (r : List Tok) (acc : Nodes) (Aa : Option Addr) (ca : Nat), v4 = .slice Aa acc.len ca ∧ r.length = kq ∧ Aside0 (o = (parse r).map (fun z => (acc.app z.1, z.2))) ∧ Aside0 (acc.cnt + r.length ≤ l.length) ∧ Aside0 (∀ x, x ∈ r → x.sm) ∧ Aside0 (kN.R 116 wr W.heap.size (fun k => W.heap.size ≤ k) (.slice Aa acc.len ca) acc.of) ∧ Aside0 (PS w0 wr g r) ∧ Aside0 (KeepP (fun k => k = g) W wr))
  case atStart => exact ⟨l, .nil, none, 0, rfl, rfl, ⟨by rw [HO.out]; cases o <;> rfl⟩, ⟨by simp [cnt]⟩, HS, ⟨Kd.R_nil _ _ _ _ _⟩, HP, ⟨KeepP.refl _⟩⟩
  case round =>
    clear HP HO HS
    obtain ⟨r, acc, Aa, ca, rfl, rfl, HO, HC, HS, HR, HP, HK⟩ := hrel
    have hi4 := is_any w0 wr g r 4 (by decide) HP.out
    have hi6 := is_any w0 wr g r 6 (by decide) HP.out
    obtain ⟨Ap, cp, hgp, _, _, _⟩ := HP.out
    have z0 : wr.cell? ⟨g, 0, none⟩ = some (.slice Ap r.length cp) := (blk_cell hgp 0).trans rfl
    have f0 := blk_frozen hgp 0
    clear hgp
    cases hr : r with
    | nil =>
      have ho : o = some (acc, []) := by rw [HO.out, hr, parse_nil]; simp [app_nil]
      subst ho
      subst hr
      clear hi4 hi6
      simp only [List.length_nil] at z0 
      go_wp2
      go_ret2
      exact ⟨HK.out, _, _, rfl, HR.out, HP.out⟩
    | cons t q =>
      subst hr
      have hd : headK (t :: q) = t.k := rfl
      rw [hd] at hi4 hi6
      have hln : 0 < (t :: q).length := by simp
      have hli : (0 : Int) < (((t :: q).length : Nat) : Int) := by simp
      have hO := HO.out
      rw [parse_cons] at hO
      by_cases hst : stops t.k = true
      · rw [if_pos hst] at hO
        have ho : o = some (acc, t :: q) := by rw [hO]; simp [app_nil]
        subst ho
        have hkk : (t.k == 4) = true ∨ ((t.k == 4) = false ∧ (t.k == 6) = true) := by
          unfold stops at hst
          cases h4 : (t.k == 4)
          · rw [h4] at hst; right; exact ⟨rfl, by simpa using hst⟩
          · left; rfl
        clear hO hst
        obtain ⟨n, hn⟩ : ∃ n, (t :: q).length = n := ⟨_, rfl⟩
        rw [hn] at z0 hln hli
        clear hn
        rcases hkk with h4 | ⟨h4, h6⟩
        · rw [h4] at hi4
          clear h4 hi6
          go_wp2_with fail
          refine hi4.mono ?_
          rintro e w' ⟨rfl, rfl⟩
          go_wp2
          go_ret2
          exact ⟨HK.out, _, _, rfl, HR.out, HP.out⟩
        · rw [h4] at hi4
          rw [h6] at hi6
          clear h4 h6
          go_wp2_with fail
          refine hi4.mono ?_
          rintro e w' ⟨rfl, rfl⟩
          go_wp2_with fail
          refine hi6.mono ?_
          rintro e w' ⟨rfl, rfl⟩
          go_wp2
          go_ret2
          exact ⟨HK.out, _, _, rfl, HR.out, HP.out⟩
      · rw [if_neg hst] at hO
        have h46 : (t.k == 4) = false ∧ (t.k == 6) = false := by
          unfold stops at hst
          cases h4 : (t.k == 4) <;> cases h6 : (t.k == 6) <;> simp [h4, h6] at hst ⊢
        rw [h46.1] at hi4
        rw [h46.2] at hi6
        have htk := take_any w0 wr g t q HP.out
        obtain ⟨s1, s2, s3, s4⟩ := HS.out t (by simp)
        have hsq : ∀ x, x ∈ q → x.sm := fun x hx => HS.out x (by simp [hx])
        have hcq := HC.out
        simp only [List.length_cons] at hcq
        obtain ⟨n, hn⟩ : ∃ n, (t :: q).length = n := ⟨_, rfl⟩
        rw [hn] at z0 hln hli
        obtain ⟨k, s, p⟩ := t
        simp only at *
        have HO2 := Aside0.mk hO
        clear hO HO hst h46 HS HC HP hd
        have hqn : n = q.length + 1 := by rw [← hn]; simp
        have HQN := Aside0.mk hqn
        have HSQ := Aside0.mk hsq
        have HS4 := Aside0.mk s4
        clear hn hqn hsq s4
        go_wp2_with fail
        refine hi4.mono ?_
        rintro e w' ⟨rfl, rfl⟩
        go_wp2_with fail
        refine hi6.mono ?_
        rintro e w' ⟨rfl, rfl⟩
        go_wp2_with fail
        refine htk.mono ?_
        rintro e W3 ⟨A2, c2, rfl, i2, l2, hP3, hK3⟩
        have HI2 := Aside0.mk i2
        have HP4 : Aside0 (PS w0 (W3.alloc (.cells #[.int .u8 k, .string (bs s), .slice A2 p.length c2] 110)) g q) := ⟨hP3.keep (KeepP.of_below (ok := fun _ => False) (below_alloc (Below.refl _ _) _)) (fun h => h) (fun _ h => h.elim)⟩
        have HR4 := Aside0.mk (Kd.R_alloc (RN.keep HR.out hK3 (fun k hk e => by omega)) (.cells #[.int .u8 k, .string (bs s), .slice A2 p.length c2] 110))
        have HK4 := Aside0.mk ((HK.out.trans hK3).alloc (.cells #[.int .u8 k, .string (bs s), .slice A2 p.length c2] 110))
        have BK5 := Aside0.mk (blk_new W3 (.cells #[.int .u8 k, .string (bs s), .slice A2 p.length c2] 110))
        clear hi4 hi6 htk z0 f0 i2 hP3 hK3 HR HK
        go_upto_region 4 with (fail)
        obtain ⟨g5, hg5⟩ : ∃ g5, W3.heap.size = g5 := ⟨_, rfl⟩
        rw [hg5] at BK5 ⊢
        clear hg5
        generalize W3.alloc (.cells #[.int .u8 k, .string (bs s), .slice A2 p.length c2] 110) = W4 at *
        obtain ⟨z0, z1, z2, f0, f1, f2⟩ := cells_3 BK5.out
        have HB4 := Aside0.mk HP4.out.below
        have h56 : g5 < W4.heap.size := blk_lt BK5.out
        have h56n : g5 ≠ W4.heap.size := by omega
        have h56m : W4.heap.size ≠ g5 := by omega
        go_region_held3 (fun w' => w'.cell? ⟨g5, 0, none⟩ = some (.int .u8 k) ∧ w'.cell? ⟨g5, 1, none⟩ = some (.string (bs s)) ∧ w'.cell? ⟨g5, 2, none⟩ = some (.slice A2 p.length c2))
          (go_keep)
          (first
            | ((go_at_call 117; with_reducible refine (clone_S A2 c2 p W4.drew (Kd.C_below HI2.out (below_drew1 HB4.out)) s3).mono ?_; rintro e w1 ⟨Av, cv, rfl, hv1, hb1⟩; have h5b := blk_below (w := W4.drew) (blk_drew BK5.out) hb1; have h5w := blk_lt h5b; obtain ⟨q0, q1, q2, q3, q4, q5⟩ := cells_3 h5b; have H5B := Aside0.mk h5b; clear h5b z0 z1 z2 f0 f1 f2))
            | ((go_at_call 117; with_reducible refine (clone_S A2 c2 p ((W4.alloc (.cells #[.int .u8 0, .string ⟨#[]⟩, .slice none 0 0, .slice none 0 0, .slice none 0 0] 116)).drew) (Kd.C_below HI2.out (below_drew1 (below_alloc HB4.out _))) s3).mono ?_; rintro e w1 ⟨Av, cv, rfl, hv1, hb1⟩; have BKz := blk_below (blk_drew (blk_new W4 (.cells #[.int .u8 0, .string ⟨#[]⟩, .slice none 0 0, .slice none 0 0, .slice none 0 0] 116))) hb1; have BKZ := Aside0.mk BKz; obtain ⟨m0, m1, m2, m3, m4, n0, n1, n2, n3, n4⟩ := cells_5 BKz; clear BKz; have h5b := blk_below (blk_drew (blk_alloc BK5.out _)) hb1; have h5w := blk_lt h5b; obtain ⟨q0, q1, q2, q3, q4, q5⟩ := cells_3 h5b; have H5B := Aside0.mk h5b; clear h5b z0 z1 z2 f0 f1 f2)))
        all_goals have hWW : W.heap.size ≤ W4.heap.size := HK4.out.size
        · have HBw := Aside0.mk (below_step (below_drew1 (Below.refl W4.heap.size W4)) hb1)
          have BK6 := Aside0.mk (blk_new w1 (.cells #[.int .u8 k, .string (bs s), .slice Av p.length cv, .slice none 0 0, .slice none 0 0] 116))
          have h46 : W4.heap.size ≤ w1.heap.size := HBw.out.size
          have HBz := Aside0.mk (below_alloc HBw.out (.cells #[.int .u8 k, .string (bs s), .slice Av p.length cv, .slice none 0 0, .slice none 0 0] 116))
          have HPT : Aside0 (Kd.string.R 9 (w1.alloc (.cells #[.int .u8 k, .string (bs s), .slice Av p.length cv, .slice none 0 0, .slice none 0 0] 116)) W.heap.size (fun z => W4.heap.size ≤ z ∧ z ≠ w1.heap.size) (.slice Av p.length cv) (p.map bs)) := ⟨Kd.R_alloc (Kd.R_mono (Kd.R_lower (Kd.R_bound hv1) hWW) (fun z hz => ⟨by have := hz.2.1; simpa using this, by have := hz.2.2.1; omega⟩)) _⟩
          have HR6 : Aside0 (kN.R 116 (w1.alloc (.cells #[.int .u8 k, .string (bs s), .slice Av p.length cv, .slice none 0 0, .slice none 0 0] 116)) W.heap.size (fun z => W.heap.size ≤ z ∧ z ≠ w1.heap.size) (.slice Aa acc.len ca) acc.of) := ⟨Kd.R_below (Kd.R_mono (Kd.R_bound HR4.out) (fun z hz => ⟨hz.1, by have := hz.2.2.1; omega⟩)) HBz.out⟩
          have h6s : w1.heap.size < (w1.alloc (.cells #[.int .u8 k, .string (bs s), .slice Av p.length cv, .slice none 0 0, .slice none 0 0] 116)).heap.size := by simp
          obtain ⟨g6, hg6⟩ : ∃ g6, w1.heap.size = g6 := ⟨_, rfl⟩
          rw [hg6] at BK6 HPT HR6 h6s h46 ⊢
          clear hg6 h5w q0 q1 q2 q3 q4 q5
          have H5C := Aside0.mk (blk_alloc H5B.out (.cells #[.int .u8 k, .string (bs s), .slice Av p.length cv, .slice none 0 0, .slice none 0 0] 116))
          generalize w1.alloc (.cells #[.int .u8 k, .string (bs s), .slice Av p.length cv, .slice none 0 0, .slice none 0 0] 116) = W6 at *
          have hg6g : g ≠ g6 := by omega
          have hw06 : w0.heap.size ≤ g6 := by have := HP4.out.lt; have := HP4.out.ge; omega
          have HP6 : Aside0 (PS w0 W6 g q) := ⟨HP4.out.keep (KeepP.of_below (ok := fun _ => False) HBz.out) (fun h => h) (fun _ h => h.elim)⟩
          have HK6 : Aside0 (KeepP (fun z => z = g) W W6) := ⟨HK4.out.trans (KeepP.of_below HBz.out)⟩
          have HOB : Aside0 (∀ z, (Value.slice Aa acc.len ca).ownBlock = some z → z < W4.heap.size) := ⟨Kd.R_lt HR4.out⟩
          have HOK : Aside0 (∀ z, (W4.heap.size ≤ z ∧ z ≠ g6) → W.heap.size ≤ z ∧ some z ≠ (Value.slice Aa acc.len ca).ownBlock) := ⟨fun z hz => ⟨Nat.le_trans hWW hz.1, fun e => by have := HOB.out z e.symm; omega⟩⟩
          have h66 : W4.heap.size ≤ W6.heap.size := by omega
          obtain ⟨x0, x1, x2, y0, y1, y2⟩ := cells_3 H5C.out
          clear H5B H5C BK5 HP4 HR4 HK4 HB4 hb1 hv1 HBz HBw HI2
          by_cases hk35 : k = 3 ∨ k = 5
          · have hO := HO2.out
            rw [if_pos hk35] at hO
            have hw := within_any a w0 HE.out m HN.out q W6 g g6 k s (.slice Av p.length cv) (by have := HQN.out; omega) hmx HSQ.out HP6.out hg6g hw06 BK6.out
            cases hwi : within k q with
            | none =>
              rw [hwi] at hO hw
              obtain rfl : o = none := hO
              clear hwi
              rcases hk35 with rfl | rfl
              all_goals
                go_wp2_with fail
                refine hw.mono ?_
                rintro e W7 ⟨hk7, rfl⟩
                have HK7 : Aside0 (KeepP (fun z => z = g) W W7) := ⟨HK6.out.trans2 hk7 (fun z hz => hz.elim (fun h => .inl h) (fun h => .inr (by omega)))⟩
                clear hw hk7
                go_wp2
                go_ret2
                exact ⟨HK7.out, rfl⟩
            | some z =>
              obtain ⟨x, y, r1⟩ := z
              rw [hwi] at hO hw
              have hcw := within_cnt hwi
              have HSR : Aside0 (∀ z, z ∈ r1 → z.sm) := ⟨fun z hz => HSQ.out z (within_sub hwi z hz)⟩
              simp only at hO
              have HO3 : Aside0 (o = (parse r1).map (fun z => ((acc.app (.cons k s p x y .nil)).app z.1, z.2))) := ⟨by rw [hO]; cases parse r1 with | none => rfl | some z => simp [app_app, app]⟩
              clear hwi hO HO2
              rcases hk35 with rfl | rfl
              · go_wp2_with fail
                refine hw.mono ?_
                rintro e W7 ⟨hk7, rfl, A3, c3, A4, c4, BK7, hX, hY, hP7⟩
                have HK7 : Aside0 (KeepP (fun z => z = g) W W7) := ⟨HK6.out.trans2 hk7 (fun z hz => hz.elim (fun h => .inl h) (fun h => .inr (by omega)))⟩
                have HR7 : Aside0 (kN.R 116 W7 W.heap.size (fun z => W.heap.size ≤ z) (.slice Aa acc.len ca) acc.of) := ⟨Kd.R_mono (RN.keep HR6.out hk7 (fun z hz e => e.elim (fun h => by omega) hz.2)) (fun z hz => hz.1)⟩
                have HPT7 : Aside0 (Kd.string.R 9 W7 W.heap.size (fun z => W4.heap.size ≤ z ∧ z ≠ g6) (.slice Av p.length cv) (p.map bs)) := ⟨Kd.R_step HPT.out (fun z hz hlt => hk7.blk z hlt (fun e => e.elim (fun h => by omega) hz.2))⟩
                have HX7 : Aside0 (kN.R 116 W7 W.heap.size (fun z => W4.heap.size ≤ z ∧ z ≠ g6) (.slice A3 x.len c3) x.of) := ⟨Kd.R_mono (Kd.R_lower hX (by omega)) (fun z hz => ⟨by omega, by omega⟩)⟩
                have HY7 : Aside0 (kN.R 116 W7 W.heap.size (fun z => W4.heap.size ≤ z ∧ z ≠ g6) (.slice A4 y.len c4) y.of) := ⟨Kd.R_mono (Kd.R_lower hY (by omega)) (fun z hz => ⟨by omega, by omega⟩)⟩
                have HP7 := Aside0.mk hP7
                have BK7' := Aside0.mk BK7
                clear hw hk7 hX hY hP7 BK7
                have hal : (acc.of.length + 1) * 96 ≤ 140737488355328 := by rw [of_len]; have := len_cnt acc; omega
                have hsm : acc.cnt + (1 + x.cnt + y.cnt) + r1.length ≤ l.length := by omega
                have hrq : r1.length < q.length + 1 := by omega
                have HS7 : W.heap.size ≤ W7.heap.size := HK7.out.size
                have HB7 := Aside0.mk (KeepP.below (B := g) HK7.out (fun z h => Nat.le_of_eq h.symm) (Nat.le_of_lt hgW))
                have HG7 : Aside0 (∀ z, some z = (Value.slice Aa acc.len ca).ownBlock → z ≠ g) := ⟨fun z e h => by have := Kd.R_base HR7.out z e.symm; omega⟩
                obtain ⟨z0, z1, z2, z3, z4, f0, f1, f2, f3, f4⟩ := cells_5 BK7'.out
                clear x0 x1 x2 y0 y1 y2
                go_wp2_with (at_builtin; refine Kd.R_append kN (w0 := W7) W.heap.size rfl _ _ 22 116 _ 96 rfl Tryz.underlying22 info_node rfl (by decide) (by decide) (.slice Aa acc.len ca) acc.of ⟨3, bs s, p.map bs, x.of, y.of⟩ [.int .u8 3, .string (bs s), .slice Av p.length cv, .slice A3 x.len c3, .slice A4 y.len c4] (fun z => W.heap.size ≤ z) (fun z => W4.heap.size ≤ z ∧ z ≠ g6) (by rfl) (by rfl) (k116_mkM _ _ _ ⟨3, bs s, p.map bs, x.of, y.of⟩ HPT7.out HX7.out HY7.out) HOK.out (fun z hz => Nat.le_trans HS7 hz) HR7.out (Below.refl _ _) HS7 hal ?_; intro v9 W9 hR9 hB9 hg9 hat9)
                have HB9 := Aside0.mk hB9
                have HR9 := Aside0.mk hR9
                obtain ⟨A9, c9, e9⟩ := Kd.R_slice hR9
                have hlen9 : (acc.of ++ [(⟨3, bs s, p.map bs, x.of, y.of⟩ : SN)]).length = (acc.app (.cons 3 s p x y .nil)).len := by rw [app_len, List.length_append, of_len]; rfl
                rw [hlen9] at e9
                subst e9
                have HP9 : Aside0 (PS w0 W9 g r1) := ⟨HP7.out.keep (KeepP.grown (ok := fun z => some z = (Value.slice Aa acc.len ca).ownBlock) hg9 (fun z hz => hz.symm)) (fun e => HG7.out g e rfl) (fun z e => by have h1 := Kd.R_base HR7.out z e.symm; have h2 := HP7.out.ge; omega)⟩
                have HK9 : Aside0 (KeepP (fun z => z = g) W W9) := ⟨HK7.out.trans2 (KeepP.grown (ok := fun z => some z = (Value.slice Aa acc.len ca).ownBlock) hg9 (fun z hz => hz.symm)) (fun z e => .inr (Kd.R_base HR7.out z e.symm))⟩
                clear hg9 hat9 hB9 hR9
                go_roundg r1.length
                case measure => simp only [List.length_cons]; exact hrq
                case rel => exact ⟨r1, acc.app (.cons 3 s p x y .nil), A9, c9, rfl, rfl, HO3, ⟨by rw [app_cnt]; exact hsm⟩, ⟨HSR.out⟩, ⟨by rw [app_of]; exact HR9.out⟩, HP9, HK9⟩
              · go_wp2_with fail
                refine hw.mono ?_
                rintro e W7 ⟨hk7, rfl, A3, c3, A4, c4, BK7, hX, hY, hP7⟩
                have HK7 : Aside0 (KeepP (fun z => z = g) W W7) := ⟨HK6.out.trans2 hk7 (fun z hz => hz.elim (fun h => .inl h) (fun h => .inr (by omega)))⟩
                have HR7 : Aside0 (kN.R 116 W7 W.heap.size (fun z => W.heap.size ≤ z) (.slice Aa acc.len ca) acc.of) := ⟨Kd.R_mono (RN.keep HR6.out hk7 (fun z hz e => e.elim (fun h => by omega) hz.2)) (fun z hz => hz.1)⟩
                have HPT7 : Aside0 (Kd.string.R 9 W7 W.heap.size (fun z => W4.heap.size ≤ z ∧ z ≠ g6) (.slice Av p.length cv) (p.map bs)) := ⟨Kd.R_step HPT.out (fun z hz hlt => hk7.blk z hlt (fun e => e.elim (fun h => by omega) hz.2))⟩
                have HX7 : Aside0 (kN.R 116 W7 W.heap.size (fun z => W4.heap.size ≤ z ∧ z ≠ g6) (.slice A3 x.len c3) x.of) := ⟨Kd.R_mono (Kd.R_lower hX (by omega)) (fun z hz => ⟨by omega, by omega⟩)⟩
                have HY7 : Aside0 (kN.R 116 W7 W.heap.size (fun z => W4.heap.size ≤ z ∧ z ≠ g6) (.slice A4 y.len c4) y.of) := ⟨Kd.R_mono (Kd.R_lower hY (by omega)) (fun z hz => ⟨by omega, by omega⟩)⟩
                have HP7 := Aside0.mk hP7
                have BK7' := Aside0.mk BK7
                clear hw hk7 hX hY hP7 BK7
                have hal : (acc.of.length + 1) * 96 ≤ 140737488355328 := by rw [of_len]; have := len_cnt acc; omega
                have hsm : acc.cnt + (1 + x.cnt + y.cnt) + r1.length ≤ l.length := by omega
                have hrq : r1.length < q.length + 1 := by omega
                have HS7 : W.heap.size ≤ W7.heap.size := HK7.out.size
                have HB7 := Aside0.mk (KeepP.below (B := g) HK7.out (fun z h => Nat.le_of_eq h.symm) (Nat.le_of_lt hgW))
                have HG7 : Aside0 (∀ z, some z = (Value.slice Aa acc.len ca).ownBlock → z ≠ g) := ⟨fun z e h => by have := Kd.R_base HR7.out z e.symm; omega⟩
                obtain ⟨z0, z1, z2, z3, z4, f0, f1, f2, f3, f4⟩ := cells_5 BK7'.out
                clear x0 x1 x2 y0 y1 y2
                go_wp2_with (at_builtin; refine Kd.R_append kN (w0 := W7) W.heap.size rfl _ _ 22 116 _ 96 rfl Tryz.underlying22 info_node rfl (by decide) (by decide) (.slice Aa acc.len ca) acc.of ⟨5, bs s, p.map bs, x.of, y.of⟩ [.int .u8 5, .string (bs s), .slice Av p.length cv, .slice A3 x.len c3, .slice A4 y.len c4] (fun z => W.heap.size ≤ z) (fun z => W4.heap.size ≤ z ∧ z ≠ g6) (by rfl) (by rfl) (k116_mkM _ _ _ ⟨5, bs s, p.map bs, x.of, y.of⟩ HPT7.out HX7.out HY7.out) HOK.out (fun z hz => Nat.le_trans HS7 hz) HR7.out (Below.refl _ _) HS7 hal ?_; intro v9 W9 hR9 hB9 hg9 hat9)
                have HB9 := Aside0.mk hB9
                have HR9 := Aside0.mk hR9
                obtain ⟨A9, c9, e9⟩ := Kd.R_slice hR9
                have hlen9 : (acc.of ++ [(⟨5, bs s, p.map bs, x.of, y.of⟩ : SN)]).length = (acc.app (.cons 5 s p x y .nil)).len := by rw [app_len, List.length_append, of_len]; rfl
                rw [hlen9] at e9
                subst e9
                have HP9 : Aside0 (PS w0 W9 g r1) := ⟨HP7.out.keep (KeepP.grown (ok := fun z => some z = (Value.slice Aa acc.len ca).ownBlock) hg9 (fun z hz => hz.symm)) (fun e => HG7.out g e rfl) (fun z e => by have h1 := Kd.R_base HR7.out z e.symm; have h2 := HP7.out.ge; omega)⟩
                have HK9 : Aside0 (KeepP (fun z => z = g) W W9) := ⟨HK7.out.trans2 (KeepP.grown (ok := fun z => some z = (Value.slice Aa acc.len ca).ownBlock) hg9 (fun z hz => hz.symm)) (fun z e => .inr (Kd.R_base HR7.out z e.symm))⟩
                clear hg9 hat9 hB9 hR9
                go_roundg r1.length
                case measure => simp only [List.length_cons]; exact hrq
                case rel => exact ⟨r1, acc.app (.cons 5 s p x y .nil), A9, c9, rfl, rfl, HO3, ⟨by rw [app_cnt]; exact hsm⟩, ⟨HSR.out⟩, ⟨by rw [app_of]; exact HR9.out⟩, HP9, HK9⟩
          · have hO := HO2.out
            rw [if_neg hk35] at hO
            have n3 : ((k : Int) == 3) = false := by rw [beq_eq_false_iff_ne]; omega
            have n5 : ((k : Int) == 5) = false := by rw [beq_eq_false_iff_ne]; omega
            have HO3 : Aside0 (o = (parse q).map (fun z => ((acc.app (.cons k s p .nil .nil .nil)).app z.1, z.2))) := ⟨by rw [hO]; cases parse q with | none => rfl | some z => simp [app_app, app]⟩
            obtain ⟨x, hx⟩ : ∃ x : Nodes, x = .nil := ⟨_, rfl⟩
            obtain ⟨y, hy⟩ : ∃ y : Nodes, y = .nil := ⟨_, rfl⟩
            obtain ⟨r1, hr1⟩ : ∃ r1, q = r1 := ⟨_, rfl⟩
            have HO4 : Aside0 (o = (parse r1).map (fun z => ((acc.app (.cons k s p x y .nil)).app z.1, z.2))) := ⟨by rw [hx, hy, ← hr1]; exact HO3.out⟩
            have HSR : Aside0 (∀ z, z ∈ r1 → z.sm) := ⟨hr1 ▸ HSQ.out⟩
            have hcw : x.cnt + y.cnt + r1.length ≤ q.length := by rw [hx, hy, ← hr1]; simp [cnt]
            have HX7 : Aside0 (kN.R 116 W6 W.heap.size (fun z => W4.heap.size ≤ z ∧ z ≠ g6) (.slice none 0 0) x.of) := ⟨hx ▸ Kd.R_nil _ _ _ _ _⟩
            have HY7 : Aside0 (kN.R 116 W6 W.heap.size (fun z => W4.heap.size ≤ z ∧ z ≠ g6) (.slice none 0 0) y.of) := ⟨hy ▸ Kd.R_nil _ _ _ _ _⟩
            have HP7 : Aside0 (PS w0 W6 g r1) := ⟨hr1 ▸ HP6.out⟩
            have HR7 : Aside0 (kN.R 116 W6 W.heap.size (fun z => W.heap.size ≤ z) (.slice Aa acc.len ca) acc.of) := ⟨Kd.R_mono HR6.out (fun z hz => hz.1)⟩
            have HPT7 := HPT
            have BK7' := BK6
            have HK7 := HK6
            clear hO HO2 HO3 hk35 hx hy hr1
            have hal : (acc.of.length + 1) * 96 ≤ 140737488355328 := by rw [of_len]; have := len_cnt acc; omega
            have hsm : acc.cnt + (1 + x.cnt + y.cnt) + r1.length ≤ l.length := by omega
            have hrq : r1.length < q.length + 1 := by omega
            have HS7 : W.heap.size ≤ W6.heap.size := HK7.out.size
            have HB7 := Aside0.mk (KeepP.below (B := g) HK7.out (fun z h => Nat.le_of_eq h.symm) (Nat.le_of_lt hgW))
            have HG7 : Aside0 (∀ z, some z = (Value.slice Aa acc.len ca).ownBlock → z ≠ g) := ⟨fun z e h => by have := Kd.R_base HR7.out z e.symm; omega⟩
            obtain ⟨z0, z1, z2, z3, z4, f0, f1, f2, f3, f4⟩ := cells_5 BK7'.out
            go_wp2_with (at_builtin; refine Kd.R_append kN (w0 := W6) W.heap.size rfl _ _ 22 116 _ 96 rfl Tryz.underlying22 info_node rfl (by decide) (by decide) (.slice Aa acc.len ca) acc.of ⟨k, bs s, p.map bs, x.of, y.of⟩ [.int .u8 k, .string (bs s), .slice Av p.length cv, .slice none 0 0, .slice none 0 0] (fun z => W.heap.size ≤ z) (fun z => W4.heap.size ≤ z ∧ z ≠ g6) (by rfl) (by rfl) (k116_mkM _ _ _ ⟨k, bs s, p.map bs, x.of, y.of⟩ HPT7.out HX7.out HY7.out) HOK.out (fun z hz => Nat.le_trans HS7 hz) HR7.out (Below.refl _ _) HS7 hal ?_; intro v9 W9 hR9 hB9 hg9 hat9)
            have HB9 := Aside0.mk hB9
            have HR9 := Aside0.mk hR9
            obtain ⟨A9, c9, e9⟩ := Kd.R_slice hR9
            have hlen9 : (acc.of ++ [(⟨k, bs s, p.map bs, x.of, y.of⟩ : SN)]).length = (acc.app (.cons k s p x y .nil)).len := by rw [app_len, List.length_append, of_len]; rfl
            rw [hlen9] at e9
            subst e9
            have HP9 : Aside0 (PS w0 W9 g r1) := ⟨HP7.out.keep (KeepP.grown (ok := fun z => some z = (Value.slice Aa acc.len ca).ownBlock) hg9 (fun z hz => hz.symm)) (fun e => HG7.out g e rfl) (fun z e => by have h1 := Kd.R_base HR7.out z e.symm; have h2 := HP7.out.ge; omega)⟩
            have HK9 : Aside0 (KeepP (fun z => z = g) W W9) := ⟨HK7.out.trans2 (KeepP.grown (ok := fun z => some z = (Value.slice Aa acc.len ca).ownBlock) hg9 (fun z hz => hz.symm)) (fun z e => .inr (Kd.R_base HR7.out z e.symm))⟩
            clear hg9 hat9 hB9 hR9
            go_roundg r1.length
            case measure => simp only [List.length_cons]; exact hrq
            case rel => exact ⟨r1, acc.app (.cons k s p x y .nil), A9, c9, rfl, rfl, HO4, ⟨by rw [app_cnt]; exact hsm⟩, ⟨HSR.out⟩, ⟨by rw [app_of]; exact HR9.out⟩, HP9, HK9⟩
        · obtain ⟨g6, hg6⟩ : ∃ g6, g6 = W4.heap.size := ⟨_, rfl⟩
          rw [← hg6] at BKZ ⊢
          have h46 : W4.heap.size ≤ g6 := Nat.le_of_eq hg6.symm
          have h56g : g5 ≠ g6 := by omega
          have HBw := Aside0.mk (below_step (below_drew1 (below_alloc (Below.refl W4.heap.size W4) (.cells #[.int .u8 0, .string ⟨#[]⟩, .slice none 0 0, .slice none 0 0, .slice none 0 0] 116))) hb1)
          have BK6 := Aside0.mk (blk_put (blk_put (blk_put (blk_put (blk_put BKZ.out 0 (.int .u8 k) rfl) 1 (.string (bs s)) rfl) 2 (.slice Av p.length cv) rfl) 3 (.slice none 0 0) rfl) 4 (.slice none 0 0) rfl)
          have HBz := Aside0.mk (below_set (below_set (below_set (below_set (below_set HBw.out (g := g6) (j := 0) (v := .int .u8 k) h46) (j := 1) (v := .string (bs s)) h46) (j := 2) (v := .slice Av p.length cv) h46) (j := 3) (v := .slice none 0 0) h46) (j := 4) (v := .slice none 0 0) h46)
          have hfar : ∀ z, (W4.heap.size ≤ z ∧ z ≠ g6) → z ≠ g6 := fun _ h => h.2
          have hpt : Kd.string.R 9 w1 W.heap.size (fun z => W4.heap.size ≤ z ∧ z ≠ g6) (.slice Av p.length cv) (p.map bs) := Kd.R_mono (Kd.R_lower hv1 (Nat.le_trans hWW (by simp))) (fun z hz => by simp only [World.size_drew, World.size_alloc] at hz; omega)
          have HPT := Aside0.mk (Kd.R_far (Kd.R_far (Kd.R_far (Kd.R_far (Kd.R_far hpt (p := ⟨g6, 0, none⟩) hfar (.int .u8 k)) (p := ⟨g6, 1, none⟩) hfar (.string (bs s))) (p := ⟨g6, 2, none⟩) hfar (.slice Av p.length cv)) (p := ⟨g6, 3, none⟩) hfar (.slice none 0 0)) (p := ⟨g6, 4, none⟩) hfar (.slice none 0 0))
          have HR6 : Aside0 (kN.R 116 (((((w1.setCell ⟨g6, 0, none⟩ (.int .u8 k)).setCell ⟨g6, 1, none⟩ (.string (bs s))).setCell ⟨g6, 2, none⟩ (.slice Av p.length cv)).setCell ⟨g6, 3, none⟩ (.slice none 0 0)).setCell ⟨g6, 4, none⟩ (.slice none 0 0)) W.heap.size (fun z => W.heap.size ≤ z ∧ z ≠ g6) (.slice Aa acc.len ca) acc.of) := ⟨Kd.R_below (Kd.R_mono (Kd.R_bound HR4.out) (fun z hz => ⟨hz.1, by have := hz.2.2.1; omega⟩)) HBz.out⟩
          have h6s : g6 < (((((w1.setCell ⟨g6, 0, none⟩ (.int .u8 k)).setCell ⟨g6, 1, none⟩ (.string (bs s))).setCell ⟨g6, 2, none⟩ (.slice Av p.length cv)).setCell ⟨g6, 3, none⟩ (.slice none 0 0)).setCell ⟨g6, 4, none⟩ (.slice none 0 0)).heap.size := blk_lt BK6.out
          have H5C := Aside0.mk (blk_far (p := ⟨g6, 4, none⟩) (blk_far (p := ⟨g6, 3, none⟩) (blk_far (p := ⟨g6, 2, none⟩) (blk_far (p := ⟨g6, 1, none⟩) (blk_far (p := ⟨g6, 0, none⟩) H5B.out h56g (.int .u8 k)) h56g (.string (bs s))) h56g (.slice Av p.length cv)) h56g (.slice none 0 0)) h56g (.slice none 0 0))
          clear h5w q0 q1 q2 q3 q4 q5 m0 m1 m2 m3 m4 n0 n1 n2 n3 n4 hpt hfar BKZ hg6
          generalize ((((w1.setCell ⟨g6, 0, none⟩ (.int .u8 k)).setCell ⟨g6, 1, none⟩ (.string (bs s))).setCell ⟨g6, 2, none⟩ (.slice Av p.length cv)).setCell ⟨g6, 3, none⟩ (.slice none 0 0)).setCell ⟨g6, 4, none⟩ (.slice none 0 0) = W6 at *
          have hg6g : g ≠ g6 := by omega
          have hw06 : w0.heap.size ≤ g6 := by have := HP4.out.lt; have := HP4.out.ge; omega
          have HP6 : Aside0 (PS w0 W6 g q) := ⟨HP4.out.keep (KeepP.of_below (ok := fun _ => False) HBz.out) (fun h => h) (fun _ h => h.elim)⟩
          have HK6 : Aside0 (KeepP (fun z => z = g) W W6) := ⟨HK4.out.trans (KeepP.of_below HBz.out)⟩
          have HOB : Aside0 (∀ z, (Value.slice Aa acc.len ca).ownBlock = some z → z < W4.heap.size) := ⟨Kd.R_lt HR4.out⟩
          have HOK : Aside0 (∀ z, (W4.heap.size ≤ z ∧ z ≠ g6) → W.heap.size ≤ z ∧ some z ≠ (Value.slice Aa acc.len ca).ownBlock) := ⟨fun z hz => ⟨Nat.le_trans hWW hz.1, fun e => by have := HOB.out z e.symm; omega⟩⟩
          have h66 : W4.heap.size ≤ W6.heap.size := by omega
          obtain ⟨x0, x1, x2, y0, y1, y2⟩ := cells_3 H5C.out
          clear H5B H5C BK5 HP4 HR4 HK4 HB4 hb1 hv1 HBz HBw HI2
          by_cases hk35 : k = 3 ∨ k = 5
          · have hO := HO2.out
            rw [if_pos hk35] at hO
            have hw := within_any a w0 HE.out m HN.out q W6 g g6 k s (.slice Av p.length cv) (by have := HQN.out; omega) hmx HSQ.out HP6.out hg6g hw06 BK6.out
            cases hwi : within k q with
            | none =>
              rw [hwi] at hO hw
              obtain rfl : o = none := hO
              clear hwi
              rcases hk35 with rfl | rfl
              all_goals
                go_wp2_with fail
                refine hw.mono ?_
                rintro e W7 ⟨hk7, rfl⟩
                have HK7 : Aside0 (KeepP (fun z => z = g) W W7) := ⟨HK6.out.trans2 hk7 (fun z hz => hz.elim (fun h => .inl h) (fun h => .inr (by omega)))⟩
                clear hw hk7
                go_wp2
                go_ret2
                exact ⟨HK7.out, rfl⟩
            | some z =>
              obtain ⟨x, y, r1⟩ := z
              rw [hwi] at hO hw
              have hcw := within_cnt hwi
              have HSR : Aside0 (∀ z, z ∈ r1 → z.sm) := ⟨fun z hz => HSQ.out z (within_sub hwi z hz)⟩
              simp only at hO
              have HO3 : Aside0 (o = (parse r1).map (fun z => ((acc.app (.cons k s p x y .nil)).app z.1, z.2))) := ⟨by rw [hO]; cases parse r1 with | none => rfl | some z => simp [app_app, app]⟩
              clear hwi hO HO2
              rcases hk35 with rfl | rfl
              · go_wp2_with fail
                refine hw.mono ?_
                rintro e W7 ⟨hk7, rfl, A3, c3, A4, c4, BK7, hX, hY, hP7⟩
                have HK7 : Aside0 (KeepP (fun z => z = g) W W7) := ⟨HK6.out.trans2 hk7 (fun z hz => hz.elim (fun h => .inl h) (fun h => .inr (by omega)))⟩
                have HR7 : Aside0 (kN.R 116 W7 W.heap.size (fun z => W.heap.size ≤ z) (.slice Aa acc.len ca) acc.of) := ⟨Kd.R_mono (RN.keep HR6.out hk7 (fun z hz e => e.elim (fun h => by omega) hz.2)) (fun z hz => hz.1)⟩
                have HPT7 : Aside0 (Kd.string.R 9 W7 W.heap.size (fun z => W4.heap.size ≤ z ∧ z ≠ g6) (.slice Av p.length cv) (p.map bs)) := ⟨Kd.R_step HPT.out (fun z hz hlt => hk7.blk z hlt (fun e => e.elim (fun h => by omega) hz.2))⟩
                have HX7 : Aside0 (kN.R 116 W7 W.heap.size (fun z => W4.heap.size ≤ z ∧ z ≠ g6) (.slice A3 x.len c3) x.of) := ⟨Kd.R_mono (Kd.R_lower hX (by omega)) (fun z hz => ⟨by omega, by omega⟩)⟩
                have HY7 : Aside0 (kN.R 116 W7 W.heap.size (fun z => W4.heap.size ≤ z ∧ z ≠ g6) (.slice A4 y.len c4) y.of) := ⟨Kd.R_mono (Kd.R_lower hY (by omega)) (fun z hz => ⟨by omega, by omega⟩)⟩
                have HP7 := Aside0.mk hP7
                have BK7' := Aside0.mk BK7
                clear hw hk7 hX hY hP7 BK7
                have hal : (acc.of.length + 1) * 96 ≤ 140737488355328 := by rw [of_len]; have := len_cnt acc; omega
                have hsm : acc.cnt + (1 + x.cnt + y.cnt) + r1.length ≤ l.length := by omega
                have hrq : r1.length < q.length + 1 := by omega
                have HS7 : W.heap.size ≤ W7.heap.size := HK7.out.size
                have HB7 := Aside0.mk (KeepP.below (B := g) HK7.out (fun z h => Nat.le_of_eq h.symm) (Nat.le_of_lt hgW))
                have HG7 : Aside0 (∀ z, some z = (Value.slice Aa acc.len ca).ownBlock → z ≠ g) := ⟨fun z e h => by have := Kd.R_base HR7.out z e.symm; omega⟩
                obtain ⟨z0, z1, z2, z3, z4, f0, f1, f2, f3, f4⟩ := cells_5 BK7'.out
                clear x0 x1 x2 y0 y1 y2
                go_wp2_with (at_builtin; refine Kd.R_append kN (w0 := W7) W.heap.size rfl _ _ 22 116 _ 96 rfl Tryz.underlying22 info_node rfl (by decide) (by decide) (.slice Aa acc.len ca) acc.of ⟨3, bs s, p.map bs, x.of, y.of⟩ [.int .u8 3, .string (bs s), .slice Av p.length cv, .slice A3 x.len c3, .slice A4 y.len c4] (fun z => W.heap.size ≤ z) (fun z => W4.heap.size ≤ z ∧ z ≠ g6) (by rfl) (by rfl) (k116_mkM _ _ _ ⟨3, bs s, p.map bs, x.of, y.of⟩ HPT7.out HX7.out HY7.out) HOK.out (fun z hz => Nat.le_trans HS7 hz) HR7.out (Below.refl _ _) HS7 hal ?_; intro v9 W9 hR9 hB9 hg9 hat9)
                have HB9 := Aside0.mk hB9
                have HR9 := Aside0.mk hR9
                obtain ⟨A9, c9, e9⟩ := Kd.R_slice hR9
                have hlen9 : (acc.of ++ [(⟨3, bs s, p.map bs, x.of, y.of⟩ : SN)]).length = (acc.app (.cons 3 s p x y .nil)).len := by rw [app_len, List.length_append, of_len]; rfl
                rw [hlen9] at e9
                subst e9
                have HP9 : Aside0 (PS w0 W9 g r1) := ⟨HP7.out.keep (KeepP.grown (ok := fun z => some z = (Value.slice Aa acc.len ca).ownBlock) hg9 (fun z hz => hz.symm)) (fun e => HG7.out g e rfl) (fun z e => by have h1 := Kd.R_base HR7.out z e.symm; have h2 := HP7.out.ge; omega)⟩
                have HK9 : Aside0 (KeepP (fun z => z = g) W W9) := ⟨HK7.out.trans2 (KeepP.grown (ok := fun z => some z = (Value.slice Aa acc.len ca).ownBlock) hg9 (fun z hz => hz.symm)) (fun z e => .inr (Kd.R_base HR7.out z e.symm))⟩
                clear hg9 hat9 hB9 hR9
                go_roundg r1.length
                case measure => simp only [List.length_cons]; exact hrq
                case rel => exact ⟨r1, acc.app (.cons 3 s p x y .nil), A9, c9, rfl, rfl, HO3, ⟨by rw [app_cnt]; exact hsm⟩, ⟨HSR.out⟩, ⟨by rw [app_of]; exact HR9.out⟩, HP9, HK9⟩
              · go_wp2_with fail
                refine hw.mono ?_
                rintro e W7 ⟨hk7, rfl, A3, c3, A4, c4, BK7, hX, hY, hP7⟩
                have HK7 : Aside0 (KeepP (fun z => z = g) W W7) := ⟨HK6.out.trans2 hk7 (fun z hz => hz.elim (fun h => .inl h) (fun h => .inr (by omega)))⟩
                have HR7 : Aside0 (kN.R 116 W7 W.heap.size (fun z => W.heap.size ≤ z) (.slice Aa acc.len ca) acc.of) := ⟨Kd.R_mono (RN.keep HR6.out hk7 (fun z hz e => e.elim (fun h => by omega) hz.2)) (fun z hz => hz.1)⟩
                have HPT7 : Aside0 (Kd.string.R 9 W7 W.heap.size (fun z => W4.heap.size ≤ z ∧ z ≠ g6) (.slice Av p.length cv) (p.map bs)) := ⟨Kd.R_step HPT.out (fun z hz hlt => hk7.blk z hlt (fun e => e.elim (fun h => by omega) hz.2))⟩
                have HX7 : Aside0 (kN.R 116 W7 W.heap.size (fun z => W4.heap.size ≤ z ∧ z ≠ g6) (.slice A3 x.len c3) x.of) := ⟨Kd.R_mono (Kd.R_lower hX (by omega)) (fun z hz => ⟨by omega, by omega⟩)⟩
                have HY7 : Aside0 (kN.R 116 W7 W.heap.size (fun z => W4.heap.size ≤ z ∧ z ≠ g6) (.slice A4 y.len c4) y.of) := ⟨Kd.R_mono (Kd.R_lower hY (by omega)) (fun z hz => ⟨by omega, by omega⟩)⟩
                have HP7 := Aside0.mk hP7
                have BK7' := Aside0.mk BK7
                clear hw hk7 hX hY hP7 BK7
                have hal : (acc.of.length + 1) * 96 ≤ 140737488355328 := by rw [of_len]; have := len_cnt acc; omega
                have hsm : acc.cnt + (1 + x.cnt + y.cnt) + r1.length ≤ l.length := by omega
                have hrq : r1.length < q.length + 1 := by omega
                have HS7 : W.heap.size ≤ W7.heap.size := HK7.out.size
                have HB7 := Aside0.mk (KeepP.below (B := g) HK7.out (fun z h => Nat.le_of_eq h.symm) (Nat.le_of_lt hgW))
                have HG7 : Aside0 (∀ z, some z = (Value.slice Aa acc.len ca).ownBlock → z ≠ g) := ⟨fun z e h => by have := Kd.R_base HR7.out z e.symm; omega⟩
                obtain ⟨z0, z1, z2, z3, z4, f0, f1, f2, f3, f4⟩ := cells_5 BK7'.out
                clear x0 x1 x2 y0 y1 y2
                go_wp2_with (at_builtin; refine Kd.R_append kN (w0 := W7) W.heap.size rfl _ _ 22 116 _ 96 rfl Tryz.underlying22 info_node rfl (by decide) (by decide) (.slice Aa acc.len ca) acc.of ⟨5, bs s, p.map bs, x.of, y.of⟩ [.int .u8 5, .string (bs s), .slice Av p.length cv, .slice A3 x.len c3, .slice A4 y.len c4] (fun z => W.heap.size ≤ z) (fun z => W4.heap.size ≤ z ∧ z ≠ g6) (by rfl) (by rfl) (k116_mkM _ _ _ ⟨5, bs s, p.map bs, x.of, y.of⟩ HPT7.out HX7.out HY7.out) HOK.out (fun z hz => Nat.le_trans HS7 hz) HR7.out (Below.refl _ _) HS7 hal ?_; intro v9 W9 hR9 hB9 hg9 hat9)
                have HB9 := Aside0.mk hB9
                have HR9 := Aside0.mk hR9
                obtain ⟨A9, c9, e9⟩ := Kd.R_slice hR9
                have hlen9 : (acc.of ++ [(⟨5, bs s, p.map bs, x.of, y.of⟩ : SN)]).length = (acc.app (.cons 5 s p x y .nil)).len := by rw [app_len, List.length_append, of_len]; rfl
                rw [hlen9] at e9
                subst e9
                have HP9 : Aside0 (PS w0 W9 g r1) := ⟨HP7.out.keep (KeepP.grown (ok := fun z => some z = (Value.slice Aa acc.len ca).ownBlock) hg9 (fun z hz => hz.symm)) (fun e => HG7.out g e rfl) (fun z e => by have h1 := Kd.R_base HR7.out z e.symm; have h2 := HP7.out.ge; omega)⟩
                have HK9 : Aside0 (KeepP (fun z => z = g) W W9) := ⟨HK7.out.trans2 (KeepP.grown (ok := fun z => some z = (Value.slice Aa acc.len ca).ownBlock) hg9 (fun z hz => hz.symm)) (fun z e => .inr (Kd.R_base HR7.out z e.symm))⟩
                clear hg9 hat9 hB9 hR9
                go_roundg r1.length
                case measure => simp only [List.length_cons]; exact hrq
                case rel => exact ⟨r1, acc.app (.cons 5 s p x y .nil), A9, c9, rfl, rfl, HO3, ⟨by rw [app_cnt]; exact hsm⟩, ⟨HSR.out⟩, ⟨by rw [app_of]; exact HR9.out⟩, HP9, HK9⟩
          · have hO := HO2.out
            rw [if_neg hk35] at hO
            have n3 : ((k : Int) == 3) = false := by rw [beq_eq_false_iff_ne]; omega
            have n5 : ((k : Int) == 5) = false := by rw [beq_eq_false_iff_ne]; omega
            have HO3 : Aside0 (o = (parse q).map (fun z => ((acc.app (.cons k s p .nil .nil .nil)).app z.1, z.2))) := ⟨by rw [hO]; cases parse q with | none => rfl | some z => simp [app_app, app]⟩
            obtain ⟨x, hx⟩ : ∃ x : Nodes, x = .nil := ⟨_, rfl⟩
            obtain ⟨y, hy⟩ : ∃ y : Nodes, y = .nil := ⟨_, rfl⟩
            obtain ⟨r1, hr1⟩ : ∃ r1, q = r1 := ⟨_, rfl⟩
            have HO4 : Aside0 (o = (parse r1).map (fun z => ((acc.app (.cons k s p x y .nil)).app z.1, z.2))) := ⟨by rw [hx, hy, ← hr1]; exact HO3.out⟩
            have HSR : Aside0 (∀ z, z ∈ r1 → z.sm) := ⟨hr1 ▸ HSQ.out⟩
            have hcw : x.cnt + y.cnt + r1.length ≤ q.length := by rw [hx, hy, ← hr1]; simp [cnt]
            have HX7 : Aside0 (kN.R 116 W6 W.heap.size (fun z => W4.heap.size ≤ z ∧ z ≠ g6) (.slice none 0 0) x.of) := ⟨hx ▸ Kd.R_nil _ _ _ _ _⟩
            have HY7 : Aside0 (kN.R 116 W6 W.heap.size (fun z => W4.heap.size ≤ z ∧ z ≠ g6) (.slice none 0 0) y.of) := ⟨hy ▸ Kd.R_nil _ _ _ _ _⟩
            have HP7 : Aside0 (PS w0 W6 g r1) := ⟨hr1 ▸ HP6.out⟩
            have HR7 : Aside0 (kN.R 116 W6 W.heap.size (fun z => W.heap.size ≤ z) (.slice Aa acc.len ca) acc.of) := ⟨Kd.R_mono HR6.out (fun z hz => hz.1)⟩
            have HPT7 := HPT
            have BK7' := BK6
            have HK7 := HK6
            clear hO HO2 HO3 hk35 hx hy hr1
            have hal : (acc.of.length + 1) * 96 ≤ 140737488355328 := by rw [of_len]; have := len_cnt acc; omega
            have hsm : acc.cnt + (1 + x.cnt + y.cnt) + r1.length ≤ l.length := by omega
            have hrq : r1.length < q.length + 1 := by omega
            have HS7 : W.heap.size ≤ W6.heap.size := HK7.out.size
            have HB7 := Aside0.mk (KeepP.below (B := g) HK7.out (fun z h => Nat.le_of_eq h.symm) (Nat.le_of_lt hgW))
            have HG7 : Aside0 (∀ z, some z = (Value.slice Aa acc.len ca).ownBlock → z ≠ g) := ⟨fun z e h => by have := Kd.R_base HR7.out z e.symm; omega⟩
            obtain ⟨z0, z1, z2, z3, z4, f0, f1, f2, f3, f4⟩ := cells_5 BK7'.out
            go_wp2_with (at_builtin; refine Kd.R_append kN (w0 := W6) W.heap.size rfl _ _ 22 116 _ 96 rfl Tryz.underlying22 info_node rfl (by decide) (by decide) (.slice Aa acc.len ca) acc.of ⟨k, bs s, p.map bs, x.of, y.of⟩ [.int .u8 k, .string (bs s), .slice Av p.length cv, .slice none 0 0, .slice none 0 0] (fun z => W.heap.size ≤ z) (fun z => W4.heap.size ≤ z ∧ z ≠ g6) (by rfl) (by rfl) (k116_mkM _ _ _ ⟨k, bs s, p.map bs, x.of, y.of⟩ HPT7.out HX7.out HY7.out) HOK.out (fun z hz => Nat.le_trans HS7 hz) HR7.out (Below.refl _ _) HS7 hal ?_; intro v9 W9 hR9 hB9 hg9 hat9)
            have HB9 := Aside0.mk hB9
            have HR9 := Aside0.mk hR9
            obtain ⟨A9, c9, e9⟩ := Kd.R_slice hR9
            have hlen9 : (acc.of ++ [(⟨k, bs s, p.map bs, x.of, y.of⟩ : SN)]).length = (acc.app (.cons k s p x y .nil)).len := by rw [app_len, List.length_append, of_len]; rfl
            rw [hlen9] at e9
            subst e9
            have HP9 : Aside0 (PS w0 W9 g r1) := ⟨HP7.out.keep (KeepP.grown (ok := fun z => some z = (Value.slice Aa acc.len ca).ownBlock) hg9 (fun z hz => hz.symm)) (fun e => HG7.out g e rfl) (fun z e => by have h1 := Kd.R_base HR7.out z e.symm; have h2 := HP7.out.ge; omega)⟩
            have HK9 : Aside0 (KeepP (fun z => z = g) W W9) := ⟨HK7.out.trans2 (KeepP.grown (ok := fun z => some z = (Value.slice Aa acc.len ca).ownBlock) hg9 (fun z hz => hz.symm)) (fun z e => .inr (Kd.R_base HR7.out z e.symm))⟩
            clear hg9 hat9 hB9 hR9
            go_roundg r1.length
            case measure => simp only [List.length_cons]; exact hrq
            case rel => exact ⟨r1, acc.app (.cons k s p x y .nil), A9, c9, rfl, rfl, HO4, ⟨by rw [app_cnt]; exact hsm⟩, ⟨HSR.out⟩, ⟨by rw [app_of]; exact HR9.out⟩, HP9, HK9⟩
end Go.Proofs.YthngelbaheankaaGreatDoor.Tpl
