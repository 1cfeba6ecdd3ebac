/- Part 3 of the proof (texts of this claim, merged in build order; what the claim does not need has been left out). -/
import Derived.Test.YtniibpndgcndbaaGreatDoorVtA2
import Derived.BigQuiet
import Derived.Deep.AppendLies
import Derived.Deep.QuietTactic
import Derived.Ground.Names2Prog
import Derived.Ground.SlgfProg
import Derived.Ground.SlgnProg
import Derived.LaidEql
import Derived.Lib.IndexBytes
import Derived.Lib.SlicesCompact
import Derived.Lib.Split
import Derived.LoopIn
import Derived.LoopNIn
import Derived.Maps.AppendAt
import Derived.OwnWalkIn
import Derived.RangeFuncBound
import Derived.RangeFuncBox
import Derived.RangeFuncCalls
import Derived.RangeFuncLeaves
import Derived.RangeFuncNested
import Derived.RowKitTokens
import Derived.Shelf.Abstract
import Derived.Shelf.LaysM
import Derived.Shelf.RegionOpen
import Derived.Shelf.Slices.Cells
import Derived.Shelf.Slices.Clone
import Derived.Shelf.Slices.CompactS
import Derived.Shelf.Slices.In.SortNone
import Derived.Shelf.Slices.Turned
import Derived.Shelf.SlicesE.Compact
import Derived.Shelf.SlicesE.DeleteFunc
import Derived.Shelf.SlicesE.IndexFunc
import Derived.Shelf.Small.Bits
import Derived.Shelf.Sort.Plain
import Derived.Shelf.Strconv.Itoa0
import Derived.Shelf.Strings.Builder1
import Derived.Shelf.Strings.Builder2
import Derived.Shelf.Strings.Count
import Derived.Shelf.Strings.Cut
import Derived.Shelf.Strings.Prefix
import Derived.Shelf.Strings.Search1
import Derived.Shelf.Strings.Search2
import Derived.Shelf.Strings.Search3
import Derived.Shelf.Strings.Shaped
import Derived.Shelf.Strings.Split
import Derived.Shelf.Strings.SplitShaped
import Derived.Shelf.Unicode.DecodeSlow
import Derived.Sort.OwnSorted
import Derived.Sort.Walk0
import Derived.Stop.Asserts
import Derived.TacticsInMore
import Derived.Test.YtniibpndgcndbaaGreatDoorProg
import Derived.WalkKit
import Derived.WalkLawsBesides
namespace Go.Proofs
open Go.Shelf
def Tryz.lays219_ren : Go.Shelf.Ren := ⟨fun | 219 => 171 | 217 => 190 | 225 => 191 | 224 => 192 | 267 => 193 | 266 => 199 | 314 => 200 | n => n, fun | 9 => 9 | 3 => 3 | 4 => 4 | 5 => 5 | 46 => 111 | 146 => 246 | 51 => 156 | n => n, fun | 1 => 3 | n => n⟩
def Tryz.lays144_ren : Go.Shelf.Ren := ⟨fun | 144 => 168 | 143 => 187 | 219 => 171 | 217 => 190 | 225 => 191 | 224 => 192 | 267 => 193 | 266 => 199 | 314 => 200 | n => n, fun | 9 => 9 | 4 => 4 | 3 => 3 | 5 => 5 | 46 => 111 | 146 => 246 | 51 => 156 | n => n, fun | 1 => 3 | n => n⟩
theorem Tryz.lays144 : Go.Proofs.Lays.n144 Tryz.prog Tryz.lays144_ren := {
  mixed := by kernel_rfl
  f143 := Tryz.func187.trans (congrArg some (by kernel_rfl))
  f144 := Tryz.func168.trans (congrArg some (by kernel_rfl))
  f217 := Tryz.func190.trans (congrArg some (by kernel_rfl))
  f219 := Tryz.func171.trans (congrArg some (by kernel_rfl))
  f224 := Tryz.func192.trans (congrArg some (by kernel_rfl))
  f225 := Tryz.func191.trans (congrArg some (by kernel_rfl))
  f266 := Tryz.func199.trans (congrArg some (by kernel_rfl))
  f267 := Tryz.func193.trans (congrArg some (by kernel_rfl))
  f314 := Tryz.func200.trans (congrArg some (by kernel_rfl))
  t3 := Tryz.underlying3
  a3 := Tryz.isAgg3
  z3 := Tryz.sizeOf3
  v3 := Tryz.zeroValue3
  t4 := Tryz.underlying4
  a4 := Tryz.isAgg4
  z4 := Tryz.sizeOf4
  v4 := Tryz.zeroValue4
  t5 := Tryz.underlying5
  a5 := Tryz.isAgg5
  z5 := Tryz.sizeOf5
  v5 := Tryz.zeroValue5
  t9 := Tryz.underlying9
  a9 := Tryz.isAgg9
  z9 := Tryz.sizeOf9
  v9 := Tryz.zeroValue9
  t46 := Tryz.underlying111
  a46 := Tryz.isAgg111
  z46 := Tryz.sizeOf111
  v46 := Tryz.zeroValue111
  t51 := Tryz.underlying156
  a51 := Tryz.isAgg156
  z51 := Tryz.sizeOf156
  v51 := Tryz.zeroValue156
  t146 := Tryz.underlying246
  a146 := Tryz.isAgg246
  z146 := Tryz.sizeOf246
  v146 := Tryz.zeroValue246
  g1 := by kernel_rfl }
open Go.RowKit Go.Lib in
/-- strings.Contains: "Contains reports whether substr is within s.": IT RETURNS 'Lib.contains s substr'; the world is as it was. (LAID: no walk: one application.) -/
theorem Tryz.strings_Contains (s sub : ByteArray) (m : Int) (w : World) (hs : s.size < 4294967281) (hm : w.cell? ⟨3, 0, none⟩ = some (.int .i64 m)) :
    Calls Tryz.prog 168 #[.string s, .string sub] w fun e w' => e = .returned (.bool (Lib.contains s.data.toList sub.data.toList)) ∧ w' = w := Any.strings_Contains Tryz.lays144 s sub m w hs hm
def Tryz.lays145_ren : Go.Shelf.Ren := ⟨fun | 145 => 94 | 220 => 138 | 219 => 171 | 217 => 190 | 225 => 191 | 224 => 192 | 267 => 193 | 266 => 199 | 314 => 200 | n => n, fun | 9 => 9 | 4 => 4 | 59 => 134 | 3 => 3 | 5 => 5 | 46 => 111 | 146 => 246 | 51 => 156 | n => n, fun | 1 => 3 | n => n⟩
theorem Tryz.lays145 : Go.Proofs.Lays.n145 Tryz.prog Tryz.lays145_ren := {
  mixed := by kernel_rfl
  f145 := Tryz.func94.trans (congrArg some (by kernel_rfl))
  f217 := Tryz.func190.trans (congrArg some (by kernel_rfl))
  f219 := Tryz.func171.trans (congrArg some (by kernel_rfl))
  f220 := Tryz.func138.trans (congrArg some (by kernel_rfl))
  f224 := Tryz.func192.trans (congrArg some (by kernel_rfl))
  f225 := Tryz.func191.trans (congrArg some (by kernel_rfl))
  f266 := Tryz.func199.trans (congrArg some (by kernel_rfl))
  f267 := Tryz.func193.trans (congrArg some (by kernel_rfl))
  f314 := Tryz.func200.trans (congrArg some (by kernel_rfl))
  t3 := Tryz.underlying3
  a3 := Tryz.isAgg3
  z3 := Tryz.sizeOf3
  v3 := Tryz.zeroValue3
  t4 := Tryz.underlying4
  a4 := Tryz.isAgg4
  z4 := Tryz.sizeOf4
  v4 := Tryz.zeroValue4
  t5 := Tryz.underlying5
  a5 := Tryz.isAgg5
  z5 := Tryz.sizeOf5
  v5 := Tryz.zeroValue5
  t9 := Tryz.underlying9
  a9 := Tryz.isAgg9
  z9 := Tryz.sizeOf9
  v9 := Tryz.zeroValue9
  t46 := Tryz.underlying111
  a46 := Tryz.isAgg111
  z46 := Tryz.sizeOf111
  v46 := Tryz.zeroValue111
  t51 := Tryz.underlying156
  a51 := Tryz.isAgg156
  z51 := Tryz.sizeOf156
  v51 := Tryz.zeroValue156
  t59 := Tryz.underlying134
  a59 := Tryz.isAgg134
  z59 := Tryz.sizeOf134
  v59 := Tryz.zeroValue134
  t146 := Tryz.underlying246
  a146 := Tryz.isAgg246
  z146 := Tryz.sizeOf246
  v146 := Tryz.zeroValue246
  g1 := by kernel_rfl }
open Go.RowKit Go.Lib in
/-- strings.Cut: "Cut slices s around the first instance of sep, returning the text before and after sep. The found result reports whether sep appears in s. If sep does not appear in s, cut returns s, "", false.": IT RETURNS 'Lib.cut s sep'; the world is as it was but for the count of draws. (LAID: no walk: one application.) -/
theorem Tryz.strings_Cut (s sep : ByteArray) (m : Int) (w : World) (hs : s.size < 4294967281) (hm : w.cell? ⟨3, 0, none⟩ = some (.int .i64 m)) :
    Calls Tryz.prog 94 #[.string s, .string sep] w fun e w' => e = .returned (.tuple #[.string ⟨(Lib.cut s.data.toList sep.data.toList).1.toArray⟩, .string ⟨(Lib.cut s.data.toList sep.data.toList).2.1.toArray⟩, .bool (Lib.cut s.data.toList sep.data.toList).2.2]) ∧ ∃ n, w' = w.drewN n := Any.strings_Cut Tryz.lays145 s sep m w hs hm
def Tryz.lays190_ren : Go.Shelf.Ren := ⟨fun | 190 => 40 | 125 => 72 | 258 => 71 | 128 => 109 | 129 => 110 | 302 => 100 | 303 => 101 | 304 => 102 | 305 => 103 | 306 => 104 | 307 => 105 | 308 => 106 | 309 => 107 | 310 => 108 | 333 => 148 | 329 => 149 | 330 => 150 | 334 => 151 | 335 => 152 | 336 => 153 | 344 => 180 | n => n, fun | 31 => 23 | 9 => 9 | 3 => 3 | 46 => 111 | 0 => 0 | 51 => 156 | 53 => 158 | 4 => 4 | 183 => 149 | 182 => 148 | 131 => 112 | 5 => 5 | 218 => 200 | 222 => 204 | 228 => 235 | 229 => 236 | n => n, fun | n => n⟩
theorem Tryz.lays190 : Go.Proofs.Lays.n190 Tryz.prog Tryz.lays190_ren := {
  mixed := by kernel_rfl
  f125 := Tryz.func72.trans (congrArg some (by kernel_rfl))
  f128 := Tryz.func109.trans (congrArg some (by kernel_rfl))
  f129 := Tryz.func110.trans (congrArg some (by kernel_rfl))
  f190 := Tryz.func40.trans (congrArg some (by kernel_rfl))
  f258 := Tryz.func71.trans (congrArg some (by kernel_rfl))
  f302 := Tryz.func100.trans (congrArg some (by kernel_rfl))
  f303 := Tryz.func101.trans (congrArg some (by kernel_rfl))
  f304 := Tryz.func102.trans (congrArg some (by kernel_rfl))
  f305 := Tryz.func103.trans (congrArg some (by kernel_rfl))
  f306 := Tryz.func104.trans (congrArg some (by kernel_rfl))
  f307 := Tryz.func105.trans (congrArg some (by kernel_rfl))
  f308 := Tryz.func106.trans (congrArg some (by kernel_rfl))
  f309 := Tryz.func107.trans (congrArg some (by kernel_rfl))
  f310 := Tryz.func108.trans (congrArg some (by kernel_rfl))
  f329 := Tryz.func149.trans (congrArg some (by kernel_rfl))
  f330 := Tryz.func150.trans (congrArg some (by kernel_rfl))
  f333 := Tryz.func148.trans (congrArg some (by kernel_rfl))
  f334 := Tryz.func151.trans (congrArg some (by kernel_rfl))
  f335 := Tryz.func152.trans (congrArg some (by kernel_rfl))
  f336 := Tryz.func153.trans (congrArg some (by kernel_rfl))
  f344 := Tryz.func180.trans (congrArg some (by kernel_rfl))
  t0 := Tryz.underlying0
  a0 := Tryz.isAgg0
  z0 := Tryz.sizeOf0
  v0 := Tryz.zeroValue0
  t3 := Tryz.underlying3
  a3 := Tryz.isAgg3
  z3 := Tryz.sizeOf3
  v3 := Tryz.zeroValue3
  t4 := Tryz.underlying4
  a4 := Tryz.isAgg4
  z4 := Tryz.sizeOf4
  v4 := Tryz.zeroValue4
  t5 := Tryz.underlying5
  a5 := Tryz.isAgg5
  z5 := Tryz.sizeOf5
  v5 := Tryz.zeroValue5
  t9 := Tryz.underlying9
  a9 := Tryz.isAgg9
  z9 := Tryz.sizeOf9
  v9 := Tryz.zeroValue9
  t31 := Tryz.underlying23
  a31 := Tryz.isAgg23
  z31 := Tryz.sizeOf23
  v31 := Tryz.zeroValue23
  t46 := Tryz.underlying111
  a46 := Tryz.isAgg111
  z46 := Tryz.sizeOf111
  v46 := Tryz.zeroValue111
  t51 := Tryz.underlying156
  a51 := Tryz.isAgg156
  z51 := Tryz.sizeOf156
  v51 := Tryz.zeroValue156
  t53 := Tryz.underlying158
  a53 := Tryz.isAgg158
  z53 := Tryz.sizeOf158
  v53 := Tryz.zeroValue158
  t131 := Tryz.underlying112
  a131 := Tryz.isAgg112
  z131 := Tryz.sizeOf112
  v131 := Tryz.zeroValue112
  t182 := Tryz.underlying148
  a182 := Tryz.isAgg148
  z182 := Tryz.sizeOf148
  v182 := Tryz.zeroValue148
  t183 := Tryz.underlying149
  a183 := Tryz.isAgg149
  z183 := Tryz.sizeOf149
  v183 := Tryz.zeroValue149
  t218 := Tryz.underlying200
  a218 := Tryz.isAgg200
  z218 := Tryz.sizeOf200
  v218 := Tryz.zeroValue200
  t222 := Tryz.underlying204
  a222 := Tryz.isAgg204
  z222 := Tryz.sizeOf204
  v222 := Tryz.zeroValue204
  t228 := Tryz.underlying235
  a228 := Tryz.isAgg235
  z228 := Tryz.sizeOf235
  v228 := Tryz.zeroValue235
  t229 := Tryz.underlying236
  a229 := Tryz.isAgg236
  z229 := Tryz.sizeOf236
  v229 := Tryz.zeroValue236 }
open Go.Sort Go.RowKit in
theorem Tryz.slices_Sort_string (blk off cap : Nat) (ss : List (List UInt8)) (w : World) (hH : Holds encStr w blk off ss.toArray) (hblk : blk < w.heap.size) (hsz : ss.length < 4611686018427387904) :
    Calls Tryz.prog 40 #[.slice (some ⟨blk, off, none⟩) ss.length cap] w fun e w' =>
      e = .returned (.tuple #[]) ∧ ∃ n os, w' = grow (putRow encStr (Sort.ahead w n) blk off (ss.mergeSort fun x y => decide (x ≤ y)).toArray) os := Any.slices_Sort_string Tryz.lays190 blk off cap ss w hH hblk hsz
def Tryz.lays207_ren : Go.Shelf.Ren := ⟨fun | 207 => 188 | n => n, fun | 9 => 9 | 4 => 4 | 3 => 3 | n => n, fun | n => n⟩
theorem Tryz.lays207 : Go.Proofs.Lays.n207 Tryz.prog Tryz.lays207_ren := {
  mixed := by kernel_rfl
  f207 := Tryz.func188.trans (congrArg some (by kernel_rfl))
  t3 := Tryz.underlying3
  a3 := Tryz.isAgg3
  z3 := Tryz.sizeOf3
  v3 := Tryz.zeroValue3
  t4 := Tryz.underlying4
  a4 := Tryz.isAgg4
  z4 := Tryz.sizeOf4
  v4 := Tryz.zeroValue4
  t9 := Tryz.underlying9
  a9 := Tryz.isAgg9
  z9 := Tryz.sizeOf9
  v9 := Tryz.zeroValue9 }
open Go.RowKit Go.Lib in
/-- internal/stringslite.HasSuffix (what strings.HasSuffix calls). (LAID: no walk: one application.) -/
theorem Tryz.stringslite_HasSuffix (s p : ByteArray) (w : World) (hs : s.size ≤ 9223372036854775807) :
    Calls Tryz.prog 188 #[.string s, .string p] w fun e w' => e = .returned (.bool (Lib.hasSuffix s.data.toList p.data.toList)) ∧ w' = w := Any.stringslite_HasSuffix Tryz.lays207 s p w hs
def Tryz.lays100_ren : Go.Shelf.Ren := ⟨fun | 100 => 169 | 207 => 188 | n => n, fun | 9 => 9 | 4 => 4 | 3 => 3 | n => n, fun | n => n⟩
theorem Tryz.lays100 : Go.Proofs.Lays.n100 Tryz.prog Tryz.lays100_ren := {
  mixed := by kernel_rfl
  f100 := Tryz.func169.trans (congrArg some (by kernel_rfl))
  f207 := Tryz.func188.trans (congrArg some (by kernel_rfl))
  t3 := Tryz.underlying3
  a3 := Tryz.isAgg3
  z3 := Tryz.sizeOf3
  v3 := Tryz.zeroValue3
  t4 := Tryz.underlying4
  a4 := Tryz.isAgg4
  z4 := Tryz.sizeOf4
  v4 := Tryz.zeroValue4
  t9 := Tryz.underlying9
  a9 := Tryz.isAgg9
  z9 := Tryz.sizeOf9
  v9 := Tryz.zeroValue9 }
open Go.RowKit Go.Lib in
/-- strings.HasSuffix: "HasSuffix reports whether the string s ends with suffix.": IT RETURNS 'Lib.hasSuffix s suffix'; the world is as it was. ('hs': no Go string is longer: a caller has it of every string that it was handed.) (LAID: no walk: one application.) -/
theorem Tryz.strings_HasSuffix (s p : ByteArray) (w : World) (hs : s.size ≤ 9223372036854775807) :
    Calls Tryz.prog 169 #[.string s, .string p] w fun e w' => e = .returned (.bool (Lib.hasSuffix s.data.toList p.data.toList)) ∧ w' = w := Any.strings_HasSuffix Tryz.lays100 s p w hs
def Tryz.lays221_ren : Go.Shelf.Ren := ⟨fun | 221 => 172 | 268 => 194 | 138 => 195 | 143 => 187 | 195 => 201 | 197 => 202 | 218 => 203 | 219 => 171 | 260 => 208 | 217 => 190 | 225 => 191 | 224 => 192 | 267 => 193 | 266 => 199 | 314 => 200 | n => n, fun | 9 => 9 | 3 => 3 | 31 => 23 | 4 => 4 | 0 => 0 | 105 => 249 | 21 => 21 | 5 => 5 | 46 => 111 | 119 => 260 | 139 => 263 | 138 => 262 | 146 => 246 | 51 => 156 | n => n, fun | 1 => 3 | 3 => 5 | 4 => 6 | n => n⟩
def Tryz.lays146_ren : Go.Shelf.Ren := ⟨fun | 146 => 140 | 221 => 172 | 268 => 194 | 138 => 195 | 143 => 187 | 195 => 201 | 197 => 202 | 218 => 203 | 219 => 171 | 260 => 208 | 217 => 190 | 225 => 191 | 224 => 192 | 267 => 193 | 266 => 199 | 314 => 200 | n => n, fun | 9 => 9 | 31 => 23 | 3 => 3 | 4 => 4 | 0 => 0 | 105 => 249 | 21 => 21 | 5 => 5 | 46 => 111 | 119 => 260 | 139 => 263 | 138 => 262 | 146 => 246 | 51 => 156 | n => n, fun | 1 => 3 | 3 => 5 | 4 => 6 | n => n⟩
theorem Tryz.lays146 : Go.Proofs.Lays.n146 Tryz.prog Tryz.lays146_ren := {
  mixed := by kernel_rfl
  f138 := Tryz.func195.trans (congrArg some (by kernel_rfl))
  f143 := Tryz.func187.trans (congrArg some (by kernel_rfl))
  f146 := Tryz.func140.trans (congrArg some (by kernel_rfl))
  f195 := Tryz.func201.trans (congrArg some (by kernel_rfl))
  f197 := Tryz.func202.trans (congrArg some (by kernel_rfl))
  f217 := Tryz.func190.trans (congrArg some (by kernel_rfl))
  f218 := Tryz.func203.trans (congrArg some (by kernel_rfl))
  f219 := Tryz.func171.trans (congrArg some (by kernel_rfl))
  f221 := Tryz.func172.trans (congrArg some (by kernel_rfl))
  f224 := Tryz.func192.trans (congrArg some (by kernel_rfl))
  f225 := Tryz.func191.trans (congrArg some (by kernel_rfl))
  f260 := Tryz.func208.trans (congrArg some (by kernel_rfl))
  f266 := Tryz.func199.trans (congrArg some (by kernel_rfl))
  f267 := Tryz.func193.trans (congrArg some (by kernel_rfl))
  f268 := Tryz.func194.trans (congrArg some (by kernel_rfl))
  f314 := Tryz.func200.trans (congrArg some (by kernel_rfl))
  t0 := Tryz.underlying0
  a0 := Tryz.isAgg0
  z0 := Tryz.sizeOf0
  v0 := Tryz.zeroValue0
  t3 := Tryz.underlying3
  a3 := Tryz.isAgg3
  z3 := Tryz.sizeOf3
  v3 := Tryz.zeroValue3
  t4 := Tryz.underlying4
  a4 := Tryz.isAgg4
  z4 := Tryz.sizeOf4
  v4 := Tryz.zeroValue4
  t5 := Tryz.underlying5
  a5 := Tryz.isAgg5
  z5 := Tryz.sizeOf5
  v5 := Tryz.zeroValue5
  t9 := Tryz.underlying9
  a9 := Tryz.isAgg9
  z9 := Tryz.sizeOf9
  v9 := Tryz.zeroValue9
  t21 := Tryz.underlying21
  a21 := Tryz.isAgg21
  z21 := Tryz.sizeOf21
  v21 := Tryz.zeroValue21
  t31 := Tryz.underlying23
  a31 := Tryz.isAgg23
  z31 := Tryz.sizeOf23
  v31 := Tryz.zeroValue23
  t46 := Tryz.underlying111
  a46 := Tryz.isAgg111
  z46 := Tryz.sizeOf111
  v46 := Tryz.zeroValue111
  t51 := Tryz.underlying156
  a51 := Tryz.isAgg156
  z51 := Tryz.sizeOf156
  v51 := Tryz.zeroValue156
  t105 := Tryz.underlying249
  a105 := Tryz.isAgg249
  z105 := Tryz.sizeOf249
  v105 := Tryz.zeroValue249
  t119 := Tryz.underlying260
  a119 := Tryz.isAgg260
  z119 := Tryz.sizeOf260
  t138 := Tryz.underlying262
  a138 := Tryz.isAgg262
  z138 := Tryz.sizeOf262
  v138 := Tryz.zeroValue262
  t139 := Tryz.underlying263
  a139 := Tryz.isAgg263
  z139 := Tryz.sizeOf263
  v139 := Tryz.zeroValue263
  t146 := Tryz.underlying246
  a146 := Tryz.isAgg246
  z146 := Tryz.sizeOf246
  v146 := Tryz.zeroValue246
  g1 := by kernel_rfl
  g3 := by kernel_rfl
  g4 := by kernel_rfl }
open Go.RowKit Go.Lib in
/-- strings.Split. (LAID: no walk: one application.) -/
theorem Tryz.strings_Split (s sep : ByteArray) (m : Int) (w : World) (hs : s.size < 4294967281) (hm : w.cell? ⟨3, 0, none⟩ = some (.int .i64 m)) (h1 : 1 ≤ sep.size) :
    Calls Tryz.prog 140 #[.string s, .string sep] w fun e w' =>
      e = .returned (.slice (some ⟨w.heap.size, 0, none⟩) (Lib.countB s sep + 1) (Lib.countB s sep + 1)) ∧ w' = w.alloc (.cells ((Lib.splitB sep 0 (Lib.countB s sep) s).map Value.string).toArray 9) := Any.strings_Split Tryz.lays146 (by kernel_rfl) s sep m w hs hm h1
def Tryz.lays110_ren : Go.Shelf.Ren := ⟨fun | 110 => 53 | 109 => 78 | n => n, fun | 31 => 23 | 9 => 9 | 4 => 4 | 3 => 3 | 0 => 0 | n => n, fun | n => n⟩
theorem Tryz.lays110 : Go.Proofs.Lays.n110 Tryz.prog Tryz.lays110_ren := {
  mixed := by kernel_rfl
  f109 := Tryz.func78.trans (congrArg some (by kernel_rfl))
  f110 := Tryz.func53.trans (congrArg some (by kernel_rfl))
  t0 := Tryz.underlying0
  a0 := Tryz.isAgg0
  z0 := Tryz.sizeOf0
  v0 := Tryz.zeroValue0
  t3 := Tryz.underlying3
  a3 := Tryz.isAgg3
  z3 := Tryz.sizeOf3
  v3 := Tryz.zeroValue3
  t4 := Tryz.underlying4
  a4 := Tryz.isAgg4
  z4 := Tryz.sizeOf4
  v4 := Tryz.zeroValue4
  t9 := Tryz.underlying9
  a9 := Tryz.isAgg9
  z9 := Tryz.sizeOf9
  v9 := Tryz.zeroValue9
  t31 := Tryz.underlying23
  a31 := Tryz.isAgg23
  z31 := Tryz.sizeOf23
  v31 := Tryz.zeroValue23 }
open Go.Lib in
/-- slices.Contains at []string: "Contains reports whether v is present in s.": IT RETURNS 'Lib.containsS (the elements) v', which is true just where v is among them ('Lib.containsS_iff'); the world is as it was. ITS CALLEE slices.Index IS MET BY ITS OWN CONTRACT OFF THE SHELF (lay that first): no loop is walked here. (LAID: no walk: one application.) -/
theorem Tryz.slices_Contains_string (b off n c : Nat) (zs : List ByteArray) (x : ByteArray) (w : World) (hz : n ≤ zs.length) (hbig : n ≤ 9223372036854775807) (hc : ∀ j, j < zs.length → w.cell? ⟨b, off + j, none⟩ = some (.string (zs.getD j ByteArray.empty))) :
    Calls Tryz.prog 53 #[.slice (some ⟨b, off, none⟩) n c, .string x] w fun e w' => e = .returned (.bool (Lib.containsS (zs.take n) x)) ∧ w' = w := Any.slices_Contains_string Tryz.lays110 b off n c zs x w hz hbig hc
open Go.Lib in
/-- The same at a slice of length 0, a nil one too. (LAID: no walk: one application.) -/
theorem Tryz.slices_Contains_string_empty (a : Option Addr) (c : Nat) (x : ByteArray) (w : World) :
    Calls Tryz.prog 53 #[.slice a 0 c, .string x] w fun e w' => e = .returned (.bool false) ∧ w' = w := Any.slices_Contains_string_empty Tryz.lays110 a c x w
def Tryz.lays194_ren : Go.Shelf.Ren := ⟨fun | 194 => 41 | n => n, fun | 31 => 23 | 9 => 9 | 3 => 3 | 4 => 4 | 0 => 0 | n => n, fun | n => n⟩
theorem Tryz.lays194 : Go.Proofs.Lays.n194 Tryz.prog Tryz.lays194_ren := {
  mixed := by kernel_rfl
  f194 := Tryz.func41.trans (congrArg some (by kernel_rfl))
  t0 := Tryz.underlying0
  a0 := Tryz.isAgg0
  z0 := Tryz.sizeOf0
  v0 := Tryz.zeroValue0
  t3 := Tryz.underlying3
  a3 := Tryz.isAgg3
  z3 := Tryz.sizeOf3
  v3 := Tryz.zeroValue3
  t4 := Tryz.underlying4
  a4 := Tryz.isAgg4
  z4 := Tryz.sizeOf4
  v4 := Tryz.zeroValue4
  t9 := Tryz.underlying9
  a9 := Tryz.isAgg9
  z9 := Tryz.sizeOf9
  v9 := Tryz.zeroValue9
  t31 := Tryz.underlying23
  a31 := Tryz.isAgg23
  z31 := Tryz.sizeOf23
  v31 := Tryz.zeroValue23 }
open Go.RowKit Go.Lib Go.Sort in
/-- slices.Compact at []string: "Compact replaces consecutive runs of equal elements with a single copy. This is like the uniq command found on Unix. Compact modifies the contents of the slice s and returns the modified slice, which may have a smaller length. Compact zeroes the elements between the new length and the original length. The result preserves the nilness of s.": IT RETURNS THE SLICE CUT TO 'Lib.compact zs'; ITS CELLS HOLD 'Lib.compact zs', THEN ZERO VALUES up to the old length; all else is as it was, but for the count of draws. IN THE WORDS OF slices.Sort's CONTRACT ('Holds', 'putRow'): so the everyday 'slices.Sort(xs); xs = slices.Compact(xs)' goes from the one contract to the other. It asks 'zs.length ≤ cap' (every slice's: the reslicing 's[:k]' looks at it). Length 0, nil: '.._empty'. (LAID: no walk: one application.) -/
theorem Tryz.slices_Compact_string (blk off cap : Nat) (zs : List (List UInt8)) (w : World) (hH : Holds encStr w blk off zs.toArray) (hsz : zs.length ≤ 9223372036854775807) (hcap : zs.length ≤ cap) :
    Calls Tryz.prog 41 #[.slice (some ⟨blk, off, none⟩) zs.length cap] w fun e w' => e = .returned (.slice (some ⟨blk, off, none⟩) (Lib.compact zs).length cap) ∧ ∃ q, w' = putRow encStr (Sort.ahead w q) blk off (Lib.compact zs ++ List.replicate (zs.length - (Lib.compact zs).length) []).toArray := Any.slices_Compact_string Tryz.lays194 blk off cap zs w hH hsz hcap
open Go.RowKit Go.Lib Go.Sort in
/-- The same at a slice of length 0, a nil one too: it comes back as it is. (LAID: no walk: one application.) -/
theorem Tryz.slices_Compact_string_empty (a : Option Addr) (cap : Nat) (w : World) :
    Calls Tryz.prog 41 #[.slice a 0 cap] w fun e w' => e = .returned (.slice a 0 cap) ∧ w' = w := Any.slices_Compact_string_empty Tryz.lays194 a cap w
open Go.RowKit Go.Sort in
/-- .. and plain. (LAID: no walk: one application.) -/
theorem Tryz.slices_Sort_string_none (p : Option Addr) (cap : Nat) (w : World) :
    Calls Tryz.prog 40 #[.slice p 0 cap] w fun e w' => e = .returned (.tuple #[]) ∧ w' = w := Any.slices_Sort_string_none Tryz.lays190 p cap w
def Tryz.laysSlH8_f51_ren : Go.Shelf.Ren := ⟨fun | 8 => 51 | 6 => 77 | n => n, fun | 22 => 23 | 23 => 9 | 25 => 73 | 4 => 4 | 3 => 3 | 0 => 0 | n => n, fun | n => n⟩
theorem Tryz.laysSlH8_f51 : Go.Proofs.SlLaysH.n8 Tryz.prog Tryz.laysSlH8_f51_ren := {
  mixed := by kernel_rfl
  f6 := ⟨Tryz.f77.name, by decide, Tryz.func77.trans (congrArg some (by kernel_rfl))⟩
  f8 := ⟨Tryz.f51.name, by decide, Tryz.func51.trans (congrArg some (by kernel_rfl))⟩
  t0 := Tryz.underlying0
  a0 := Tryz.isAgg0
  z0 := Tryz.sizeOf0
  v0 := Tryz.zeroValue0
  t3 := Tryz.underlying3
  a3 := Tryz.isAgg3
  z3 := Tryz.sizeOf3
  v3 := Tryz.zeroValue3
  t4 := Tryz.underlying4
  a4 := Tryz.isAgg4
  z4 := Tryz.sizeOf4
  v4 := Tryz.zeroValue4
  t22 := Tryz.underlying23
  a22 := Tryz.isAgg23
  z22 := Tryz.sizeOf23
  v22 := Tryz.zeroValue23
  a23 := Tryz.isAgg9
  z23 := Tryz.sizeOf9
  t25 := Tryz.underlying73
  a25 := Tryz.isAgg73
  z25 := Tryz.sizeOf73
  v25 := Tryz.zeroValue73 }
open Go.RowKit Go.Lib in
/-- slices.ContainsFunc: "ContainsFunc reports whether at least one element e of s satisfies f(e).": ITS CALLEE slices.IndexFunc IS MET BY ITS OWN CONTRACT. (LAID AT THE INSTANCE 'slices.ContainsFunc[[]string,string]': no walk: one application.) -/
theorem Tryz.slices_ContainsFunc {α : Type} [Inhabited α] (enc : α → Value) (p : α → Bool) (g : Nat) (lb : Array Value) (eg : ∀ args w, (callFunc g args).run Tryz.prog w = .ok (.enter g args) w) (b off n c : Nat) (zs : List α) (w : World) (hp : PredAt Tryz.prog g lb enc p w) (hz : n ≤ zs.length) (hbig : n ≤ 9223372036854775807) (hc : ∀ j, j < zs.length → w.cell? ⟨b, off + j, none⟩ = some (enc zs[j]!)) :
    Calls Tryz.prog 51 #[.slice (some ⟨b, off, none⟩) n c, .func (.func g) #[] lb] w fun e w' => e = .returned (.bool ((zs.take n).any p)) ∧ ∃ q, w' = w.drewN q := AnyE.slices_ContainsFunc Tryz.laysSlH8_f51 enc p g lb eg b off n c zs w hp hz hbig hc
open Go.RowKit Go.Lib in
/-- The same at a slice of length 0, a nil one too. (LAID AT THE INSTANCE 'slices.ContainsFunc[[]string,string]': no walk: one application.) -/
theorem Tryz.slices_ContainsFunc_empty {α : Type} [Inhabited α] (a : Option Addr) (c : Nat) (fv : Value) (w : World) :
    Calls Tryz.prog 51 #[.slice a 0 c, fv] w fun e w' => e = .returned (.bool false) ∧ w' = w := AnyE.slices_ContainsFunc_empty Tryz.laysSlH8_f51 a c fv w
def Tryz.laysSlH10_f139_ren : Go.Shelf.Ren := ⟨fun | 10 => 139 | 6 => 77 | n => n, fun | 22 => 23 | 23 => 9 | 25 => 73 | 3 => 3 | 4 => 4 | 0 => 0 | n => n, fun | n => n⟩
theorem Tryz.laysSlH10_f139 : Go.Proofs.SlLaysH.n10 Tryz.prog Tryz.laysSlH10_f139_ren := {
  mixed := by kernel_rfl
  f6 := ⟨Tryz.f77.name, by decide, Tryz.func77.trans (congrArg some (by kernel_rfl))⟩
  f10 := ⟨Tryz.f139.name, by decide, Tryz.func139.trans (congrArg some (by kernel_rfl))⟩
  t0 := Tryz.underlying0
  a0 := Tryz.isAgg0
  z0 := Tryz.sizeOf0
  v0 := Tryz.zeroValue0
  t3 := Tryz.underlying3
  a3 := Tryz.isAgg3
  z3 := Tryz.sizeOf3
  v3 := Tryz.zeroValue3
  t4 := Tryz.underlying4
  a4 := Tryz.isAgg4
  z4 := Tryz.sizeOf4
  v4 := Tryz.zeroValue4
  t22 := Tryz.underlying23
  a22 := Tryz.isAgg23
  z22 := Tryz.sizeOf23
  v22 := Tryz.zeroValue23
  a23 := Tryz.isAgg9
  z23 := Tryz.sizeOf9
  t25 := Tryz.underlying73
  a25 := Tryz.isAgg73
  z25 := Tryz.sizeOf73
  v25 := Tryz.zeroValue73 }
open Go.RowKit Go.Lib Go.Sort in
theorem Tryz.slices_DeleteFunc {α : Type} [Inhabited α] (enc : α → Value) (hO : OneCell enc) (p : α → Bool) (g : Nat) (lb : Array Value) (eg : ∀ args w, (callFunc g args).run Tryz.prog w = .ok (.enter g args) w) (zr : α) (v23 : ∀ w, (zeroValue 9).run Tryz.prog w = .ok (enc zr) w) (blk off cap : Nat) (d : Array α) (w : World) (hp : PredAt Tryz.prog g lb enc p w) (hpo : PredOver Tryz.prog g lb enc p blk off d.size w) (hH : Holds enc w blk off d) (hsz : d.size ≤ 9223372036854775807) (hcap : d.size ≤ cap) :
    Calls Tryz.prog 139 #[.slice (some ⟨blk, off, none⟩) d.size cap, .func (.func g) #[] lb] w fun e w' => e = .returned (.slice (some ⟨blk, off, none⟩) (d.toList.filter fun x => !p x).length cap) ∧ ∃ q, w' = putRow enc (Sort.ahead w q) blk off ((d.toList.filter fun x => !p x) ++ List.replicate (d.size - (d.toList.filter fun x => !p x).length) zr).toArray := AnyE.slices_DeleteFunc Tryz.laysSlH10_f139 enc hO p g lb eg zr v23 blk off cap d w hp hpo hH hsz hcap
end Go.Proofs
namespace Go.Proofs.YtniibpndgcndbaaGreatDoor.Tpl
open Go.RowKit Go.Proofs.YtniibpndgcndbaaGreatDoor.PB Go.Proofs.YtniibpndgcndbaaGreatDoor.Short Go.Proofs.YtniibpndgcndbaaGreatDoorW.PrintWords Go.Proofs.YtniibpndgcndbaaGreatDoorW.PrintLast Go.Proofs.YtniibpndgcndbaaGreatDoorW.PrintMore Nodes
def Glob (w : World) : Prop := (∃ m, w.cell? ⟨3, 0, none⟩ = some (.int .i64 m)) ∧ ∃ a : Addr, w.cell? ⟨1, 0, none⟩ = some (.iface 266 (.pointer (some a)))
theorem Glob.below {w w' : World} (h : Glob w) (hb : Below w.heap.size w w') : Glob w' := by obtain ⟨⟨m, hm⟩, ⟨a, ha⟩⟩ := h; exact ⟨⟨m, pw_cell_below hb hm⟩, ⟨a, pw_cell_below hb ha⟩⟩
theorem globS {w X : World} (h : Glob w) [s : Stp w X] : Glob X := h.below s.out
theorem row_form {w : World} {A : Option Addr} {p : List ByteArray} (h : Kd.string.C w A p.length p) (hp : 0 < p.length) : ∃ b off, A = some ⟨b, off, none⟩ ∧ ∀ j, j < p.length → w.cell? ⟨b, off + j, none⟩ = some (.string (p.getD j ByteArray.empty)) := by
  obtain ⟨ad, e, hc⟩ := h.2.2 hp
  have cell : ∀ j (hj : j < p.length), w.cell? (ad.add j) = some (.string p[j]) := by
    intro j hj
    obtain ⟨cs, hl, hk, hcell⟩ := hc j _ (List.getElem?_eq_getElem hj)
    have hk' : cs = [.string p[j]] := hk
    subst hk'
    have h0 := hcell 0 _ rfl
    simpa [Kd.string, Kd.scalar] using h0
  have c0 := cell 0 hp
  have hs : ad.spot = none := by
    simp only [Addr.add, if_true] at c0
    unfold World.cell? at c0
    split at c0
    · cases hsp : ad.spot with
      | none => rfl
      | some _ => rw [hsp] at c0; simp at c0
    · cases c0
  obtain ⟨b, off, sp⟩ := ad
  simp only at hs
  subst hs
  refine ⟨b, off, e, fun j hj => ?_⟩
  have := cell j hj
  rw [List.getD_eq_getElem?_getD, List.getElem?_eq_getElem hj, Option.getD_some, ← this]
  unfold Addr.add
  split
  · rename_i h; subst h; rfl
  · rfl
theorem eg_right : ∀ args w, (callFunc 189 args).run Tryz.prog w = .ok (.enter 189 args) w := enters_of Tryz.func189 (by kernel_rfl) rfl
theorem not_name (s : S) (hs : s.length ≤ 1048576) (W : World) : FnGives Tryz.prog 189 #[] #[.string (bs s)] (.bool (!nameP s)) W := by
  obtain ⟨k, hk⟩ := name_f s hs
  unfold FnGives
  have c := value_Name.calls k (bs s) _ W hk
  cases h : nameP s
  all_goals
    rw [h] at c
    go_enter Tryz.func189, Tryz.ntmps189
    go_wp2_with fail
    refine c.mono ?_
    rintro e w1 ⟨rfl, ⟨q, rfl⟩⟩
    go_wp2
    go_ret
    exact ⟨rfl, q, rfl⟩
abbrev SmS := { s : S // s.length ≤ 1048576 }
instance : Inhabited SmS := ⟨⟨[], by decide⟩⟩
def smsv (x : SmS) : Value := .string (bs x.1)
theorem pred_right (w : World) : PredAt Tryz.prog 189 #[] smsv (fun x => !nameP x.1) w := fun W x _ => not_name x.1 x.2 W
def toSm (p : List S) (h : ∀ s, s ∈ p → s.length ≤ 1048576) : List SmS := p.pmap (fun s hs => ⟨s, hs⟩) h
theorem toSm_len (p : List S) (h) : (toSm p h).length = p.length := by simp [toSm]
theorem toSm_any (p : List S) (h) (f : S → Bool) : (toSm p h).any (fun x => f x.1) = p.any f := by
  unfold toSm
  induction p with
  | nil => rfl
  | cons s r ih => simp only [List.pmap_cons, List.any_cons]; rw [ih]
theorem toSm_get (p : List S) (h) (j : Nat) (hj : j < p.length) : smsv (toSm p h)[j]! = .string ((p.map bs).getD j ByteArray.empty) := by
  have : j < (toSm p h).length := by rw [toSm_len]; exact hj
  rw [getElem!_pos (toSm p h) j this]
  simp [smsv, toSm, List.getD, hj]
set_option maxHeartbeats 1000000 in
set_option maxRecDepth 100000 in
theorem right_any (A : Option Addr) (c : Nat) (p : List S) (w : World) (hC : Kd.string.C w A p.length (p.map bs)) (hp : p.length ≤ 1048576) (hs : ∀ s, s ∈ p → s.length ≤ 1048576) :
    Calls Tryz.prog 170 #[.slice A p.length c] w fun e w' => e = .returned (.bool (pathP p)) ∧ ∃ q, w' = w.drewN q := by
  by_cases c1 : p.length < 1
  · have e : pathP p = false := by unfold pathP; simp; intro h; omega
    rw [e]
    go_enter Tryz.func170, Tryz.ntmps170
    go_wp2_with fail
    go_ret
    exact ⟨rfl, 0, rfl⟩
  by_cases c2 : 4 < p.length
  · have e : pathP p = false := by unfold pathP; simp; intro h h2; omega
    rw [e]
    go_enter Tryz.func170, Tryz.ntmps170
    go_wp2_with fail
    go_ret
    exact ⟨rfl, 0, rfl⟩
  obtain ⟨b, off, rfl, hcell⟩ := row_form (by simpa using hC) (show 0 < (p.map bs).length by simp; omega)
  have hcell' : ∀ j, j < (toSm p hs).length → w.cell? ⟨b, off + j, none⟩ = some (smsv (toSm p hs)[j]!) := by
    intro j hj
    rw [toSm_len] at hj
    rw [toSm_get p hs j hj]
    exact hcell j (by simpa using hj)
  have hcon := Aside0.mk (fun q => Tryz.slices_ContainsFunc smsv (fun x => !nameP x.1) 189 #[] eg_right b off p.length c (toSm p hs) (w.drewN q) (pred_right _) (by rw [toSm_len]; exact Nat.le_refl _) (by omega) hcell')
  have hany : ((toSm p hs).take p.length).any (fun x => !nameP x.1) = !p.all nameP := by
    rw [List.take_of_length_le (by rw [toSm_len]; exact Nat.le_refl _), toSm_any p hs (fun s => !nameP s)]
    rw [← List.not_all_eq_any_not]
  have h0 : w.cell? ⟨b, off, none⟩ = some (.string (bs (p.getD 0 []))) := by
    have := hcell 0 (by simp; omega)
    rw [List.getD_eq_getElem?_getD, List.getElem?_map] at this
    rw [show off + 0 = off from rfl] at this
    rw [this]
    simp [List.getD, show 0 < p.length by omega]
  have hpp : pathP p = (!(p.length == 1 && special (p.getD 0 [])) && p.all nameP) := by
    unfold pathP; rw [decide_eq_true (show 1 ≤ p.length by omega), decide_eq_true (show p.length ≤ 4 by omega)]; rfl
  rw [hpp]
  clear hpp
  have hown := scan_own.calls 5 (bs (p.getD 0 [])) _ w (own_f _)
  have hsp := own_special (p.getD 0 [])
  rw [hsp]
  clear hsp
  generalize p.getD 0 [] = s0 at *
  generalize ownP s0 = o at *
  have hall : (!((!p.all nameP))) = p.all nameP := by simp
  by_cases c3 : p.length = 1
  · have e1 : (p.length == 1) = true := by simp [c3]
    rw [e1]
    clear e1
    have e1 : ((p.length : Int) == 1) = true := by simp [c3]
    by_cases co : o = 2
    · subst co
      rw [show (!(true && ((2 : Nat) != 2)) && p.all nameP) = p.all nameP from by simp]
      generalize p.all nameP = r at *
      go_enter Tryz.func170, Tryz.ntmps170
      go_wp2_with fail
      refine hown.mono ?_
      rintro e w1 ⟨rfl, ⟨q, rfl⟩⟩
      go_wp2_with fail
      have h1 := hcon.out q
      rw [c3] at h1 hany
      refine h1.mono ?_
      rintro e w2 ⟨rfl, ⟨q2, rfl⟩⟩
      rw [hany]
      go_wp2
      go_ret
      exact ⟨by first | rfl | simp, q + q2, rfl⟩
    · have e2 : ((o : Int) != 2) = true := by rw [bne_iff_ne]; omega
      have e3 : (o != 2) = true := by rw [bne_iff_ne]; omega
      rw [e3]
      go_enter Tryz.func170, Tryz.ntmps170
      go_wp2_with fail
      refine hown.mono ?_
      rintro e w1 ⟨rfl, ⟨q, rfl⟩⟩
      go_wp2_with fail
      go_ret
      exact ⟨by simp, q, rfl⟩
  · have e1 : (p.length == 1) = false := by simp [c3]
    rw [e1]
    clear e1
    have e1 : ((p.length : Int) == 1) = false := by rw [beq_eq_false_iff_ne]; omega
    rw [show (!(false && (o != 2)) && p.all nameP) = p.all nameP from by simp]
    generalize p.all nameP = r at *
    go_enter Tryz.func170, Tryz.ntmps170
    go_wp2_with fail
    refine (hcon.out 0).mono ?_
    rintro e w2 ⟨rfl, ⟨q2, rfl⟩⟩
    rw [hany]
    go_wp2
    go_ret
    exact ⟨by first | rfl | simp, q2, rfl⟩
theorem hasOpen_any (s : S) (hs : s.length ≤ 1048576) (w : World) (hG : Glob w) : Calls Tryz.prog 168 #[.string (bs s), .string ⟨#[123, 123]⟩] w fun e w' => e = .returned (.bool (hasOpen s)) ∧ w' = w := by
  obtain ⟨⟨m, hm⟩, _⟩ := hG
  exact Tryz.strings_Contains (bs s) ⟨#[123, 123]⟩ m w (by rw [bs_size]; omega) hm
def endsB (s : S) : Bool := s.getLast? == some 123
theorem suffix1 (s : S) : Lib.hasSuffix s [123] = endsB s := by
  unfold Lib.hasSuffix endsB
  rcases List.eq_nil_or_concat s with rfl | ⟨l, x, rfl⟩
  · rfl
  · simp [List.isSuffixOf]
    first | rfl | (rw [Bool.eq_iff_iff]; simp; exact eq_comm)
theorem suffix_any (s : S) (hs : s.length ≤ 1048576) (w : World) : Calls Tryz.prog 169 #[.string (bs s), .string ⟨#[123]⟩] w fun e w' => e = .returned (.bool (endsB s)) ∧ w' = w := by
  rw [← suffix1]
  exact Tryz.strings_HasSuffix (bs s) ⟨#[123]⟩ w (by rw [bs_size]; omega)
set_option maxHeartbeats 1000000 in
set_option maxRecDepth 100000 in
theorem fine_any (A : Option Addr) (c : Nat) (x : Tok) (next txt : Bool) (w : World) (hG : Glob w) (hk : x.k < 256) (ht : x.t.length ≤ 1048576) (hC : Kd.string.C w A x.p.length (x.p.map bs)) (hp : x.p.length ≤ 1048576) (hs : ∀ s, s ∈ x.p → s.length ≤ 1048576) :
    Calls Tryz.prog 137 #[.agg #[.int .u8 x.k, .string (bs x.t), .slice A x.p.length c], .bool next, .bool txt] w fun e w' => e = .returned (.bool (fineP x next txt)) ∧ Below w.heap.size w w' := by
  obtain ⟨k, t, p⟩ := x
  simp only at *
  unfold fineP
  simp only
  by_cases k1 : k = 1
  · subst k1
    rw [if_pos rfl]
    have HG := Aside0.mk hG
    have HS := Aside0.mk hs
    clear hG hC hs
    have hopen := fun W (hW : Glob W) => hasOpen_any t ht W hW
    have hsuf := fun W => suffix_any t ht W
    generalize hasOpen t = o at *
    rw [show (t.getLast? == some 123) = endsB t from rfl]
    generalize endsB t = z at *
    have e0 : (bs t).toList.isEmpty = t.isEmpty := by rw [bs_list]
    generalize t.isEmpty = y at *
    have e1 : ((p.length : Int) == 0) = (p.length == 0) := by rw [Bool.eq_iff_iff]; simp
    generalize (p.length == 0) = n at *
    have hy : y = true ∨ y = false ∧ n = false ∨ y = false ∧ n = true ∧ o = true ∨ y = false ∧ n = true ∧ o = false ∧ txt = true ∨ y = false ∧ n = true ∧ o = false ∧ txt = false ∧ next = false ∨ y = false ∧ n = true ∧ o = false ∧ txt = false ∧ next = true := by
      cases y <;> cases n <;> cases o <;> cases txt <;> cases next <;> simp
    rcases hy with rfl | ⟨rfl, rfl⟩ | ⟨rfl, rfl, rfl⟩ | ⟨rfl, rfl, rfl, rfl⟩ | ⟨rfl, rfl, rfl, rfl, rfl⟩ | ⟨rfl, rfl, rfl, rfl, rfl⟩
    all_goals
      go_enter Tryz.func137, Tryz.ntmps137
      go_wp2_with fail
      go_quiet (first | (go_at_call 168; exact Calls.quiet_of_same (hopen _ (by exact globS HG.out))) | (go_at_call 169; exact Calls.quiet_of_same (hsuf _)))
      go_wp2
      go_ret
      exact ⟨by simp, belS (Below.refl _ _)⟩
  rw [if_neg k1]
  have n1 : ((k : Int) == 1) = false := by rw [beq_eq_false_iff_ne]; omega
  have e0 : (bs t).toList.isEmpty = t.isEmpty := by rw [bs_list]
  have e1 : ((p.length : Int) == 0) = (p.length == 0) := by rw [Bool.eq_iff_iff]; simp
  generalize (p.length == 0) = n at *
  generalize t.isEmpty = y at *
  by_cases k2 : k = 2 ∨ k = 3 ∨ k = 5
  · rw [if_pos k2]
    have hr := Aside0.mk (fun W hb => right_any A c p W (Kd.C_below hC hb) hp hs)
    clear hG hC hs e1
    generalize pathP p = z at *
    have hb : ((k : Int) == 2) = true ∨ (((k : Int) == 2) = false ∧ ((k : Int) == 3) = true) ∨ (((k : Int) == 2) = false ∧ ((k : Int) == 3) = false ∧ ((k : Int) == 5) = true) := by
      rcases k2 with rfl | rfl | rfl
      · exact .inl rfl
      · exact .inr (.inl ⟨rfl, rfl⟩)
      · exact .inr (.inr ⟨rfl, rfl, rfl⟩)
    clear k2
    cases y with
    | false =>
      rcases hb with b1 | ⟨b1, b2⟩ | ⟨b1, b2, b3⟩
      all_goals
        go_enter Tryz.func137, Tryz.ntmps137
        go_wp2_with fail
        go_ret
        exact ⟨by simp, belS (Below.refl _ _)⟩
    | true =>
      rcases hb with b1 | ⟨b1, b2⟩ | ⟨b1, b2, b3⟩
      all_goals
        go_enter Tryz.func137, Tryz.ntmps137
        go_wp2_with fail
        refine (hr.out _ (belS (Below.refl _ _))).mono ?_
        rintro e w1 ⟨rfl, ⟨q, rfl⟩⟩
        go_wp2
        go_ret
        exact ⟨by simp, belS (Below.refl _ _)⟩
  · rw [if_neg k2]
    have n2 : ((k : Int) == 2) = false := by rw [beq_eq_false_iff_ne]; omega
    have n3 : ((k : Int) == 3) = false := by rw [beq_eq_false_iff_ne]; omega
    have n5 : ((k : Int) == 5) = false := by rw [beq_eq_false_iff_ne]; omega
    clear hG hC hs
    by_cases k4 : k = 4 ∨ k = 6
    · rw [if_pos k4]
      have hb : ((k : Int) == 4) = true ∨ (((k : Int) == 4) = false ∧ ((k : Int) == 6) = true) := by
        rcases k4 with rfl | rfl
        · exact .inl rfl
        · exact .inr ⟨rfl, rfl⟩
      clear k4 k2 k1
      rcases hb with b1 | ⟨b1, b2⟩
      all_goals
        cases y
        all_goals
          go_enter Tryz.func137, Tryz.ntmps137
          go_wp2_with fail
          go_ret
          exact ⟨by simp, belS (Below.refl _ _)⟩
    · rw [if_neg k4]
      have n4 : ((k : Int) == 4) = false := by rw [beq_eq_false_iff_ne]; omega
      have n6 : ((k : Int) == 6) = false := by rw [beq_eq_false_iff_ne]; omega
      clear k4 k2 k1
      go_enter Tryz.func137, Tryz.ntmps137
      go_wp2_with fail
      go_ret
      exact ⟨by simp, belS (Below.refl _ _)⟩
end Go.Proofs.YtniibpndgcndbaaGreatDoor.Tpl
set_option linter.unusedSimpArgs false
namespace Go.Proofs.YtniibpndgcndbaaGreatDoor.Tpl
open Go.RowKit Go.Proofs.YtniibpndgcndbaaGreatDoor.PB Go.Proofs.YtniibpndgcndbaaGreatDoor.Short Go.Proofs.YtniibpndgcndbaaGreatDoorW.PrintWords Go.Proofs.YtniibpndgcndbaaGreatDoorW.PrintLast Go.Proofs.YtniibpndgcndbaaGreatDoorW.PrintMore Nodes
attribute [local go_sem ↓] Go.wp_at_zero Go.wp_at_succ
def Tok.sm (x : Tok) : Prop := x.k < 256 ∧ x.t.length ≤ 1048576 ∧ x.p.length ≤ 1048576 ∧ ∀ s, s ∈ x.p → s.length ≤ 1048576
def RdT (w : World) (A : Option Addr) (c : Nat) (l : List Tok) : Prop := kT.C w A l.length (tokv l) ∧ l.length ≤ c
theorem RdT.below {w w1 : World} {A : Option Addr} {c : Nat} {l : List Tok} (h : RdT w A c l) (hb : Below w.heap.size w w1) : RdT w1 A c l := ⟨Kd.C_below h.1 hb, h.2⟩
theorem RdT.at {w : World} {A : Option Addr} {c : Nat} {l : List Tok} (h : RdT w A c l) {i : Nat} {x : Tok} (hx : l[i]? = some x) :
    ∃ ad A2 c2, A = some ad ∧ w.cell? (ad.add (i * 3)) = some (.int .u8 x.k) ∧ w.cell? ⟨(ad.add (i * 3)).block, (ad.add (i * 3)).off + 1, none⟩ = some (.string (bs x.t)) ∧ w.cell? ⟨(ad.add (i * 3)).block, (ad.add (i * 3)).off + 2, none⟩ = some (.slice A2 x.p.length c2) ∧
      Kd.string.C w A2 x.p.length (x.p.map bs) ∧ x.p.length ≤ c2 := by
  have hi := (List.getElem?_eq_some_iff.1 hx).1
  obtain ⟨ad, A2, c2, e, x0, x1, x2, l2, i2⟩ := at_T101 h.1 (i : Int) (by omega) (by omega)
  have e0 : rd_T101 (tokv l) (i : Int) = Tok.of x := by
    unfold rd_T101 tokv
    simp [List.getD, hx]
  rw [e0] at x0 x1 x2 l2 i2
  simp only [Int.toNat_natCast, Tok.of, List.length_map] at x0 x1 x2 l2 i2
  exact ⟨ad, A2, c2, e, x0, x1, x2, i2, l2⟩
theorem toksP_drop {l : List Tok} {i : Nat} {x : Tok} (hx : l[i]? = some x) : toksP (l.drop i) = (fineP x (decide (i + 1 < l.length)) (match l[i + 1]? with | none => false | some y => y.k == 1) && toksP (l.drop (i + 1))) := by
  have hi := (List.getElem?_eq_some_iff.1 hx).1
  have e : l.drop i = x :: l.drop (i + 1) := by rw [List.drop_eq_getElem_cons hi]; congr 1; exact Option.some.inj ((List.getElem?_eq_getElem hi).symm.trans hx)
  rw [e]
  conv => lhs; unfold toksP
  congr 1
  by_cases h : i + 1 < l.length
  · have e2 := List.drop_eq_getElem_cons h
    rw [e2, List.getElem?_eq_getElem h, decide_eq_true h]
    rfl
  · rw [List.drop_eq_nil_of_le (by omega), List.getElem?_eq_none (by omega), decide_eq_false h]
    rfl
def chkT5 : Bool × List (List Nat × List Nat) := (true, [([], []), ([], []), ([], []), ([2], [2]), ([3], [3]), ([3], [3]), ([5, 3], [3, 5]), ([4, 6, 3], [3, 4, 6]), ([7, 3], [3, 7]), ([8, 3], [3, 8]), ([9, 3], [3, 9]), ([3, 10], [3, 10]), ([0, 1, 11, 3], [0, 1, 11]), ([12], [12])])
def chkB5 : List Nat := [0, 0, 0, 4, 12, 12, 44, 124, 252, 508, 1020, 2044, 4095, 8191]
theorem chktab5 : rtab .any (opsOf Tryz.f93 5) = chkT5 := by kernel_rfl
theorem chkbits5 : waitsOk chkT5.2 chkB5 = true := by kernel_rfl
set_option maxHeartbeats 2000000 in
set_option maxRecDepth 100000 in
theorem check_any (A : Option Addr) (c : Nat) (l : List Tok) (w : World) (hG : Glob w) (hR : RdT w A c l) (hl : l.length ≤ 1048576) (hs : ∀ x, x ∈ l → x.sm) :
    Calls Tryz.prog 93 #[.slice A l.length c] w fun e w' => e = .returned (.int .i64 (if toksP l = true then 0 else 2)) ∧ Below w.heap.size w w' := by
  obtain ⟨r, hr⟩ : ∃ r : Int, (if toksP l = true then 0 else 2) = r := ⟨_, rfl⟩
  rw [hr]
  have Hr := Aside0.mk hr
  clear hr
  have HR := Aside0.mk hR
  have HG := Aside0.mk hG
  have HS := Aside0.mk hs
  clear hR hG hs
  go_enter Tryz.func93, Tryz.ntmps93
  go_wp2
  go_loopw [8] (fun v wr => ∃ i : Nat, v = .int .i64 i ∧ i ≤ l.length ∧ Aside0 (toksP l = toksP (l.drop i)) ∧ Aside0 (Below w.heap.size w wr))
    (fun v _ => l.length - (intOf v).toNat)
  case atStart => exact ⟨0, rfl, Nat.zero_le _, ⟨by simp⟩, ⟨Below.refl _ _⟩⟩
  case round =>
    obtain ⟨i, rfl, hi, HE, HB⟩ := hrel
    by_cases hlt : i < l.length
    · obtain ⟨x, hx⟩ : ∃ x, l[i]? = some x := ⟨_, List.getElem?_eq_getElem hlt⟩
      have hsx := HS.out x (List.mem_of_getElem? hx)
      obtain ⟨ad, A2, c2, rfl, y0, y1, y2, i2, l2⟩ := HR.out.at hx
      replace y0 := (HB.out.cell (World.block_lt_of_cell? _ _ y0)).trans y0
      replace y1 := (HB.out.cell (World.block_lt_of_cell? _ _ y1)).trans y1
      replace y2 := (HB.out.cell (World.block_lt_of_cell? _ _ y2)).trans y2
      have hd := toksP_drop hx
      rw [← HE.out] at hd
      obtain ⟨k, t, p⟩ := x
      simp only at y0 y1 y2 i2 l2
      have HSX := Aside0.mk hsx
      clear hsx
      by_cases hn : i + 1 < l.length
      · obtain ⟨y, hy⟩ : ∃ y, l[i + 1]? = some y := ⟨_, List.getElem?_eq_getElem hn⟩
        obtain ⟨ad', _, _, e, z0, _, _, _, _⟩ := HR.out.at hy
        cases e
        replace z0 := (HB.out.cell (World.block_lt_of_cell? _ _ z0)).trans z0
        rw [hy, decide_eq_true hn] at hd
        simp only at hd
        obtain ⟨ky, ty, py⟩ := y
        simp only at z0 hd
        clear hx hy
        have hb1 : decide ((i : Int) + 1 < (l.length : Int)) = true := by rw [decide_eq_true_eq]; omega
        have hb2 : (0 : Int) ≤ (i : Int) + 1 := by omega
        have hb3 : (i : Int) + 1 < (l.length : Int) := by omega
        have hwr : IntKind.i64.wrap ((i : Int) + 1) = (i : Int) + 1 := by rw [i64_w]; unfold wrap64; omega
        have hky : ((ky : Int) == 1) = (ky == 1) := by rw [Bool.eq_iff_iff, beq_iff_eq, beq_iff_eq]; omega
        have hf := Aside0.mk (fun W hb => fine_any A2 c2 ⟨k, t, p⟩ true (ky == 1) W (HG.out.below hb) HSX.out.1 HSX.out.2.1 (Kd.C_below i2 hb) HSX.out.2.2.1 HSX.out.2.2.2)
        generalize (ky == 1) = kb at *
        generalize hF : fineP ⟨k, t, p⟩ true kb = fb at *
        go_wp2_with fail
        obtain ⟨g, hg⟩ : ∃ g, wr.heap.size = g := ⟨_, rfl⟩
        have BK := Aside0.mk (blk_new wr (.cells #[.int .u8 k, .string (bs t), .slice A2 p.length c2] 101))
        have HBw := Aside0.mk (below_alloc HB.out (.cells #[.int .u8 k, .string (bs t), .slice A2 p.length c2] 101))
        replace z0 := pw_cell_below (below_alloc (Below.refl wr.heap.size wr) (.cells #[.int .u8 k, .string (bs t), .slice A2 p.length c2] 101)) z0
        generalize wr.alloc (.cells #[.int .u8 k, .string (bs t), .slice A2 p.length c2] 101) = W at BK HBw z0 ⊢
        rw [hg] at BK ⊢
        obtain ⟨m0, m1, m2, n0, n1, n2⟩ := cells_3 BK.out
        clear y0 y1 y2 HB
        go_region_held3 (fun w' => w'.cell? ⟨g, 0, none⟩ = some (.int .u8 k) ∧ w'.cell? ⟨g, 1, none⟩ = some (.string (bs t)) ∧ w'.cell? ⟨g, 2, none⟩ = some (.slice A2 p.length c2) ∧ w'.cell? (ad.add ((i + 1) * 3)) = some (.int .u8 ky))
          (first
            | go_keep
            | (have q := cells_3 (blk_below (w := W.drew) BK.out hb4); exact ⟨q.1, q.2.1, q.2.2.1, pw_cell_below hb4 z0⟩))
          (first
            | ((go_at_call 137; refine (hf.out _ (below_drew1 HBw.out)).mono ?_; rintro e w1 ⟨rfl, hb4⟩)))
        have HB1 := Aside0.mk (below_step (below_drew1 HBw.out) hb4)
        clear hb4 hf z0
        cases fb with
        | false =>
          go_wp2
          go_ret
          exact ⟨by rw [← Hr.out, hd]; simp, HB1.out⟩
        | true =>
          go_wp2
          go_roundw
          case rel => exact ⟨i + 1, by simp, by omega, ⟨by rw [hd]; simp⟩, HB1⟩
          case measure => simp [intOf]; omega
      · rw [List.getElem?_eq_none (by omega), decide_eq_false hn] at hd
        simp only at hd
        clear hx
        have hb1 : decide ((i : Int) + 1 < (l.length : Int)) = false := by rw [decide_eq_false_iff_not]; omega
        have hf := Aside0.mk (fun W hb => fine_any A2 c2 ⟨k, t, p⟩ false false W (HG.out.below hb) HSX.out.1 HSX.out.2.1 (Kd.C_below i2 hb) HSX.out.2.2.1 HSX.out.2.2.2)
        generalize hF : fineP ⟨k, t, p⟩ false false = fb at *
        go_wp2_with fail
        obtain ⟨g, hg⟩ : ∃ g, wr.heap.size = g := ⟨_, rfl⟩
        have BK := Aside0.mk (blk_new wr (.cells #[.int .u8 k, .string (bs t), .slice A2 p.length c2] 101))
        have HBw := Aside0.mk (below_alloc HB.out (.cells #[.int .u8 k, .string (bs t), .slice A2 p.length c2] 101))
        generalize wr.alloc (.cells #[.int .u8 k, .string (bs t), .slice A2 p.length c2] 101) = W at BK HBw ⊢
        rw [hg] at BK ⊢
        obtain ⟨m0, m1, m2, n0, n1, n2⟩ := cells_3 BK.out
        clear y0 y1 y2 HB
        have HBD := Aside0.mk (below_drew1 HBw.out)
        have BKD := Aside0.mk (blk_drew BK.out)
        refine start_ (n := 14) (S := fun w' => w'.cell? ⟨g, 0, none⟩ = some (.int .u8 k) ∧ w'.cell? ⟨g, 1, none⟩ = some (.string (bs t)) ∧ w'.cell? ⟨g, 2, none⟩ = some (.slice A2 p.length c2)) (ds := []) #[false, false, false, false, false, false, false, false, false, false, false, false, false, false] (by kernel_rfl) rfl rfl ⟨m0, m1, m2⟩ (fun hHeld => ?_)
        refine with_tabW chktab5 chkbits5 (fun HT_ HW_ => ?_)
        clear m0 m1 m2 n0 n1 n2 BK HBw
        generalize W.drew = W2 at BKD HBD hHeld ⊢
        refine pure_ (i := 1) (N := some 19) (v := ?_) (a' := ?_) #[false, true, false, false, false, false, false, false, false, false, false, false, false, false] rfl rfl (any_of HT_.out (by kernel_rfl)) (fun _ _ _ h => h) (Or.inl ⟨by rfl, ?_⟩) ?_ ?_
        rotate_left
        · intro w'
          go_simp
          with_reducible rfl
        rotate_left
        · simp only [Act.put, List.setIfInBounds_toArray, List.set_cons_zero, List.set_cons_succ, i64_w, i32_w]
          rfl
        refine pure_ (i := 2) (N := some 20) (v := ?_) (a' := ?_) #[false, true, true, false, false, false, false, false, false, false, false, false, false, false] rfl rfl (any_of HT_.out (by kernel_rfl)) (fun _ _ _ h => h) (Or.inl ⟨by rfl, ?_⟩) ?_ ?_
        rotate_left
        · intro w'
          go_simp
          with_reducible rfl
        rotate_left
        · simp only [Act.put, List.setIfInBounds_toArray, List.set_cons_zero, List.set_cons_succ, i64_w, i32_w]
          rfl
        refine pure_ (i := 3) (N := some 21) (v := ?_) (a' := ?_) #[false, true, true, true, false, false, false, false, false, false, false, false, false, false] rfl rfl (any_of HT_.out (by kernel_rfl)) (fun _ _ _ h => h) (Or.inl ⟨by rfl, ?_⟩) ?_ ?_
        rotate_left
        · intro w'
          go_simp
          with_reducible rfl
        rotate_left
        · simp only [Act.put, List.setIfInBounds_toArray, List.set_cons_zero, List.set_cons_succ, i64_w, i32_w]
          rfl
        refine pure_ (i := 4) (N := some 22) (v := undef) (a' := ?_) #[false, true, true, true, true, false, false, false, false, false, false, false, false, false] rfl rfl (any_of HT_.out (by kernel_rfl)) (fun _ _ _ h => h) (Or.inr ⟨by rfl, rfl⟩) ?_ ?_
        rotate_left
        · simp only [Act.put, List.setIfInBounds_toArray, List.set_cons_zero, List.set_cons_succ, i64_w, i32_w]
          rfl
        refine pure_ (i := 5) (N := some 23) (v := undef) (a' := ?_) #[false, true, true, true, true, true, false, false, false, false, false, false, false, false] rfl rfl (any_of HT_.out (by kernel_rfl)) (fun _ _ _ h => h) (Or.inr ⟨by rfl, rfl⟩) ?_ ?_
        rotate_left
        · simp only [Act.put, List.setIfInBounds_toArray, List.set_cons_zero, List.set_cons_succ, i64_w, i32_w]
          rfl
        refine pure_ (i := 6) (N := some 24) (v := undef) (a' := ?_) #[false, true, true, true, true, true, true, false, false, false, false, false, false, false] rfl rfl (any_of HT_.out (by kernel_rfl)) (fun _ _ _ h => h) (Or.inr ⟨by rfl, rfl⟩) ?_ ?_
        rotate_left
        · simp only [Act.put, List.setIfInBounds_toArray, List.set_cons_zero, List.set_cons_succ, i64_w, i32_w]
          rfl
        refine pure_ (i := 7) (N := some 25) (v := undef) (a' := ?_) #[false, true, true, true, true, true, true, true, false, false, false, false, false, false] rfl rfl (any_of HT_.out (by kernel_rfl)) (fun _ _ _ h => h) (Or.inr ⟨by rfl, rfl⟩) ?_ ?_
        rotate_left
        · simp only [Act.put, List.setIfInBounds_toArray, List.set_cons_zero, List.set_cons_succ, i64_w, i32_w]
          rfl
        refine pure_ (i := 8) (N := some 26) (v := undef) (a' := ?_) #[false, true, true, true, true, true, true, true, true, false, false, false, false, false] rfl rfl (any_of HT_.out (by kernel_rfl)) (fun _ _ _ h => h) (Or.inr ⟨by rfl, rfl⟩) ?_ ?_
        rotate_left
        · simp only [Act.put, List.setIfInBounds_toArray, List.set_cons_zero, List.set_cons_succ, i64_w, i32_w]
          rfl
        refine pure_ (i := 9) (N := some 27) (v := undef) (a' := ?_) #[false, true, true, true, true, true, true, true, true, true, false, false, false, false] rfl rfl (any_of HT_.out (by kernel_rfl)) (fun _ _ _ h => h) (Or.inr ⟨by rfl, rfl⟩) ?_ ?_
        rotate_left
        · simp only [Act.put, List.setIfInBounds_toArray, List.set_cons_zero, List.set_cons_succ, i64_w, i32_w]
          rfl
        refine pure_ (i := 10) (N := some 28) (v := undef) (a' := ?_) #[false, true, true, true, true, true, true, true, true, true, true, false, false, false] rfl rfl (any_of HT_.out (by kernel_rfl)) (fun _ _ _ h => h) (Or.inr ⟨by rfl, rfl⟩) ?_ ?_
        rotate_left
        · simp only [Act.put, List.setIfInBounds_toArray, List.set_cons_zero, List.set_cons_succ, i64_w, i32_w]
          rfl
        refine pure_ (i := 11) (N := some 29) (v := ?_) (a' := ?_) #[false, true, true, true, true, true, true, true, true, true, true, true, false, false] rfl rfl (any_of HT_.out (by kernel_rfl)) (fun _ _ _ h => h) (Or.inl ⟨by rfl, ?_⟩) ?_ ?_
        rotate_left
        · intro w'
          go_simp
          with_reducible rfl
        rotate_left
        · simp only [Act.put, List.setIfInBounds_toArray, List.set_cons_zero, List.set_cons_succ, i64_w, i32_w]
          rfl
        refine take_ (i := 0) (N := some 18) (v := ?_) (a' := ?_) #[true, true, true, true, true, true, true, true, true, true, true, true, false, false] rfl rfl (take_ofW HT_.out HW_.out (by kernel_rfl)) (fun _ _ _ h => h) (Or.inl ⟨by rfl, ?_⟩) hHeld ?_ ?_
        rotate_left
        · rintro w' ⟨s0, s1, s2⟩
          go_simp
          with_reducible rfl
        rotate_left
        · simp only [Act.put, List.setIfInBounds_toArray, List.set_cons_zero, List.set_cons_succ, i64_w, i32_w]
          rfl
        refine one_ (i := 12) (N := some 30) #[true, true, true, true, true, true, true, true, true, true, true, true, true, false] rfl rfl (one_of HT_.out (by kernel_rfl)) (by decide) (fun K hK => ?_)
        refine goes_ Tryz.func137 (by kernel_rfl) rfl #[.agg #[.int .u8 k, .string (bs t), .slice A2 p.length c2], .bool false, .bool false] (by rfl) rfl rfl (by (try simp only [List.map_toArray, List.map_cons, List.map_nil]); first | done | rfl) ?_
        refine (hf.out _ HBD.out).mono ?_
        rintro e w1 ⟨rfl, hb4⟩
        refine ⟨_, rfl, ?_⟩
        have q := cells_3 (blk_below BKD.out hb4)
        refine hK.out _ _ ⟨q.1, q.2.1, q.2.2.1⟩ (fun hHeld => ?_)
        clear hK K
        refine norm_ (a' := ?_) ?_ ?_
        rotate_left
        · show Act.put _ (some 30) _ = _
          simp only [Act.put, List.setIfInBounds_toArray, List.set_cons_zero, List.set_cons_succ, i64_w, i32_w]
          rfl
        refine pure_ (i := 13) (N := some 31) (v := ?_) (a' := ?_) #[true, true, true, true, true, true, true, true, true, true, true, true, true, true] rfl rfl (any_of HT_.out (by kernel_rfl)) (fun _ _ _ h => h) (Or.inl ⟨by rfl, ?_⟩) ?_ ?_
        rotate_left
        · intro w'
          go_simp
          with_reducible rfl
        rotate_left
        · simp only [Act.put, List.setIfInBounds_toArray, List.set_cons_zero, List.set_cons_succ, i64_w, i32_w]
          rfl
        refine done_ (done_of HT_.out (by kernel_rfl)) ?_
        have HB1 := Aside0.mk (below_step HBD.out hb4)
        clear hb4 hf q
        cases fb with
        | false =>
          go_wp2
          go_ret
          exact ⟨by rw [← Hr.out, hd]; simp, HB1.out⟩
        | true =>
          go_wp2
          go_roundw
          case rel => exact ⟨i + 1, by simp, by omega, ⟨by rw [hd]; simp⟩, HB1⟩
          case measure => simp [intOf]; omega
    · obtain rfl : i = l.length := by omega
      go_wp2
      go_ret
      exact ⟨by rw [← Hr.out, HE.out]; simp [toksP], HB.out⟩
end Go.Proofs.YtniibpndgcndbaaGreatDoor.Tpl
namespace Go.Proofs.YtniibpndgcndbaaGreatDoor.Tpl
open Go.RowKit Go.Proofs.YtniibpndgcndbaaGreatDoor.PB Go.Proofs.YtniibpndgcndbaaGreatDoor.Short Go.Proofs.YtniibpndgcndbaaGreatDoorW.PrintWords Go.Proofs.YtniibpndgcndbaaGreatDoorW.PrintLast Go.Proofs.YtniibpndgcndbaaGreatDoorW.PrintMore Nodes
theorem toks_sm (l : Nodes) (h : l.sm) : ∀ x, x ∈ l.toks → x.sm := by
  induction l with
  | nil => intro x hx; simp [toks] at hx
  | cons k t p a b r iha ihb ihr =>
    obtain ⟨s1, s2, s3, s4, s5, s6, s7, s8, s9⟩ := h
    intro x hx
    have h4 : (⟨4, [], []⟩ : Tok).sm := ⟨by decide, by decide, by decide, fun s hs => by simp at hs⟩
    have h6 : (⟨6, [], []⟩ : Tok).sm := ⟨by decide, by decide, by decide, fun s hs => by simp at hs⟩
    simp only [toks, List.mem_cons, List.mem_append] at hx
    rcases hx with rfl | hx | hx
    · exact ⟨s1, s2, s3, s4⟩
    · by_cases hk : k = 3 ∨ k = 5
      · rw [if_pos hk] at hx
        simp only [List.mem_append, List.mem_singleton] at hx
        rcases hx with hx | hx | rfl
        · exact iha s7 x hx
        · cases hb : b.isNil with
          | true => rw [hb] at hx; simp at hx
          | false =>
            rw [hb] at hx
            simp only [Bool.false_eq_true, if_false, List.mem_cons] at hx
            rcases hx with rfl | hx
            · exact h4
            · exact ihb s8 x hx
        · exact h6
      · rw [if_neg hk] at hx; simp at hx
    · exact ihr s9 x hx
theorem rdT_of_R {w : World} {base : Nat} {ok : Nat → Prop} {v : Value} {l : List Tok} (h : kT.R 101 w base ok v (tokv l)) : ∃ A c, v = .slice A l.length c ∧ RdT w A c l := by
  obtain ⟨A, c, e, hl, hc⟩ := Kd.R_reads h
  have e2 : (tokv l).length = l.length := by simp [tokv]
  rw [e2] at e hl hc
  exact ⟨A, c, e, hc, hl⟩
set_option maxHeartbeats 1000000 in
set_option maxRecDepth 100000 in
theorem tokens_any (l : Nodes) (A : Option Addr) (c : Nat) (w : World) (hG : Glob w) (hs : l.sm) (hR : Rd w A c l) (hl : l.len ≤ 1048576) (hc : l.cnt ≤ 1048576) :
    Calls Tryz.prog 64 #[.slice A l.len c] w fun e w' => ∃ v, e = .returned (.tuple #[v, .int .i64 (if l.chk = true then 0 else 2)]) ∧ (l.chk = true → kT.R 101 w' w.heap.size (fun k => w.heap.size ≤ k) v (tokv l.toks)) ∧ Below w.heap.size w w' := by
  have hf := fits_any l A c w hs hR hl hc
  obtain ⟨r, hr⟩ : ∃ r : Int, (if l.chk = true then 0 else 2) = r := ⟨_, rfl⟩
  rw [hr]
  have Hr := Aside0.mk hr
  have HR := Aside0.mk hR
  have HS := Aside0.mk hs
  have HG := Aside0.mk hG
  clear hr hR hs hG
  cases hfp : l.fitsP with
  | false =>
    rw [hfp] at hf
    have hch : l.chk = false := by unfold chk; rw [hfp]; rfl
    go_enter Tryz.func64, Tryz.ntmps64
    go_wp2_with fail
    refine hf.mono ?_
    rintro e w1 ⟨rfl, hb⟩
    go_wp2
    go_ret2
    exact ⟨_, by rw [← Hr.out, hch]; rfl, fun h => (by rw [hch] at h; cases h), hb⟩
  | true =>
    rw [hfp] at hf
    have hcn : l.cnt ≤ 256 := by unfold fitsP at hfp; simp at hfp; exact hfp.2
    have hlen := toks_len l
    have hchk : l.chk = toksP l.toks := by unfold chk; rw [hfp]; rfl
    go_enter Tryz.func64, Tryz.ntmps64
    go_wp2_with fail
    refine hf.mono ?_
    rintro e w1 ⟨rfl, hb⟩
    go_wp2_with fail
    refine (put_any w l.cnt l A c [] (.slice none 0 0) (fun k => w.heap.size ≤ k) w1 (Nat.le_refl _) (by simp; omega) HS.out HR.out hb (fun _ h => h) (fun k hk => Nat.le_trans hb.size hk) (Kd.R_nil _ _ _ _ _)).mono ?_
    rintro e w2 ⟨v, rfl, hO, hK⟩
    rw [List.nil_append] at hO
    have hb2 := hb.trans (hK.below (B := w.heap.size) (fun _ h => h) hb.size)
    obtain ⟨A2, c2, rfl, hRT⟩ := rdT_of_R hO
    have hO' := Aside0.mk hO
    have hb2' := Aside0.mk hb2
    clear hO hK hb
    go_wp2_with fail
    refine (check_any A2 c2 l.toks w2 (HG.out.below hb2) hRT (by simp only [tokv, List.length_map] at hlen; omega) (toks_sm l HS.out)).mono ?_
    rintro e w3 ⟨rfl, hb3⟩
    cases htp : toksP l.toks with
    | false =>
      rw [htp] at hchk
      go_wp2
      go_ret2
      exact ⟨_, by rw [← Hr.out, hchk]; rfl, fun h => (by rw [hchk] at h; cases h), below_step hb2'.out hb3⟩
    | true =>
      rw [htp] at hchk
      go_wp2
      go_ret2
      exact ⟨_, by rw [← Hr.out, hchk]; rfl, fun _ => Kd.R_below hO'.out hb3, below_step hb2'.out hb3⟩
theorem chk_any (l : Nodes) (A : Option Addr) (c : Nat) (w : World) (hG : Glob w) (hs : l.sm) (hR : Rd w A c l) (hl : l.len ≤ 1048576) (hc : l.cnt ≤ 1048576) :
    Calls Tryz.prog 34 #[.slice A l.len c] w fun e w' => e = .returned (.int .i64 (if l.chk = true then 0 else 2)) ∧ Below w.heap.size w w' := by
  have h := tokens_any l A c w hG hs hR hl hc
  generalize (if l.chk = true then (0 : Int) else 2) = r at *
  clear hG hs hR
  go_enter Tryz.func34, Tryz.ntmps34
  go_wp2_with fail
  refine h.mono ?_
  rintro e w1 ⟨v, rfl, _, hb⟩
  go_wp2
  go_ret
  exact ⟨rfl, hb⟩
end Go.Proofs.YtniibpndgcndbaaGreatDoor.Tpl
namespace Go.Proofs.YtniibpndgcndbaaGreatDoor.Tpl
set_option linter.unusedSimpArgs false
open Go.RowKit Go.Proofs.YtniibpndgcndbaaGreatDoor.PB Go.Proofs.YtniibpndgcndbaaGreatDoor.Short Go.Proofs.YtniibpndgcndbaaGreatDoorW.PrintWords Go.Proofs.YtniibpndgcndbaaGreatDoorW.PrintLast Go.Proofs.YtniibpndgcndbaaGreatDoorW.PrintMore Nodes
theorem c5n (k : Nat) (h : k ≠ 5) : ¬ ((k : Int) = 5) := by omega
theorem lost_f (m : Nat) : ∀ l : Nodes, l.cnt < m → l.cnt ≤ 1048576 → ∃ K, ∀ k, K ≤ k → bellmanref12_lost.f k l.of = some l.lostP := by
  induction m with
  | zero => intro l h; exact absurd h (Nat.not_lt_zero _)
  | succ m ih =>
    intro l hm hc
    have hl := len_cnt l
    have loop : ∀ d i, l.len - i = d → i ≤ l.len → ∃ K, ∀ k, K ≤ k → bellmanref12_lost.l0 k l.of (l.len : Int) (i : Int) = some (lostP (l.drop i)) := by
      intro d
      induction d with
      | zero =>
        intro i h1 h2
        obtain rfl : i = l.len := by omega
        refine ⟨1, fun k hk => ?_⟩
        obtain ⟨k, rfl⟩ : ∃ q, k = q + 1 := ⟨k - 1, by omega⟩
        unfold bellmanref12_lost.l0
        rw [if_neg (by omega), drop_all, lostP]
      | succ d ihd =>
        intro i h1 h2
        obtain ⟨kk, t, p, a, b, hd⟩ := drop_cases l i (by omega)
        obtain ⟨_, _, h3⟩ := drop_step hd
        have hcd := cnt_drop l i
        rw [hd] at hcd
        simp only [cnt] at hcd
        have ca : a.cnt < m ∧ a.cnt ≤ 1048576 ∧ b.cnt < m ∧ b.cnt ≤ 1048576 := by clear hd h3; omega
        obtain ⟨K1, e1⟩ := ih a ca.1 ca.2.1
        obtain ⟨K2, e2⟩ := ih b ca.2.2.1 ca.2.2.2
        obtain ⟨K3, e3⟩ := ihd (i + 1) (by omega) (by omega)
        refine ⟨K1 + K2 + K3 + 2, fun k hk => ?_⟩
        obtain ⟨k, rfl⟩ : ∃ q, k = q + 2 := ⟨k - 2, by omega⟩
        have b1 : (i : Int) < l.len := by omega
        have b2 : (0 : Int) ≤ i := by omega
        have q1 := e1 k (by omega)
        have q2 := e2 k (by omega)
        have q3 := e3 k (by omega)
        have hw := w64 i (by omega)
        clear e1 e2 e3 ih ihd hcd ca hm hc h1 h2 hk
        have hj : bellmanref12_lost.j1 (k + 1) l.of (l.len : Int) (i : Int) (isThis p) (kk : Int) (bs t) (p.map bs) a.of b.of = some (lostP (l.drop i)) := by
          unfold bellmanref12_lost.j1
          rw [hd, lostP]
          cases isThis p with
          | true => simp
          | false =>
            rw [if_neg (by simp), Bool.false_or]
            by_cases c5 : kk = 5
            · rw [if_pos (by subst c5; rfl), hw, q3]; simp [c5]
            · rw [if_neg (c5n kk c5), q1, Option.bind_some]
              have c6 : (kk != 5) = true := by simpa using c5
              rw [c6, Bool.true_and]
              cases lostP a with
              | true => simp
              | false =>
                rw [if_neg (by simp), q2, Option.bind_some, Bool.false_or]
                cases lostP b with
                | true => simp
                | false => rw [if_neg (by simp), hw, q3, Bool.false_or]
        unfold bellmanref12_lost.l0
        rw [if_pos b1, if_pos b2, if_pos (by rw [of_len]; exact b1), h3]
        simp only []
        cases p with
        | nil => rw [if_neg (by simp)]; exact hj
        | cons s p =>
          have e0 : rdOf ByteArray.empty ((s :: p).map bs) 0 = bs s := rfl
          have lp : ((((s :: p).map bs).length : Nat) : Int) > 0 := by simp
          rw [if_pos lp, if_pos lp, e0, bs_list]
          exact hj
    obtain ⟨K, e⟩ := loop l.len 0 (Nat.sub_zero _) (Nat.zero_le _)
    clear loop ih hm hc hl
    refine ⟨K + 1, fun k hk => ?_⟩
    obtain ⟨k, rfl⟩ : ∃ q, k = q + 1 := ⟨k - 1, by omega⟩
    unfold bellmanref12_lost.f
    have q := e k (by omega)
    rw [drop_zero] at q
    rw [of_len]
    exact q
theorem w_leaf2 (a b : Nat) (ha : a ≤ 1048576) (hb : b ≤ 1048576) : ((wrap64 ((a : Int) + (b : Int))) == 0) = (a == 0 && b == 0) := by
  have e : wrap64 ((a : Int) + (b : Int)) = (a + b : Nat) := by unfold wrap64; omega
  rw [e, Bool.eq_iff_iff]; simp only [Bool.and_eq_true, beq_iff_eq]; omega
theorem w_leaf3 (p a b : Nat) (hp : p ≤ 1048576) (ha : a ≤ 1048576) (hb : b ≤ 1048576) : (wrap64 (wrap64 ((p : Int) + (a : Int)) + (b : Int)) == 0) = (p + a + b == 0) := by
  have e : wrap64 (wrap64 ((p : Int) + (a : Int)) + (b : Int)) = (p + a + b : Nat) := by unfold wrap64; omega
  rw [e, Bool.eq_iff_iff]; simp only [beq_iff_eq]; omega
theorem leaf_f (k : Nat) (t : S) (p : List S) (a b : Nodes) (hp : p.length ≤ 1048576) (ha : a.len ≤ 1048576) (hb : b.len ≤ 1048576) : bellmanref11_leaf.f k (bs t) (p.map bs) a.of b.of = some (leafP k t p.length a.len b.len) := by
  unfold bellmanref11_leaf.f leafP
  rw [of_len, of_len, List.length_map, w_leaf3 _ _ _ hp ha hb, w_leaf2 _ _ ha hb, bs_list]
  have q : (t == []) = t.isEmpty := by cases t <;> rfl
  have q2 : (((b.len : Int) == 0) : Bool) = (b.len == 0) := by rw [Bool.eq_iff_iff, beq_iff_eq, beq_iff_eq]; omega
  rw [q, q2]
  by_cases k1 : k = 1
  · subst k1; rfl
  by_cases k2 : k = 2
  · subst k2
    rw [if_neg (show ¬ ((2 : Nat) : Int) = 1 by decide), if_pos (show ((2 : Nat) : Int) = 2 from rfl), if_neg (show ¬ (2 : Nat) = 1 by decide), if_pos (show (2 : Nat) = 2 from rfl)]
    cases t <;> simp
  by_cases k5 : k = 5
  · subst k5
    rw [if_neg (show ¬ ((5 : Nat) : Int) = 1 by decide), if_neg (show ¬ ((5 : Nat) : Int) = 2 by decide), if_neg (show ¬ ((5 : Nat) : Int) = 3 by decide), if_pos (show ((5 : Nat) : Int) = 5 from rfl), if_neg (show ¬ (5 : Nat) = 1 by decide), if_neg (show ¬ (5 : Nat) = 2 by decide), if_pos (show (5 : Nat) = 5 from rfl)]
    cases t <;> simp
  by_cases k3 : k = 3
  · subst k3; rfl
  rw [if_neg k1, if_neg k2, if_neg k5, if_neg k3, if_neg (show ¬ ((k : Int) = 1) by omega), if_neg (show ¬ ((k : Int) = 2) by omega), if_neg (show ¬ ((k : Int) = 3) by omega), if_neg (show ¬ ((k : Int) = 5) by omega)]
def rtP (l : Nodes) (lv : Nat) : Int × Bool := if okN l lv = true ∧ l.cnt ≤ 256 then ((l.cnt : Int), true) else (0, false)
def rtQ (x : Nat) (l : Nodes) (lv : Nat) : Int × Bool := if okN l lv = true ∧ x + l.cnt ≤ 256 then ((x + l.cnt : Nat), true) else (0, false)
theorem w_sub1 (n : Nat) (h : n ≤ 1000) (h0 : n ≠ 0) : wrap64 ((n : Int) - 1) = ((n - 1 : Nat) : Int) := by unfold wrap64; omega
theorem w_rt (x a b : Nat) (h1 : x ≤ 256) (h2 : a ≤ 256) (h3 : b ≤ 256) : wrap64 ((x : Int) + wrap64 (wrap64 (1 + (a : Int)) + b)) = ((x + (1 + a + b) : Nat) : Int) := by
  unfold wrap64; omega
theorem okN_bool (k : Nat) (t : S) (p : List S) (a b r : Nodes) (lv : Nat) (h : lv ≠ 0) : okN (cons k t p a b r) lv = (leafP k t p.length a.len b.len && okN a (lv - 1) && okN b (lv - 1) && okN r lv) := by
  have : (lv != 0) = true := by simpa using h
  rw [okN, this, Bool.true_and]
theorem right_z (l : Nodes) : ∃ K, ∀ k, K ≤ k → bellmanref11_right.f k l.of ((0 : Nat) : Int) = some (rtP l 0) := by
  refine ⟨3, fun k hk => ?_⟩
  obtain ⟨k, rfl⟩ : ∃ q, k = q + 3 := ⟨k - 3, by omega⟩
  unfold bellmanref11_right.f bellmanref11_right.j0
  cases l with
  | nil =>
    rw [if_neg (by simp [of]), if_neg (by simp)]
    unfold bellmanref11_right.l0
    rw [if_neg (by simp [of])]
    simp [rtP, okN, cnt]
  | cons kk t p a b r =>
    rw [if_pos (by simp [of]), if_pos (by simp)]
    simp [rtP, okN]
theorem r11_step (k lv x i : Nat) (l : Nodes) (kk : Nat) (t : S) (p : List S) (a b : Nodes) (ra rb : Int × Bool) (lf : Bool)
    (b1 : (i : Int) < l.len) (h3 : rd_T37 l.of i = ⟨kk, bs t, p.map bs, a.of, b.of⟩) (hv : wrap64 ((lv : Int) - 1) = ((lv - 1 : Nat) : Int)) (hw : wrap64 ((i : Int) + 1) = ((i + 1 : Nat) : Int))
    (q1 : bellmanref11_right.f k a.of ((lv - 1 : Nat) : Int) = some ra) (q2 : bellmanref11_right.f k b.of ((lv - 1 : Nat) : Int) = some rb) (hlf : bellmanref11_leaf.f kk (bs t) (p.map bs) a.of b.of = some lf) :
    bellmanref11_right.l0 (k + 1) (lv : Int) (x : Int) l.of (l.len : Int) (i : Int) = if ra.2 = true then (if rb.2 = true then (if lf = true then (if wrap64 ((x : Int) + wrap64 (wrap64 (1 + ra.1) + rb.1)) > 256 then some (0, false) else bellmanref11_right.l0 k (lv : Int) (wrap64 ((x : Int) + wrap64 (wrap64 (1 + ra.1) + rb.1))) l.of (l.len : Int) ((i + 1 : Nat) : Int)) else some (0, false)) else some (0, false)) else some (0, false) := by
  have b2 : (0 : Int) ≤ i := Int.natCast_nonneg i
  rw [bellmanref11_right.l0, if_pos b1, if_pos b2, if_pos (by rw [of_len]; exact b1), h3, hv, hw]
  simp only [q1, q2, hlf, Option.bind_some]
theorem right11 (m : Nat) : ∀ l : Nodes, l.cnt < m → l.cnt ≤ 1048576 → l.sm → ∀ lv : Nat, lv ≤ 1000 → ∃ K, ∀ k, K ≤ k → bellmanref11_right.f k l.of (lv : Int) = some (rtP l lv) := by
  induction m with
  | zero => intro l h; exact absurd h (Nat.not_lt_zero _)
  | succ m ih =>
    intro l hm hc hs lv hlv
    have hl := len_cnt l
    by_cases h0 : lv = 0
    · subst h0
      exact right_z l
    have loop : ∀ d i (x : Nat), l.len - i = d → i ≤ l.len → x ≤ 256 → ∃ K, ∀ k, K ≤ k → bellmanref11_right.l0 k (lv : Int) (x : Int) l.of (l.len : Int) (i : Int) = some (rtQ x (l.drop i) lv) := by
      intro d
      induction d with
      | zero =>
        intro i x h1 h2 hx
        obtain rfl : i = l.len := by omega
        refine ⟨1, fun k hk => ?_⟩
        obtain ⟨k, rfl⟩ : ∃ q, k = q + 1 := ⟨k - 1, by omega⟩
        unfold bellmanref11_right.l0
        rw [if_neg (by omega), drop_all, rtQ, okN, cnt, if_pos ⟨rfl, by omega⟩]; rfl
      | succ d ihd =>
        intro i x h1 h2 hx
        obtain ⟨kk, t, p, a, b, hd⟩ := drop_cases l i (by omega)
        obtain ⟨_, _, h3⟩ := drop_step hd
        have hcd := cnt_drop l i
        obtain ⟨s1, s2, s3, s4, s5, s6, s7, s8, s9⟩ : (cons kk t p a b (l.drop (i + 1))).sm := hd ▸ sm_drop hs i
        rw [hd] at hcd
        simp only [cnt] at hcd
        have ca : a.cnt < m ∧ a.cnt ≤ 1048576 ∧ b.cnt < m ∧ b.cnt ≤ 1048576 := by clear hd h3; omega
        obtain ⟨K1, e1⟩ := ih a ca.1 ca.2.1 s7 (lv - 1) (by omega)
        obtain ⟨K2, e2⟩ := ih b ca.2.2.1 ca.2.2.2 s8 (lv - 1) (by omega)
        have b1 : (i : Int) < l.len := by omega
        have b2 : (0 : Int) ≤ i := by omega
        have hi : i ≤ 1048577 := by omega
        have hlf := leaf_f kk t p a b s3 s5 s6
        have hok := okN_bool kk t p a b (l.drop (i + 1)) lv h0
        by_cases hall : (okN a (lv - 1) = true ∧ a.cnt ≤ 256) ∧ (okN b (lv - 1) = true ∧ b.cnt ≤ 256) ∧ leafP kk t p.length a.len b.len = true ∧ x + (1 + a.cnt + b.cnt) ≤ 256
        · obtain ⟨⟨oa, na⟩, ⟨ob, nb⟩, ol, nx⟩ := hall
          obtain ⟨K3, e3⟩ := ihd (i + 1) (x + (1 + a.cnt + b.cnt)) (by omega) (by omega) nx
          refine ⟨K1 + K2 + K3 + 1, fun k hk => ?_⟩
          obtain ⟨k, rfl⟩ : ∃ q, k = q + 1 := ⟨k - 1, by omega⟩
          have q1 := e1 k (by omega)
          have q2 := e2 k (by omega)
          have q3 := e3 k (by omega)
          have hr : rtQ (x + (1 + a.cnt + b.cnt)) (l.drop (i + 1)) lv = rtQ x (l.drop i) lv := by
            rw [hd]; unfold rtQ
            rw [hok, ol, oa, ob]
            simp only [Bool.true_and, cnt]
            rw [show x + (1 + a.cnt + b.cnt) + (l.drop (i + 1)).cnt = x + (1 + a.cnt + b.cnt + (l.drop (i + 1)).cnt) from Nat.add_assoc _ _ _]
          have hng : ¬ (((x + (1 + a.cnt + b.cnt) : Nat) : Int) > 256) := by clear hd h3; omega
          have hw := w64 i hi
          have hv := w_sub1 lv hlv h0
          have hx2 := w_rt x _ _ hx na nb
          rw [r11_step k lv x i l kk t p a b _ _ _ b1 h3 hv hw q1 q2 hlf]
          have ra : rtP a (lv - 1) = ((a.cnt : Int), true) := if_pos ⟨oa, na⟩
          have rb : rtP b (lv - 1) = ((b.cnt : Int), true) := if_pos ⟨ob, nb⟩
          rw [ra, rb, ol, if_pos rfl, if_pos rfl, if_pos rfl]
          simp only [hx2]
          rw [if_neg hng, q3, hr]
        · refine ⟨K1 + K2 + 1, fun k hk => ?_⟩
          obtain ⟨k, rfl⟩ : ∃ q, k = q + 1 := ⟨k - 1, by omega⟩
          have q1 := e1 k (by omega)
          have q2 := e2 k (by omega)
          have hr : rtQ x (l.drop i) lv = (0, false) := by
            rw [hd]; unfold rtQ
            rw [if_neg]
            rintro ⟨g1, g2⟩
            rw [hok] at g1
            simp only [Bool.and_eq_true] at g1
            simp only [cnt] at g2
            exact hall ⟨⟨g1.1.1.2, by omega⟩, ⟨g1.1.2, by omega⟩, g1.1.1.1, by omega⟩
          have hgr : (okN a (lv - 1) = true ∧ a.cnt ≤ 256) → (okN b (lv - 1) = true ∧ b.cnt ≤ 256) → leafP kk t p.length a.len b.len = true → ((x + (1 + a.cnt + b.cnt) : Nat) : Int) > 256 := by
            intro g1 g2 g3
            have : ¬ (x + (1 + a.cnt + b.cnt) ≤ 256) := fun h => hall ⟨g1, g2, g3, h⟩
            clear hd h3
            omega
          have hv := w_sub1 lv hlv h0
          rw [r11_step k lv x i l kk t p a b _ _ _ b1 h3 hv (w64 i hi) q1 q2 hlf]
          unfold rtP
          rw [hr]
          by_cases ga : okN a (lv - 1) = true ∧ a.cnt ≤ 256
          · rw [if_pos ga]
            by_cases gb : okN b (lv - 1) = true ∧ b.cnt ≤ 256
            · rw [if_pos gb]
              by_cases gl : leafP kk t p.length a.len b.len = true
              · have hx2 := w_rt x _ _ hx ga.2 gb.2
                rw [if_pos rfl, if_pos rfl, if_pos gl]
                simp only [hx2]
                rw [if_pos (hgr ga gb gl)]
              · simp only [if_true]
                rw [if_neg gl]
            · rw [if_neg gb]; simp
          · rw [if_neg ga]; simp
    obtain ⟨K, e⟩ := loop l.len 0 0 (Nat.sub_zero _) (Nat.zero_le _) (Nat.zero_le _)
    clear loop ih hm hc hl hs
    refine ⟨K + 2, fun k hk => ?_⟩
    obtain ⟨k, rfl⟩ : ∃ q, k = q + 2 := ⟨k - 2, by omega⟩
    have q := e k (by omega)
    rw [drop_zero] at q
    have hq : rtQ 0 l lv = rtP l lv := by unfold rtQ rtP; rw [Nat.zero_add]
    have hj : bellmanref11_right.j0 (k + 1) l.of (lv : Int) false = some (rtP l lv) := by
      unfold bellmanref11_right.j0
      rw [if_neg (by simp), of_len, ← hq]
      exact q
    have hz : ((lv : Int) == 0) = false := by simpa using h0
    unfold bellmanref11_right.f
    rw [hz, hj]
    simp
end Go.Proofs.YtniibpndgcndbaaGreatDoor.Tpl
namespace Go.Proofs.YtniibpndgcndbaaGreatDoor.Tpl
set_option linter.unusedSimpArgs false
open Go.RowKit Go.Proofs.YtniibpndgcndbaaGreatDoor.PB Go.Proofs.YtniibpndgcndbaaGreatDoor.Short Go.Proofs.YtniibpndgcndbaaGreatDoorW.PrintWords Go.Proofs.YtniibpndgcndbaaGreatDoorW.PrintLast Go.Proofs.YtniibpndgcndbaaGreatDoorW.PrintMore Nodes
theorem rt_j1t (k lv i : Nat) (acc : List ST) (l : List SN) (n : Int) (kk : Int) (t : ByteArray) (p : List ByteArray) (a b : List SN) :
    bellmanref11_tokens.j1 (k + 1) lv acc l n i true kk t p a b = bellmanref11_tokens.l0 k lv acc l n (wrap64 ((i : Int) + 1)) := by
  rw [bellmanref11_tokens.j1]; simp
theorem rt_j1f (k lv i : Nat) (acc : List ST) (l : List SN) (n : Int) (kk : Int) (t : ByteArray) (p : List ByteArray) (a b : Nodes) (ta tb : List ST) (z : Int)
    (hz : wrap64 ((lv : Int) - 1) = z) (qa : bellmanref11_tokens.f k a.of z = some ta) (qb : bellmanref11_tokens.f k b.of z = some tb) (hla : acc.length + ta.length + tb.length ≤ 1000000000) (hb0 : b.isNil = true → tb = []) :
    bellmanref11_tokens.j1 (k + 1) lv acc l n i false kk t p a.of b.of = bellmanref11_tokens.l0 k lv (acc ++ ta ++ ((if b.isNil then [] else Tok.of elseTok :: tb) ++ [Tok.of endTok])) l n (wrap64 ((i : Int) + 1)) := by
  rw [bellmanref11_tokens.j1, if_neg (by simp), hz, qa, Option.bind_some, if_pos (by omega), Option.bind_some]
  cases hb : b.isNil with
  | true =>
    have : b.of = [] := by cases b with | nil => rfl | cons => cases hb
    rw [this, if_neg (by simp), if_pos (by rw [List.length_append]; omega)]
    simp [endTok, Tok.of, bs]
  | false =>
    have h1 : ((b.of.length : Nat) : Int) > 0 := by cases b with | nil => cases hb | cons => simp [Nodes.of]
    rw [if_pos h1, if_pos (by rw [List.length_append]; omega), Option.bind_some, qb, Option.bind_some, if_pos (by simp only [List.length_append, List.length_singleton]; omega), Option.bind_some, if_pos (by simp only [List.length_append, List.length_singleton]; omega)]
    simp [endTok, elseTok, Tok.of, bs]
theorem fuel3 {K1 K2 K3 k : Nat} (h : K1 + K2 + K3 + 2 ≤ k) : ∃ q, k = q + 2 ∧ K1 ≤ q ∧ K2 ≤ q ∧ K3 ≤ q := ⟨k - 2, by omega, by omega, by omega, by omega⟩
theorem tok_bnd {x y a b r : Nat} (h : x ≤ y + 3 * (1 + a + b)) (hx : y + 3 * (1 + a + b + r) ≤ 100000000) : x + 3 * r ≤ 100000000 := by omega
theorem tok_bnd2 {y a b r ta tb : Nat} (h : ta ≤ 3 * a) (h2 : tb ≤ 3 * b) (hx : y + 3 * (1 + a + b + r) ≤ 100000000) : y + 1 + ta + tb ≤ 1000000000 := by omega
theorem tok_bnd3 {y a b r : Nat} (hx : y + 3 * (1 + a + b + r) ≤ 100000000) : y + 1 + 3 * r ≤ 100000000 := by omega
theorem tokens_f (m : Nat) : ∀ l : Nodes, l.cnt < m → l.cnt ≤ 1048576 → l.sm → ∀ lv : Nat, lv ≤ 1000 → okN l lv = true → ∃ K, ∀ k, K ≤ k → bellmanref11_tokens.f k l.of (lv : Int) = some (tokv l.toks) := by
  induction m with
  | zero => intro l h; exact absurd h (Nat.not_lt_zero _)
  | succ m ih =>
    intro l hm hc hs lv hlv hok
    have hl := len_cnt l
    by_cases h0 : lv = 0
    · subst h0
      have : l = nil := by cases l with | nil => rfl | cons => simp [okN] at hok
      subst this
      refine ⟨1, fun k hk => ?_⟩
      obtain ⟨k, rfl⟩ : ∃ q, k = q + 1 := ⟨k - 1, by omega⟩
      rw [bellmanref11_tokens.f, if_pos (show ((0 : Nat) : Int) = 0 from rfl)]; rfl
    have loop : ∀ d i (acc : List ST), l.len - i = d → i ≤ l.len → acc.length + 3 * (l.drop i).cnt ≤ 100000000 → okN (l.drop i) lv = true → ∃ K, ∀ k, K ≤ k → bellmanref11_tokens.l0 k (lv : Int) acc l.of (l.len : Int) (i : Int) = some (acc ++ tokv (l.drop i).toks) := by
      intro d
      induction d with
      | zero =>
        intro i acc h1 h2 hx hoki
        obtain rfl : i = l.len := by omega
        refine ⟨1, fun k hk => ?_⟩
        obtain ⟨k, rfl⟩ : ∃ q, k = q + 1 := ⟨k - 1, by omega⟩
        rw [bellmanref11_tokens.l0, if_neg (by omega), drop_all]; simp [toks, tokv]
      | succ d ihd =>
        intro i acc h1 h2 hx hoki
        have g1 : l.len - (i + 1) = d := by omega
        have g2 : i + 1 ≤ l.len := by omega
        obtain ⟨kk, t, p, a, b, hd⟩ := drop_cases l i (by omega)
        obtain ⟨_, _, h3⟩ := drop_step hd
        have hcd := cnt_drop l i
        obtain ⟨s1, s2, s3, s4, s5, s6, s7, s8, s9⟩ : (cons kk t p a b (l.drop (i + 1))).sm := hd ▸ sm_drop hs i
        rw [hd] at hcd hx hoki
        simp only [cnt] at hcd hx
        obtain ⟨_, _, o3, o4, o5⟩ := okN_cons hoki
        have hta := toks_len a
        have htb := toks_len b
        have ca : a.cnt < m ∧ a.cnt ≤ 1048576 ∧ b.cnt < m ∧ b.cnt ≤ 1048576 := by clear hd h3; omega
        have b1 : (i : Int) < l.len := by omega
        have b2 : (0 : Int) ≤ i := by omega
        have hw := w64 i (by omega)
        have hz := w_sub1 lv hlv h0
        have hp1 : ([] : List ByteArray).length + (p.map bs).length < 8796093022208 := by rw [List.length_map]; simp; omega
        have hp2 : acc.length < 2932031007402 := by omega
        have stp : ∀ k, bellmanref11_tokens.l0 (k + 1) (lv : Int) acc l.of (l.len : Int) (i : Int) = if (kk : Int) = 3 then bellmanref11_tokens.j1 k lv (acc ++ [Tok.of ⟨kk, t, p⟩]) l.of l.len i false kk (bs t) (p.map bs) a.of b.of else bellmanref11_tokens.j1 k lv (acc ++ [Tok.of ⟨kk, t, p⟩]) l.of l.len i ((kk : Int) != 5) kk (bs t) (p.map bs) a.of b.of := by
          intro k
          rw [bellmanref11_tokens.l0, if_pos b1, if_pos b2, if_pos (by rw [of_len]; exact b1), h3]
          simp only [Option.bind_some]
          rw [if_pos hp1, if_pos hp2]
          rfl
        by_cases hk : kk = 3 ∨ kk = 5
        · obtain ⟨K1, e1⟩ := ih a ca.1 ca.2.1 s7 (lv - 1) (by omega) o3
          obtain ⟨K2, e2⟩ := ih b ca.2.2.1 ca.2.2.2 s8 (lv - 1) (by omega) o4
          have hb0 : b.isNil = true → tokv b.toks = [] := by cases b <;> simp [isNil, toks, tokv]
          have hfin : acc ++ [Tok.of ⟨kk, t, p⟩] ++ tokv a.toks ++ ((if b.isNil then [] else Tok.of elseTok :: tokv b.toks) ++ [Tok.of endTok]) ++ tokv (l.drop (i + 1)).toks = acc ++ tokv (l.drop i).toks := by
            rw [hd, toks, if_pos hk]
            cases b.isNil <;> simp [tokv]
          have hlen : (acc ++ [Tok.of ⟨kk, t, p⟩] ++ tokv a.toks ++ ((if b.isNil then [] else Tok.of elseTok :: tokv b.toks) ++ [Tok.of endTok])).length ≤ acc.length + 3 * (1 + a.cnt + b.cnt) := by
            simp only [List.length_append, List.length_singleton]
            cases hb : b.isNil with
            | true => simp; omega
            | false =>
              have : 1 ≤ b.cnt := by cases b with | nil => cases hb | cons => simp [cnt]; omega
              simp; omega
          have qj := fun k q1 q2 => rt_j1f k lv i (acc ++ [Tok.of ⟨kk, t, p⟩]) l.of l.len kk (bs t) (p.map bs) a b (tokv a.toks) (tokv b.toks) _ hz q1 q2 (by rw [List.length_append, List.length_singleton]; exact tok_bnd2 hta htb hx) hb0
          generalize acc ++ [Tok.of ⟨kk, t, p⟩] ++ tokv a.toks ++ ((if b.isNil then [] else Tok.of elseTok :: tokv b.toks) ++ [Tok.of endTok]) = acc2 at hfin hlen qj
          obtain ⟨K3, e3⟩ := ihd (i + 1) acc2 g1 g2 (tok_bnd hlen hx) o5
          refine ⟨K1 + K2 + K3 + 2, fun k hk' => ?_⟩
          obtain ⟨k, rfl, z1, z2, z3⟩ := fuel3 hk'
          have q1 := e1 k z1
          have q2 := e2 k z2
          have q3 := e3 k z3
          rw [hfin] at q3
          have qj := qj k q1 q2
          clear e1 e2 e3 ih ihd
          rw [stp]
          rcases hk with rfl | rfl
          · rw [if_pos (show ((3 : Nat) : Int) = 3 from rfl), qj, hw, q3]
          · rw [if_neg (show ¬ ((5 : Nat) : Int) = 3 by decide), show (((5 : Nat) : Int) != 5) = false from rfl, qj, hw, q3]
        · have hfin : acc ++ [Tok.of ⟨kk, t, p⟩] ++ tokv (l.drop (i + 1)).toks = acc ++ tokv (l.drop i).toks := by
            rw [hd, toks, if_neg hk]; simp [tokv]
          obtain ⟨K3, e3⟩ := ihd (i + 1) (acc ++ [Tok.of ⟨kk, t, p⟩]) g1 g2 (by rw [List.length_append, List.length_singleton]; exact tok_bnd3 hx) o5
          refine ⟨0 + 0 + K3 + 2, fun k hk' => ?_⟩
          obtain ⟨k, rfl, _, _, z3⟩ := fuel3 hk'
          have q3 := e3 k z3
          rw [hfin] at q3
          have hk3 : ¬ ((kk : Int) = 3) := by omega
          have hk5 : ((kk : Int) != 5) = true := by rw [bne_iff_ne]; omega
          rw [stp, if_neg hk3, hk5, rt_j1t, hw, q3]
    obtain ⟨K, e⟩ := loop l.len 0 [] (Nat.sub_zero _) (Nat.zero_le _) (by rw [drop_zero]; simp; omega) (by rw [drop_zero]; exact hok)
    refine ⟨K + 1, fun k hk => ?_⟩
    obtain ⟨k, rfl⟩ : ∃ q, k = q + 1 := ⟨k - 1, by omega⟩
    have q := e k (by omega)
    rw [drop_zero, List.nil_append] at q
    rw [bellmanref11_tokens.f, if_neg (by omega), of_len]
    exact q
def fnd (c : UInt8) : S → Nat → Option Nat
  | x :: y :: r, i => if x = c ∧ y = c then some i else fnd c (y :: r) (i + 1)
  | _, _ => none
theorem u8_iff (x c : UInt8) : ((x.toNat : Int) = (c.toNat : Int)) ↔ x = c := by
  rw [Int.natCast_inj]; exact UInt8.toNat_inj
theorem find_l0 (c : UInt8) (s : S) (hs : s.length ≤ 1048576) : ∀ d i, s.length - i = d → i ≤ s.length → bellmanref10_find.l0 (d + 1) (bs s) c.toNat (i : Int) = some (match fnd c (s.drop i) i with | some j => (j : Int) | none => -1) := by
  intro d
  induction d with
  | zero =>
    intro i h1 h2
    have hw := w64 i (by omega)
    rw [bellmanref10_find.l0, hw, if_neg (by rw [bs_size]; omega), List.drop_eq_nil_of_le (by omega)]; rfl
  | succ d ih =>
    intro i h1 h2
    have hw := w64 i (by omega)
    have hi : i < s.length := by omega
    by_cases hi1 : i + 1 < s.length
    · rw [bellmanref10_find.l0, hw, if_pos (by rw [bs_size]; omega), if_pos (by omega), if_pos (by rw [bs_size]; omega), bt_bs s i hi, bt_bs s (i + 1) hi1, drop_get s i hi, drop_get s (i + 1) hi1, fnd]
      have e := ih (i + 1) (by omega) (by omega)
      rw [drop_get s (i + 1) hi1] at e
      simp only [u8_iff]
      by_cases c1 : s.getD i 0 = c
      · by_cases c2 : s.getD (i + 1) 0 = c
        · rw [if_pos c1, if_pos (by omega), if_pos c2, if_pos ⟨c1, c2⟩]
        · rw [if_pos c1, if_pos (by omega), if_neg c2, if_neg (fun h => c2 h.2), e]
      · rw [if_neg c1, if_neg (fun h => c1 h.1), e]
    · rw [bellmanref10_find.l0, hw, if_neg (by rw [bs_size]; omega), drop_get s i hi, List.drop_eq_nil_of_le (show s.length ≤ i + 1 by omega)]; rfl
theorem find_f (c : UInt8) (s : S) (hs : s.length ≤ 1048576) (i : Nat) (hi : i ≤ s.length) : ∃ k, bellmanref10_find.f k (bs s) (i : Int) c.toNat = some (match fnd c (s.drop i) i with | some j => (j : Int) | none => -1) :=
  ⟨_, find_l0 c s hs _ i rfl hi⟩
theorem index_two (c : UInt8) (s : S) : ∀ i, (match fnd c s i with | some j => (j : Int) | none => -1) = if Lib.index s [c, c] = -1 then -1 else (Lib.index s [c, c] + i : Int) := by
  induction s with
  | nil => intro i; simp [fnd, Lib.index]
  | cons x r ih =>
    intro i
    cases r with
    | nil => simp [fnd, Lib.index]
    | cons y r =>
      have e := ih (i + 1)
      have hg := Lib.index_ge (y :: r) [c, c]
      rw [fnd, Lib.index]
      by_cases h : x = c ∧ y = c
      · rw [if_pos h]; obtain ⟨rfl, rfl⟩ := h; simp
      · rw [if_neg h, e]
        have h1 : ([c, c].isPrefixOf (x :: y :: r)) = false := by
          simp only [List.isPrefixOf, Bool.and_eq_false_iff, beq_eq_false_iff_ne]
          by_cases c1 : x = c
          · right; left; exact fun h2 => h ⟨c1, h2.symm⟩
          · left; exact fun h2 => c1 h2.symm
        rw [h1]
        simp only [Bool.false_eq_true, if_false]
        by_cases hi : Lib.index (y :: r) [c, c] = -1
        · simp [hi]
        · simp [hi]
          split <;> omega
theorem hasOpen_fnd (s : S) : hasOpen s = (fnd 123 s 0).isSome := by
  have h := index_two 123 s 0
  unfold hasOpen Lib.contains
  have hg := Lib.index_ge s [123, 123]
  cases hf : fnd 123 s 0 with
  | none =>
    rw [hf] at h; simp only at h
    split at h
    · rename_i e; rw [e]; rfl
    · have : Lib.index s [123, 123] = -1 := by omega
      rw [this]; rfl
  | some j =>
    rw [hf] at h; simp only at h
    split at h
    · omega
    · simp; omega
theorem same_l0 (p q : List S) (h : p.length = q.length) (hp : p.length ≤ 1048576) : ∀ d i, p.length - i = d → i ≤ p.length → bellmanref01_SameTexts.l0 (d + 1) (p.map bs) (q.map bs) (p.length : Int) (i : Int) = some (decide (p.drop i = q.drop i)) := by
  intro d
  induction d with
  | zero =>
    intro i h1 h2
    rw [bellmanref01_SameTexts.l0, if_neg (by omega), List.drop_eq_nil_of_le (by omega), List.drop_eq_nil_of_le (by omega)]; rfl
  | succ d ih =>
    intro i h1 h2
    have hi : i < p.length := by omega
    have hq : i < q.length := by omega
    have e1 : p.drop i = p.getD i [] :: p.drop (i + 1) := by rw [List.drop_eq_getElem_cons hi]; simp [List.getD, hi]
    have e2 : q.drop i = q.getD i [] :: q.drop (i + 1) := by rw [List.drop_eq_getElem_cons hq]; simp [List.getD, hq]
    rw [bellmanref01_SameTexts.l0, if_pos (by omega), if_pos (by omega), if_pos (by rw [List.length_map]; omega), if_pos (by rw [List.length_map]; omega), rd_map p i hi, rd_map q i hq, bs_list, bs_list, w64 i (by omega), e1, e2]
    by_cases c : p.getD i [] = q.getD i []
    · rw [if_pos c, ih (i + 1) (by omega) (by omega), c]; simp
    · rw [if_neg c]; congr 1; symm; rw [decide_eq_false_iff_not]; intro h; exact c (List.cons.inj h).1
theorem same_f (p q : List S) (hp : p.length ≤ 1048576) : ∃ k, bellmanref01_SameTexts.f k (p.map bs) (q.map bs) = some (decide (p = q)) := by
  by_cases h : p.length = q.length
  · have e := same_l0 p q h hp _ 0 rfl (Nat.zero_le _)
    refine ⟨p.length - 0 + 1, ?_⟩
    unfold bellmanref01_SameTexts.f
    rw [if_pos (by simp [h]), List.length_map]
    exact e
  · refine ⟨0, ?_⟩
    unfold bellmanref01_SameTexts.f
    rw [if_neg (by simp; omega)]
    have : p ≠ q := fun e => h (by rw [e])
    simp [this]
end Go.Proofs.YtniibpndgcndbaaGreatDoor.Tpl
namespace Go.Proofs.YtniibpndgcndbaaGreatDoor.Tpl
open Go.RowKit Go.Proofs Go.Shelf Go.Proofs.YtniibpndgcndbaaGreatDoor.PB Go.Proofs.YtniibpndgcndbaaGreatDoor.Short Go.Proofs.YtniibpndgcndbaaGreatDoorW.PrintWords Go.Proofs.YtniibpndgcndbaaGreatDoorW.PrintLast Go.Proofs.YtniibpndgcndbaaGreatDoorW.PrintMore Nodes
attribute [local go_sem] Oper.semAt_some
structure Lk where
  k : Nat
  t : S
  A2 : Option Addr
  c2 : Nat
  p : List S
  A3 : Option Addr
  n3 : Nat
  c3 : Nat
  A4 : Option Addr
  n4 : Nat
  c4 : Nat
  lv : Nat
  wi : Bool
def Lk.enc (x : Lk) : Value := .agg #[.int .u8 x.k, .string (bs x.t), .slice x.A2 x.p.length x.c2, .slice x.A3 x.n3 x.c3, .slice x.A4 x.n4 x.c4, .int .i64 x.lv, .bool x.wi]
def Lk.er (x : Lk) : Look := ⟨x.k, x.t, x.p, x.lv, x.wi⟩
def GLk (w0 : World) := { x : Lk // (Kd.string.C w0 x.A2 x.p.length (x.p.map bs) ∧ x.p.length ≤ x.c2) ∧ x.t.length ≤ 1048576 ∧ x.lv ≤ 2000000 }
def ers {w0 : World} (l : List (GLk w0)) : List Look := l.map fun x => x.1.er
def KpN (n₀ : Nat) (W W' : World) : Prop := Below n₀ W W' ∧ ∀ (i : Nat) (cs : Array Value), W.heap[i]? = some (.cells cs 37 (0, 0)) → W'.heap[i]? = some (.cells cs 37 (0, 0))
theorem KpN.refl (n₀ : Nat) (W : World) : KpN n₀ W W := ⟨Below.refl _ _, fun _ _ h => h⟩
theorem KpN.trans {n₀ : Nat} {A B C : World} (h : KpN n₀ A B) (k : KpN n₀ B C) : KpN n₀ A C := ⟨h.1.trans k.1, fun i cs hi => k.2 i cs (h.2 i cs hi)⟩
theorem KpN.alloc {n₀ : Nat} {A B : World} (h : KpN n₀ A B) (hn : n₀ ≤ B.heap.size) (o : Obj) : KpN n₀ A (B.alloc o) := ⟨h.1.alloc hn o, fun i cs hi => blk_alloc (h.2 i cs hi) o⟩
theorem KpN.of_below {n₀ : Nat} {W W' : World} (h : Below W.heap.size W W') (hn : n₀ ≤ W.heap.size) : KpN n₀ W W' := ⟨h.mono hn, fun _ _ hi => blk_below hi h⟩
theorem KpN.set {n₀ : Nat} {W W' : World} {B : Nat} {t : TypeId} {v : Value} (h : KpN n₀ W W') (hb : Boxed W' B t v) (ht : t ≠ 37) (hn : n₀ ≤ B) (u : Value) : KpN n₀ W (W'.setCell ⟨B, 0, none⟩ u) :=
  ⟨h.1.setCell (p := ⟨B, 0, none⟩) hn _, fun i cs hi => blk_far (h.2 i cs hi) (fun e => by have e' : i = B := e; subst e'; have := (h.2 i cs hi).symm.trans hb; injection this with this; injection this with _ this; exact ht this.symm) u⟩
theorem KeepsOthers.of_below {W W' : World} (h : Below W.heap.size W W') : KeepsOthers W W' := ⟨h.size, fun _ _ hk _ => blk_below hk h⟩
theorem KpN.b {n₀ : Nat} {w : World} (hn : n₀ ≤ w.heap.size) (W : World) (l : Nat) (o o' : Obj) (hl : w.heap.size ≤ l) (h : W.heap[l]? = some o) (hc : o.isCells = false) (hw : o.isWalk = false) : KpN n₀ W (W.putObj l o') :=
  ⟨belowK_b hn W l o o' hl h hc hw, fun i cs hi => by
    rw [World.putObj_heap_other (fun e => by subst e; rw [h] at hi; cases hi; simp [Obj.isCells] at hc)]
    exact hi⟩
theorem roomN {F : Fence} (hd : F.depth = none) (k : Nat) : F.room k := fun d h => by rw [hd] at h; cases h
theorem YieldAt.anyDepth {F : Fence} (hd : F.depth = none) {m : Nat} (m' : Nat) {P : Program} {l : Nat} {args : Array Value} {W : World} {R : Ending → World → Prop} (h : YieldAt F m P l args W R) : YieldAt F m' P l args W R := by
  obtain ⟨fn, tmps, assign, body, hy, hR⟩ := h
  exact ⟨fn, tmps, assign, body, hy, ⟨hR.1, fun c cs _ => hR.2 c cs (roomN hd _)⟩⟩
section
variable {w0 : World} {ys ys2 ys3 q : List (GLk w0)} {X : GLk w0} {k : Nat} {t : S} {A2 : Option Addr} {c2 : Nat} {p : List S} {A3 : Option Addr} {n3 c3 : Nat} {A4 : Option Addr} {n4 c4 : Nat} {lv : Nat} {wi kf : Bool} {a b r : Nodes} {hh : (Kd.string.C w0 A2 p.length (p.map bs) ∧ p.length ≤ c2) ∧ t.length ≤ 1048576 ∧ lv ≤ 2000000}
theorem ers_app (a b : List (GLk w0)) : ers (a ++ b) = ers a ++ ers b := by simp [ers]
theorem ers_X (hX : X = ⟨⟨k, t, A2, c2, p, A3, n3, c3, A4, n4, c4, lv, wi⟩, hh⟩) : ers [X] = [⟨k, t, p, lv, wi⟩] := by rw [hX]; rfl
theorem flat_cons : flat (cons k t p a b r) lv wi = [⟨k, t, p, lv, wi⟩] ++ (flat a (lv + 1) (wi || k == 5) ++ (flat b (lv + 1) wi ++ flat r lv wi)) := rfl
theorem fin1 (hX : X = ⟨⟨k, t, A2, c2, p, A3, n3, c3, A4, n4, c4, lv, wi⟩, hh⟩) : ers (ys ++ [X]) <+: ers ys ++ flat (cons k t p a b r) lv wi := by
  rw [ers_app, ers_X hX, flat_cons, ← List.append_assoc]; exact List.prefix_append _ _
theorem fin2 (hX : X = ⟨⟨k, t, A2, c2, p, A3, n3, c3, A4, n4, c4, lv, wi⟩, hh⟩) (hq : ers q <+: flat a (lv + 1) (wi || kf)) (hkf : (k == 5) = kf) : ers (ys ++ [X] ++ q) <+: ers ys ++ flat (cons k t p a b r) lv wi := by
  obtain ⟨s, hs⟩ := hq
  rw [ers_app, ers_app, ers_X hX, flat_cons, hkf, ← hs]
  exact ⟨s ++ (flat b (lv + 1) wi ++ flat r lv wi), by simp [List.append_assoc]⟩
theorem fin3 (hX : X = ⟨⟨k, t, A2, c2, p, A3, n3, c3, A4, n4, c4, lv, wi⟩, hh⟩) (h2 : ers ys2 = flat a (lv + 1) (wi || kf)) (hq : ers q <+: flat b (lv + 1) wi) (hkf : (k == 5) = kf) : ers (ys ++ [X] ++ ys2 ++ q) <+: ers ys ++ flat (cons k t p a b r) lv wi := by
  obtain ⟨s, hs⟩ := hq
  rw [ers_app, ers_app, ers_app, ers_X hX, flat_cons, hkf, ← hs, h2]
  exact ⟨s ++ flat r lv wi, by simp [List.append_assoc]⟩
theorem fin4 (hX : X = ⟨⟨k, t, A2, c2, p, A3, n3, c3, A4, n4, c4, lv, wi⟩, hh⟩) (h2 : ers ys2 = flat a (lv + 1) (wi || kf)) (h3 : ers ys3 = flat b (lv + 1) wi) (hkf : (k == 5) = kf) : ers (ys ++ [X] ++ ys2 ++ ys3) ++ flat r lv wi = ers ys ++ flat (cons k t p a b r) lv wi := by
  rw [ers_app, ers_app, ers_app, ers_X hX, flat_cons, hkf, h2, h3]
  simp [List.append_assoc]
end
theorem walk_bounds {ca cb cr cn m lv N pl yl : Nat} (h : yl + (1 + ca + cb + cr) = cn) (hm : cn < m + 1) (hv : lv + cn ≤ 2000000) (hN : pl + cn ≤ N) :
    ca < m ∧ lv + 1 + ca ≤ 2000000 ∧ pl + (yl + 1) + ca ≤ N ∧ cb < m ∧ lv + 1 + cb ≤ 2000000 ∧ pl + (yl + 1) + ca + cb ≤ N ∧ pl + yl < N := by omega
set_option maxRecDepth 100000 in
set_option maxHeartbeats 4000000 in
theorem walk_inner (F : Fence) (hd : F.depth = none) (h70 : F.fn 70) (hro : F.round = none) (w0 : World) (l N : Nat) (J Jx : List (GLk w0) → World → Prop)
    (hJa : ∀ s W o, J s W → J s (W.alloc o))
    (hY : ∀ m pre x W, J pre W → pre.length < N → YieldAt F m Tryz.prog l #[x.1.enc] W fun e W' =>
      (e = .returned (.bool true) ∧ J (pre ++ [x]) W' ∧ KpN w0.heap.size W W') ∨ (e = .returned (.bool false) ∧ Jx (pre ++ [x]) W')) (m : Nat) :
    ∀ (nd : Nodes) (n : Nat) (A : Option Addr) (c lv : Nat) (wi : Bool) (pre : List (GLk w0)) (W : World), nd.cnt < m → lv + nd.cnt ≤ 2000000 → nd.len ≤ 1048576 → nd.sm → Rd w0 A c nd → Below w0.heap.size w0 W → J pre W → pre.length + nd.cnt ≤ N →
      CallsIn F n Tryz.prog 70 #[.slice A nd.len c, .int .i64 lv, .bool wi, .func (.yield l) #[] #[]] W fun e W' =>
        (e = .returned (.bool true) ∧ ∃ ys, ers ys = flat nd lv wi ∧ J (pre ++ ys) W' ∧ KpN w0.heap.size W W') ∨ (e = .returned (.bool false) ∧ ∃ q, ers q <+: flat nd lv wi ∧ Jx (pre ++ q) W') := by
  induction m with
  | zero => intro nd n A c lv wi pre W hm; omega
  | succ m ih =>
    intro nd n A c lv wi pre W hm hlv hll hs hR hB hJ hN
    have hdd : ∀ k : Nat, (F.depth.isSome = true → 1 ≤ k) := fun k h => by rw [hd] at h; cases h
    have HR := Aside0.mk hR
    have HS := Aside0.mk hs
    have HB := Aside0.mk hB
    have HN := Aside0.mk hN
    have HM := Aside0.mk hm
    have HV := Aside0.mk hlv
    have HJ := Aside0.mk hJ
    have hlv1 : lv ≤ 2000000 := by omega
    clear hR hs hB hN hm hJ hlv
    refine callsIn_of_wp Tryz.func70 rfl h70 ?_ hro
    simp only [Tryz.ntmps70, List.size_toArray, List.length_cons, List.length_nil, Nat.reduceAdd, Nat.reduceSub, Array.replicate_succ, Array.replicate_zero, List.push_toArray, List.append_toArray, List.nil_append, List.cons_append]
    gi_wp2
    gi_loopw [13] (fun v wr => ∃ (i : Nat) (ys : List (GLk w0)), v = .int .i64 i ∧ i ≤ nd.len ∧ Aside0 (ers ys ++ flat (nd.drop i) lv wi = flat nd lv wi) ∧ Aside0 (J (pre ++ ys) wr) ∧ Aside0 (KpN w0.heap.size W wr))
      (fun v _ => nd.len - (intOf v).toNat)
    case atStart => exact ⟨0, [], rfl, Nat.zero_le _, ⟨by rw [drop_zero]; rfl⟩, ⟨by rw [List.append_nil]; exact HJ.out⟩, ⟨KpN.refl _ _⟩⟩
    case round =>
      obtain ⟨i, ys, rfl, hi, HE, HJr, HK⟩ := hrel
      cases hdr : nd.drop i with
      | nil =>
        have h1 := drop_nil hdr
        obtain rfl : i = nd.len := by omega
        rw [hdr] at HE
        clear hdr
        gi_wp2
        go_ret
        exact .inl ⟨rfl, ys, by simpa [flat] using HE.out, HJr.out, HK.out⟩
      | cons k t p a b r =>
        obtain ⟨h1, h2, _⟩ := drop_step hdr
        have HBr := Aside0.mk (HB.out.trans HK.out.1)
        obtain ⟨ad, A2, c2, A3, c3, A4, c4, rfl, y0, y1, y2, y3, y4, i2, l2, R3, R4⟩ := HR.out.at hdr
        replace y0 := (HBr.out.cell (World.block_lt_of_cell? _ _ y0)).trans y0
        replace y1 := (HBr.out.cell (World.block_lt_of_cell? _ _ y1)).trans y1
        replace y2 := (HBr.out.cell (World.block_lt_of_cell? _ _ y2)).trans y2
        replace y3 := (HBr.out.cell (World.block_lt_of_cell? _ _ y3)).trans y3
        replace y4 := (HBr.out.cell (World.block_lt_of_cell? _ _ y4)).trans y4
        obtain ⟨s1, s2, s3, s4, s5, s6, s7, s8, s9⟩ : (cons k t p a b r).sm := hdr ▸ sm_drop HS.out i
        have HE' := Aside0.mk (hdr ▸ HE.out : ers ys ++ flat (cons k t p a b r) lv wi = flat nd lv wi)
        have hcd := cnt_drop nd i
        have hc0 : (nd.drop i).cnt = 1 + a.cnt + b.cnt + r.cnt := by rw [hdr]; rfl
        have hys : (ers ys).length + (1 + a.cnt + b.cnt + r.cnt) = nd.cnt := by have := congrArg List.length HE'.out; rw [List.length_append, flat_len, flat_len] at this; simpa [cnt] using this
        rw [show (ers ys).length = ys.length from by simp [ers]] at hys
        clear hdr HE hcd hc0
        obtain ⟨X, hX⟩ : ∃ X : GLk w0, X = ⟨⟨k, t, A2, c2, p, A3, a.len, c3, A4, b.len, c4, lv, wi⟩, ⟨i2, l2⟩, s2, hlv1⟩ := ⟨_, rfl⟩
        have hXe : X.1.enc = .agg #[.int .u8 k, .string (bs t), .slice A2 p.length c2, .slice A3 a.len c3, .slice A4 b.len c4, .int .i64 lv, .bool wi] := by rw [hX]; rfl
        have BK := Aside0.mk (blk_new wr (.cells #[.int .u8 k, .string (bs t), .slice A2 p.length c2, .slice A3 a.len c3, .slice A4 b.len c4] 37))
        have HKW := Aside0.mk (HK.out.alloc HBr.out.size (.cells #[.int .u8 k, .string (bs t), .slice A2 p.length c2, .slice A3 a.len c3, .slice A4 b.len c4] 37))
        have HJW := hJa _ _ (.cells #[.int .u8 k, .string (bs t), .slice A2 p.length c2, .slice A3 a.len c3, .slice A4 b.len c4] 37) HJr.out
        obtain ⟨hb1, hb2, hb3, hb4, hb5, hb6, hb7⟩ := walk_bounds hys HM.out HV.out HN.out
        have hyl : (pre ++ ys).length < N := by rw [List.length_append]; exact hb7
        obtain ⟨fn, tmps, assign, body, hy, hRR⟩ := hY (n - 1) (pre ++ ys) X _ HJW hyl
        rw [hXe] at hy
        obtain ⟨g, hg⟩ : ∃ g, wr.heap.size = g := ⟨_, rfl⟩
        gi_wp2_with fail
        refine hRR.mono ?_
        rintro e W2 (⟨rfl, hJ2, hk2⟩ | ⟨rfl, hx2⟩)
        · clear hRR hy
          have BK2 := Aside0.mk (hk2.2 _ _ BK.out)
          rw [hg] at BK2
          have HK2 := Aside0.mk (HKW.out.trans hk2)
          have HJ2 := Aside0.mk hJ2
          have HB2 := Aside0.mk (HB.out.trans HK2.out.1)
          clear hk2 hJ2 BK HKW HJr HK HBr y0 y1 y2 y3 y4
          obtain ⟨m0, m1, m2, m3, m4, n0, n1, n2, n3, n4⟩ := cells_5 BK2.out
          obtain ⟨kf, hkf⟩ : ∃ kf, (k == 5) = kf := ⟨_, rfl⟩
          have hk5 : ((k : Int) == 5) = kf := by rw [← hkf, Bool.eq_iff_iff, beq_iff_eq, beq_iff_eq]; omega
          have hor : (wi || k == 5) = (wi || kf) := by rw [hkf]
          have ihA := Aside0.mk (ih a (n - 1) A3 c3 (lv + 1) (wi || kf) (pre ++ (ys ++ [X])) W2 hb1 hb2 s5 s7 R3 HB2.out (by rw [← List.append_assoc]; exact HJ2.out) (by rw [List.length_append, List.length_append, List.length_singleton]; exact hb3))
          cases wi with
          | false =>
            have ihA1 := ihA.out
            rw [Int.natCast_succ, Bool.false_or] at ihA1
            gi_wp2_with fail
            refine ihA1.mono ?_
            clear ihA1 ihA
            rintro e W3 (⟨rfl, ys2, hy2, hJ3, hk3⟩ | ⟨rfl, q, hq, hx3⟩)
            · have BK3 := Aside0.mk (hk3.2 _ _ BK2.out)
              have HK3 := Aside0.mk (HK2.out.trans hk3)
              have HB3 := Aside0.mk (HB2.out.trans hk3.1)
              have HJ3 := Aside0.mk hJ3
              have HY2 := Aside0.mk hy2
              have hyl2 : ys2.length = a.cnt := by have := congrArg List.length hy2; rw [flat_len] at this; simpa [ers] using this
              clear hk3 hJ3 hy2 m0 m1 m2 m3 m4 n0 n1 n2 n3 n4
              obtain ⟨m0, m1, m2, m3, m4, n0, n1, n2, n3, n4⟩ := cells_5 BK3.out
              have ihB1 := ih b (n - 1) A4 c4 (lv + 1) false (pre ++ (ys ++ [X]) ++ ys2) W3 hb4 hb5 s6 s8 R4 HB3.out HJ3.out (by rw [List.length_append, List.length_append, List.length_append, List.length_singleton, hyl2]; exact hb6)
              rw [Int.natCast_succ] at ihB1
              gi_wp2_with fail
              refine ihB1.mono ?_
              clear ihB1
              rintro e W4 (⟨rfl, ys3, hy3, hJ4, hk4⟩ | ⟨rfl, q, hq, hx4⟩)
              · have HK4 := Aside0.mk (HK3.out.trans hk4)
                have HJ4 := Aside0.mk hJ4
                have HY3 := Aside0.mk hy3
                clear hk4 hJ4 hy3
                gi_wp2
                go_roundw
                case rel => exact ⟨i + 1, ys ++ [X] ++ ys2 ++ ys3, by simp, by omega, ⟨by rw [h2, ← HE'.out]; exact fin4 (X := X) hX HY2.out HY3.out hkf⟩, ⟨by simpa [List.append_assoc] using HJ4.out⟩, HK4⟩
                case measure => simp [intOf]; omega
              · gi_wp2
                go_ret
                exact .inr ⟨rfl, ys ++ [X] ++ ys2 ++ q, by rw [← HE'.out]; exact fin3 (X := X) hX HY2.out hq hkf, by simpa [List.append_assoc] using hx4⟩
            · gi_wp2
              first
                | go_ret
                | (refine ⟨fun _ h => (by cases h), ?_⟩; gi_wp2; go_ret)
              exact .inr ⟨rfl, ys ++ [X] ++ q, by rw [← HE'.out]; exact fin2 (X := X) hX hq hkf, by simpa [List.append_assoc] using hx3⟩
          | true =>
            have ihA1 := ihA.out
            rw [Int.natCast_succ, Bool.true_or] at ihA1
            gi_wp2_with fail
            refine ihA1.mono ?_
            clear ihA1 ihA
            rintro e W3 (⟨rfl, ys2, hy2, hJ3, hk3⟩ | ⟨rfl, q, hq, hx3⟩)
            · have BK3 := Aside0.mk (hk3.2 _ _ BK2.out)
              have HK3 := Aside0.mk (HK2.out.trans hk3)
              have HB3 := Aside0.mk (HB2.out.trans hk3.1)
              have HJ3 := Aside0.mk hJ3
              have HY2 := Aside0.mk hy2
              have hyl2 : ys2.length = a.cnt := by have := congrArg List.length hy2; rw [flat_len] at this; simpa [ers] using this
              clear hk3 hJ3 hy2 m0 m1 m2 m3 m4 n0 n1 n2 n3 n4
              obtain ⟨m0, m1, m2, m3, m4, n0, n1, n2, n3, n4⟩ := cells_5 BK3.out
              have ihB1 := ih b (n - 1) A4 c4 (lv + 1) true (pre ++ (ys ++ [X]) ++ ys2) W3 hb4 hb5 s6 s8 R4 HB3.out HJ3.out (by rw [List.length_append, List.length_append, List.length_append, List.length_singleton, hyl2]; exact hb6)
              rw [Int.natCast_succ] at ihB1
              gi_wp2_with fail
              refine ihB1.mono ?_
              clear ihB1
              rintro e W4 (⟨rfl, ys3, hy3, hJ4, hk4⟩ | ⟨rfl, q, hq, hx4⟩)
              · have HK4 := Aside0.mk (HK3.out.trans hk4)
                have HJ4 := Aside0.mk hJ4
                have HY3 := Aside0.mk hy3
                clear hk4 hJ4 hy3
                gi_wp2
                go_roundw
                case rel => exact ⟨i + 1, ys ++ [X] ++ ys2 ++ ys3, by simp, by omega, ⟨by rw [h2, ← HE'.out]; exact fin4 (X := X) hX HY2.out HY3.out hkf⟩, ⟨by simpa [List.append_assoc] using HJ4.out⟩, HK4⟩
                case measure => simp [intOf]; omega
              · gi_wp2
                go_ret
                exact .inr ⟨rfl, ys ++ [X] ++ ys2 ++ q, by rw [← HE'.out]; exact fin3 (X := X) hX HY2.out hq hkf, by simpa [List.append_assoc] using hx4⟩
            · gi_wp2
              first
                | go_ret
                | (refine ⟨fun _ h => (by cases h), ?_⟩; gi_wp2; go_ret)
              exact .inr ⟨rfl, ys ++ [X] ++ q, by rw [← HE'.out]; exact fin2 (X := X) hX hq hkf, by simpa [List.append_assoc] using hx3⟩
        · clear hRR hy
          gi_wp2
          first
            | go_ret
            | (refine ⟨fun _ h => (by cases h), ?_⟩; gi_wp2; go_ret)
            | (refine ⟨fun _ h => (by cases h), ?_⟩; gi_wp2; refine ⟨fun _ h => (by cases h), ?_⟩; gi_wp2; go_ret)
          exact .inr ⟨rfl, ys ++ [X], by rw [← HE'.out]; exact fin1 (X := X) hX, by simpa [List.append_assoc] using hx2⟩
set_option maxHeartbeats 1000000 in
/-- the closure of vet.all -/
theorem all1_in (F : Fence) (hd : F.depth = none) (n : Nat) (h69 : F.fn 69) (h70 : F.fn 70) (hro : F.round = none) (w0 : World) (l Bt : Nat) (A : Option Addr) (c : Nat) (nd : Nodes) (J Jx : List (GLk w0) → World → Prop)
    (hJa : ∀ s W o, J s W → J s (W.alloc o)) (hcn : nd.cnt ≤ 1048576) (hll : nd.len ≤ 1048576) (hs : nd.sm) (hR : Rd w0 A c nd)
    (hY : ∀ pre x W, J pre W → pre.length < nd.cnt → YieldAt F (n - 1) Tryz.prog l #[x.1.enc] W fun e W' =>
      (e = .returned (.bool true) ∧ J (pre ++ [x]) W' ∧ KpN w0.heap.size W W') ∨ (e = .returned (.bool false) ∧ Jx (pre ++ [x]) W'))
    (W : World) (hB : Below w0.heap.size w0 W) (hBt : W.cell? ⟨Bt, 0, none⟩ = some (.slice A nd.len c)) (h0 : J [] W) :
    CallsIn F n Tryz.prog 69 #[.func (.yield l) #[] #[], .pointer (some ⟨Bt, 0, none⟩)] W fun e W' => (∃ v, e = .returned v) ∧
      ((∃ ys, ers ys = flat nd 1 false ∧ J ys W') ∨ (∃ pre, ers pre <+: flat nd 1 false ∧ Jx pre W')) := by
  have hdd : ∀ k : Nat, (F.depth.isSome = true → 1 ≤ k) := fun k h => by rw [hd] at h; cases h
  have hp := walk_inner F hd h70 hro w0 l nd.cnt J Jx hJa (fun m pre x W hj hl => YieldAt.anyDepth hd m (hY pre x W hj hl)) (nd.cnt + 1) nd (n - 1) A c 1 false [] W (by omega) (by omega) hll hs hR hB h0 (by simp)
  clear hY hJa hs hR
  refine callsIn_of_wp Tryz.func69 rfl h69 ?_ hro
  simp only [Tryz.ntmps69, List.size_toArray, List.length_cons, List.length_nil, Nat.reduceAdd, Nat.reduceSub, Array.replicate_succ, Array.replicate_zero, List.push_toArray, List.append_toArray, List.nil_append, List.cons_append]
  gi_wp2_with fail
  refine hp.mono ?_
  rintro e W1 (⟨rfl, ys, hy, hJ, _⟩ | ⟨rfl, q, hq, hx⟩)
  · gi_wp2
    go_end0
    exact ⟨⟨_, rfl⟩, .inl ⟨_, hy, by simpa using hJ⟩⟩
  · gi_wp2
    go_end0
    exact ⟨⟨_, rfl⟩, .inr ⟨q, hq, by simpa using hx⟩⟩
theorem all_in (F : Fence) (n : Nat) (h39 : F.fn 39) (hro : F.round = none) (A : Option Addr) (m c : Nat) (w : World) :
    CallsIn F n Tryz.prog 39 #[.slice A m c] w fun e w' => e = .returned (.func (.func 69) #[] #[.pointer (some ⟨w.heap.size, 0, none⟩)]) ∧ w' = w.alloc (.cells #[.slice A m c] 22) := by
  refine callsIn_of_wp Tryz.func39 rfl h39 ?_ hro
  simp only [Tryz.ntmps39, List.size_toArray, List.length_cons, List.length_nil, Nat.reduceAdd, Nat.reduceSub, Array.replicate_succ, Array.replicate_zero, List.push_toArray, List.append_toArray, List.nil_append, List.cons_append]
  gi_wp2
  go_ret
  exact ⟨rfl, rfl⟩
theorem all_stops (F : Fence) (hd : F.depth = none) (n : Nat) (h69 : F.fn 69) (h70 : F.fn 70) (hro : F.round = none) (w0 : World) (Bt : Nat) (A : Option Addr) (c : Nat) (nd : Nodes) (hcn : nd.cnt ≤ 1048576) (hll : nd.len ≤ 1048576) (hs : nd.sm) (hR : Rd w0 A c nd)
    (w : World) (hB : Below w0.heap.size w0 w) (hc : w.cell? ⟨Bt, 0, none⟩ = some (.slice A nd.len c)) :
    SeqStopsK F n Tryz.prog 69 #[.pointer (some ⟨Bt, 0, none⟩)] (fun x : GLk w0 => #[x.1.enc]) (KpN w0.heap.size) (fun ys => ers ys = flat nd 1 false) (fun pre => ers pre <+: flat nd 1 false) nd.cnt w := fun l J Jx W hW hJ _ hY h0 =>
  all1_in F hd n h69 h70 hro w0 l Bt A c nd J Jx (fun s W o hs => hJ s W _ none hs (World.grownBy_alloc W o none) (fun r e => by cases e)) hcn hll hs hR hY W (hB.trans (hW.mono hB.size)) (pw_cell_below hW hc) h0
end Go.Proofs.YtniibpndgcndbaaGreatDoor.Tpl
namespace Go.Proofs.YtniibpndgcndbaaGreatDoor.Tpl
open Go.RowKit Go.Proofs Go.Shelf Go.Proofs.YtniibpndgcndbaaGreatDoor.PB Go.Proofs.YtniibpndgcndbaaGreatDoor.Short Go.Proofs.YtniibpndgcndbaaGreatDoorW.PrintWords Go.Proofs.YtniibpndgcndbaaGreatDoorW.PrintLast Go.Proofs.YtniibpndgcndbaaGreatDoorW.PrintMore Nodes
attribute [local go_sem] Oper.semAt_some Lk.enc
def thisP (l : Nodes) : Int := if l.chk = true then (if lostP l = true then 13 else 0) else 2
def badL (x : Look) : Bool := isThis x.p && !x.wi
set_option maxRecDepth 100000 in
set_option maxHeartbeats 4000000 in
theorem this_any (l : Nodes) (A : Option Addr) (c : Nat) (w : World) (hG : Glob w) (hs : l.sm) (hR : Rd w A c l) (hl : l.len ≤ 1048576) (hc : l.cnt ≤ 1048576) :
    Calls Tryz.prog 24 #[.slice A l.len c] w fun e w' => e = .returned (.int .i64 (thisP l)) ∧ Below w.heap.size w w' := by
  have hA := chk_any l A c (w.alloc (.cells #[.int .i64 0] 24)) (hG.below (below_alloc (Below.refl _ _) _)) hs (hR.below (below_alloc (Below.refl _ _) _)) hl hc
  cases hch : l.chk with
  | false =>
    have ht : thisP l = 2 := by unfold thisP; rw [hch]; rfl
    rw [hch] at hA
    rw [ht]
    go_enter Tryz.func24, Tryz.ntmps24
    go_wp2_with fail
    refine hA.mono ?_
    rintro e w1 ⟨rfl, hb⟩
    have B0 : Boxed w1 w.heap.size 24 (.int .i64 0) := (hb.block _ (by simp)).trans (Boxed.new w _ _)
    have hb' := (below_alloc (Below.refl w.heap.size w) (.cells #[.int .i64 0] 24)).trans (hb.mono (by simp))
    clear hb hA hR
    have z0 := B0.cell
    have z1 := B0.frozen
    have c5 := (B0.set (.int .i64 2)).cell
    go_wp2
    refine bodyPost_ret (v := .int .i64 2) (by simp [results, Tryz.f24, go_sem, c5]) rfl ?_
    exact ⟨rfl, hb'.setCell (p := ⟨w.heap.size, 0, none⟩) (Nat.le_refl _) _⟩
  | true =>
    have ht : thisP l = if lostP l = true then 13 else 0 := by unfold thisP; rw [hch]; rfl
    rw [hch] at hA
    obtain ⟨r, hr⟩ : ∃ r : Int, (if lostP l = true then 13 else 0) = r := ⟨_, rfl⟩
    rw [ht, hr]
    refine (callsIn_wide (n := 8)).1 ?_
    refine callsIn_of_wp_marks Tryz.func24 rfl trivial ?_ rfl
    simp only [Tryz.ntmps24, List.size_toArray, List.length_cons, List.length_nil, Nat.reduceAdd, Nat.reduceSub, Array.replicate_succ, Array.replicate_zero, List.push_toArray, List.append_toArray, List.nil_append, List.cons_append]
    gi_wp2_with fail
    refine ⟨trivial, ?_⟩
    refine (callsIn_wide.2 hA).mono ?_
    rintro e w1 ⟨rfl, hb⟩
    have B0 : Boxed w1 w.heap.size 24 (.int .i64 0) := (hb.block _ (by simp)).trans (Boxed.new w _ _)
    have hb' := (below_alloc (Below.refl w.heap.size w) (.cells #[.int .i64 0] 24)).trans (hb.mono (by simp))
    clear hb hA
    gi_wp2_with fail
    refine ⟨trivial, ?_⟩
    refine (all_in Fence.wide _ trivial rfl A l.len c w1).mono ?_
    rintro e W0 ⟨rfl, hW0⟩
    have BT : Boxed W0 w1.heap.size 22 (.slice A l.len c) := by rw [hW0]; exact Boxed.new w1 _ _
    have BR : Boxed W0 w.heap.size 24 (.int .i64 0) := by rw [hW0]; exact B0.alloc _
    have hB0 : Below w.heap.size w W0 := by rw [hW0]; exact hb'.alloc hb'.size _
    have hsz : w1.heap.size < W0.heap.size := BT.lt
    have hsz2 : w.heap.size < w1.heap.size := B0.lt
    clear hW0 B0 hb'
    gi_wp2_with fail
    generalize w1.heap.size = bt at *
    have hlost := lost_flat l 1 8 (by unfold chk fitsP at hch; simp at hch; exact hch.1.1)
    refine wpIn_rangeFunc_ownH rfl (by decide) (gf := 69) (lb := #[.pointer (some ⟨bt, 0, none⟩)]) rfl trivial (enters_of Tryz.func69 (by kernel_rfl) rfl)
      (all_stops Fence.wide rfl _ trivial trivial rfl w bt A c l hc hl hs hR W0 hB0 BT.cell) KpN.trans (KpN.b (by omega)) (Below.refl _ _) (fun _ => rfl)
      (fun pre W => (Boxed W w.heap.size 24 (.int .i64 0) ∧ (ers pre).any badL = false) ∧ Below w.heap.size w W)
      (fun cd pre W => (Boxed W w.heap.size 24 (.int .i64 13) ∧ cd = .ret ∧ (ers pre).any badL = true) ∧ Below w.heap.size w W)
      (OwnFrom.and (OwnFrom.and (Own.from (boxed_own _ _ _) _) (ownFrom_pure _ _)) (ownFrom_below (Nat.le_refl _) (by omega)))
      (fun cd => OwnFrom.and (OwnFrom.and (Own.from (boxed_own _ _ _) _) (ownFrom_pure _ _)) (ownFrom_below (Nat.le_refl _) (by omega)))
      ⟨⟨BR, rfl⟩, hB0⟩
      (fun x a' W => ∃ Bx, w.heap.size < Bx ∧ W.heap[Bx]? = some (.cells #[.int .u8 x.1.k, .string (bs x.1.t), .slice x.1.A2 x.1.p.length x.1.c2, .slice x.1.A3 x.1.n3 x.1.c3, .slice x.1.A4 x.1.n4 x.1.c4, .int .i64 x.1.lv, .bool x.1.wi] 64 (0, 0)) ∧
        a' = { tmps := #[.slice A l.len c, undef, .pointer (some ⟨w.heap.size, 0, none⟩), .int .i64 0, .pointer (some ⟨Bx, 0, none⟩), .slice A l.len c, .int .i64 0, .int .i64 0, .bool false, undef, .slice A l.len c, .func (.func 69) #[] #[.pointer (some ⟨bt, 0, none⟩)], .agg #[.int .u8 x.1.k, .string (bs x.1.t), .slice x.1.A2 x.1.p.length x.1.c2, .slice x.1.A3 x.1.n3 x.1.c3, .slice x.1.A4 x.1.n4 x.1.c4, .int .i64 x.1.lv, .bool x.1.wi], undef, undef, undef, undef, undef, undef, undef, undef, undef, undef, undef, undef, undef, undef, undef, undef, undef, undef], defers := [] })
      (fun x a' _ X Y row hs hg hr => by obtain ⟨Bx, h1, h2, h3⟩ := hs; exact ⟨Bx, h1, blk_grown h2 hg (fun e => by obtain ⟨o, ho, hcl⟩ := (hr Bx e.symm).2; rw [h2] at ho; cases ho; cases hcl), h3⟩)
      ?assign ?body ?done ?stop
    case assign =>
      rintro lp pre x W K ⟨⟨b1, b2⟩, b3⟩ hK
      obtain ⟨⟨k, t, A2, c2, p, A3, n3, c3, A4, n4, c4, lv, wi⟩, hx⟩ := x
      gi_wp2
      exact hK _ _ ((KeepsOthers.alloc _ _).from _) ((KpN.refl _ W).alloc b3.size _) ⟨⟨b1.alloc _, b2⟩, b3.alloc b3.size _⟩ ⟨W.heap.size, b1.lt, World.alloc_heap_new W _, rfl⟩
    case body =>
      rintro lp pre x a' W hl2 ⟨rr, hr⟩ ⟨⟨b1, b2⟩, b3⟩ ⟨Bx, hBx, bX, rfl⟩ hlt
      obtain ⟨⟨k, t, A2, c2, p, A3, n3, c3, A4, n4, c4, lv, wi⟩, hx⟩ := x
      simp only at bX hx
      obtain ⟨m0, m1, m2, m3, m4, m5, m6, f0, f1, f2, f3, f4, f5, f6⟩ := cells_7 bX
      have z0 := b1.cell
      have z1 := b1.frozen
      have hX : ∀ fb : Bool, badL ⟨k, t, p, lv, wi⟩ = fb → (ers (pre ++ [⟨⟨k, t, A2, c2, p, A3, n3, c3, A4, n4, c4, lv, wi⟩, hx⟩])).any badL = fb := by
        intro fb h; rw [ers_app, List.any_append, b2, Bool.false_or]; show (badL _ || false) = fb; rw [Bool.or_false]; exact h
      cases p with
      | nil =>
        gi_wp2
        exact ⟨KeepsFrom.refl _ _, KpN.refl _ _, ⟨b1, hX false rfl⟩, b3⟩
      | cons s q =>
        obtain ⟨bp, op, rfl, hcell⟩ := row_form (p := (s :: q).map bs) (by simpa using hx.1.1) (by simp)
        have p0 := pw_cell_below b3 (hcell 0 (by simp))
        simp only [List.map_cons, List.getD_cons_zero, Nat.add_zero] at p0
        clear hcell
        by_cases hs : s = thisS
        · have e0 : ((bs s).toList == [116, 104, 105, 115]) = true := by rw [bs_list, beq_iff_eq]; exact hs
          have Hs := Aside0.mk hs
          clear hs
          cases wi with
          | true =>
            gi_wp2
            exact ⟨KeepsFrom.refl _ _, KpN.refl _ _, ⟨b1, hX false (by simp [badL])⟩, b3⟩
          | false =>
            gi_wp2
            exact ⟨(KeepsOthers.setCell _ _ _).from _, ⟨b1.set _, rfl, hX true (by simp [badL, isThis, Hs.out])⟩, b3.setCell (p := ⟨w.heap.size, 0, none⟩) (Nat.le_refl _) _⟩
        · have e0 : ((bs s).toList == [116, 104, 105, 115]) = false := by rw [bs_list, beq_eq_false_iff_ne]; exact hs
          gi_wp2
          exact ⟨KeepsFrom.refl _ _, KpN.refl _ _, ⟨b1, hX false (by simp [badL, isThis, hs])⟩, b3⟩
    case done =>
      rintro D ys W hD hys ⟨⟨b1, b2⟩, b3⟩ hK
      have z0 := b1.cell
      have z1 := b1.frozen
      have hlf : lostP l = false := by rw [← hlost]; rw [hys] at b2; exact b2
      rw [hlf] at hr
      have hr0 : r = 0 := hr.symm
      subst hr0
      have hK' := (KeepsOthers.setCell W ⟨w.heap.size, 0, none⟩ (.int .i64 0)).same D _ hK rfl
      gi_wp2
      refine ⟨by simp, .inl ⟨_, _, rfl, run_takeDeferred hK', ?_⟩⟩
      have hc5 := cell_kept (b1.set (.int .i64 0)).cell (grownBy_putObj' _ D (.deferred none)) (fun r e => by cases e; exact ⟨_, hK', rfl⟩)
      refine ⟨.int .i64 0, ?_, rfl, (b3.setCell (p := ⟨w.heap.size, 0, none⟩) (Nat.le_refl _) _).trans (belowK_b (w := w) (Nat.le_refl _) _ D _ _ (by omega) hK' rfl rfl)⟩
      simp [results, Tryz.f24, go_sem, hc5]
    case stop =>
      rintro D cd pre W hD hpre ⟨⟨b1, rfl, b2⟩, b3⟩ hK
      have hlf : lostP l = true := by
        rw [← hlost]
        obtain ⟨q, hq⟩ := hpre
        rw [← hq, List.any_append]
        show ((ers pre).any badL || _) = true
        rw [b2]; rfl
      rw [hlf] at hr
      have hr0 : r = 13 := hr.symm
      subst hr0
      gi_wp2
      refine ⟨by simp, .inl ⟨_, _, rfl, run_takeDeferred hK, ?_⟩⟩
      have hc5 := cell_kept b1.cell (grownBy_putObj' _ D (.deferred none)) (fun r e => by cases e; exact ⟨_, hK, rfl⟩)
      refine ⟨.int .i64 13, ?_, rfl, b3.trans (belowK_b (w := w) (Nat.le_refl _) W D _ _ (by omega) hK rfl rfl)⟩
      simp [results, Tryz.f24, go_sem, hc5]
end Go.Proofs.YtniibpndgcndbaaGreatDoor.Tpl
namespace Go.Proofs.YtniibpndgcndbaaGreatDoor.Tpl
set_option linter.unusedSimpArgs false
open Go.RowKit Go.Proofs.YtniibpndgcndbaaGreatDoor.PB Go.Proofs.YtniibpndgcndbaaGreatDoor.Short Go.Proofs.YtniibpndgcndbaaGreatDoorW.PrintWords Go.Proofs.YtniibpndgcndbaaGreatDoorW.PrintLast Go.Proofs.YtniibpndgcndbaaGreatDoorW.PrintMore Nodes
theorem Ev.ip {α : Type} {c : Prop} [Decidable c] {a b : Nat → Option α} {r : α} (h : c) (k : Ev a r) : Ev (fun n => if c then a n else b n) r := by
  obtain ⟨K, e⟩ := k; exact ⟨K, fun n hn => (if_pos h).trans (e n hn)⟩
theorem Ev.im {α : Type} {c : Prop} [Decidable c] {a b : Nat → Option α} {r : α} (h : ¬ c) (k : Ev b r) : Ev (fun n => if c then a n else b n) r := by
  obtain ⟨K, e⟩ := k; exact ⟨K, fun n hn => (if_neg h).trans (e n hn)⟩
theorem Ev.eq {α : Type} {a : Nat → Option α} {r r' : α} (k : Ev a r) (h : r = r') : Ev a r' := h ▸ k
theorem Ev.val {α : Type} {r r' : α} (h : r = r') : Ev (fun _ => some r) r' := h ▸ Ev.now r
theorem find_ev (s : S) (hs : s.length ≤ 1048576) : Ev (fun k => bellmanref10_find.f k (bs s) 0 123) (match fnd 123 s 0 with | some j => (j : Int) | none => -1) := by
  obtain ⟨k, hk⟩ := find_f 123 s hs 0 (Nat.zero_le _)
  exact Ev.of (bellmanref10_find.mono _ _ _) hk
theorem right_ev (p : List S) (hp : p.length ≤ 1048576) (hs : ∀ s, s ∈ p → s.length ≤ 1048576) : Ev (fun k => bellmanref10_right.f k (p.map bs)) (pathP p) := by
  obtain ⟨k, hk⟩ := right_f p hp hs
  exact Ev.of (bellmanref10_right.mono _) hk
theorem rd_tok {l : List Tok} {i : Nat} {x : Tok} (hx : l[i]? = some x) : rd_T101 (tokv l) (i : Int) = Tok.of x := by
  unfold rd_T101 tokv
  simp [List.getD, hx]
theorem tokv_len (l : List Tok) : (tokv l).length = l.length := by simp [tokv]
theorem last_bt (t : S) (h : t ≠ []) (hb : t.length ≤ 1048576) : (bt (bs t) (wrap64 (((bs t).size : Int) - 1)) = 123) ↔ t.getLast? = some 123 := by
  have hl : 0 < t.length := by cases t with | nil => exact absurd rfl h | cons => simp
  have e : wrap64 (((bs t).size : Int) - 1) = ((t.length - 1 : Nat) : Int) := by rw [bs_size]; unfold wrap64; omega
  rw [e, bt_bs t (t.length - 1) (by omega), List.getLast?_eq_getElem?, List.getElem?_eq_getElem (by omega)]
  rw [show t.getD (t.length - 1) 0 = t[t.length - 1] by simp [List.getD, show t.length - 1 < t.length by omega]]
  constructor
  · intro h2; congr 1; exact UInt8.toNat_inj.1 (Int.natCast_inj.1 (h2.trans (show (123 : Int) = (((123 : UInt8).toNat : Nat) : Int) from rfl)))
  · intro h2; rw [Option.some.inj h2]; rfl
theorem last_w (t : S) (h : t ≠ []) (hb : t.length ≤ 1048576) : 0 ≤ wrap64 (((bs t).size : Int) - 1) ∧ wrap64 (((bs t).size : Int) - 1) < ((bs t).size : Int) := by
  have hl : 0 < t.length := by cases t with | nil => exact absurd rfl h | cons => simp
  rw [bs_size]; unfold wrap64; omega
theorem beqI (a : Nat) (b : Nat) : (((a : Nat) : Int) == ((b : Nat) : Int)) = (a == b) := by rw [Bool.eq_iff_iff, beq_iff_eq, beq_iff_eq]; omega
theorem check10_l (l : List Tok) (hl : l.length ≤ 1048576) (hs : ∀ x, x ∈ l → x.sm) : ∀ d i, l.length - i = d → i ≤ l.length → Ev (fun k => bellmanref10_Check.l0 k (tokv l) (tokv l) (l.length : Int) (i : Int)) (if toksP (l.drop i) = true then 0 else 2) := by
  intro d
  induction d with
  | zero =>
    intro i h1 h2
    refine Ev.step (fun k => by rw [bellmanref10_Check.l0]) ?_
    refine Ev.im (by omega) ?_
    exact Ev.val (by rw [List.drop_eq_nil_of_le (by omega)]; rfl)
  | succ d ih =>
    intro i h1 h2
    have hi : i < l.length := by omega
    obtain ⟨x, hx⟩ : ∃ x, l[i]? = some x := ⟨_, List.getElem?_eq_getElem hi⟩
    have hd := toksP_drop hx
    have hr := rd_tok hx
    have hw := w64 i (by omega)
    have e := ih (i + 1) (by omega) (by omega)
    obtain ⟨s1, s2, s3, s4⟩ := hs _ (List.mem_of_getElem? hx)
    obtain ⟨k1, t, p⟩ := x
    have f0 : (rd_T101 (tokv l) (i : Int)).f0 = k1 := by rw [hr]; rfl
    have f1 : (rd_T101 (tokv l) (i : Int)).f1 = bs t := by rw [hr]; rfl
    have f2 : (rd_T101 (tokv l) (i : Int)).f2 = p.map bs := by rw [hr]; rfl
    simp only at s1 s2 s3 s4
    refine Ev.step (fun k => by rw [bellmanref10_Check.l0, f0, f1, f2, hw]) ?_
    refine Ev.ip (by omega) (Ev.ip (by omega) (Ev.ip (by rw [tokv_len]; omega) ?_))
    rw [hd]
    clear hd hr f0 f1 f2
    by_cases k1c : k1 = 1
    · subst k1c
      refine Ev.ip (by rfl) ?_
      by_cases ht : t = []
      · exact Ev.ip (by rw [bs_list]; exact ht) (Ev.val (by simp [fineP, ht]))
      refine Ev.im (by rw [bs_list]; exact ht) ?_
      refine Ev.bind (find_ev t s2) ?_
      have ho := hasOpen_fnd t
      cases hf : fnd 123 t 0 with
      | some j =>
        rw [hf] at ho
        refine Ev.im (by simp only; omega) (Ev.val ?_)
        simp [fineP, ho]
      | none =>
        rw [hf] at ho
        refine Ev.ip (by simp only; omega) ?_
        by_cases hp : p.length = 0
        · refine Ev.ip (by rw [List.length_map, hp]; rfl) ?_
          by_cases hn : i + 1 < l.length
          · refine Ev.ip (by rw [tokv_len]; omega) (Ev.ip (by omega) ?_)
            obtain ⟨y, hy⟩ : ∃ y, l[i + 1]? = some y := ⟨_, List.getElem?_eq_getElem hn⟩
            rw [rd_tok hy, hy]
            by_cases hk : y.k = 1
            · refine Ev.ip (by show (y.k : Int) = 1; omega) (Ev.val ?_)
              simp [fineP, hk]
            · refine Ev.im (by show ¬ ((y.k : Int) = 1); omega) ?_
              refine Ev.ip (last_w t ht s2).1 (Ev.ip (last_w t ht s2).2 ?_)
              by_cases hz : t.getLast? = some 123
              · refine Ev.ip ((last_bt t ht s2).2 hz) (Ev.val ?_)
                simp [fineP, hz, hn]
              · refine Ev.im (fun h => hz ((last_bt t ht s2).1 h)) (Ev.eq e ?_)
                simp [fineP, hz, hn, ht, hp, ho, hk]
          · refine Ev.im (by rw [tokv_len]; omega) (Ev.eq e ?_)
            rw [List.getElem?_eq_none (by omega)]
            simp [fineP, hn, ht, hp, ho]
        · refine Ev.im (by rw [List.length_map]; omega) (Ev.val ?_)
          simp [fineP, hp]
    refine Ev.im (by omega) ?_
    have j2 : ∀ b : Bool, ((k1 = 4 ∨ k1 = 6) ↔ b = true) → ¬ (k1 = 2 ∨ k1 = 3 ∨ k1 = 5) → Ev (fun k => bellmanref10_Check.j2 k (tokv l) false (tokv l) (l.length : Int) (i : Int) b (k1 : Int) (bs t) (p.map bs)) (if (fineP ⟨k1, t, p⟩ (decide (i + 1 < l.length)) (match l[i + 1]? with | none => false | some y => y.k == 1) && toksP (l.drop (i + 1))) = true then 0 else 2) := by
      intro b hb hk
      refine Ev.step (fun k => by rw [bellmanref10_Check.j2, bs_list, List.length_map, hw]) ?_
      cases b with
      | true =>
        have hk4 : k1 = 4 ∨ k1 = 6 := hb.2 rfl
        refine Ev.ip rfl ?_
        by_cases ht : t = []
        · refine Ev.ip ht ?_
          by_cases hp : p.length = 0
          · exact Ev.ip (by omega) (Ev.eq e (by simp [fineP, k1c, hk, hk4, ht, hp]))
          · exact Ev.im (by omega) (Ev.val (by simp [fineP, k1c, hk, hk4, hp]))
        · exact Ev.im ht (Ev.val (by simp [fineP, k1c, hk, hk4, ht]))
      | false =>
        have hk4 : ¬ (k1 = 4 ∨ k1 = 6) := fun h => by cases hb.1 h
        exact Ev.im (by simp) (Ev.im (by simp) (Ev.val (by simp [fineP, k1c, hk, hk4])))
    have j1 : ∀ b : Bool, ((k1 = 2 ∨ k1 = 3 ∨ k1 = 5) ↔ b = true) → Ev (fun k => bellmanref10_Check.j1 k (tokv l) false (tokv l) (l.length : Int) (i : Int) (k1 : Int) b (k1 : Int) (bs t) (p.map bs)) (if (fineP ⟨k1, t, p⟩ (decide (i + 1 < l.length)) (match l[i + 1]? with | none => false | some y => y.k == 1) && toksP (l.drop (i + 1))) = true then 0 else 2) := by
      intro b hb
      refine Ev.step (fun k => by rw [bellmanref10_Check.j1, bs_list, hw]) ?_
      cases b with
      | true =>
        have hk : k1 = 2 ∨ k1 = 3 ∨ k1 = 5 := hb.2 rfl
        refine Ev.ip rfl ?_
        by_cases ht : t = []
        · refine Ev.ip ht (Ev.bind (right_ev p s3 s4) ?_)
          cases hp : pathP p with
          | true => exact Ev.ip rfl (Ev.eq e (by simp [fineP, k1c, hk, ht, hp]))
          | false => exact Ev.im (by simp) (Ev.val (by simp [fineP, k1c, hk, hp]))
        · exact Ev.im ht (Ev.val (by simp [fineP, k1c, hk, ht]))
      | false =>
        have hk : ¬ (k1 = 2 ∨ k1 = 3 ∨ k1 = 5) := fun h => by cases hb.1 h
        refine Ev.im (by simp) ?_
        by_cases c4 : k1 = 4
        · refine Ev.ip (by omega) (j2 _ ?_ hk); simp [c4]
        · refine Ev.im (by omega) (j2 _ ?_ hk); rw [show ((k1 : Int) == 6) = (k1 == 6) from beqI k1 6]; simp [c4]
    clear e ih
    by_cases c2 : k1 = 2
    · refine Ev.ip (by omega) (j1 _ ?_); simp [c2]
    · refine Ev.im (by omega) ?_
      by_cases c3 : k1 = 3
      · refine Ev.ip (by omega) (j1 _ ?_); simp [c3]
      · refine Ev.im (by omega) (j1 _ ?_); rw [show ((k1 : Int) == 5) = (k1 == 5) from beqI k1 5]; simp [c2, c3]
theorem check10_ev (l : List Tok) (hl : l.length ≤ 1048576) (hs : ∀ x, x ∈ l → x.sm) : Ev (fun k => bellmanref10_Check.f k (tokv l)) (if toksP l = true then 0 else 2) := by
  have h := check10_l l hl hs _ 0 rfl (Nat.zero_le _)
  unfold bellmanref10_Check.f
  rw [tokv_len]
  exact h
theorem check11_ev (l : Nodes) (hs : l.sm) (hc : l.cnt ≤ 1048576) : Ev (fun k => bellmanref11_Check.f k l.of) (if l.chk = true then 0 else 2) := by
  unfold bellmanref11_Check.f
  refine Ev.bind (right11 _ l (Nat.lt_succ_self _) hc hs 8 (by omega)) ?_
  unfold rtP
  by_cases h : okN l 8 = true ∧ l.cnt ≤ 256
  · rw [if_pos h]
    refine Ev.ip rfl ?_
    refine Ev.bind (tokens_f _ l (Nat.lt_succ_self _) hc hs 8 (by omega) h.1) ?_
    have hlen := toks_len l
    rw [tokv_len] at hlen
    refine Ev.bind (check10_ev l.toks (by omega) (toks_sm l hs)) ?_
    have hk : l.chk = toksP l.toks := by unfold chk fitsP; rw [h.1, decide_eq_true h.2]; rfl
    rw [hk]
    cases toksP l.toks
    · exact Ev.im (by simp) (Ev.now _)
    · exact Ev.ip (by simp) (Ev.now _)
  · rw [if_neg h]
    refine Ev.im (by simp) (Ev.val ?_)
    have hk : l.chk = false := by
      unfold chk fitsP
      cases h1 : okN l 8
      · rfl
      · have : ¬ (l.cnt ≤ 256) := fun h2 => h ⟨h1, h2⟩
        rw [decide_eq_false this]; rfl
    rw [hk]; rfl
theorem rdepth_any (l : Nodes) (A : Option Addr) (c : Nat) (w : World) (hs : l.sm) (hR : Rd w A c l) (hc : l.cnt ≤ 1048576) :
    Calls Tryz.prog 15 #[.slice A l.len c] w fun e w' => e = .returned (.tuple #[.int .i64 (if l.chk = true then (l.depthP : Int) else 0), .int .i64 (if l.chk = true then 0 else 2)]) ∧ Below w.heap.size w w' := by
  have h : Ev (fun k => bellmanref12_Depth.f k l.of) ((if l.chk = true then (l.depthP : Int) else 0), (if l.chk = true then 0 else 2)) := by
    unfold bellmanref12_Depth.f
    refine Ev.bind (check11_ev l hs hc) ?_
    cases l.chk
    · exact Ev.im (by simp) (Ev.now _)
    · exact Ev.ip (by simp) (Ev.bind (depth_f _ l (Nat.lt_succ_self _) hc) (Ev.now _))
  obtain ⟨k, hk⟩ := h.rounds
  have q := bellmanref12_Depth.calls k A c l.of _ _ w (by rw [of_len]; exact hR.1) (by rw [of_len]; exact hR.2) hk
  rw [of_len] at q
  exact q
theorem rcount_any (l : Nodes) (A : Option Addr) (c : Nat) (w : World) (hs : l.sm) (hR : Rd w A c l) (hc : l.cnt ≤ 1048576) :
    Calls Tryz.prog 17 #[.slice A l.len c] w fun e w' => e = .returned (.tuple #[.int .i64 (if l.chk = true then (l.cnt : Int) else 0), .int .i64 (if l.chk = true then 0 else 2)]) ∧ Below w.heap.size w w' := by
  have h : Ev (fun k => bellmanref12_Count.f k l.of) ((if l.chk = true then (l.cnt : Int) else 0), (if l.chk = true then 0 else 2)) := by
    unfold bellmanref12_Count.f
    refine Ev.bind (check11_ev l hs hc) ?_
    cases l.chk
    · exact Ev.im (by simp) (Ev.now _)
    · exact Ev.ip (by simp) (Ev.bind (count_f _ l (Nat.lt_succ_self _) hc) (Ev.now _))
  obtain ⟨k, hk⟩ := h.rounds
  have q := bellmanref12_Count.calls k A c l.of _ _ w (by rw [of_len]; exact hR.1) (by rw [of_len]; exact hR.2) hk
  rw [of_len] at q
  exact q
theorem rplain_any (l : Nodes) (A : Option Addr) (c : Nat) (w : World) (hs : l.sm) (hR : Rd w A c l) (hc : l.cnt ≤ 1048576) :
    Calls Tryz.prog 19 #[.slice A l.len c] w fun e w' => e = .returned (.tuple #[.int .i64 (if l.chk = true then (l.plainP : Int) else 0), .int .i64 (if l.chk = true then 0 else 2)]) ∧ Below w.heap.size w w' := by
  have h : Ev (fun k => bellmanref12_Plain.f k l.of) ((if l.chk = true then (l.plainP : Int) else 0), (if l.chk = true then 0 else 2)) := by
    unfold bellmanref12_Plain.f
    refine Ev.bind (check11_ev l hs hc) ?_
    cases l.chk
    · exact Ev.im (by simp) (Ev.now _)
    · exact Ev.ip (by simp) (Ev.bind (plainf _ l (Nat.lt_succ_self _) hc hs) (Ev.now _))
  obtain ⟨k, hk⟩ := h.rounds
  have q := bellmanref12_Plain.calls k A c l.of _ _ w (by rw [of_len]; exact hR.1) (by rw [of_len]; exact hR.2) hk
  rw [of_len] at q
  exact q
theorem rthis_any (l : Nodes) (A : Option Addr) (c : Nat) (w : World) (hs : l.sm) (hR : Rd w A c l) (hc : l.cnt ≤ 1048576) :
    Calls Tryz.prog 25 #[.slice A l.len c] w fun e w' => e = .returned (.int .i64 (thisP l)) ∧ Below w.heap.size w w' := by
  have h : Ev (fun k => bellmanref12_This.f k l.of) (thisP l) := by
    unfold bellmanref12_This.f thisP
    refine Ev.bind (check11_ev l hs hc) ?_
    cases l.chk
    · exact Ev.im (by simp) (Ev.now _)
    · refine Ev.ip (by simp) (Ev.bind (lost_f _ l (Nat.lt_succ_self _) hc) ?_)
      cases lostP l
      · exact Ev.im (by simp) (Ev.now _)
      · exact Ev.ip rfl (Ev.now _)
  obtain ⟨k, hk⟩ := h.rounds
  have q := bellmanref12_This.calls k A c l.of _ w (by rw [of_len]; exact hR.1) (by rw [of_len]; exact hR.2) hk
  rw [of_len] at q
  exact q
end Go.Proofs.YtniibpndgcndbaaGreatDoor.Tpl
namespace Go.Proofs.YtniibpndgcndbaaGreatDoor.Tpl
open Go.RowKit
def splitC (c : UInt8) : S → List S
  | [] => [[]]
  | x :: r => if x = c then [] :: splitC c r else match splitC c r with | [] => [[x]] | h :: t => (x :: h) :: t
theorem splitC_ne (c : UInt8) (s : S) : splitC c s ≠ [] := by
  cases s with
  | nil => simp [splitC]
  | cons x r => unfold splitC; split; · simp
                split <;> simp
theorem splitC_miss (c : UInt8) (s : S) (h : Lib.index s [c] = -1) : splitC c s = [s] := by
  induction s with
  | nil => rfl
  | cons x r ih =>
    rw [Lib.index] at h
    by_cases hx : x = c
    · subst hx; simp at h
    · have h1 : [c].isPrefixOf (x :: r) = false := by simp [List.isPrefixOf]; exact fun e => hx e.symm
      rw [h1] at h
      have hg := Lib.index_ge r [c]
      have h2 : Lib.index r [c] = -1 := by
        by_cases h2 : Lib.index r [c] = -1
        · exact h2
        · simp [h2] at h; omega
      rw [splitC, if_neg hx, ih h2]
theorem splitC_hit (c : UInt8) (s : S) (i : Nat) (h : Lib.index s [c] = i) : splitC c s = s.take i :: splitC c (s.drop (i + 1)) ∧ i < s.length := by
  induction s generalizing i with
  | nil => simp [Lib.index] at h
  | cons x r ih =>
    rw [Lib.index] at h
    by_cases hx : x = c
    · subst hx
      simp at h
      obtain rfl : i = 0 := by omega
      exact ⟨by simp [splitC], by simp⟩
    · have h1 : [c].isPrefixOf (x :: r) = false := by simp [List.isPrefixOf]; exact fun e => hx e.symm
      rw [h1] at h
      have hg := Lib.index_ge r [c]
      by_cases h2 : Lib.index r [c] = -1
      · simp [h2] at h
      · simp [h2] at h
        obtain ⟨j, hj⟩ : ∃ j : Nat, Lib.index r [c] = j := ⟨(Lib.index r [c]).toNat, by omega⟩
        obtain rfl : i = j + 1 := by omega
        obtain ⟨e, hl⟩ := ih j hj
        refine ⟨?_, by simp; omega⟩
        rw [splitC, if_neg hx, e]; simp
theorem splitK_C (c : UInt8) : ∀ fuel (s : S), s.length < fuel → Lib.splitK [c] 0 (Lib.countFrom [c] fuel s) s = splitC c s := by
  intro fuel
  induction fuel with
  | zero => intro s h; omega
  | succ n ih =>
    intro s h
    unfold Lib.countFrom
    by_cases h1 : Lib.index s [c] = -1
    · rw [if_pos (by simp [h1]), splitC_miss c s h1]; rfl
    · have hg := Lib.index_ge s [c]
      obtain ⟨j, hj⟩ : ∃ j : Nat, Lib.index s [c] = j := ⟨(Lib.index s [c]).toNat, by omega⟩
      obtain ⟨e, hl⟩ := splitC_hit c s j hj
      rw [if_neg (by simp [h1]), Nat.add_comm, Lib.splitK, if_neg (by simp [h1]), hj, e]
      simp only [Int.toNat_natCast, Nat.add_zero, List.length_singleton]
      rw [ih (s.drop (j + 1)) (by rw [List.length_drop]; omega)]
theorem split_C (c : UInt8) (s : S) : Lib.splitK [c] 0 (Lib.count s [c]) s = splitC c s := splitK_C c _ s (Nat.lt_succ_self _)
theorem splitC_size (c : UInt8) (s : S) : (splitC c s).length ≤ s.length + 1 ∧ ∀ x, x ∈ splitC c s → x.length ≤ s.length := by
  induction s with
  | nil => simp [splitC]
  | cons x r ih =>
    unfold splitC
    split
    · refine ⟨by simp; exact ih.1, fun y hy => ?_⟩
      rcases List.mem_cons.1 hy with rfl | hy
      · simp
      · have := ih.2 y hy; simp; omega
    · cases hs : splitC c r with
      | nil => exact absurd hs (splitC_ne c r)
      | cons h t =>
        rw [hs] at ih
        refine ⟨by have := ih.1; simp at this ⊢; omega, fun y hy => ?_⟩
        rcases List.mem_cons.1 hy with rfl | hy
        · have := ih.2 h (by simp); simp; omega
        · have := ih.2 y (by simp [hy]); simp; omega
def wordsP (s : S) : List S := (splitC 32 s).filter (fun x => !x.isEmpty)
theorem wordsP_size (s : S) : (wordsP s).length ≤ s.length + 1 ∧ ∀ x, x ∈ wordsP s → x.length ≤ s.length :=
  ⟨Nat.le_trans (List.length_filter_le _ _) (splitC_size 32 s).1, fun x hx => (splitC_size 32 s).2 x (List.mem_filter.1 hx).1⟩
def pathOf (s : S) : Option (List S) := if pathP (splitC 46 s) = true then some (splitC 46 s) else none
def tagP (s : S) : Option Tok :=
  if (wordsP s).length = 0 ∨ 2 < (wordsP s).length then none
  else if ownP ((wordsP s).getD 0 []) = 4 ∨ ownP ((wordsP s).getD 0 []) = 6 then (if (wordsP s).length = 1 then some ⟨ownP ((wordsP s).getD 0 []), [], []⟩ else none)
  else if (ownP ((wordsP s).getD 0 []) ≠ 2 ∧ (wordsP s).length ≠ 2) ∨ (ownP ((wordsP s).getD 0 []) = 2 ∧ (wordsP s).length ≠ 1) then none
  else match pathOf ((wordsP s).getD ((wordsP s).length - 1) []) with | none => none | some p => some ⟨ownP ((wordsP s).getD 0 []), [], p⟩
def tagY (n : Nat) (x0 x1 : S) : Option Tok :=
  if ownP x0 = 4 ∨ ownP x0 = 6 then (if n = 1 then some ⟨ownP x0, [], []⟩ else none)
  else if (ownP x0 ≠ 2 ∧ n ≠ 2) ∨ (ownP x0 = 2 ∧ n ≠ 1) then none
  else match pathOf x1 with | none => none | some q => some ⟨ownP x0, [], q⟩
def tagX (n : Nat) (x0 x1 : S) : Option Tok := if n = 0 ∨ 2 < n then none else tagY n x0 x1
def tagW (p : List S) : Option Tok := tagX p.length (p.getD 0 []) (p.getD (p.length - 1) [])
theorem tagP_eq (s : S) : tagP s = tagW (wordsP s) := rfl
def txtTok (s : S) : List Tok := if s = [] then [] else [⟨1, s, []⟩]
def toksS : Nat → S → Option (List Tok)
  | 0, _ => none
  | n + 1, s =>
    if s = [] then some [] else
    if (Lib.cut s [123, 123]).2.2 = false then some (txtTok (Lib.cut s [123, 123]).1) else
    if (Lib.cut (Lib.cut s [123, 123]).2.1 [125, 125]).2.2 = false then none else
    match tagP (Lib.cut (Lib.cut s [123, 123]).2.1 [125, 125]).1 with
    | none => none
    | some t => match toksS n (Lib.cut (Lib.cut s [123, 123]).2.1 [125, 125]).2.1 with
      | none => none
      | some r => some (txtTok (Lib.cut s [123, 123]).1 ++ t :: r)
theorem cut_sizes (s : S) (c : UInt8) : (Lib.cut s [c, c]).1.length ≤ s.length ∧ (Lib.cut s [c, c]).2.1.length ≤ s.length ∧ ((Lib.cut s [c, c]).2.2 = true → (Lib.cut s [c, c]).2.1.length + 2 ≤ s.length) := by
  unfold Lib.cut
  split
  · rename_i h
    have := Lib.index_room s [c, c] h
    simp only [List.length_take, List.length_drop, List.length_cons, List.length_nil] at *
    refine ⟨by omega, by omega, fun _ => by omega⟩
  · simp
theorem ownP_lt (s : S) : ownP s < 256 := by
  unfold ownP
  repeat' split
  all_goals omega
theorem pathOf_some {s : S} {p : List S} (h : pathOf s = some p) : p = splitC 46 s ∧ pathP p = true := by
  unfold pathOf at h
  split at h
  · rename_i h2; cases h; exact ⟨rfl, h2⟩
  · cases h
theorem tagP_sm {s : S} {t : Tok} (h : tagP s = some t) (hs : s.length ≤ 1048575) : t.sm := by
  have hw := wordsP_size s
  unfold tagP at h
  split at h
  · cases h
  split at h
  · split at h
    · cases h; exact ⟨ownP_lt _, by simp, by simp, fun x hx => by simp at hx⟩
    · cases h
  split at h
  · cases h
  rename_i h1 h2 h3
  cases hp : pathOf ((wordsP s).getD ((wordsP s).length - 1) []) with
  | none => rw [hp] at h; cases h
  | some p =>
    rw [hp] at h
    cases h
    obtain ⟨rfl, _⟩ := pathOf_some hp
    have hx : ((wordsP s).getD ((wordsP s).length - 1) []).length ≤ s.length := by
      by_cases hl : (wordsP s).length - 1 < (wordsP s).length
      · refine hw.2 _ ?_
        have e : (wordsP s).getD ((wordsP s).length - 1) [] = (wordsP s)[(wordsP s).length - 1] := by simp [List.getD, hl]
        rw [e]; exact List.getElem_mem hl
      · have e : (wordsP s).getD ((wordsP s).length - 1) [] = [] := by simp [List.getD]; omega
        rw [e]; simp
    have hz := splitC_size 46 ((wordsP s).getD ((wordsP s).length - 1) [])
    exact ⟨ownP_lt _, by simp, by simp only; omega, fun x hx => by have := hz.2 x hx; omega⟩
theorem toksS_sm : ∀ (n : Nat) (s : S) (l : List Tok), toksS n s = some l → s.length ≤ 1048575 → (∀ x, x ∈ l → x.sm) ∧ l.length ≤ 2 * s.length := by
  intro n
  induction n with
  | zero => intro s l h; cases h
  | succ n ih =>
    intro s l h hs
    have c1 := cut_sizes s 123
    have c2 := cut_sizes (Lib.cut s [123, 123]).2.1 125
    unfold toksS at h
    split at h
    · cases h; exact ⟨fun x hx => by simp at hx, by simp⟩
    have ht : ∀ x, x ∈ txtTok (Lib.cut s [123, 123]).1 → x.sm := by
      intro x hx
      unfold txtTok at hx
      split at hx
      · simp at hx
      · simp only [List.mem_singleton] at hx
        subst hx
        exact ⟨show 1 < 256 by decide, by simp only; omega, by simp, fun y hy => by simp at hy⟩
    have hl : (txtTok (Lib.cut s [123, 123]).1).length ≤ 1 := by unfold txtTok; split <;> simp
    have hsl : 0 < s.length := by rename_i hne; cases s with | nil => exact absurd rfl hne | cons => simp
    split at h
    · cases h; exact ⟨ht, by omega⟩
    split at h
    · cases h
    rename_i hne h1 h2
    have hb1 : (Lib.cut s [123, 123]).2.2 = true := by simpa using h1
    have hb2 : (Lib.cut (Lib.cut s [123, 123]).2.1 [125, 125]).2.2 = true := by simpa using h2
    cases htg : tagP (Lib.cut (Lib.cut s [123, 123]).2.1 [125, 125]).1 with
    | none => rw [htg] at h; cases h
    | some t =>
      rw [htg] at h
      simp only at h
      cases hr : toksS n (Lib.cut (Lib.cut s [123, 123]).2.1 [125, 125]).2.1 with
      | none => rw [hr] at h; cases h
      | some r =>
        rw [hr] at h
        cases h
        have c3 := c1.2.2 hb1
        have c4 := c2.2.2 hb2
        obtain ⟨i1, i2⟩ := ih _ _ hr (by omega)
        have i3 := tagP_sm htg (by omega)
        refine ⟨fun x hx => ?_, by simp only [List.length_append, List.length_cons]; omega⟩
        rcases List.mem_append.1 hx with hx | hx
        · exact ht x hx
        · rcases List.mem_cons.1 hx with rfl | hx
          · exact i3
          · exact i1 x hx
theorem toksS_fuel : ∀ (n m : Nat) (s : S), s.length < n → s.length < m → toksS n s = toksS m s := by
  intro n
  induction n with
  | zero => intro m s h; omega
  | succ n ih =>
    intro m s h1 h2
    obtain ⟨m, rfl⟩ : ∃ q, m = q + 1 := ⟨m - 1, by omega⟩
    have c1 := cut_sizes s 123
    have c2 := cut_sizes (Lib.cut s [123, 123]).2.1 125
    unfold toksS
    split
    · rfl
    split
    · rfl
    split
    · rfl
    rename_i h3 h4
    have hb1 : (Lib.cut s [123, 123]).2.2 = true := by simpa using h3
    have hb2 : (Lib.cut (Lib.cut s [123, 123]).2.1 [125, 125]).2.2 = true := by simpa using h4
    rw [ih m _ (by have := c1.2.2 hb1; omega) (by have := c1.2.2 hb1; omega)]
end Go.Proofs.YtniibpndgcndbaaGreatDoor.Tpl
namespace Go.Proofs.YtniibpndgcndbaaGreatDoor.Tpl
open Go.RowKit Nodes
def headK (l : List Tok) : Nat := match l with | [] => 0 | t :: _ => t.k
def withP (f : List Tok → Option (Nodes × List Tok)) (k : Nat) (l : List Tok) : Option (Nodes × Nodes × List Tok) :=
  match f l with
  | none => none
  | some (a, r1) =>
    if k = 3 ∧ headK r1 = 4 then
      match f r1.tail with
      | none => none
      | some (b, r2) => if headK r2 = 6 then some (a, b, r2.tail) else none
    else if headK r1 = 6 then some (a, .nil, r1.tail) else none
def stops (k : Nat) : Bool := k == 4 || k == 6
def parN : Nat → List Tok → Option (Nodes × List Tok)
  | 0, _ => none
  | _ + 1, [] => some (.nil, [])
  | n + 1, t :: r =>
    if stops t.k = true then some (.nil, t :: r)
    else if t.k = 3 ∨ t.k = 5 then
      match withP (parN n) t.k r with
      | none => none
      | some (a, b, r1) => match parN n r1 with | none => none | some (rest, r2) => some (.cons t.k t.t t.p a b rest, r2)
    else match parN n r with | none => none | some (rest, r2) => some (.cons t.k t.t t.p .nil .nil rest, r2)
theorem withP_len {f : List Tok → Option (Nodes × List Tok)} {k : Nat} {l r : List Tok} {a b : Nodes} (hf : ∀ l nd r, f l = some (nd, r) → r.length ≤ l.length) (h : withP f k l = some (a, b, r)) : r.length ≤ l.length := by
  unfold withP at h
  cases h1 : f l with
  | none => rw [h1] at h; cases h
  | some x =>
    obtain ⟨a1, r1⟩ := x
    rw [h1] at h
    have l1 := hf _ _ _ h1
    simp only at h
    split at h
    · cases h2 : f r1.tail with
      | none => rw [h2] at h; cases h
      | some y =>
        obtain ⟨b1, r2⟩ := y
        rw [h2] at h
        have l2 := hf _ _ _ h2
        simp only at h
        split at h
        · cases h; simp only [List.length_tail] at *; omega
        · cases h
    · split at h
      · cases h; simp only [List.length_tail] at *; omega
      · cases h
theorem parN_len : ∀ n l nd r, parN n l = some (nd, r) → r.length ≤ l.length := by
  intro n
  induction n with
  | zero => intro l nd r h; cases h
  | succ n ih =>
    intro l nd r h
    cases l with
    | nil => cases h; simp
    | cons t q =>
      rw [parN] at h
      split at h
      · cases h; simp
      split at h
      · cases h1 : withP (parN n) t.k q with
        | none => rw [h1] at h; cases h
        | some x =>
          obtain ⟨a, b, r1⟩ := x
          rw [h1] at h
          have l1 := withP_len ih h1
          simp only at h
          cases h2 : parN n r1 with
          | none => rw [h2] at h; cases h
          | some y =>
            obtain ⟨c, r2⟩ := y
            rw [h2] at h
            have l2 := ih _ _ _ h2
            cases h; simp only [List.length_cons]; omega
      · cases h2 : parN n q with
        | none => rw [h2] at h; cases h
        | some y =>
          obtain ⟨c, r2⟩ := y
          rw [h2] at h
          have l2 := ih _ _ _ h2
          cases h; simp only [List.length_cons]; omega
theorem withP_congr {f g : List Tok → Option (Nodes × List Tok)} {k : Nat} {l : List Tok} (hf : ∀ l nd r, f l = some (nd, r) → r.length ≤ l.length) (h : ∀ q, q.length ≤ l.length → f q = g q) : withP f k l = withP g k l := by
  unfold withP
  rw [← h l (Nat.le_refl _)]
  cases h1 : f l with
  | none => rfl
  | some x =>
    obtain ⟨a1, r1⟩ := x
    have l1 := hf _ _ _ h1
    simp only
    rw [← h r1.tail (by simp only [List.length_tail]; omega)]
theorem parN_fuel : ∀ n m l, l.length < n → l.length < m → parN n l = parN m l := by
  intro n
  induction n with
  | zero => intro m l h; omega
  | succ n ih =>
    intro m l h1 h2
    obtain ⟨m, rfl⟩ : ∃ q, m = q + 1 := ⟨m - 1, by omega⟩
    cases l with
    | nil => rfl
    | cons t q =>
      simp only [List.length_cons] at h1 h2
      rw [parN, parN]
      have hw : withP (parN n) t.k q = withP (parN m) t.k q := withP_congr (parN_len n) (fun z hz => ih m z (by omega) (by omega))
      rw [hw, ih m q (by omega) (by omega)]
      split
      · rfl
      split
      · cases h3 : withP (parN m) t.k q with
        | none => rfl
        | some x =>
          obtain ⟨a, b, r1⟩ := x
          have l1 := withP_len (parN_len m) h3
          simp only
          rw [ih m r1 (by omega) (by omega)]
      · rfl
def parse (l : List Tok) : Option (Nodes × List Tok) := parN (l.length + 1) l
def within (k : Nat) (l : List Tok) : Option (Nodes × Nodes × List Tok) := withP parse k l
theorem parse_len {l r : List Tok} {nd : Nodes} (h : parse l = some (nd, r)) : r.length ≤ l.length := parN_len _ _ _ _ h
theorem within_len {k : Nat} {l r : List Tok} {a b : Nodes} (h : within k l = some (a, b, r)) : r.length ≤ l.length := withP_len (fun _ _ _ => parse_len) h
theorem parse_nil : parse [] = some (.nil, []) := rfl
theorem parse_cons (t : Tok) (r : List Tok) : parse (t :: r) = if stops t.k = true then some (.nil, t :: r)
    else if t.k = 3 ∨ t.k = 5 then
      match within t.k r with
      | none => none
      | some (a, b, r1) => match parse r1 with | none => none | some (rest, r2) => some (.cons t.k t.t t.p a b rest, r2)
    else match parse r with | none => none | some (rest, r2) => some (.cons t.k t.t t.p .nil .nil rest, r2) := by
  have hw : withP (parN (r.length + 1)) t.k r = within t.k r := withP_congr (parN_len _) (fun z hz => parN_fuel _ _ z (by omega) (by omega))
  unfold parse
  rw [List.length_cons, parN, hw]
  split
  · rfl
  split
  · cases h3 : within t.k r with
    | none => rfl
    | some x =>
      obtain ⟨a, b, r1⟩ := x
      have l1 := within_len h3
      simp only
      rw [parN_fuel (r.length + 1) (r1.length + 1) r1 (by omega) (by omega)]
  · rfl
theorem withP_cnt {f : List Tok → Option (Nodes × List Tok)} {k : Nat} {l r : List Tok} {a b : Nodes} (hf : ∀ l nd r, f l = some (nd, r) → nd.cnt + r.length ≤ l.length) (h : withP f k l = some (a, b, r)) : a.cnt + b.cnt + r.length ≤ l.length := by
  unfold withP at h
  cases h1 : f l with
  | none => rw [h1] at h; cases h
  | some x =>
    obtain ⟨a1, r1⟩ := x
    rw [h1] at h
    have l1 := hf _ _ _ h1
    simp only at h
    split at h
    · cases h2 : f r1.tail with
      | none => rw [h2] at h; cases h
      | some y =>
        obtain ⟨b1, r2⟩ := y
        rw [h2] at h
        have l2 := hf _ _ _ h2
        simp only at h
        split at h
        · cases h; simp only [List.length_tail] at *; omega
        · cases h
    · split at h
      · cases h; simp only [List.length_tail, Nodes.cnt] at *; omega
      · cases h
theorem parN_cnt : ∀ n l nd r, parN n l = some (nd, r) → nd.cnt + r.length ≤ l.length := by
  intro n
  induction n with
  | zero => intro l nd r h; cases h
  | succ n ih =>
    intro l nd r h
    cases l with
    | nil => cases h; simp [Nodes.cnt]
    | cons t q =>
      rw [parN] at h
      split at h
      · cases h; simp [Nodes.cnt]
      split at h
      · cases h1 : withP (parN n) t.k q with
        | none => rw [h1] at h; cases h
        | some x =>
          obtain ⟨a, b, r1⟩ := x
          rw [h1] at h
          have l1 := withP_cnt ih h1
          simp only at h
          cases h2 : parN n r1 with
          | none => rw [h2] at h; cases h
          | some y =>
            obtain ⟨c, r2⟩ := y
            rw [h2] at h
            have l2 := ih _ _ _ h2
            cases h; simp only [List.length_cons, Nodes.cnt]; omega
      · cases h2 : parN n q with
        | none => rw [h2] at h; cases h
        | some y =>
          obtain ⟨c, r2⟩ := y
          rw [h2] at h
          have l2 := ih _ _ _ h2
          cases h; simp only [List.length_cons, Nodes.cnt]; omega
theorem parse_cnt {l r : List Tok} {nd : Nodes} (h : parse l = some (nd, r)) : nd.cnt + r.length ≤ l.length := parN_cnt _ _ _ _ h
theorem within_cnt {k : Nat} {l r : List Tok} {a b : Nodes} (h : within k l = some (a, b, r)) : a.cnt + b.cnt + r.length ≤ l.length := withP_cnt (fun _ _ _ => parse_cnt) h
theorem withP_sub {f : List Tok → Option (Nodes × List Tok)} {k : Nat} {l r : List Tok} {a b : Nodes} (hf : ∀ l nd r, f l = some (nd, r) → ∀ x, x ∈ r → x ∈ l) (h : withP f k l = some (a, b, r)) : ∀ x, x ∈ r → x ∈ l := by
  unfold withP at h
  cases h1 : f l with
  | none => rw [h1] at h; cases h
  | some x =>
    obtain ⟨a1, r1⟩ := x
    rw [h1] at h
    have l1 := hf _ _ _ h1
    simp only at h
    split at h
    · cases h2 : f r1.tail with
      | none => rw [h2] at h; cases h
      | some y =>
        obtain ⟨b1, r2⟩ := y
        rw [h2] at h
        have l2 := hf _ _ _ h2
        simp only at h
        split at h
        · cases h; exact fun x hx => l1 x (List.mem_of_mem_tail (l2 x (List.mem_of_mem_tail hx)))
        · cases h
    · split at h
      · cases h; exact fun x hx => l1 x (List.mem_of_mem_tail hx)
      · cases h
theorem parN_sub : ∀ n l nd r, parN n l = some (nd, r) → ∀ x, x ∈ r → x ∈ l := by
  intro n
  induction n with
  | zero => intro l nd r h; cases h
  | succ n ih =>
    intro l nd r h
    cases l with
    | nil => cases h; exact fun x hx => hx
    | cons t q =>
      rw [parN] at h
      split at h
      · cases h; exact fun x hx => hx
      split at h
      · cases h1 : withP (parN n) t.k q with
        | none => rw [h1] at h; cases h
        | some x =>
          obtain ⟨a, b, r1⟩ := x
          rw [h1] at h
          have l1 := withP_sub ih h1
          simp only at h
          cases h2 : parN n r1 with
          | none => rw [h2] at h; cases h
          | some y =>
            obtain ⟨c, r2⟩ := y
            rw [h2] at h
            have l2 := ih _ _ _ h2
            cases h; exact fun x hx => List.mem_cons_of_mem _ (l1 x (l2 x hx))
      · cases h2 : parN n q with
        | none => rw [h2] at h; cases h
        | some y =>
          obtain ⟨c, r2⟩ := y
          rw [h2] at h
          have l2 := ih _ _ _ h2
          cases h; exact fun x hx => List.mem_cons_of_mem _ (l2 x hx)
theorem parse_sub {l r : List Tok} {nd : Nodes} (h : parse l = some (nd, r)) : ∀ x, x ∈ r → x ∈ l := parN_sub _ _ _ _ h
theorem within_sub {k : Nat} {l r : List Tok} {a b : Nodes} (h : within k l = some (a, b, r)) : ∀ x, x ∈ r → x ∈ l := withP_sub (fun _ _ _ => parse_sub) h
theorem withP_sm' {f : List Tok → Option (Nodes × List Tok)} {k : Nat} {l r : List Tok} {a b : Nodes} (hfl : ∀ l nd r, f l = some (nd, r) → r.length ≤ l.length) (hf : ∀ q nd z, f q = some (nd, z) → (∀ x, x ∈ q → x.sm) → q.length ≤ 1048576 → nd.sm ∧ (∀ x, x ∈ z → x.sm)) (hl : ∀ x, x ∈ l → x.sm) (hn : l.length ≤ 1048576) (h : withP f k l = some (a, b, r)) : a.sm ∧ b.sm ∧ ∀ x, x ∈ r → x.sm := by
  have ht : ∀ q : List Tok, (∀ x, x ∈ q → x.sm) → ∀ x, x ∈ q.tail → x.sm := fun q hq x hx => hq x (List.mem_of_mem_tail hx)
  unfold withP at h
  cases h1 : f l with
  | none => rw [h1] at h; cases h
  | some x =>
    obtain ⟨a1, r1⟩ := x
    rw [h1] at h
    obtain ⟨s1, t1⟩ := hf _ _ _ h1 hl hn
    have l1 := hfl _ _ _ h1
    simp only at h
    split at h
    · cases h2 : f r1.tail with
      | none => rw [h2] at h; cases h
      | some y =>
        obtain ⟨b1, r2⟩ := y
        rw [h2] at h
        obtain ⟨s2, t2⟩ := hf _ _ _ h2 (ht _ t1) (by simp only [List.length_tail]; omega)
        simp only at h
        split at h
        · cases h; exact ⟨s1, s2, ht _ t2⟩
        · cases h
    · split at h
      · cases h; exact ⟨s1, trivial, ht _ t1⟩
      · cases h
theorem parN_sm : ∀ n l nd r, parN n l = some (nd, r) → (∀ x, x ∈ l → x.sm) → l.length ≤ 1048576 → nd.sm ∧ (∀ x, x ∈ r → x.sm) := by
  intro n
  induction n with
  | zero => intro l nd r h; cases h
  | succ n ih =>
    intro l nd r h hl hn
    cases l with
    | nil => cases h; exact ⟨trivial, fun x hx => by simp at hx⟩
    | cons t q =>
      simp only [List.length_cons] at hn
      have hq : ∀ x, x ∈ q → x.sm := fun x hx => hl x (by simp [hx])
      obtain ⟨t1, t2, t3, t4⟩ := hl t (by simp)
      rw [parN] at h
      split at h
      · cases h; exact ⟨trivial, hl⟩
      split at h
      · cases h1 : withP (parN n) t.k q with
        | none => rw [h1] at h; cases h
        | some x =>
          obtain ⟨a, b, r1⟩ := x
          rw [h1] at h
          have hcn := withP_cnt (parN_cnt n) h1
          have hw := withP_sm' (parN_len n) (fun z nd y hz hs hm => ih z nd y hz hs hm) hq (by omega) h1
          simp only at h
          cases h2 : parN n r1 with
          | none => rw [h2] at h; cases h
          | some y =>
            obtain ⟨c, r2⟩ := y
            rw [h2] at h
            obtain ⟨s2, z2⟩ := ih _ _ _ h2 hw.2.2 (by omega)
            have la := len_cnt a
            have lb := len_cnt b
            cases h; exact ⟨⟨t1, t2, t3, t4, by omega, by omega, hw.1, hw.2.1, s2⟩, z2⟩
      · cases h2 : parN n q with
        | none => rw [h2] at h; cases h
        | some y =>
          obtain ⟨c, r2⟩ := y
          rw [h2] at h
          obtain ⟨s2, z2⟩ := ih _ _ _ h2 hq (by omega)
          cases h; exact ⟨⟨t1, t2, t3, t4, by simp [Nodes.len], by simp [Nodes.len], trivial, trivial, s2⟩, z2⟩
theorem parse_sm {l r : List Tok} {nd : Nodes} (h : parse l = some (nd, r)) (hl : ∀ x, x ∈ l → x.sm) (hn : l.length ≤ 1048576) : nd.sm ∧ (∀ x, x ∈ r → x.sm) := parN_sm _ _ _ _ h hl hn
def nodesP (l : List Tok) : Except Int Nodes :=
  if toksP l = false then .error 2 else
  match parse l with
  | none => .error 7
  | some (nd, r) => if r ≠ [] then .error 7 else if nd.fitsP = true then .ok nd else .error 11
def parseS (s : S) : Except Int Nodes :=
  if 1024 < s.length then .error 12 else
  match toksS (s.length + 1) s with
  | none => .error 7
  | some l => nodesP l
end Go.Proofs.YtniibpndgcndbaaGreatDoor.Tpl
namespace Go.Proofs.YtniibpndgcndbaaGreatDoor.Tpl
open Go.RowKit Go.Proofs Go.Shelf Go.Proofs.YtniibpndgcndbaaGreatDoor.PB Go.Proofs.YtniibpndgcndbaaGreatDoor.Short Go.Proofs.YtniibpndgcndbaaGreatDoorW.PrintWords Go.Proofs.YtniibpndgcndbaaGreatDoorW.PrintLast Go.Proofs.YtniibpndgcndbaaGreatDoorW.PrintMore Nodes
attribute [local go_sem] Oper.semAt_some Lk.enc
def firsts (l : List Look) : List S := l.filterMap fun x => rootOf x.p
theorem firsts_snoc {w0 : World} (pre : List (GLk w0)) (x : GLk w0) : firsts (ers (pre ++ [x])) = firsts (ers pre) ++ (match rootOf x.1.p with | none => [] | some s => [s]) := by
  rw [ers_app]
  unfold firsts
  rw [List.filterMap_append]
  congr 1
  show List.filterMap (fun x : Look => rootOf x.p) [x.1.er] = _
  rw [List.filterMap_cons, List.filterMap_nil]
  rw [show x.1.er.p = x.1.p from rfl]
  cases rootOf x.1.p <;> rfl
theorem append_stepIn {F : Fence} {n : Nat} {P : Program} {o : Oper} {a : Act} {W w' : World} {K : Act → World → Prop} {Q : Exit → Act → World → Prop} {s x : Operand} {t : TypeId} {v ax v' : Value}
    (hop : o.op = Op.call { callee := Callee.builtin Builtin.append, args := #[s, x], argTypes := #[t, t] }) (hs : a.eval s = v) (hx : a.eval x = ax) (hrun : (Builtin.append_ #[t, t] o.type #[v, ax]).run P W = .ok v' w') (hK : K (a.put o.dst v') w') : Oper.wpIn F n P o a W K Q := by
  unfold Oper.wpIn
  refine ⟨?_, ?_⟩
  · simp [Oper.about, hop, resolve, Target.leads, Sem.run_pure]
  · rw [Oper.semAt_plain F _ _ (by rw [hop]; intro c hc'; cases hc')]
    simp [execOp, hop, resolve, invoke, builtin, hs, hx, hrun, Result.andThen]
    exact hK
theorem any_one {F : Fence} {n : Nat} {P : Program} {md : Region.Mode} {ops : Array Oper} {Q : Exit → Act → World → Prop} {fuel : Nat} {listed : Array Bool} {a : Act} {w : World} (i : Nat) (o : Oper) (hr : Region.ready md ops listed = [i]) (hi : ops[i]? = some o) (hw : Region.wanted o (yielded ops a.tmps) = true)
    (h : o.wpIn F n P a w (wpAnyIn F n P md ops Q fuel (listed.setIfInBounds i true)) Q) : wpAnyIn F n P md ops Q (fuel + 1) listed a w := by
  refine ⟨fun e => (by rw [hr] at e; cases e), fun j hj => ?_⟩
  rw [hr] at hj
  obtain rfl := List.mem_singleton.1 hj
  unfold wpOpIn
  rw [hi]
  simp only [hw, if_true]
  exact h
theorem any_two {F : Fence} {n : Nat} {P : Program} {md : Region.Mode} {ops : Array Oper} {Q : Exit → Act → World → Prop} {fuel : Nat} {listed : Array Bool} {a : Act} {w : World} (i j : Nat) (o o' : Oper) (hr : Region.ready md ops listed = [i, j]) (hi : ops[i]? = some o) (hj : ops[j]? = some o') (hw : Region.wanted o (yielded ops a.tmps) = true) (hw' : Region.wanted o' (yielded ops a.tmps) = true)
    (h : o.wpIn F n P a w (wpAnyIn F n P md ops Q fuel (listed.setIfInBounds i true)) Q) (h' : o'.wpIn F n P a w (wpAnyIn F n P md ops Q fuel (listed.setIfInBounds j true)) Q) : wpAnyIn F n P md ops Q (fuel + 1) listed a w := by
  refine ⟨fun e => (by rw [hr] at e; cases e), fun k hk => ?_⟩
  rw [hr] at hk
  unfold wpOpIn
  rcases List.mem_cons.1 hk with rfl | hk
  · rw [hi]; simp only [hw, if_true]; exact h
  · obtain rfl := List.mem_singleton.1 hk
    rw [hj]; simp only [hw', if_true]; exact h'
theorem holdsRow_own1 {w0 : World} {n₀ : Nat} (nb : Nat) : Own (fun (pre : List (GLk w0)) W => ∃ v, Boxed W nb 23 v ∧ W.ownsRow n₀ 9 1 v (firsts (ers pre)).length ((firsts (ers pre)).map (fun s => Value.string (bs s)))) := by
  intro pre X Y row ⟨v, h1, h2⟩ hg hr
  refine ⟨v, h1.kept hg (fun e => ?_), own_move h2 (fun k hk => hg.block k (own_lt h2 k hk) (fun e => ?_))⟩
  · obtain ⟨o, ho, hc⟩ := hr nb e.symm
    rw [show X.heap[nb]? = _ from h1] at ho; cases ho; cases hc
  · obtain ⟨o, ho, hc⟩ := hr k e.symm
    obtain ⟨cells, hcl⟩ := own_typed h2 k hk
    rw [hcl] at ho; cases ho; cases hc
theorem roots_fin {w W w2 : World} {nb B : Nat} {o : Obj} {v v' : Value} {n m : Nat} {xs ys : List Value} (_b1 : Boxed W nb 23 v) (b2 : W.ownsRow w.heap.size 9 1 v n xs) (b3 : Below w.heap.size w W) (hnb : w.heap.size ≤ nb)
    (hgr : (W.alloc o).drew.grownBy w2 v.ownBlock) (hown : w2.ownsRow w.heap.size 9 1 v' m ys) (c1 : Boxed w2 nb 23 v) :
    KeepsFrom B W (w2.setCell ⟨nb, 0, none⟩ v') ∧ KpN w.heap.size W (w2.setCell ⟨nb, 0, none⟩ v') ∧ (∃ u, Boxed (w2.setCell ⟨nb, 0, none⟩ v') nb 23 u ∧ (w2.setCell ⟨nb, 0, none⟩ v').ownsRow w.heap.size 9 1 u m ys) ∧ Below w.heap.size w (w2.setCell ⟨nb, 0, none⟩ v') := by
  have hg : W.grownBy w2 v.ownBlock := ⟨hgr.os, hgr.tape, hgr.output, Nat.le_trans (by show W.heap.size ≤ (W.alloc o).heap.size; rw [World.size_alloc]; omega) hgr.size, fun k hk hne => (hgr.block k (by show k < (W.alloc o).heap.size; rw [World.size_alloc]; omega) hne).trans (Below.heap_alloc W o k hk)⟩
  have hko : KeepsOthers W w2 := KeepsOthers.of_grownBy hg (fun j o' e ho => by
    obtain ⟨cells, hcl⟩ := own_typed b2 j e
    rw [hcl] at ho; cases ho; rfl)
  have hbl : Below w.heap.size W w2 := ⟨hg.os, hg.tape, hg.output, hg.size, fun k hk => hg.block k (Nat.lt_of_lt_of_le hk b3.size) (fun e => by have := own_base b2 k e.symm; omega)⟩
  have hkp : KpN w.heap.size W w2 := ⟨hbl, fun i cs hi => (hg.block i (blk_lt hi) (fun e => by
    obtain ⟨cells, hcl⟩ := own_typed b2 i e.symm
    rw [hi] at hcl; injection hcl with hcl; injection hcl with _ hcl; exact absurd hcl (by decide))).trans hi⟩
  exact ⟨(hko.trans (KeepsOthers.setCell _ _ _)).from _, hkp.set c1 (by decide) hnb _, ⟨_, c1.set _, own_setCell hown (c1.not_row (by decide) hown) _⟩, (b3.trans hbl).setCell (p := ⟨nb, 0, none⟩) hnb _⟩
theorem grow_nil (w : World) : Sort.grow w #[] = w := by cases w; simp [Sort.grow]
theorem sort_own {w : World} {base n : Nat} {v : Value} {ss : List S} (h : w.ownsRow base 9 1 v n (ss.map fun s => Value.string (bs s))) (hn : n = ss.length) (hsm : ss.length ≤ 1048576) :
    Calls Tryz.prog 40 #[v] w fun e w' => e = .returned (.tuple #[]) ∧ w.grownBy w' v.ownBlock ∧ w'.ownsRow base 9 1 v n ((ss.mergeSort fun x y => decide (x ≤ y)).map fun s => Value.string (bs s)) := by
  subst hn
  rcases h.2 with ⟨rfl, h0⟩ | ⟨g, cap, cur, rfl, hbase, hb, h1, h2, h3, h4⟩
  · have : ss = [] := List.length_eq_zero_iff.1 h0
    subst this
    refine (Tryz.slices_Sort_string_none none 0 w).mono ?_
    rintro e w' ⟨rfl, rfl⟩
    exact ⟨rfl, World.grownBy.refl _ _, by simpa using h⟩
  · rw [Nat.mul_one] at h4
    refine (Tryz.slices_Sort_string g 0 cap ss w (holds_of_block hb h4) (Array.getElem?_eq_some_iff.1 hb).1 (by omega)).mono ?_
    rintro e w' ⟨rfl, n, os, rfl⟩
    exact ⟨rfl, grownBy_sorted _, ownsRow_sorted (ts := ss.mergeSort fun x y => decide (x ≤ y)) (by simp) hbase hb h1 h2 h3⟩
theorem comp_own {w : World} {base n : Nat} {v : Value} {ss : List S} (h : w.ownsRow base 9 1 v n (ss.map fun s => Value.string (bs s))) (hn : n = ss.length) (hsm : ss.length ≤ 1048576) :
    Calls Tryz.prog 41 #[v] w fun e w' => ∃ A c, e = .returned (.slice A (Lib.compact ss).length c) ∧ (Lib.compact ss).length ≤ c ∧ w.grownBy w' v.ownBlock ∧ Kd.string.C w' A (Lib.compact ss).length ((Lib.compact ss).map bs) := by
  subst hn
  rcases h.2 with ⟨rfl, h0⟩ | ⟨g, cap, cur, rfl, hbase, hb, h1, h2, h3, h4⟩
  · have : ss = [] := List.length_eq_zero_iff.1 h0
    subst this
    refine (Tryz.slices_Compact_string_empty none 0 w).mono ?_
    rintro e w' ⟨rfl, rfl⟩
    exact ⟨none, 0, rfl, Nat.le_refl _, World.grownBy.refl _ _, ⟨rfl, by decide, fun h => absurd h (by decide)⟩⟩
  · rw [Nat.mul_one] at h4
    have hH := holds_of_block hb h4
    have hle := Lib.compact_length_le ss
    refine (Tryz.slices_Compact_string g 0 cap ss w hH (by omega) h1).mono ?_
    rintro e w' ⟨rfl, q, rfl⟩
    refine ⟨_, cap, rfl, by omega, by have := grownBy_sorted (w := w) (g := g) (n := q) (os := #[]) (Lib.compact ss ++ List.replicate (ss.length - (Lib.compact ss).length) []).toArray; rwa [grow_nil] at this, ?_⟩
    refine ⟨by simp, by omega, fun hp => ⟨_, rfl, fun j p hj => ⟨[.string p], rfl, rfl, fun i u hu => ?_⟩⟩⟩
    have hjl : j < (Lib.compact ss).length := by have := (List.getElem?_eq_some_iff.1 hj).1; simpa using this
    have hi0 : i = 0 := by have := (List.getElem?_eq_some_iff.1 hu).1; simpa using this
    subst hi0
    have hu' : u = .string p := by simpa using hu.symm
    subst hu'
    have hc := Sort.cell?_putRow encStr (Sort.ahead w q) g 0 ss.toArray (Lib.compact ss ++ List.replicate (ss.length - (Lib.compact ss).length) []).toArray hH (by simp; omega) j (by simp; omega)
    have hp' : p = bs (Lib.compact ss)[j] := by rw [List.getElem?_map, List.getElem?_eq_getElem hjl] at hj; simpa using hj.symm
    have hadd : (⟨g, 0, none⟩ : Addr).add (j * Kd.string.sz + 0) = ⟨g, 0 + j, none⟩ := by rw [add_plain]; simp [Kd.string, Kd.scalar]
    rw [hadd, hc, hp']
    congr 1
    rw [getElem!_pos _ _ (by simp; omega)]
    show Value.string (bs _) = _
    congr 2
    simp [List.getElem_append_left, hjl]
theorem C_kept {w w' : World} {A : Option Addr} {n : Nat} {p : List ByteArray} (h : Kd.string.C w A n p) (hk : ∀ a v, w.cell? a = some v → w'.cell? a = some v) : Kd.string.C w' A n p := by
  refine ⟨h.1, h.2.1, fun hn => ?_⟩
  obtain ⟨ad, e, hc⟩ := h.2.2 hn
  refine ⟨ad, e, fun j x hj => ?_⟩
  obtain ⟨cs, hl, hx, hcell⟩ := hc j x hj
  exact ⟨cs, hl, hx, fun i u hu => hk _ _ (hcell i u hu)⟩
theorem roots_eq (l : Nodes) : Lib.compact ((firsts (flat l 1 false)).mergeSort fun x y => decide (x ≤ y)) = rootsP l := compact_sort _
set_option maxRecDepth 100000 in
set_option maxHeartbeats 4000000 in
theorem roots_any (l : Nodes) (A : Option Addr) (c : Nat) (w : World) (hG : Glob w) (hs : l.sm) (hR : Rd w A c l) (hl : l.len ≤ 1048576) (hc : l.cnt ≤ 1048576) :
    Calls Tryz.prog 12 #[.slice A l.len c] w fun e w' => ∃ A2 c2 n, e = .returned (.tuple #[.slice A2 n c2, .int .i64 (if l.chk = true then 0 else 2)]) ∧ (l.chk = true → n = (rootsP l).length ∧ Kd.string.C w' A2 n ((rootsP l).map bs) ∧ n ≤ c2) ∧ (l.chk = false → n = 0) ∧ Below w.heap.size w w' := by
  have hA := chk_any l A c w hG hs hR hl hc
  cases hch : l.chk with
  | false =>
    rw [hch] at hA
    simp only [Bool.false_eq_true, if_false]
    go_enter Tryz.func12, Tryz.ntmps12
    go_wp2_with fail
    refine hA.mono ?_
    rintro e w1 ⟨rfl, hb⟩
    clear hA hR
    go_wp2
    go_ret2
    exact ⟨none, 0, 0, rfl, fun h => (by cases h), fun _ => rfl, hb⟩
  | true =>
    rw [hch] at hA
    simp only [if_true]
    refine (callsIn_wide (n := 8)).1 ?_
    refine callsIn_of_wp_marks Tryz.func12 rfl trivial ?_ rfl
    simp only [Tryz.ntmps12, List.size_toArray, List.length_cons, List.length_nil, Nat.reduceAdd, Nat.reduceSub, Array.replicate_succ, Array.replicate_zero, List.push_toArray, List.append_toArray, List.nil_append, List.cons_append]
    gi_wp2_with fail
    refine ⟨trivial, ?_⟩
    refine (callsIn_wide.2 hA).mono ?_
    rintro e w1 ⟨rfl, hb⟩
    clear hA
    gi_wp2_with fail
    refine ⟨trivial, ?_⟩
    refine (all_in Fence.wide _ trivial rfl A l.len c _).mono ?_
    rintro e W0 ⟨rfl, hW0⟩
    have hbN := Boxed.new w1 23 (.slice none 0 0)
    rw [World.size_alloc]
    have BT : Boxed W0 (w1.heap.size + 1) 22 (.slice A l.len c) := by rw [hW0]; have := Boxed.new (w1.alloc (.cells #[.slice none 0 0] 23)) 22 (.slice A l.len c); rwa [World.size_alloc] at this
    have BN : Boxed W0 w1.heap.size 23 (.slice none 0 0) := by rw [hW0]; exact hbN.alloc _
    have hB0 : Below w.heap.size w W0 := by rw [hW0]; exact (hb.alloc hb.size _).alloc (by rw [World.size_alloc]; have := hb.size; omega) _
    have hsz : w1.heap.size + 1 < W0.heap.size := BT.lt
    have hsz2 : w.heap.size ≤ w1.heap.size := hb.size
    clear hW0 hb hbN
    gi_wp2_with fail
    generalize w1.heap.size = nb at *
    have hle0 : w.heap.size ≤ W0.heap.size := hB0.size
    refine wpIn_rangeFunc_ownH rfl (by decide) (gf := 69) (lb := #[.pointer (some ⟨nb + 1, 0, none⟩)]) rfl trivial (enters_of Tryz.func69 (by kernel_rfl) rfl)
      (all_stops Fence.wide rfl _ trivial trivial rfl w (nb + 1) A c l hc hl hs hR W0 hB0 BT.cell) KpN.trans (KpN.b (by omega)) (Below.refl _ _) (fun _ => rfl)
      (fun pre W => (∃ v, Boxed W nb 23 v ∧ W.ownsRow w.heap.size 9 1 v (firsts (ers pre)).length ((firsts (ers pre)).map (fun s => Value.string (bs s)))) ∧ Below w.heap.size w W)
      (fun _ _ _ => False)
      (OwnFrom.and (Own.from (holdsRow_own1 nb) _) (ownFrom_below (Nat.le_refl _) (by omega)))
      (fun _ _ _ _ _ hs _ _ => hs)
      ⟨⟨_, BN, by simpa [firsts, ers] using World.ownsRow_nil W0 w.heap.size 9 1⟩, hB0⟩
      (fun x a' W => ∃ Bx, nb < Bx ∧ W.heap[Bx]? = some (.cells #[.int .u8 x.1.k, .string (bs x.1.t), .slice x.1.A2 x.1.p.length x.1.c2, .slice x.1.A3 x.1.n3 x.1.c3, .slice x.1.A4 x.1.n4 x.1.c4, .int .i64 x.1.lv, .bool x.1.wi] 64 (0, 0)) ∧
        a' = { tmps := #[.slice A l.len c, undef, .slice none 0 0, .int .i64 0, .int .i64 0, .pointer (some ⟨nb, 0, none⟩), .pointer (some ⟨Bx, 0, none⟩), .slice A l.len c, .int .i64 0, .int .i64 0, .bool false, undef, .slice A l.len c, .func (.func 69) #[] #[.pointer (some ⟨nb + 1, 0, none⟩)], .agg #[.int .u8 x.1.k, .string (bs x.1.t), .slice x.1.A2 x.1.p.length x.1.c2, .slice x.1.A3 x.1.n3 x.1.c3, .slice x.1.A4 x.1.n4 x.1.c4, .int .i64 x.1.lv, .bool x.1.wi], undef, undef, undef, undef, undef, undef, undef, undef, undef, undef, undef, undef, undef, undef, undef, undef, undef, undef, undef, undef, undef, undef, undef, undef, undef], defers := [] })
      (fun x a' _ X Y row hs hg hr => by obtain ⟨Bx, h1, h2, h3⟩ := hs; exact ⟨Bx, h1, blk_grown h2 hg (fun e => by obtain ⟨o, ho, hcl⟩ := (hr Bx e.symm).2; rw [h2] at ho; cases ho; cases hcl), h3⟩)
      ?assign ?body ?done ?stop
    case assign =>
      rintro lp pre x W K ⟨⟨v, b1, b2⟩, b3⟩ hK
      obtain ⟨⟨k, t, A2, c2, p, A3, n3, c3, A4, n4, c4, lv, wi⟩, hx⟩ := x
      gi_wp2
      exact hK _ _ ((KeepsOthers.alloc _ _).from _) ((KpN.refl _ W).alloc b3.size _) ⟨⟨v, b1.alloc _, b2.alloc _⟩, b3.alloc b3.size _⟩ ⟨W.heap.size, b1.lt, World.alloc_heap_new W _, rfl⟩
    case body =>
      rintro lp pre x a' W hl2 ⟨rr, hrr⟩ ⟨⟨v, b1, b2⟩, b3⟩ ⟨Bx, hBx, bX, rfl⟩ hlt
      have hF := firsts_snoc pre x
      obtain ⟨⟨k, t, A2, c2, p, A3, n3, c3, A4, n4, c4, lv, wi⟩, hx⟩ := x
      simp only at bX hx hF
      obtain ⟨m0, m1, m2, m3, m4, m5, m6, f0, f1, f2, f3, f4, f5, f6⟩ := cells_7 bX
      have z0 := b1.cell
      have z1 := b1.frozen
      cases p with
      | nil =>
        gi_wp2
        exact ⟨KeepsFrom.refl _ _, KpN.refl _ _, ⟨v, b1, by rw [hF]; simpa [rootOf] using b2⟩, b3⟩
      | cons s q =>
        obtain ⟨bp, op, rfl, hcell⟩ := row_form (p := (s :: q).map bs) (by simpa using hx.1.1) (by simp)
        have p0 := pw_cell_below b3 (hcell 0 (by simp))
        simp only [List.map_cons, List.getD_cons_zero, Nat.add_zero] at p0
        clear hcell
        by_cases hs : s = thisS
        · have e0 : ((bs s).toList == [116, 104, 105, 115]) = true := by rw [bs_list, beq_iff_eq]; exact hs
          have Hs := Aside0.mk hs
          clear hs
          gi_wp2
          exact ⟨KeepsFrom.refl _ _, KpN.refl _ _, ⟨v, b1, by rw [hF]; simpa [rootOf, Hs.out] using b2⟩, b3⟩
        · have e0 : ((bs s).toList == [116, 104, 105, 115]) = false := by rw [bs_list, beq_eq_false_iff_ne]; exact hs
          have Hs := Aside0.mk hs
          clear hs
          have hmx : Tryz.prog.follows .mixedOrders = true := by kernel_rfl
          obtain ⟨i0, hi, hz0, hz1, hz2⟩ := info_parts info_str
          have hfl : (firsts (ers pre)).length ≤ pre.length := by unfold firsts; refine Nat.le_trans (List.length_filterMap_le _ _) (by simp [ers])
          obtain ⟨g, cap, w2, hrun, hown2, hgr2, hat2, hlt2⟩ := run_append_lies (P := Tryz.prog) (w := (W.alloc (.cells #[.string (bs s)] 9)).drew) 23 23 w.heap.size 9 i0 (.string ⟨#[]⟩) 1 16 Tryz.underlying23 hi hz0 hz1 hz2 rfl (by decide) v _ _ ((b2.alloc _).drew) ⟨W.heap.size, 0, none⟩ 1 1 [.string (bs s)] rfl
            (World.news_of_block (cs := #[.string (bs s)]) (t := 9) (fr := (0, 0)) (heap_alloc_new W _)) (by simp [Value.oneCell']) (by decide) (by unfold maxLen; omega) (by omega) (by have := b3.size; show w.heap.size ≤ (W.alloc _).heap.size; rw [World.size_alloc]; omega) (W.heap.size + 1) (by simp)
          gi_wp2
          have c1 : Boxed w2 nb 23 v := ((b1.alloc (.cells #[.string (bs s)] 9))).kept (W := (W.alloc (.cells #[.string (bs s)] 9)).drew) hgr2 (b1.not_row (by decide) b2)
          have z2 := c1.cell
          have z4 := (b1.alloc (.cells #[.string (bs s)] 9)).cell
          have hlt1 := b1.lt
          have z3 := c1.frozen
          have hnbw : w.heap.size ≤ nb := hsz2
          refine wpIn_region_any hmx ?_
          change wpAnyIn _ _ _ _ _ _ (8 + 1) _ _ W.drew
          refine any_two 0 1 _ _ (by kernel_rfl) rfl rfl (by rfl) (by rfl) ?_ ?_
          · gi_wp2
            refine any_one 1 _ (by kernel_rfl) rfl (by rfl) ?_
            gi_wp2
            refine any_one 2 _ (by kernel_rfl) rfl (by rfl) ?_
            gi_wp2
            refine any_one 3 _ (by kernel_rfl) rfl (by rfl) ?_
            gi_wp2
            refine any_one 4 _ (by kernel_rfl) rfl (by rfl) ?_
            gi_wp2
            refine any_one 5 _ (by kernel_rfl) rfl (by rfl) ?_
            gi_wp2
            refine any_one 6 _ (by kernel_rfl) rfl (by rfl) ?_
            gi_wp2
            refine any_one 7 _ (by kernel_rfl) rfl (by rfl) ?_
            refine append_stepIn (by rfl) (by rfl) (by rfl) hrun ?_
            refine any_one 8 _ (by kernel_rfl) rfl (by rfl) ?_
            gi_wp2
            refine ⟨by kernel_rfl, ?_⟩
            have hfin := roots_fin (B := W0.heap.size) b1 b2 b3 hnbw hgr2 hown2 c1
            exact ⟨hfin.1, hfin.2.1, by rw [hF]; simpa [rootOf, Hs.out] using hfin.2.2.1, hfin.2.2.2⟩
          · gi_wp2
            refine any_two 0 2 _ _ (by kernel_rfl) rfl rfl (by rfl) (by rfl) ?_ ?_
            · gi_wp2
              refine any_one 2 _ (by kernel_rfl) rfl (by rfl) ?_
              gi_wp2
              refine any_one 3 _ (by kernel_rfl) rfl (by rfl) ?_
              gi_wp2
              refine any_one 4 _ (by kernel_rfl) rfl (by rfl) ?_
              gi_wp2
              refine any_one 5 _ (by kernel_rfl) rfl (by rfl) ?_
              gi_wp2
              refine any_one 6 _ (by kernel_rfl) rfl (by rfl) ?_
              gi_wp2
              refine any_one 7 _ (by kernel_rfl) rfl (by rfl) ?_
              refine append_stepIn (by rfl) (by rfl) (by rfl) hrun ?_
              refine any_one 8 _ (by kernel_rfl) rfl (by rfl) ?_
              gi_wp2
              refine ⟨by kernel_rfl, ?_⟩
              have hfin := roots_fin (B := W0.heap.size) b1 b2 b3 hnbw hgr2 hown2 c1
              exact ⟨hfin.1, hfin.2.1, by rw [hF]; simpa [rootOf, Hs.out] using hfin.2.2.1, hfin.2.2.2⟩
            · gi_wp2
              refine any_two 0 3 _ _ (by kernel_rfl) rfl rfl (by rfl) (by rfl) ?_ ?_
              · gi_wp2
                refine any_one 3 _ (by kernel_rfl) rfl (by rfl) ?_
                gi_wp2
                refine any_one 4 _ (by kernel_rfl) rfl (by rfl) ?_
                gi_wp2
                refine any_one 5 _ (by kernel_rfl) rfl (by rfl) ?_
                gi_wp2
                refine any_one 6 _ (by kernel_rfl) rfl (by rfl) ?_
                gi_wp2
                refine any_one 7 _ (by kernel_rfl) rfl (by rfl) ?_
                refine append_stepIn (by rfl) (by rfl) (by rfl) hrun ?_
                refine any_one 8 _ (by kernel_rfl) rfl (by rfl) ?_
                gi_wp2
                refine ⟨by kernel_rfl, ?_⟩
                have hfin := roots_fin (B := W0.heap.size) b1 b2 b3 hnbw hgr2 hown2 c1
                exact ⟨hfin.1, hfin.2.1, by rw [hF]; simpa [rootOf, Hs.out] using hfin.2.2.1, hfin.2.2.2⟩
              · gi_wp2
                refine any_two 0 4 _ _ (by kernel_rfl) rfl rfl (by rfl) (by rfl) ?_ ?_
                · gi_wp2
                  refine any_one 4 _ (by kernel_rfl) rfl (by rfl) ?_
                  gi_wp2
                  refine any_one 5 _ (by kernel_rfl) rfl (by rfl) ?_
                  gi_wp2
                  refine any_one 6 _ (by kernel_rfl) rfl (by rfl) ?_
                  gi_wp2
                  refine any_one 7 _ (by kernel_rfl) rfl (by rfl) ?_
                  refine append_stepIn (by rfl) (by rfl) (by rfl) hrun ?_
                  refine any_one 8 _ (by kernel_rfl) rfl (by rfl) ?_
                  gi_wp2
                  refine ⟨by kernel_rfl, ?_⟩
                  have hfin := roots_fin (B := W0.heap.size) b1 b2 b3 hnbw hgr2 hown2 c1
                  exact ⟨hfin.1, hfin.2.1, by rw [hF]; simpa [rootOf, Hs.out] using hfin.2.2.1, hfin.2.2.2⟩
                · gi_wp2
                  refine any_two 0 5 _ _ (by kernel_rfl) rfl rfl (by rfl) (by rfl) ?_ ?_
                  · gi_wp2
                    refine any_one 5 _ (by kernel_rfl) rfl (by rfl) ?_
                    gi_wp2
                    refine any_one 6 _ (by kernel_rfl) rfl (by rfl) ?_
                    gi_wp2
                    refine any_one 7 _ (by kernel_rfl) rfl (by rfl) ?_
                    refine append_stepIn (by rfl) (by rfl) (by rfl) hrun ?_
                    refine any_one 8 _ (by kernel_rfl) rfl (by rfl) ?_
                    gi_wp2
                    refine ⟨by kernel_rfl, ?_⟩
                    have hfin := roots_fin (B := W0.heap.size) b1 b2 b3 hnbw hgr2 hown2 c1
                    exact ⟨hfin.1, hfin.2.1, by rw [hF]; simpa [rootOf, Hs.out] using hfin.2.2.1, hfin.2.2.2⟩
                  · gi_wp2
                    refine any_two 0 6 _ _ (by kernel_rfl) rfl rfl (by rfl) (by rfl) ?_ ?_
                    · gi_wp2
                      refine any_one 6 _ (by kernel_rfl) rfl (by rfl) ?_
                      gi_wp2
                      refine any_one 7 _ (by kernel_rfl) rfl (by rfl) ?_
                      refine append_stepIn (by rfl) (by rfl) (by rfl) hrun ?_
                      refine any_one 8 _ (by kernel_rfl) rfl (by rfl) ?_
                      gi_wp2
                      refine ⟨by kernel_rfl, ?_⟩
                      have hfin := roots_fin (B := W0.heap.size) b1 b2 b3 hnbw hgr2 hown2 c1
                      exact ⟨hfin.1, hfin.2.1, by rw [hF]; simpa [rootOf, Hs.out] using hfin.2.2.1, hfin.2.2.2⟩
                    · gi_wp2
                      refine any_one 0 _ (by kernel_rfl) rfl (by rfl) ?_
                      gi_wp2
                      refine any_one 7 _ (by kernel_rfl) rfl (by rfl) ?_
                      refine append_stepIn (by rfl) (by rfl) (by rfl) hrun ?_
                      refine any_one 8 _ (by kernel_rfl) rfl (by rfl) ?_
                      gi_wp2
                      refine ⟨by kernel_rfl, ?_⟩
                      have hfin := roots_fin (B := W0.heap.size) b1 b2 b3 hnbw hgr2 hown2 c1
                      exact ⟨hfin.1, hfin.2.1, by rw [hF]; simpa [rootOf, Hs.out] using hfin.2.2.1, hfin.2.2.2⟩
    case done =>
      rintro D ys W hD hys ⟨⟨v, b1, b2⟩, b3⟩ hK
      have z0 := b1.cell
      have z1 := b1.frozen
      rw [hys] at b2
      have hfl : (firsts (flat l 1 false)).length ≤ 1048576 := by unfold firsts; refine Nat.le_trans (List.length_filterMap_le _ _) ?_; rw [flat_len]; exact hc
      have hreq := roots_eq l
      generalize hfs : firsts (flat l 1 false) = fs at *
      have hDl : D < W.heap.size := (Array.getElem?_eq_some_iff.1 hK).1
      gi_wp2_with fail
      refine ⟨trivial, ?_⟩
      refine (callsIn_wide.2 (sort_own b2 rfl hfl)).mono ?_
      rintro e w3 ⟨rfl, hg3, ho3⟩
      have c1 : Boxed w3 nb 23 v := b1.kept hg3 (b1.not_row (by decide) b2)
      have hK3 : w3.heap[D]? = some (.deferred (some [])) := (hg3.block D hDl (fun e => by obtain ⟨cells, hcl⟩ := own_typed b2 D e.symm; rw [hK] at hcl; cases hcl)).trans hK
      have hb3 : Below w.heap.size w w3 := b3.trans ⟨hg3.os, hg3.tape, hg3.output, hg3.size, fun k hk => hg3.block k (Nat.lt_of_lt_of_le hk b3.size) (fun e => by have := own_base b2 k e.symm; omega)⟩
      have hDl3 : D < w3.heap.size := (Array.getElem?_eq_some_iff.1 hK3).1
      clear z0 z1
      have z0 := c1.cell
      have z1 := c1.frozen
      gi_wp2_with fail
      refine ⟨trivial, ?_⟩
      refine (callsIn_wide.2 (comp_own ho3 (by simp) (by simpa using hfl))).mono ?_
      rintro e w4 ⟨A2, c2, rfl, hle4, hg4, hC⟩
      have hK4 : w4.heap[D]? = some (.deferred (some [])) := (hg4.block D hDl3 (fun e => by obtain ⟨cells, hcl⟩ := own_typed ho3 D e.symm; rw [hK3] at hcl; cases hcl)).trans hK3
      have hb4 : Below w.heap.size w w4 := hb3.trans ⟨hg4.os, hg4.tape, hg4.output, hg4.size, fun k hk => hg4.block k (Nat.lt_of_lt_of_le hk hb3.size) (fun e => by have := own_base ho3 k e.symm; omega)⟩
      rw [hreq] at hle4 hC ⊢
      gi_wp2
      refine ⟨by simp, .inl ⟨_, _, rfl, run_takeDeferred hK4, ?_⟩⟩
      exact ⟨_, results_tmp2 rfl _ _ _, A2, c2, (rootsP l).length, rfl, fun _ => ⟨rfl, C_kept hC (fun a u ha => cell_kept ha (grownBy_putObj' _ D (.deferred none)) (fun r e => by cases e; exact ⟨_, hK4, rfl⟩)), hle4⟩, fun h => (by cases h), hb4.trans (belowK_b (w := w) (Nat.le_refl _) w4 D _ _ (by omega) hK4 rfl rfl)⟩
    case stop =>
      rintro D cd pre W _ _ h _
      exact h.elim
end Go.Proofs.YtniibpndgcndbaaGreatDoor.Tpl
namespace Go.Proofs.YtniibpndgcndbaaGreatDoor.Tpl
open Go.RowKit Go.Proofs Go.Shelf Go.Proofs.YtniibpndgcndbaaGreatDoor.PB Go.Proofs.YtniibpndgcndbaaGreatDoor.Short Go.Proofs.YtniibpndgcndbaaGreatDoorW.PrintWords Go.Proofs.YtniibpndgcndbaaGreatDoorW.PrintLast Go.Proofs.YtniibpndgcndbaaGreatDoorW.PrintMore Nodes
theorem containsS_map (p : List S) (s : S) : Lib.containsS (p.map bs) (bs s) = p.contains s := by
  have hi : ∀ a b : S, bs a = bs b → a = b := fun a b h => by rw [← bs_list a, h, bs_list]
  rw [Bool.eq_iff_iff, Lib.containsS_iff, List.contains_iff_mem, List.mem_map]
  constructor
  · rintro ⟨x, hx, e⟩; rw [← hi _ _ e]; exact hx
  · intro h; exact ⟨s, h, rfl⟩
def RdS (w : World) (A : Option Addr) (c : Nat) (p : List S) : Prop := Kd.string.C w A p.length (p.map bs) ∧ p.length ≤ c
theorem contains_any (A : Option Addr) (c : Nat) (p : List S) (s : S) (w : World) (hR : RdS w A c p) (hp : p.length ≤ 1048576) : Calls Tryz.prog 53 #[.slice A p.length c, .string (bs s)] w fun e w' => e = .returned (.bool (p.contains s)) ∧ w' = w := by
  by_cases h0 : p.length = 0
  · have : p = [] := List.length_eq_zero_iff.1 h0
    subst this
    exact Tryz.slices_Contains_string_empty A c (bs s) w
  · obtain ⟨b, off, rfl, hcell⟩ := row_form (by simpa using hR.1) (show 0 < (p.map bs).length by simp; omega)
    have h := Tryz.slices_Contains_string b off p.length c (p.map bs) (bs s) w (by simp) (by omega) hcell
    rw [List.take_of_length_le (by simp), containsS_map] at h
    exact h
theorem eg_only : ∀ args w, (callFunc 52 args).run Tryz.prog w = .ok (.enter 52 args) w := enters_of Tryz.func52 (by kernel_rfl) rfl
theorem pred_only (A : Option Addr) (c nb : Nat) (p : List S) (w : World) (hp : p.length ≤ 1048576) (hR : RdS w A c p) (hb : w.cell? ⟨nb, 0, none⟩ = some (.slice A p.length c)) :
    PredAt Tryz.prog 52 #[.pointer (some ⟨nb, 0, none⟩)] (fun s : S => Value.string (bs s)) (fun s => !p.contains s) w := by
  intro W s hB
  unfold FnGives
  change Calls _ _ _ _ fun e w' => e = .returned (.bool (!p.contains s)) ∧ ∃ q, w' = W.drewN q
  have hc := contains_any A c p s W ⟨Kd.C_below hR.1 hB, hR.2⟩ hp
  have hb' := pw_cell_below hB hb
  generalize p.contains s = r at *
  clear hR
  go_enter Tryz.func52, Tryz.ntmps52
  go_wp2_with fail
  refine hc.mono ?_
  rintro e w1 ⟨rfl, rfl⟩
  go_wp2
  go_ret
  exact ⟨by simp, 0, rfl⟩
def onlyP (l : Nodes) (names : List S) : Int := if l.chk = true then (if (rootsP l).all names.contains = true then 0 else 13) else 2
set_option maxRecDepth 100000 in
set_option maxHeartbeats 1000000 in
theorem only_any (l : Nodes) (A : Option Addr) (c : Nat) (An : Option Addr) (cn : Nat) (names : List S) (w : World) (hG : Glob w) (hs : l.sm) (hR : Rd w A c l) (hl : l.len ≤ 1048576) (hc : l.cnt ≤ 1048576) (hRn : RdS w An cn names) (hn : names.length ≤ 1048576) :
    Calls Tryz.prog 22 #[.slice A l.len c, .slice An names.length cn] w fun e w' => e = .returned (.int .i64 (onlyP l names)) ∧ Below w.heap.size w w' := by
  have hA := roots_any l A c (w.alloc (.cells #[.slice An names.length cn] 23)) (hG.below (below_alloc (Below.refl _ _) _)) hs (hR.below (below_alloc (Below.refl _ _) _)) hl hc
  have HN := Aside0.mk hRn
  have hlen : (rootsP l).length ≤ 1048576 := by
    have h1 : (rootsP l).length ≤ (flat l 1 false).length := by
      rw [← roots_eq]
      refine Nat.le_trans (Lib.compact_length_le _) ?_
      rw [List.length_mergeSort]; exact List.length_filterMap_le _ _
    rw [flat_len] at h1; omega
  clear hG hs hR hRn
  unfold onlyP
  cases hch : l.chk with
  | false =>
    rw [hch] at hA
    simp only [Bool.false_eq_true, if_false]
    go_enter Tryz.func22, Tryz.ntmps22
    go_wp2_with fail
    refine hA.mono ?_
    rintro e w1 ⟨A2, c2, n, rfl, _, _, hb⟩
    have hb' := (below_alloc (Below.refl w.heap.size w) (.cells #[.slice An names.length cn] 23)).trans (hb.mono (by simp))
    clear hb hA
    go_wp2
    go_ret
    exact ⟨rfl, hb'⟩
  | true =>
    rw [hch] at hA
    obtain ⟨q, hq⟩ : ∃ q, (rootsP l).all names.contains = q := ⟨_, rfl⟩
    simp only [if_true, hq]
    go_enter Tryz.func22, Tryz.ntmps22
    go_wp2_with fail
    refine hA.mono ?_
    rintro e w1 ⟨A2, c2, n, rfl, h1, _, hb⟩
    obtain ⟨rfl, hC, hle⟩ := h1 (by first | rfl | trivial)
    have B0 : Boxed w1 w.heap.size 23 (.slice An names.length cn) := (hb.block _ (by simp)).trans (Boxed.new w _ _)
    have hb' := (below_alloc (Below.refl w.heap.size w) (.cells #[.slice An names.length cn] 23)).trans (hb.mono (by simp))
    have hP := pred_only An cn w.heap.size names w1 hn ⟨Kd.C_below HN.out.1 hb', HN.out.2⟩ B0.cell
    have hcon : Calls Tryz.prog 51 #[.slice A2 (rootsP l).length c2, .func (.func 52) #[] #[.pointer (some ⟨w.heap.size, 0, none⟩)]] w1 fun e w' => e = .returned (.bool (!q)) ∧ ∃ k, w' = w1.drewN k := by
      by_cases h0 : (rootsP l).length = 0
      · have e0 : rootsP l = [] := List.length_eq_zero_iff.1 h0
        have hq' : q = true := by rw [← hq, e0]; rfl
        rw [hq', h0]
        refine (Tryz.slices_ContainsFunc_empty (α := S) A2 c2 _ w1).mono ?_
        rintro e w' ⟨rfl, rfl⟩
        exact ⟨rfl, 0, rfl⟩
      · obtain ⟨b, off, rfl, hcell⟩ := row_form (by simpa using hC) (show 0 < ((rootsP l).map bs).length by simp; omega)
        have h := Tryz.slices_ContainsFunc (fun s : S => Value.string (bs s)) (fun s => !names.contains s) 52 #[.pointer (some ⟨w.heap.size, 0, none⟩)] eg_only b off (rootsP l).length c2 (rootsP l) w1 hP (Nat.le_refl _) (by omega) (fun j hj => by
          have := hcell j (by simpa using hj)
          rw [this, getElem!_pos (rootsP l) j hj]; simp [List.getD, hj])
        rw [List.take_length, ← List.not_all_eq_any_not, hq] at h
        exact h
    clear hb hA hP hC h1
    go_wp2_with fail
    refine hcon.mono ?_
    rintro e w2 ⟨rfl, ⟨k, rfl⟩⟩
    cases q
    all_goals
      go_wp2
      go_ret
      exact ⟨by simp, pw_below_drewN hb' _⟩
end Go.Proofs.YtniibpndgcndbaaGreatDoor.Tpl
namespace Go.Proofs.YtniibpndgcndbaaGreatDoor.Tpl
open Go.RowKit Go.Proofs Go.Proofs.YtniibpndgcndbaaGreatDoor.PB Go.Proofs.YtniibpndgcndbaaGreatDoor.Short Go.Proofs.YtniibpndgcndbaaGreatDoorW.PrintWords Go.Proofs.YtniibpndgcndbaaGreatDoorW.PrintLast Go.Proofs.YtniibpndgcndbaaGreatDoorW.PrintMore Nodes
attribute [local go_sem ↓] Go.wp_at_zero Go.wp_at_succ
theorem lit_R (xs : List ByteArray) (W : World) (base : Nat) (ok : Nat → Prop) (h : base ≤ W.heap.size) (hx : xs.length ≤ 1048576) (hok : ok W.heap.size) : Kd.string.R 9 (W.alloc (.cells (xs.map Value.string).toArray 9)) base ok (.slice (some ⟨W.heap.size, 0, none⟩) xs.length xs.length) xs := by
  refine Kd.R_of_own ?_ (fun k hk => by simp [Value.ownBlock] at hk; subst hk; exact hok)
  have h2 := World.ownsRow_lit (base := base) (e := 9) (size := 1) W (xs.map Value.string).toArray xs.length h (by simp [maxLen]; omega) (by simp)
  simpa [encs] using h2
theorem C_take {w : World} {A : Option Addr} {n i : Nat} {l : List ByteArray} (h : Kd.string.C w A n l) (hi : i ≤ n) : Kd.string.C w A i (l.take i) := by
  have hl := h.1
  refine ⟨by rw [List.length_take]; omega, by have := h.2.1; omega, fun h0 => ?_⟩
  obtain ⟨ad, e, hc⟩ := h.2.2 (by omega)
  refine ⟨ad, e, fun j x hj => hc j x ?_⟩
  rw [List.getElem?_take] at hj
  split at hj
  · exact hj
  · cases hj
theorem C_drop {w : World} {b off n i : Nat} {l : List ByteArray} (h : Kd.string.C w (some ⟨b, off, none⟩) n l) (hi : i ≤ n) : Kd.string.C w (some ⟨b, off + i, none⟩) (n - i) (l.drop i) := by
  have hl := h.1
  refine ⟨by rw [List.length_drop]; omega, by have := h.2.1; omega, fun h0 => ?_⟩
  obtain ⟨ad, e, hc⟩ := h.2.2 (by omega)
  cases e
  refine ⟨_, rfl, fun j x hj => ?_⟩
  rw [List.getElem?_drop] at hj
  obtain ⟨cs, h1, h2, h3⟩ := hc (i + j) x hj
  refine ⟨cs, h1, h2, fun q v hv => ?_⟩
  have := h3 q v hv
  rw [← this]
  congr 1
  simp only [show Kd.string.sz = 1 from rfl, Nat.mul_one, Addr.add]
  split <;> split <;> (try split) <;> simp_all <;> omega
theorem RdS.of_R {w : World} {base : Nat} {ok : Nat → Prop} {v : Value} {l : List S} (h : Kd.string.R 9 w base ok v (l.map bs)) : ∃ A c, v = .slice A l.length c ∧ RdS w A c l := by
  obtain ⟨A, c, e, hl, hc⟩ := Kd.R_reads h
  rw [List.length_map] at e hl hc
  exact ⟨A, c, e, hc, hl⟩
theorem RdS.below {w w1 : World} {A : Option Addr} {c : Nat} {p : List S} (h : RdS w A c p) (hb : Below w.heap.size w w1) : RdS w1 A c p := ⟨Kd.C_below h.1 hb, h.2⟩
theorem lit_C (xs : List ByteArray) (W : World) (hx : xs.length ≤ 1048576) : Kd.string.C (W.alloc (.cells (xs.map Value.string).toArray 9)) (some ⟨W.heap.size, 0, none⟩) xs.length xs := (Kd.R_reads' (lit_R xs W W.heap.size (fun _ => True) (Nat.le_refl _) hx trivial)).2.2
theorem belB {w w1 : World} (h : Below w.heap.size w w1) : Below w.heap.size w w1 := h
theorem blk16 {n : Nat} (h : n ≤ 1048577) : n * 16 ≤ 140737488355328 := by omega
theorem putS_len (p : List S) (s : S) : (putS p s).length ≤ p.length + 1 := by
  induction p with
  | nil => simp [putS]
  | cons x r ih => unfold putS; split; · simp only [List.length_cons]; omega
                   split <;> simp
theorem put_take (p : List S) (s : S) (i : Nat) (h : i < p.length) : putS (p.drop i) s = if p.getD i [] < s then p.getD i [] :: putS (p.drop (i + 1)) s else if p.getD i [] = s then p.drop i else s :: p.drop i := by
  have e1 : p.drop i = p.getD i [] :: p.drop (i + 1) := by rw [List.drop_eq_getElem_cons h]; simp [List.getD, h]
  rw [e1]; rfl
theorem put_snoc (p : List S) (i : Nat) (h : i < p.length) (r : List S) : p.take i ++ p.getD i [] :: r = p.take (i + 1) ++ r := by
  have e : p.getD i [] = p[i] := by simp [List.getD, h]
  rw [List.take_succ_eq_append_getElem h, List.append_assoc, e]; rfl
theorem C_none (w : World) (A : Option Addr) (m : Nat) (h : m = 0) : Kd.string.C w A m [] := by
  subst h; exact ⟨rfl, by simp, fun h => absurd h (Nat.lt_irrefl 0)⟩
set_option maxHeartbeats 1000000 in
set_option maxRecDepth 100000 in
theorem rput_any (A : Option Addr) (c : Nat) (p : List S) (s : S) (w : World) (hR : RdS w A c p) (hp : p.length ≤ 1048576) :
    Calls Tryz.prog 76 #[.slice A p.length c, .string (bs s)] w fun e w' => ∃ A' c', e = .returned (.slice A' (putS p s).length c') ∧ RdS w' A' c' (putS p s) ∧ Below w.heap.size w w' := by
  have HR := Aside0.mk hR
  have hcell : ∀ i, i < p.length → ∃ b off, A = some ⟨b, off, none⟩ ∧ w.cell? ⟨b, off + i, none⟩ = some (.string (bs (p.getD i []))) := by
    intro i hi
    obtain ⟨b, off, e, hc⟩ := row_form (p := p.map bs) (by simpa using hR.1) (by simp; omega)
    refine ⟨b, off, e, ?_⟩
    rw [hc i (by simpa using hi)]
    simp [List.getD, hi]
  have HC := Aside0.mk hcell
  clear hR hcell
  go_enter Tryz.func76, Tryz.ntmps76
  go_wp2
  go_loop [5] (fun v => ∃ i : Nat, v = .int .i64 i ∧ i ≤ p.length ∧ Aside0 (putS p s = p.take i ++ putS (p.drop i) s)) (fun v => p.length - (intOf v).toNat)
  case atStart => exact ⟨0, rfl, Nat.zero_le _, ⟨by simp⟩⟩
  case round =>
    obtain ⟨i, rfl, hi, HE⟩ := hrel
    by_cases hlt : i < p.length
    · obtain ⟨b, off, rfl, hc⟩ := HC.out i hlt
      have hps := put_take p s i hlt
      have hl0 : Op.bytesLess (bs (p.getD i [])).toList (bs s).toList = decide (p.getD i [] < s) := by rw [bytesLess_eq, bs_list, bs_list]
      have hq0 : ((bs (p.getD i [])).toList == (bs s).toList) = decide (p.getD i [] = s) := by rw [bs_list, bs_list, Bool.eq_iff_iff]; simp
      generalize hx : p.getD i [] = x at hc hl0 hq0 hps
      have HXI := Aside0.mk hx
      clear hx
      clear HC
      by_cases h1 : x < s
      · rw [decide_eq_true h1] at hl0
        clear hq0
        have HPS := Aside0.mk hps
        clear hps
        go_wp2
        go_round
        case rel => exact ⟨i + 1, by go_num, by omega, ⟨by rw [HE.out, HPS.out, if_pos h1, ← HXI.out, put_snoc p i hlt]⟩⟩
        case measure => simp [intOf]; omega
      · rw [decide_eq_false h1] at hl0
        by_cases h2 : x = s
        · rw [decide_eq_true h2] at hq0
          have hpp : putS p s = p := by rw [HE.out, hps, if_neg h1, if_pos h2, List.take_append_drop]
          have HP := Aside0.mk hpp
          clear hps h2 hpp
          go_wp2
          go_ret
          rw [HP.out]
          exact ⟨_, _, rfl, HR.out, Below.refl _ _⟩
        · rw [decide_eq_false h2] at hq0
          have hb0 : (0 : Int) ≤ (i : Int) := by omega
          have hb1 : (i : Int) ≤ (p.length : Int) := by omega
          have hcap : (p.length : Int) ≤ (c : Int) := by have := HR.out.2; omega
          have hb3 : (i : Int) ≤ (c : Int) := by omega
          have HPS := Aside0.mk hps
          clear hps
          have hci : ¬ (c = i) := by omega
          have hb4 : (i : Int) < (c : Int) := by omega
          go_wp2
          have HT := Aside0.mk (C_take (i := i) HR.out.1 hi)
          have HD := Aside0.mk (C_drop (i := i) HR.out.1 hi)
          have hle0 : ([] : List ByteArray).length + i ≤ 1048577 := by simp; omega
          have hle : ([] ++ (p.map bs).take i).length ≤ 1048576 := by simp; omega
          have hle3 : ([] ++ (p.map bs).take i ++ [bs s]).length + (p.length - i) ≤ 1048577 := by simp; omega
          have hfin : [] ++ (p.map bs).take i ++ [bs s] ++ (p.map bs).drop i = (putS p s).map bs := by rw [HE.out, HPS.out, if_neg h1, if_neg h2]; simp [List.map_take, List.map_drop]
          have Hf := Aside0.mk hfin
          clear hfin
          have hsz : w.drew.heap.size = w.heap.size := World.size_drew w
          have E0 : Aside0 (Kd.string.R 9 (w.drew.alloc (.cells #[] 9)) w.heap.size (fun _ => True) (.slice (some ⟨w.heap.size, 0, none⟩) 0 0) []) := ⟨by have := lit_R [] w.drew w.heap.size (fun _ => True) (Nat.le_of_eq hsz.symm) (by simp) trivial; rwa [hsz] at this⟩
          have S0 : Aside0 (Kd.string.R 9 (w.drew.alloc (.cells #[.string (bs s)] 9)) w.heap.size (fun _ => True) (.slice (some ⟨w.heap.size, 0, none⟩) 1 1) [bs s]) := ⟨by have := lit_R [bs s] w.drew w.heap.size (fun _ => True) (Nat.le_of_eq hsz.symm) (by simp) trivial; rwa [hsz] at this⟩
          have S1 : Aside0 (Kd.string.R 9 ((w.drew.alloc (.cells #[] 9)).alloc (.cells #[.string (bs s)] 9)) w.heap.size (fun _ => True) (.slice (some ⟨w.heap.size + 1, 0, none⟩) 1 1) [bs s]) := ⟨by have := lit_R [bs s] (w.drew.alloc (.cells #[] 9)) w.heap.size (fun _ => True) (by simp) (by simp) trivial; rwa [World.size_alloc, hsz] at this⟩
          have E1 : Aside0 (Kd.string.R 9 ((w.drew.alloc (.cells #[.string (bs s)] 9)).alloc (.cells #[] 9)) w.heap.size (fun _ => True) (.slice (some ⟨w.heap.size + 1, 0, none⟩) 0 0) []) := ⟨by have := lit_R [] (w.drew.alloc (.cells #[.string (bs s)] 9)) w.heap.size (fun _ => True) (by simp) (by simp) trivial; rwa [World.size_alloc, hsz] at this⟩
          have E0S := Aside0.mk (Kd.R_alloc E0.out (.cells #[.string (bs s)] 9))
          have S0E := Aside0.mk (Kd.R_alloc S0.out (.cells #[] 9))
          clear hsz hc hl0 hq0
          go_region_held3 (fun w' => True) (trivial)
            (first
              | ((refine Kd.R_append_rows_step (o := { dst := some 37, op := _, type := _, pos := _, after := _, guard := _ }) (W := w.drew.alloc (.cells #[] 9)) (w0 := w) Kd.string w.heap.size (by first | rfl | assumption) _ _ 23 9 _ 16 (by rfl) Tryz.underlying23 info_str rfl (by decide) (by decide) (.slice (some ⟨w.heap.size, 0, none⟩) 0 0) [] ((p.map bs).take i) (some ⟨b, off, none⟩) i c (fun _ => True) (fun _ => False) (by rfl) (by rfl) E0.out (Kd.C_below HT.out (belS (Below.refl _ _))) (fun _ _ h => h) (fun _ h => h.elim) (fun _ _ => trivial) (belS (Below.refl _ _)) (by simp; try omega) (blk16 hle0) ?_; intro v1 w1 hR1 hB1 hg1 hat1))
              | ((refine Kd.R_append_rows_step (o := { dst := some 37, op := _, type := _, pos := _, after := _, guard := _ }) (W := (w.drew.alloc (.cells #[] 9)).alloc (.cells #[.string (bs s)] 9)) (w0 := w) Kd.string w.heap.size (by first | rfl | assumption) _ _ 23 9 _ 16 (by rfl) Tryz.underlying23 info_str rfl (by decide) (by decide) (.slice (some ⟨w.heap.size, 0, none⟩) 0 0) [] ((p.map bs).take i) (some ⟨b, off, none⟩) i c (fun _ => True) (fun _ => False) (by rfl) (by rfl) E0S.out (Kd.C_below HT.out (belS (Below.refl _ _))) (fun _ _ h => h) (fun _ h => h.elim) (fun _ _ => trivial) (belS (Below.refl _ _)) (by simp; try omega) (blk16 hle0) ?_; intro v1 w1 hR1 hB1 hg1 hat1; have hS := (Kd.R_reads' (Kd.R_grown1 S1.out rfl hg1 (by simp [Value.ownBlock]))).2.2))
              | ((refine Kd.R_append_rows_step (o := { dst := some 37, op := _, type := _, pos := _, after := _, guard := _ }) (W := (w.drew.alloc (.cells #[.string (bs s)] 9)).alloc (.cells #[] 9)) (w0 := w) Kd.string w.heap.size (by first | rfl | assumption) _ _ 23 9 _ 16 (by rfl) Tryz.underlying23 info_str rfl (by decide) (by decide) (.slice (some ⟨w.heap.size + 1, 0, none⟩) 0 0) [] ((p.map bs).take i) (some ⟨b, off, none⟩) i c (fun _ => True) (fun _ => False) (by rfl) (by rfl) E1.out (Kd.C_below HT.out (belS (Below.refl _ _))) (fun _ _ h => h) (fun _ h => h.elim) (fun _ _ => trivial) (belS (Below.refl _ _)) (by simp; try omega) (blk16 hle0) ?_; intro v1 w1 hR1 hB1 hg1 hat1; have hS := (Kd.R_reads' (Kd.R_grown1 S0E.out rfl hg1 (by simp [Value.ownBlock]))).2.2))
              | ((refine Kd.R_append_rows_step (o := { dst := some 40, op := _, type := _, pos := _, after := _, guard := _ }) (W := w1.alloc (.cells #[.string (bs s)] 9)) (w0 := w) Kd.string w.heap.size (by first | rfl | assumption) _ _ 23 9 _ 16 (by rfl) Tryz.underlying23 info_str rfl (by decide) (by decide) v1 ([] ++ (p.map bs).take i) [bs s] (some ⟨w1.heap.size, 0, none⟩) 1 1 (fun _ => True) (fun _ => False) (by rfl) (by rfl) (Kd.R_alloc hR1 _) (lit_C [bs s] w1 (by simp)) (fun _ _ h => h) (fun _ h => h.elim) (fun _ _ => trivial) (below_alloc hB1 _) (Nat.le_trans hB1.size (by simp)) (blk16 (Nat.succ_le_succ hle)) ?_; intro v2 w2 hR2 hB2 hg2 hat2))
              | ((refine Kd.R_append_rows_step (o := { dst := some 40, op := _, type := _, pos := _, after := _, guard := _ }) (W := w1) (w0 := w) Kd.string w.heap.size (by first | rfl | assumption) _ _ 23 9 _ 16 (by rfl) Tryz.underlying23 info_str rfl (by decide) (by decide) v1 ([] ++ (p.map bs).take i) [bs s] _ 1 1 (fun _ => True) (fun _ => False) (by rfl) (by rfl) hR1 hS (fun _ _ h => h) (fun _ h => h.elim) (fun _ _ => trivial) hB1 hB1.size (blk16 (Nat.succ_le_succ hle)) ?_; intro v2 w2 hR2 hB2 hg2 hat2))
              | ((refine Kd.R_append_rows_step (o := { dst := some 44, op := _, type := _, pos := _, after := _, guard := _ }) (W := w2) (w0 := w) Kd.string w.heap.size (by first | rfl | assumption) _ _ 23 9 _ 16 (by rfl) Tryz.underlying23 info_str rfl (by decide) (by decide) v2 ([] ++ (p.map bs).take i ++ [bs s]) ((p.map bs).drop i) (some ⟨b, off + i, none⟩) (p.length - i) (c - i) (fun _ => True) (fun _ => False) (by rfl) (by rfl) hR2 (Kd.C_below HD.out (belB hB2)) (fun _ _ h => h) (fun _ h => h.elim) (fun _ _ => trivial) hB2 hB2.size (blk16 hle3) ?_; intro v3 w3 hR3 hB3 hg3 hat3)))
          all_goals
            rw [Hf.out] at hR3
            obtain ⟨A', c', rfl, hfinal⟩ := RdS.of_R hR3
            go_wp2
            go_ret
            exact ⟨A', c', rfl, hfinal, hB3⟩
    · have hit : i = p.length := by omega
      have hbt : decide ((i : Int) < (p.length : Int)) = false := by rw [decide_eq_false_iff_not]; omega
      have hbt2 : decide (i < p.length) = false := by rw [decide_eq_false_iff_not]; omega
      have hb0 : (0 : Int) ≤ (i : Int) := by omega
      have hb1 : (i : Int) ≤ (p.length : Int) := by omega
      have hcap : (p.length : Int) ≤ (c : Int) := by have := HR.out.2; omega
      have hb3 : (i : Int) ≤ (c : Int) := by omega
      clear HC hit
      rcases A with _ | ad
      · go_wp2
        have HT := Aside0.mk (C_take (i := i) HR.out.1 hi)
        have hle0 : ([] : List ByteArray).length + i ≤ 1048577 := by simp; omega
        have hle : ([] ++ (p.map bs).take i).length ≤ 1048576 := by simp; omega
        have hle3 : ([] ++ (p.map bs).take i ++ [bs s]).length + (p.length - i) ≤ 1048577 := by simp; omega
        have hfin : [] ++ (p.map bs).take i ++ [bs s] ++ [] = (putS p s).map bs := by rw [HE.out, List.drop_eq_nil_of_le (by omega)]; simp [List.map_take, putS]
        have Hf := Aside0.mk hfin
        clear hfin
        have hsz : w.drew.heap.size = w.heap.size := World.size_drew w
        have E0 : Aside0 (Kd.string.R 9 (w.drew.alloc (.cells #[] 9)) w.heap.size (fun _ => True) (.slice (some ⟨w.heap.size, 0, none⟩) 0 0) []) := ⟨by have := lit_R [] w.drew w.heap.size (fun _ => True) (Nat.le_of_eq hsz.symm) (by simp) trivial; rwa [hsz] at this⟩
        have S0 : Aside0 (Kd.string.R 9 (w.drew.alloc (.cells #[.string (bs s)] 9)) w.heap.size (fun _ => True) (.slice (some ⟨w.heap.size, 0, none⟩) 1 1) [bs s]) := ⟨by have := lit_R [bs s] w.drew w.heap.size (fun _ => True) (Nat.le_of_eq hsz.symm) (by simp) trivial; rwa [hsz] at this⟩
        have S1 : Aside0 (Kd.string.R 9 ((w.drew.alloc (.cells #[] 9)).alloc (.cells #[.string (bs s)] 9)) w.heap.size (fun _ => True) (.slice (some ⟨w.heap.size + 1, 0, none⟩) 1 1) [bs s]) := ⟨by have := lit_R [bs s] (w.drew.alloc (.cells #[] 9)) w.heap.size (fun _ => True) (by simp) (by simp) trivial; rwa [World.size_alloc, hsz] at this⟩
        have E1 : Aside0 (Kd.string.R 9 ((w.drew.alloc (.cells #[.string (bs s)] 9)).alloc (.cells #[] 9)) w.heap.size (fun _ => True) (.slice (some ⟨w.heap.size + 1, 0, none⟩) 0 0) []) := ⟨by have := lit_R [] (w.drew.alloc (.cells #[.string (bs s)] 9)) w.heap.size (fun _ => True) (by simp) (by simp) trivial; rwa [World.size_alloc, hsz] at this⟩
        have E0S := Aside0.mk (Kd.R_alloc E0.out (.cells #[.string (bs s)] 9))
        have S0E := Aside0.mk (Kd.R_alloc S0.out (.cells #[] 9))
        clear hsz
        go_region_held3 (fun w' => True) (trivial)
          (first
            | ((refine Kd.R_append_rows_step (o := { dst := some 37, op := _, type := _, pos := _, after := _, guard := _ }) (W := w.drew.alloc (.cells #[] 9)) (w0 := w) Kd.string w.heap.size (by first | rfl | assumption) _ _ 23 9 _ 16 (by rfl) Tryz.underlying23 info_str rfl (by decide) (by decide) (.slice (some ⟨w.heap.size, 0, none⟩) 0 0) [] ((p.map bs).take i) _ i _ (fun _ => True) (fun _ => False) (by rfl) (by rfl) E0.out (Kd.C_below HT.out (belS (Below.refl _ _))) (fun _ _ h => h) (fun _ h => h.elim) (fun _ _ => trivial) (belS (Below.refl _ _)) (by simp; try omega) (blk16 hle0) ?_; intro v1 w1 hR1 hB1 hg1 hat1))
            | ((refine Kd.R_append_rows_step (o := { dst := some 37, op := _, type := _, pos := _, after := _, guard := _ }) (W := (w.drew.alloc (.cells #[] 9)).alloc (.cells #[.string (bs s)] 9)) (w0 := w) Kd.string w.heap.size (by first | rfl | assumption) _ _ 23 9 _ 16 (by rfl) Tryz.underlying23 info_str rfl (by decide) (by decide) (.slice (some ⟨w.heap.size, 0, none⟩) 0 0) [] ((p.map bs).take i) _ i _ (fun _ => True) (fun _ => False) (by rfl) (by rfl) E0S.out (Kd.C_below HT.out (belS (Below.refl _ _))) (fun _ _ h => h) (fun _ h => h.elim) (fun _ _ => trivial) (belS (Below.refl _ _)) (by simp; try omega) (blk16 hle0) ?_; intro v1 w1 hR1 hB1 hg1 hat1; have hS := (Kd.R_reads' (Kd.R_grown1 S1.out rfl hg1 (by simp [Value.ownBlock]))).2.2))
            | ((refine Kd.R_append_rows_step (o := { dst := some 37, op := _, type := _, pos := _, after := _, guard := _ }) (W := (w.drew.alloc (.cells #[.string (bs s)] 9)).alloc (.cells #[] 9)) (w0 := w) Kd.string w.heap.size (by first | rfl | assumption) _ _ 23 9 _ 16 (by rfl) Tryz.underlying23 info_str rfl (by decide) (by decide) (.slice (some ⟨w.heap.size + 1, 0, none⟩) 0 0) [] ((p.map bs).take i) _ i _ (fun _ => True) (fun _ => False) (by rfl) (by rfl) E1.out (Kd.C_below HT.out (belS (Below.refl _ _))) (fun _ _ h => h) (fun _ h => h.elim) (fun _ _ => trivial) (belS (Below.refl _ _)) (by simp; try omega) (blk16 hle0) ?_; intro v1 w1 hR1 hB1 hg1 hat1; have hS := (Kd.R_reads' (Kd.R_grown1 S0E.out rfl hg1 (by simp [Value.ownBlock]))).2.2))
            | ((refine Kd.R_append_rows_step (o := { dst := some 40, op := _, type := _, pos := _, after := _, guard := _ }) (W := w1.alloc (.cells #[.string (bs s)] 9)) (w0 := w) Kd.string w.heap.size (by first | rfl | assumption) _ _ 23 9 _ 16 (by rfl) Tryz.underlying23 info_str rfl (by decide) (by decide) v1 ([] ++ (p.map bs).take i) [bs s] (some ⟨w1.heap.size, 0, none⟩) 1 1 (fun _ => True) (fun _ => False) (by rfl) (by rfl) (Kd.R_alloc hR1 _) (lit_C [bs s] w1 (by simp)) (fun _ _ h => h) (fun _ h => h.elim) (fun _ _ => trivial) (below_alloc hB1 _) (Nat.le_trans hB1.size (by simp)) (blk16 (Nat.succ_le_succ hle)) ?_; intro v2 w2 hR2 hB2 hg2 hat2))
            | ((refine Kd.R_append_rows_step (o := { dst := some 40, op := _, type := _, pos := _, after := _, guard := _ }) (W := w1) (w0 := w) Kd.string w.heap.size (by first | rfl | assumption) _ _ 23 9 _ 16 (by rfl) Tryz.underlying23 info_str rfl (by decide) (by decide) v1 ([] ++ (p.map bs).take i) [bs s] _ 1 1 (fun _ => True) (fun _ => False) (by rfl) (by rfl) hR1 hS (fun _ _ h => h) (fun _ h => h.elim) (fun _ _ => trivial) hB1 hB1.size (blk16 (Nat.succ_le_succ hle)) ?_; intro v2 w2 hR2 hB2 hg2 hat2))
            | ((refine Kd.R_append_rows_step (o := { dst := some 44, op := _, type := _, pos := _, after := _, guard := _ }) (W := w2) (w0 := w) Kd.string w.heap.size (by first | rfl | assumption) _ _ 23 9 _ 16 (by rfl) Tryz.underlying23 info_str rfl (by decide) (by decide) v2 ([] ++ (p.map bs).take i ++ [bs s]) [] _ (p.length - i) _ (fun _ => True) (fun _ => False) (by rfl) (by rfl) hR2 (C_none _ _ _ (by omega)) (fun _ _ h => h) (fun _ h => h.elim) (fun _ _ => trivial) hB2 hB2.size (blk16 hle3) ?_; intro v3 w3 hR3 hB3 hg3 hat3)))
        all_goals
          rw [Hf.out] at hR3
          obtain ⟨A', c', rfl, hfinal⟩ := RdS.of_R hR3
          go_wp2
          go_ret
          exact ⟨A', c', rfl, hfinal, hB3⟩
      · by_cases hci : c = i
        all_goals
          go_wp2
          have HT := Aside0.mk (C_take (i := i) HR.out.1 hi)
          have hle0 : ([] : List ByteArray).length + i ≤ 1048577 := by simp; omega
          have hle : ([] ++ (p.map bs).take i).length ≤ 1048576 := by simp; omega
          have hle3 : ([] ++ (p.map bs).take i ++ [bs s]).length + (p.length - i) ≤ 1048577 := by simp; omega
          have hfin : [] ++ (p.map bs).take i ++ [bs s] ++ [] = (putS p s).map bs := by rw [HE.out, List.drop_eq_nil_of_le (by omega)]; simp [List.map_take, putS]
          have Hf := Aside0.mk hfin
          clear hfin
          have hsz : w.drew.heap.size = w.heap.size := World.size_drew w
          have E0 : Aside0 (Kd.string.R 9 (w.drew.alloc (.cells #[] 9)) w.heap.size (fun _ => True) (.slice (some ⟨w.heap.size, 0, none⟩) 0 0) []) := ⟨by have := lit_R [] w.drew w.heap.size (fun _ => True) (Nat.le_of_eq hsz.symm) (by simp) trivial; rwa [hsz] at this⟩
          have S0 : Aside0 (Kd.string.R 9 (w.drew.alloc (.cells #[.string (bs s)] 9)) w.heap.size (fun _ => True) (.slice (some ⟨w.heap.size, 0, none⟩) 1 1) [bs s]) := ⟨by have := lit_R [bs s] w.drew w.heap.size (fun _ => True) (Nat.le_of_eq hsz.symm) (by simp) trivial; rwa [hsz] at this⟩
          have S1 : Aside0 (Kd.string.R 9 ((w.drew.alloc (.cells #[] 9)).alloc (.cells #[.string (bs s)] 9)) w.heap.size (fun _ => True) (.slice (some ⟨w.heap.size + 1, 0, none⟩) 1 1) [bs s]) := ⟨by have := lit_R [bs s] (w.drew.alloc (.cells #[] 9)) w.heap.size (fun _ => True) (by simp) (by simp) trivial; rwa [World.size_alloc, hsz] at this⟩
          have E1 : Aside0 (Kd.string.R 9 ((w.drew.alloc (.cells #[.string (bs s)] 9)).alloc (.cells #[] 9)) w.heap.size (fun _ => True) (.slice (some ⟨w.heap.size + 1, 0, none⟩) 0 0) []) := ⟨by have := lit_R [] (w.drew.alloc (.cells #[.string (bs s)] 9)) w.heap.size (fun _ => True) (by simp) (by simp) trivial; rwa [World.size_alloc, hsz] at this⟩
          have E0S := Aside0.mk (Kd.R_alloc E0.out (.cells #[.string (bs s)] 9))
          have S0E := Aside0.mk (Kd.R_alloc S0.out (.cells #[] 9))
          clear hsz
          go_region_held3 (fun w' => True) (trivial)
            (first
              | ((refine Kd.R_append_rows_step (o := { dst := some 37, op := _, type := _, pos := _, after := _, guard := _ }) (W := w.drew.alloc (.cells #[] 9)) (w0 := w) Kd.string w.heap.size (by first | rfl | assumption) _ _ 23 9 _ 16 (by rfl) Tryz.underlying23 info_str rfl (by decide) (by decide) (.slice (some ⟨w.heap.size, 0, none⟩) 0 0) [] ((p.map bs).take i) _ i _ (fun _ => True) (fun _ => False) (by rfl) (by rfl) E0.out (Kd.C_below HT.out (belS (Below.refl _ _))) (fun _ _ h => h) (fun _ h => h.elim) (fun _ _ => trivial) (belS (Below.refl _ _)) (by simp; try omega) (blk16 hle0) ?_; intro v1 w1 hR1 hB1 hg1 hat1))
              | ((refine Kd.R_append_rows_step (o := { dst := some 37, op := _, type := _, pos := _, after := _, guard := _ }) (W := (w.drew.alloc (.cells #[] 9)).alloc (.cells #[.string (bs s)] 9)) (w0 := w) Kd.string w.heap.size (by first | rfl | assumption) _ _ 23 9 _ 16 (by rfl) Tryz.underlying23 info_str rfl (by decide) (by decide) (.slice (some ⟨w.heap.size, 0, none⟩) 0 0) [] ((p.map bs).take i) _ i _ (fun _ => True) (fun _ => False) (by rfl) (by rfl) E0S.out (Kd.C_below HT.out (belS (Below.refl _ _))) (fun _ _ h => h) (fun _ h => h.elim) (fun _ _ => trivial) (belS (Below.refl _ _)) (by simp; try omega) (blk16 hle0) ?_; intro v1 w1 hR1 hB1 hg1 hat1; have hS := (Kd.R_reads' (Kd.R_grown1 S1.out rfl hg1 (by simp [Value.ownBlock]))).2.2))
              | ((refine Kd.R_append_rows_step (o := { dst := some 37, op := _, type := _, pos := _, after := _, guard := _ }) (W := (w.drew.alloc (.cells #[.string (bs s)] 9)).alloc (.cells #[] 9)) (w0 := w) Kd.string w.heap.size (by first | rfl | assumption) _ _ 23 9 _ 16 (by rfl) Tryz.underlying23 info_str rfl (by decide) (by decide) (.slice (some ⟨w.heap.size + 1, 0, none⟩) 0 0) [] ((p.map bs).take i) _ i _ (fun _ => True) (fun _ => False) (by rfl) (by rfl) E1.out (Kd.C_below HT.out (belS (Below.refl _ _))) (fun _ _ h => h) (fun _ h => h.elim) (fun _ _ => trivial) (belS (Below.refl _ _)) (by simp; try omega) (blk16 hle0) ?_; intro v1 w1 hR1 hB1 hg1 hat1; have hS := (Kd.R_reads' (Kd.R_grown1 S0E.out rfl hg1 (by simp [Value.ownBlock]))).2.2))
              | ((refine Kd.R_append_rows_step (o := { dst := some 40, op := _, type := _, pos := _, after := _, guard := _ }) (W := w1.alloc (.cells #[.string (bs s)] 9)) (w0 := w) Kd.string w.heap.size (by first | rfl | assumption) _ _ 23 9 _ 16 (by rfl) Tryz.underlying23 info_str rfl (by decide) (by decide) v1 ([] ++ (p.map bs).take i) [bs s] (some ⟨w1.heap.size, 0, none⟩) 1 1 (fun _ => True) (fun _ => False) (by rfl) (by rfl) (Kd.R_alloc hR1 _) (lit_C [bs s] w1 (by simp)) (fun _ _ h => h) (fun _ h => h.elim) (fun _ _ => trivial) (below_alloc hB1 _) (Nat.le_trans hB1.size (by simp)) (blk16 (Nat.succ_le_succ hle)) ?_; intro v2 w2 hR2 hB2 hg2 hat2))
              | ((refine Kd.R_append_rows_step (o := { dst := some 40, op := _, type := _, pos := _, after := _, guard := _ }) (W := w1) (w0 := w) Kd.string w.heap.size (by first | rfl | assumption) _ _ 23 9 _ 16 (by rfl) Tryz.underlying23 info_str rfl (by decide) (by decide) v1 ([] ++ (p.map bs).take i) [bs s] _ 1 1 (fun _ => True) (fun _ => False) (by rfl) (by rfl) hR1 hS (fun _ _ h => h) (fun _ h => h.elim) (fun _ _ => trivial) hB1 hB1.size (blk16 (Nat.succ_le_succ hle)) ?_; intro v2 w2 hR2 hB2 hg2 hat2))
              | ((refine Kd.R_append_rows_step (o := { dst := some 44, op := _, type := _, pos := _, after := _, guard := _ }) (W := w2) (w0 := w) Kd.string w.heap.size (by first | rfl | assumption) _ _ 23 9 _ 16 (by rfl) Tryz.underlying23 info_str rfl (by decide) (by decide) v2 ([] ++ (p.map bs).take i ++ [bs s]) [] _ (p.length - i) _ (fun _ => True) (fun _ => False) (by rfl) (by rfl) hR2 (C_none _ _ _ (by omega)) (fun _ _ h => h) (fun _ h => h.elim) (fun _ _ => trivial) hB2 hB2.size (blk16 hle3) ?_; intro v3 w3 hR3 hB3 hg3 hat3)))
          all_goals
            rw [Hf.out] at hR3
            obtain ⟨A', c', rfl, hfinal⟩ := RdS.of_R hR3
            go_wp2
            go_ret
            exact ⟨A', c', rfl, hfinal, hB3⟩
end Go.Proofs.YtniibpndgcndbaaGreatDoor.Tpl
namespace Go.Proofs.YtniibpndgcndbaaGreatDoor.Tpl
open Go.RowKit Go.Proofs Go.Proofs.YtniibpndgcndbaaGreatDoor.PB Go.Proofs.YtniibpndgcndbaaGreatDoor.Short Go.Proofs.YtniibpndgcndbaaGreatDoorW.PrintWords Go.Proofs.YtniibpndgcndbaaGreatDoorW.PrintLast Go.Proofs.YtniibpndgcndbaaGreatDoorW.PrintMore Nodes
attribute [local go_sem ↓] Go.wp_at_zero Go.wp_at_succ
def addR (out : List S) (p : List S) : List S := match rootOf p with | none => out | some s => putS out s
theorem rootsR_cons (out : List S) (k : Nat) (t : S) (p : List S) (a b r : Nodes) : rootsR out (cons k t p a b r) = rootsR (rootsR (rootsR (addR out p) a) b) r := rfl
theorem addR_len (out p : List S) : (addR out p).length ≤ out.length + 1 := by
  unfold addR
  cases rootOf p with
  | none => simp
  | some s => exact putS_len _ _
theorem rootsR_len (l : Nodes) : ∀ out, (rootsR out l).length ≤ out.length + l.cnt := by
  induction l with
  | nil => intro out; simp [rootsR]
  | cons k t p a b r iha ihb ihr =>
    intro out
    rw [rootsR_cons]
    have h := addR_len out p
    have h1 := iha (addR out p)
    have h2 := ihb (rootsR (addR out p) a)
    have h3 := ihr (rootsR (rootsR (addR out p) a) b)
    simp only [cnt]; omega
theorem first_cell {w : World} {A : Option Addr} {s : S} {p : List S} (h : Kd.string.C w A (s :: p).length ((s :: p).map bs)) : ∃ b off, A = some ⟨b, off, none⟩ ∧ w.cell? ⟨b, off, none⟩ = some (.string (bs s)) := by
  obtain ⟨b, off, e, hc⟩ := row_form (p := (s :: p).map bs) (by simpa using h) (by simp)
  exact ⟨b, off, e, by have := hc 0 (by simp); simpa using this⟩
theorem roots_bnd {x o1 ca cb cr m l : Nat} (h : x + (1 + ca + cb + cr) ≤ 1048576) (h1 : o1 ≤ x + 1) (hm : 1 + ca + cb + cr ≤ l) (hl : l ≤ m + 1) : o1 ≤ 1048576 ∧ x ≤ 1048576 ∧ ca ≤ m ∧ cb ≤ m ∧ o1 + ca ≤ 1048576 ∧ ∀ y z, y ≤ o1 + ca → z ≤ y + cb → y + cb ≤ 1048576 ∧ z + cr ≤ 1048576 := by
  refine ⟨by omega, by omega, by omega, by omega, by omega, fun y z hy hz => ⟨by omega, by omega⟩⟩
set_option maxHeartbeats 4000000 in
set_option maxRecDepth 100000 in
theorem rroots_any (w0 : World) (m : Nat) : ∀ (l : Nodes) (A : Option Addr) (c : Nat) (Ao : Option Addr) (co : Nat) (out : List S) (w : World), l.cnt ≤ m → l.sm → Rd w0 A c l → l.len ≤ 1048576 → out.length + l.cnt ≤ 1048576 → Below w0.heap.size w0 w → RdS w Ao co out →
    Calls Tryz.prog 43 #[.slice Ao out.length co, .slice A l.len c] w fun e w' => ∃ A' c', e = .returned (.slice A' (rootsR out l).length c') ∧ RdS w' A' c' (rootsR out l) ∧ Below w.heap.size w w' := by
  induction m with
  | zero =>
    intro l A c Ao co out w hm
    cases l with
    | cons => simp [cnt] at hm
    | nil =>
      intro _ _ _ _ _ hO
      have HO := Aside0.mk hO
      clear hO
      go_enter Tryz.func43, Tryz.ntmps43
      go_wp2
      refine wp_loop_rounds 1 ?_
      rw [rounds_succ]
      go_wp2
      go_ret
      exact ⟨_, _, rfl, HO.out, Below.refl _ _⟩
  | succ m ih =>
    intro l A c Ao co out w hm hs hR hll hx hB hO
    have HR := Aside0.mk hR
    have HS := Aside0.mk hs
    have HB := Aside0.mk hB
    have HM := Aside0.mk hm
    have HX := Aside0.mk hx
    have HO := Aside0.mk hO
    clear hR hs hB hm hx hO
    go_enter Tryz.func43, Tryz.ntmps43
    go_wp2
    go_loopw [0, 9] (fun v0 v9 wr => ∃ (i : Nat) (o : List S) (Ai : Option Addr) (ci : Nat), v9 = .int .i64 i ∧ v0 = .slice Ai o.length ci ∧ i ≤ l.len ∧ Aside0 (rootsR out l = rootsR o (l.drop i)) ∧ Aside0 (o.length + (l.drop i).cnt ≤ 1048576) ∧ Aside0 (RdS wr Ai ci o) ∧ Aside0 (Below w.heap.size w wr))
      (fun _ v _ => l.len - (intOf v).toNat)
    case atStart => exact ⟨0, out, Ao, co, rfl, rfl, Nat.zero_le _, by rw [drop_zero]; exact ⟨rfl⟩, by rw [drop_zero]; exact HX, HO, ⟨Below.refl _ _⟩⟩
    case round =>
      clear HO HX
      obtain ⟨i, o, Ai, ci, rfl, rfl, hi, HE, HX, HO, HK⟩ := hrel
      cases hd : l.drop i with
      | nil =>
        have h1 := drop_nil hd
        obtain rfl : i = l.len := by omega
        rw [hd] at HE
        clear hd
        go_wp2
        go_ret
        rw [HE.out]
        exact ⟨_, _, rfl, HO.out, HK.out⟩
      | cons k t p a b r =>
        obtain ⟨h1, h2, _⟩ := drop_step hd
        have HBr := Aside0.mk (HB.out.trans (HK.out.mono HB.out.size))
        obtain ⟨ad, A2, c2, A3, c3, A4, c4, rfl, y0, y1, y2, y3, y4, i2, l2, R3, R4⟩ := HR.out.at hd
        replace y0 := (HBr.out.cell (World.block_lt_of_cell? _ _ y0)).trans y0
        replace y1 := (HBr.out.cell (World.block_lt_of_cell? _ _ y1)).trans y1
        replace y2 := (HBr.out.cell (World.block_lt_of_cell? _ _ y2)).trans y2
        replace y3 := (HBr.out.cell (World.block_lt_of_cell? _ _ y3)).trans y3
        replace y4 := (HBr.out.cell (World.block_lt_of_cell? _ _ y4)).trans y4
        obtain ⟨s1, s2, s3, s4, s5, s6, s7, s8, s9⟩ : (cons k t p a b r).sm := hd ▸ sm_drop HS.out i
        have HE' : rootsR out l = rootsR o (cons k t p a b r) := hd ▸ HE.out
        have HX' : o.length + (1 + a.cnt + b.cnt + r.cnt) ≤ 1048576 := by have h := HX.out; rw [hd] at h; simpa [cnt] using h
        have hcnt : 1 + a.cnt + b.cnt + r.cnt ≤ l.cnt := by have h := cnt_drop l i; rw [hd] at h; simpa [cnt] using h
        have hml := HM.out
        have HD := Aside0.mk hd
        have HS4 := Aside0.mk s4
        clear hd HE HX s4
        obtain ⟨o1, ho1⟩ : ∃ o1, addR o p = o1 := ⟨_, rfl⟩
        have hl1 : o1.length ≤ o.length + 1 := ho1 ▸ addR_len o p
        have hbnd := roots_bnd HX' hl1 hcnt hml
        have HBND := Aside0.mk hbnd
        have HE2 : Aside0 (rootsR out l = rootsR (rootsR (rootsR o1 a) b) r) := ⟨by rw [HE', rootsR_cons, ho1]⟩
        clear HX' hl1 hcnt hml hbnd HE'
        have HI2 := Aside0.mk (Kd.C_below i2 HBr.out)
        clear i2
        rcases p with _ | ⟨s0, p⟩
        · have ho1 : o = o1 := ho1
          obtain rfl := ho1
          go_wp2_with fail
          obtain ⟨g, hg⟩ : ∃ g, wr.heap.size = g := ⟨_, rfl⟩
          have BK := Aside0.mk (blk_new wr (.cells #[.int .u8 k, .string (bs t), .slice A2 0 c2, .slice A3 a.len c3, .slice A4 b.len c4] 37))
          have HBW := Aside0.mk (below_alloc HK.out (.cells #[.int .u8 k, .string (bs t), .slice A2 0 c2, .slice A3 a.len c3, .slice A4 b.len c4] 37))
          have HOW := Aside0.mk (HO.out.below (below_alloc (Below.refl wr.heap.size wr) (.cells #[.int .u8 k, .string (bs t), .slice A2 0 c2, .slice A3 a.len c3, .slice A4 b.len c4] 37)))
          generalize wr.alloc (.cells #[.int .u8 k, .string (bs t), .slice A2 0 c2, .slice A3 a.len c3, .slice A4 b.len c4] 37) = W at BK HBW HOW ⊢
          rw [hg] at BK ⊢
          clear HO HBr y0 y1 y2 y3 y4
          have HBW0 := Aside0.mk (HB.out.trans (HBW.out.mono HB.out.size))
          obtain ⟨m0, m1, m2, m3, m4, n0, n1, n2, n3, n4⟩ := cells_5 BK.out
          have hl5 := rootsR_len a o
          have hl6 := rootsR_len b (rootsR o a)
          have hb56 := HBND.out.2.2.2.2.2 _ _ hl5 hl6
          have HB56 := Aside0.mk hb56
          clear hl5 hl6 hb56
          go_region_held3 (fun w' => w'.cell? ⟨g, 3, none⟩ = some (.slice A3 a.len c3) ∧ w'.cell? ⟨g, 4, none⟩ = some (.slice A4 b.len c4))
            (first
              | go_keep
              | (have q := cells_5 (blk_below (w := W.drew) BK.out hb1); exact ⟨q.2.2.2.1, q.2.2.2.2.1⟩)
              | (have q := cells_5 (blk_below (blk_below (w := W.drew) BK.out hb1) hb2); exact ⟨q.2.2.2.1, q.2.2.2.2.1⟩))
            (first
              | ((go_at_call 43; with_reducible refine (ih a A3 c3 Ai ci o _ HBND.out.2.2.1 s7 R3 s5 HBND.out.2.2.2.2.1 (below_drew1 HBW0.out) (HOW.out.below (below_drew1 (Below.refl _ _)))).mono ?_; rintro e w1 ⟨A5, c5, rfl, hO5, hb1⟩))
              | ((go_at_call 43; with_reducible refine (ih b A4 c4 A5 c5 (rootsR o a) _ HBND.out.2.2.2.1 s8 R4 s6 HB56.out.1 (below_step (below_drew1 HBW0.out) hb1) hO5).mono ?_; rintro e w2 ⟨A6, c6, rfl, hO6, hb2⟩)))
          have HB2 := Aside0.mk (below_step (below_step (below_drew1 HBW.out) hb1) hb2)
          have HO6 := Aside0.mk hO6
          clear hb1 hb2 hO5 hO6 m0 m1 m2 m3 m4 n0 n1 n2 n3 n4
          go_wp2
          go_roundw
          case rel => exact ⟨i + 1, _, A6, c6, by simp, rfl, by omega, ⟨by rw [HE2.out, h2]⟩, ⟨by rw [h2]; exact HB56.out.2⟩, HO6, HB2⟩
          case measure => simp [intOf]; omega
        · obtain ⟨bp, offp, rfl, hcp⟩ := first_cell HI2.out
          have hlp : (0 : Int) < (((s0 :: p).length : Nat) : Int) := by simp
          have hln : 0 < (s0 :: p).length := by simp
          replace hcp := pw_cell_below (below_alloc (Below.refl wr.heap.size wr) (.cells #[.int .u8 k, .string (bs t), .slice (some ⟨bp, offp, none⟩) (s0 :: p).length c2, .slice A3 a.len c3, .slice A4 b.len c4] 37)) hcp
          by_cases c : s0 = thisS
          · have ho1 : o = o1 := by rw [← ho1]; unfold addR rootOf; simp [c]
            obtain rfl := ho1
            have hne : ((bs s0).toList == [116, 104, 105, 115]) = true := by rw [bs_list, c]; rfl
            clear c
            generalize hn : (s0 :: p).length = n at *
            go_wp2_with fail
            obtain ⟨g, hg⟩ : ∃ g, wr.heap.size = g := ⟨_, rfl⟩
            have BK := Aside0.mk (blk_new wr (.cells #[.int .u8 k, .string (bs t), .slice (some ⟨bp, offp, none⟩) n c2, .slice A3 a.len c3, .slice A4 b.len c4] 37))
            have HBW := Aside0.mk (below_alloc HK.out (.cells #[.int .u8 k, .string (bs t), .slice (some ⟨bp, offp, none⟩) n c2, .slice A3 a.len c3, .slice A4 b.len c4] 37))
            have HOW := Aside0.mk (HO.out.below (below_alloc (Below.refl wr.heap.size wr) (.cells #[.int .u8 k, .string (bs t), .slice (some ⟨bp, offp, none⟩) n c2, .slice A3 a.len c3, .slice A4 b.len c4] 37)))
            generalize wr.alloc (.cells #[.int .u8 k, .string (bs t), .slice (some ⟨bp, offp, none⟩) n c2, .slice A3 a.len c3, .slice A4 b.len c4] 37) = W at BK HBW HOW ⊢
            rw [hg] at BK ⊢
            clear HO HBr y0 y1 y2 y3 y4 hcp hne
            have HBW0 := Aside0.mk (HB.out.trans (HBW.out.mono HB.out.size))
            obtain ⟨m0, m1, m2, m3, m4, n0, n1, n2, n3, n4⟩ := cells_5 BK.out
            have hl5 := rootsR_len a o
            have hl6 := rootsR_len b (rootsR o a)
            have hb56 := HBND.out.2.2.2.2.2 _ _ hl5 hl6
            have HB56 := Aside0.mk hb56
            clear hl5 hl6 hb56
            go_region_held3 (fun w' => w'.cell? ⟨g, 3, none⟩ = some (.slice A3 a.len c3) ∧ w'.cell? ⟨g, 4, none⟩ = some (.slice A4 b.len c4))
              (first
                | go_keep
                | (have q := cells_5 (blk_below (w := W.drew) BK.out hb1); exact ⟨q.2.2.2.1, q.2.2.2.2.1⟩)
                | (have q := cells_5 (blk_below (blk_below (w := W.drew) BK.out hb1) hb2); exact ⟨q.2.2.2.1, q.2.2.2.2.1⟩))
              (first
                | ((go_at_call 43; with_reducible refine (ih a A3 c3 Ai ci o _ HBND.out.2.2.1 s7 R3 s5 HBND.out.2.2.2.2.1 (below_drew1 HBW0.out) (HOW.out.below (below_drew1 (Below.refl _ _)))).mono ?_; rintro e w1 ⟨A5, c5, rfl, hO5, hb1⟩))
                | ((go_at_call 43; with_reducible refine (ih b A4 c4 A5 c5 (rootsR o a) _ HBND.out.2.2.2.1 s8 R4 s6 HB56.out.1 (below_step (below_drew1 HBW0.out) hb1) hO5).mono ?_; rintro e w2 ⟨A6, c6, rfl, hO6, hb2⟩)))
            have HB2 := Aside0.mk (below_step (below_step (below_drew1 HBW.out) hb1) hb2)
            have HO6 := Aside0.mk hO6
            clear hb1 hb2 hO5 hO6 m0 m1 m2 m3 m4 n0 n1 n2 n3 n4
            go_wp2
            go_roundw
            case rel => exact ⟨i + 1, _, A6, c6, by simp, rfl, by omega, ⟨by rw [HE2.out, h2]⟩, ⟨by rw [h2]; exact HB56.out.2⟩, HO6, HB2⟩
            case measure => simp [intOf]; omega
          · have ho1 : putS o s0 = o1 := by rw [← ho1]; unfold addR rootOf; simp [c]
            have hne : ((bs s0).toList == [116, 104, 105, 115]) = false := by rw [bs_list, beq_eq_false_iff_ne]; exact c
            clear c
            generalize hn : (s0 :: p).length = n at *
            go_wp2_with fail
            obtain ⟨g, hg⟩ : ∃ g, wr.heap.size = g := ⟨_, rfl⟩
            have BK := Aside0.mk (blk_new wr (.cells #[.int .u8 k, .string (bs t), .slice (some ⟨bp, offp, none⟩) n c2, .slice A3 a.len c3, .slice A4 b.len c4] 37))
            have HBW := Aside0.mk (below_alloc HK.out (.cells #[.int .u8 k, .string (bs t), .slice (some ⟨bp, offp, none⟩) n c2, .slice A3 a.len c3, .slice A4 b.len c4] 37))
            have HOW := Aside0.mk (HO.out.below (below_alloc (Below.refl wr.heap.size wr) (.cells #[.int .u8 k, .string (bs t), .slice (some ⟨bp, offp, none⟩) n c2, .slice A3 a.len c3, .slice A4 b.len c4] 37)))
            generalize wr.alloc (.cells #[.int .u8 k, .string (bs t), .slice (some ⟨bp, offp, none⟩) n c2, .slice A3 a.len c3, .slice A4 b.len c4] 37) = W0 at BK HBW HOW ⊢
            rw [hg] at BK ⊢
            clear HO HBr y0 y1 y2 y3 y4 hcp hne
            refine (rput_any Ai ci o s0 W0 HOW.out HBND.out.2.1).mono ?_
            rintro e W ⟨A1, c1, rfl, hO1, hb0⟩
            rw [ho1] at hO1 ⊢
            replace BK := Aside0.mk (blk_below BK.out hb0)
            replace HBW := Aside0.mk (below_step HBW.out hb0)
            replace HOW := Aside0.mk hO1
            clear hb0 hO1 ho1
            obtain ⟨m0, m1, m2, m3, m4, n0, n1, n2, n3, n4⟩ := cells_5 BK.out
            go_wp2_with fail
            clear m0 m1 m2 m3 m4 n0 n1 n2 n3 n4
            have HBW0 := Aside0.mk (HB.out.trans (HBW.out.mono HB.out.size))
            obtain ⟨m0, m1, m2, m3, m4, n0, n1, n2, n3, n4⟩ := cells_5 BK.out
            have hl5 := rootsR_len a o1
            have hl6 := rootsR_len b (rootsR o1 a)
            have hb56 := HBND.out.2.2.2.2.2 _ _ hl5 hl6
            have HB56 := Aside0.mk hb56
            clear hl5 hl6 hb56
            go_region_held3 (fun w' => w'.cell? ⟨g, 3, none⟩ = some (.slice A3 a.len c3) ∧ w'.cell? ⟨g, 4, none⟩ = some (.slice A4 b.len c4))
              (first
                | go_keep
                | (have q := cells_5 (blk_below (w := W.drew) BK.out hb1); exact ⟨q.2.2.2.1, q.2.2.2.2.1⟩)
                | (have q := cells_5 (blk_below (blk_below (w := W.drew) BK.out hb1) hb2); exact ⟨q.2.2.2.1, q.2.2.2.2.1⟩))
              (first
                | ((go_at_call 43; with_reducible refine (ih a A3 c3 A1 c1 o1 _ HBND.out.2.2.1 s7 R3 s5 HBND.out.2.2.2.2.1 (below_drew1 HBW0.out) (HOW.out.below (below_drew1 (Below.refl _ _)))).mono ?_; rintro e w1 ⟨A5, c5, rfl, hO5, hb1⟩))
                | ((go_at_call 43; with_reducible refine (ih b A4 c4 A5 c5 (rootsR o1 a) _ HBND.out.2.2.2.1 s8 R4 s6 HB56.out.1 (below_step (below_drew1 HBW0.out) hb1) hO5).mono ?_; rintro e w2 ⟨A6, c6, rfl, hO6, hb2⟩)))
            have HB2 := Aside0.mk (below_step (below_step (below_drew1 HBW.out) hb1) hb2)
            have HO6 := Aside0.mk hO6
            clear hb1 hb2 hO5 hO6 m0 m1 m2 m3 m4 n0 n1 n2 n3 n4
            go_wp2
            go_roundw
            case rel => exact ⟨i + 1, _, A6, c6, by simp, rfl, by omega, ⟨by rw [HE2.out, h2]⟩, ⟨by rw [h2]; exact HB56.out.2⟩, HO6, HB2⟩
            case measure => simp [intOf]; omega
end Go.Proofs.YtniibpndgcndbaaGreatDoor.Tpl
namespace Go.Proofs.YtniibpndgcndbaaGreatDoor.Tpl
open Go.RowKit Go.Proofs Go.Proofs.YtniibpndgcndbaaGreatDoor.PB Go.Proofs.YtniibpndgcndbaaGreatDoor.Short Go.Proofs.YtniibpndgcndbaaGreatDoorW.PrintWords Go.Proofs.YtniibpndgcndbaaGreatDoorW.PrintLast Go.Proofs.YtniibpndgcndbaaGreatDoorW.PrintMore Nodes
def rootsOf (l : Nodes) : List S := if l.chk = true then rootsP l else []
theorem rootsOf_len (l : Nodes) : (rootsOf l).length ≤ l.cnt := by
  unfold rootsOf
  split
  · rw [← rootsR_eq]; have := rootsR_len l []; simpa using this
  · simp
theorem roots2_any (l : Nodes) (A : Option Addr) (c : Nat) (w : World) (hG : Glob w) (hs : l.sm) (hR : Rd w A c l) (hl : l.len ≤ 1048576) (hc : l.cnt ≤ 1048576) :
    Calls Tryz.prog 12 #[.slice A l.len c] w fun e w' => ∃ A2 c2, e = .returned (.tuple #[.slice A2 (rootsOf l).length c2, .int .i64 (if l.chk = true then 0 else 2)]) ∧ RdS w' A2 c2 (rootsOf l) ∧ Below w.heap.size w w' := by
  refine (roots_any l A c w hG hs hR hl hc).mono ?_
  rintro e w' ⟨A2, c2, n, rfl, h1, h2, hb⟩
  unfold rootsOf
  cases h : l.chk with
  | true =>
    obtain ⟨rfl, h3, h4⟩ := h1 h
    exact ⟨A2, c2, rfl, ⟨h3, h4⟩, hb⟩
  | false =>
    obtain rfl := h2 h
    exact ⟨A2, c2, rfl, ⟨C_none _ _ _ rfl, Nat.zero_le _⟩, hb⟩
theorem check11_any (l : Nodes) (A : Option Addr) (c : Nat) (w : World) (hs : l.sm) (hR : Rd w A c l) (hc : l.cnt ≤ 1048576) :
    Calls Tryz.prog 42 #[.slice A l.len c] w fun e w' => e = .returned (.int .i64 (if l.chk = true then 0 else 2)) ∧ Below w.heap.size w w' := by
  obtain ⟨k, hk⟩ := (check11_ev l hs hc).rounds
  have q := bellmanref11_Check.calls k A c l.of _ w (by rw [of_len]; exact hR.1) (by rw [of_len]; exact hR.2) hk
  rw [of_len] at q
  exact q
set_option maxRecDepth 100000 in
theorem rroots2_any (l : Nodes) (A : Option Addr) (c : Nat) (w : World) (hs : l.sm) (hR : Rd w A c l) (hl : l.len ≤ 1048576) (hc : l.cnt ≤ 1048576) :
    Calls Tryz.prog 13 #[.slice A l.len c] w fun e w' => ∃ A2 c2, e = .returned (.tuple #[.slice A2 (rootsOf l).length c2, .int .i64 (if l.chk = true then 0 else 2)]) ∧ RdS w' A2 c2 (rootsOf l) ∧ Below w.heap.size w w' := by
  have h := check11_any l A c w hs hR hc
  have HR := Aside0.mk hR
  have HS := Aside0.mk hs
  clear hR hs
  unfold rootsOf
  cases hch : l.chk with
  | false =>
    rw [hch] at h
    simp only [Bool.false_eq_true, if_false]
    clear hch
    go_enter Tryz.func13, Tryz.ntmps13
    go_wp2_with fail
    refine h.mono ?_
    rintro e w1 ⟨rfl, hb⟩
    have HB := Aside0.mk hb
    clear hb
    go_wp2
    go_ret2
    exact ⟨_, _, rfl, ⟨C_none _ _ _ rfl, Nat.zero_le _⟩, HB.out⟩
  | true =>
    rw [hch] at h
    simp only [if_true]
    clear hch
    go_enter Tryz.func13, Tryz.ntmps13
    go_wp2_with fail
    refine h.mono ?_
    rintro e w1 ⟨rfl, hb⟩
    have HB := Aside0.mk hb
    clear hb
    go_wp2_with fail
    refine (rroots_any w l.cnt l A c none 0 [] w1 (Nat.le_refl _) HS.out HR.out hl (by simpa using hc) HB.out ⟨C_none _ _ _ rfl, Nat.zero_le _⟩).mono ?_
    rintro e w2 ⟨A2, c2, rfl, hO, hb2⟩
    rw [rootsR_eq] at hO ⊢
    have HB2 := Aside0.mk (below_step HB.out hb2)
    have HO := Aside0.mk hO
    clear hO hb2
    go_wp2
    go_ret2
    exact ⟨_, _, rfl, HO.out, HB2.out⟩
theorem cont_snoc (p : List S) (s : S) (j : Nat) (h : j < p.length) : (p.take (j + 1)).contains s = ((p.take j).contains s || p.getD j [] == s) := by
  have e : p.getD j [] = p[j] := by simp [List.getD, h]
  rw [List.take_succ_eq_append_getElem h, e]
  rw [Bool.eq_iff_iff]
  simp only [List.contains_eq_mem, List.mem_append, List.mem_singleton, Bool.or_eq_true, decide_eq_true_eq, beq_iff_eq]
  constructor <;> rintro (h | h) <;> simp [h]
theorem all_snoc (p : List S) (f : S → Bool) (j : Nat) (h : j < p.length) : (p.take (j + 1)).all f = ((p.take j).all f && f (p.getD j [])) := by
  have e : p.getD j [] = p[j] := by simp [List.getD, h]
  rw [List.take_succ_eq_append_getElem h, e, List.all_append]; simp
theorem all_stop (p : List S) (f : S → Bool) (j : Nat) (h : j < p.length) (hf : f (p.getD j []) = false) : p.all f = false := by
  rw [← Bool.not_eq_true, List.all_eq_true]
  intro h2
  have := h2 (p.getD j []) (by have e : p.getD j [] = p[j] := by simp [List.getD, h]
                               rw [e]; exact List.getElem_mem h)
  rw [hf] at this; cases this
theorem cellS {w : World} {A : Option Addr} {c : Nat} {p : List S} (hR : RdS w A c p) (i : Nat) (hi : i < p.length) : ∃ b off, A = some ⟨b, off, none⟩ ∧ w.cell? ⟨b, off + i, none⟩ = some (.string (bs (p.getD i []))) := by
  obtain ⟨b, off, e, hc⟩ := row_form (p := p.map bs) (by simpa using hR.1) (by simp; omega)
  refine ⟨b, off, e, ?_⟩
  rw [hc i (by simpa using hi)]
  simp [List.getD, hi]
set_option maxRecDepth 100000 in
set_option maxHeartbeats 2000000 in
theorem ronly_any (l : Nodes) (A : Option Addr) (c : Nat) (An : Option Addr) (cn : Nat) (names : List S) (w : World) (hs : l.sm) (hR : Rd w A c l) (hl : l.len ≤ 1048576) (hc : l.cnt ≤ 1048576) (hRn : RdS w An cn names) (hn : names.length ≤ 1048576) :
    Calls Tryz.prog 23 #[.slice A l.len c, .slice An names.length cn] w fun e w' => e = .returned (.int .i64 (onlyP l names)) ∧ Below w.heap.size w w' := by
  have h := rroots2_any l A c w hs hR hl hc
  have hlen := rootsOf_len l
  have HN := Aside0.mk hRn
  clear hR hs hRn
  obtain ⟨z, hz⟩ : ∃ z, onlyP l names = z := ⟨_, rfl⟩
  rw [hz]
  unfold onlyP at hz
  unfold rootsOf at h hlen
  cases hch : l.chk with
  | false =>
    rw [hch] at h hz
    simp only [Bool.false_eq_true, if_false] at h hz
    subst hz
    clear hch
    go_enter Tryz.func23, Tryz.ntmps23
    go_wp2_with fail
    refine h.mono ?_
    rintro e w1 ⟨A2, c2, rfl, hO, hb⟩
    have HB := Aside0.mk hb
    clear hb hO
    go_wp2
    go_ret
    exact ⟨rfl, HB.out⟩
  | true =>
    rw [hch] at h hz hlen
    simp only [if_true] at h hz hlen
    clear hch
    have HZ := Aside0.mk hz
    clear hz
    generalize rootsP l = p at *
    go_enter Tryz.func23, Tryz.ntmps23
    go_wp2_with fail
    refine h.mono ?_
    rintro e w1 ⟨A2, c2, rfl, hO, hb⟩
    have HB := Aside0.mk hb
    have HO := Aside0.mk hO
    replace HN := Aside0.mk (HN.out.below hb)
    clear hb hO
    have hpl : p.length ≤ 1048576 := Nat.le_trans hlen hc
    clear h hlen
    go_wp2
    go_loop [22] (fun v => ∃ i : Nat, v = .int .i64 i ∧ i ≤ p.length ∧ Aside0 ((p.take i).all names.contains = true)) (fun v => p.length - (intOf v).toNat)
    case atStart => exact ⟨0, rfl, Nat.zero_le _, ⟨by simp⟩⟩
    case round =>
      obtain ⟨i, rfl, hi, HA⟩ := hrel
      by_cases hlt : i < p.length
      · obtain ⟨b, off, rfl, hcl⟩ := cellS HO.out i hlt
        generalize hs0 : p.getD i [] = s0 at hcl
        have HS0 := Aside0.mk hs0
        clear hs0
        go_wp2
        go_loop [9, 28] (fun v9 v => ∃ (j : Nat) (q : Bool), v = .int .i64 j ∧ j ≤ names.length ∧ v9 = .bool q ∧ Aside0 ((names.take j).contains s0 = q)) (fun _ v => names.length - (intOf v).toNat)
        case atStart => exact ⟨0, false, rfl, Nat.zero_le _, rfl, ⟨by simp⟩⟩
        case round =>
          obtain ⟨j, q, rfl, hj, rfl, HQ⟩ := hrel
          by_cases hlj : j < names.length
          · obtain ⟨b2, off2, rfl, hcl2⟩ := cellS HN.out j hlj
            have hsn := cont_snoc names s0 j hlj
            have e2 : ((bs (names.getD j [])).toList == (bs s0).toList) = (names.getD j [] == s0) := by rw [bs_list, bs_list]
            generalize names.getD j [] = s1 at hcl2 hsn e2
            generalize (s1 == s0) = t at hsn e2
            have HSN := Aside0.mk hsn
            clear hsn
            cases q
            all_goals
              go_wp2
              go_round
              case rel => exact ⟨j + 1, _, by go_num, by omega, rfl, ⟨by rw [HSN.out, HQ.out]; simp⟩⟩
              case measure => simp [intOf]; omega
          · obtain rfl : j = names.length := by omega
            have hq := HQ.out
            rw [List.take_length] at hq
            have HQ2 := Aside0.mk hq
            clear hq HQ
            cases q
            · go_wp2
              go_ret
              refine ⟨?_, HB.out⟩
              have e : (13 : Int) = z := by
                rw [← HZ.out, if_neg]
                rw [all_stop p names.contains i hlt (by rw [HS0.out]; exact HQ2.out)]
                simp
              rw [← e]; rfl
            · go_wp2
              go_round
              case rel => exact ⟨i + 1, by go_num, by omega, ⟨by rw [all_snoc p _ i hlt, HA.out, HS0.out, HQ2.out]; rfl⟩⟩
              case measure => simp [intOf]; omega
      · obtain rfl : i = p.length := by omega
        have hq := HA.out
        rw [List.take_length] at hq
        rw [if_pos hq] at HZ
        have HZ2 := HZ
        clear hq HA HZ
        go_wp2
        go_ret
        exact ⟨by rw [← HZ2.out]; rfl, HB.out⟩
end Go.Proofs.YtniibpndgcndbaaGreatDoor.Tpl
namespace Go.Proofs.YtniibpndgcndbaaGreatDoor.Tpl
open Go.RowKit Go.Proofs Go.Proofs.YtniibpndgcndbaaGreatDoor.PB Go.Proofs.YtniibpndgcndbaaGreatDoor.Short Go.Proofs.YtniibpndgcndbaaGreatDoorW.PrintWords Go.Proofs.YtniibpndgcndbaaGreatDoorW.PrintLast Go.Proofs.YtniibpndgcndbaaGreatDoorW.PrintMore Nodes
attribute [local go_sem ↓] Go.wp_at_zero Go.wp_at_succ
theorem map_bs_data (l : List ByteArray) (q : List S) (h : l.map (·.data.toList) = q) : l = q.map bs := by
  subst h
  rw [List.map_map]
  conv => lhs; rw [← List.map_id l]
  refine List.map_congr_left fun x _ => ?_
  rfl
theorem split_any (c : UInt8) (s : S) (hs : s.length ≤ 1048576) (w : World) (hG : Glob w) :
    Calls Tryz.prog 140 #[.string (bs s), .string ⟨#[c]⟩] w fun e w' => e = .returned (.slice (some ⟨w.heap.size, 0, none⟩) (splitC c s).length (splitC c s).length) ∧ w' = w.alloc (.cells (((splitC c s).map bs).map Value.string).toArray 9) := by
  obtain ⟨⟨m, hm⟩, _⟩ := hG
  have h := Tryz.strings_Split (bs s) ⟨#[c]⟩ m w (by rw [bs_size]; omega) hm (by simp [ByteArray.size])
  have e1 : Lib.countB (bs s) ⟨#[c]⟩ = Lib.count s [c] := rfl
  have e2 : Lib.splitB ⟨#[c]⟩ 0 (Lib.countB (bs s) ⟨#[c]⟩) (bs s) = (splitC c s).map bs := map_bs_data _ _ (by rw [Lib.splitB_data, e1]; exact split_C c s)
  have e3 : Lib.countB (bs s) ⟨#[c]⟩ + 1 = (splitC c s).length := by
    have := Lib.splitB_all ⟨#[c]⟩ (by simp [ByteArray.size]) 0 _ (bs s) rfl
    rw [← this, e2, List.length_map]
  rw [e3, e2] at h
  exact h
theorem eg_tag : ∀ args w, (callFunc 141 args).run Tryz.prog w = .ok (.enter 141 args) w := enters_of Tryz.func141 (by kernel_rfl) rfl
theorem is_empty (s : S) (W : World) : FnGives Tryz.prog 141 #[] #[.string (bs s)] (.bool s.isEmpty) W := by
  unfold FnGives
  have e0 : (bs s).toList.isEmpty = s.isEmpty := by rw [bs_list]
  generalize s.isEmpty = q at *
  go_enter Tryz.func141, Tryz.ntmps141
  go_wp2
  go_ret
  exact ⟨by simp, 0, rfl⟩
theorem zero_str : ∀ w : World, (zeroValue 9).run Tryz.prog w = .ok (.string (bs [])) w := fun _ => by kernel_rfl
theorem putRow_below {α : Type} [Inhabited α] (enc : α → Value) (w : World) (blk off : Nat) (d : Array α) {B : Nat} (h : B ≤ blk) : Below B w (Go.Sort.putRow enc w blk off d) := by
  refine ⟨rfl, rfl, rfl, by rw [Go.Sort.size_putRow]; exact Nat.le_refl _, fun i hi => ?_⟩
  unfold Go.Sort.putRow Go.Sort.mapBlock
  show (w.heap.modify blk _)[i]? = _
  rw [Array.getElem?_modify, if_neg (by omega)]
theorem C_of_cells {w : World} {b off : Nat} {l : List S} (hl : l.length ≤ 1048577) (h : ∀ j, j < l.length → w.cell? ⟨b, off + j, none⟩ = some (.string (bs (l.getD j [])))) : Kd.string.C w (some ⟨b, off, none⟩) l.length (l.map bs) := by
  refine Kd.C_of_reads (enc := Value.string) (d := ByteArray.empty) (h1 := fun _ => rfl) ⟨by simp, by omega, fun _ => ⟨_, rfl, fun j hj => ?_⟩⟩
  have e : (Addr.add ⟨b, off, none⟩ j) = ⟨b, off + j, none⟩ := by unfold Addr.add; split <;> simp_all
  rw [e, h j hj]
  simp [List.getD, hj]
theorem holds_blk {g : Nat} {p : List S} {w : World} (hb : w.heap[g]? = some (.cells ((p.map bs).map Value.string).toArray 9 (0, 0))) : Go.Sort.Holds (fun s : S => Value.string (bs s)) w g 0 p.toArray := by
  intro j hj
  have hj' : j < p.length := by simpa using hj
  rw [Nat.zero_add]
  refine ⟨(blk_cell hb j).trans ?_, blk_frozen hb j⟩
  rw [getElem!_pos p.toArray j hj]
  simp [hj']
theorem filt_get (p : List S) (f : S → Bool) (n j : Nat) (h : j < (p.filter f).length) : ((p.filter f ++ List.replicate n []).toArray)[j]! = (p.filter f).getD j [] := by
  rw [getElem!_pos _ j (by simp; omega)]
  simp [List.getD, h, List.getElem_append_left h]
theorem delete_any (g : Nat) (p : List S) (w : World) (B : Nat) (hB : B ≤ g) (hb : w.heap[g]? = some (.cells ((p.map bs).map Value.string).toArray 9 (0, 0))) (hp : p.length ≤ 1048577) :
    Calls Tryz.prog 139 #[.slice (some ⟨g, 0, none⟩) p.length p.length, .func (.func 141) #[] #[]] w fun e w' => e = .returned (.slice (some ⟨g, 0, none⟩) (p.filter fun x => !x.isEmpty).length p.length) ∧ RdS w' (some ⟨g, 0, none⟩) p.length (p.filter fun x => !x.isEmpty) ∧ Below B w w' := by
  have h := Tryz.slices_DeleteFunc (fun s : S => Value.string (bs s)) (fun _ => rfl) (fun s => s.isEmpty) 141 #[] eg_tag [] zero_str g 0 p.length p.toArray w (fun W x _ => is_empty x W) (fun _ _ _ x _ => is_empty x _) (holds_blk hb) (by simp; omega) (by simp)
  simp only [List.size_toArray] at h
  refine h.mono ?_
  rintro e w' ⟨rfl, q, rfl⟩
  have hlen : (p.filter fun x => !x.isEmpty).length ≤ p.length := List.length_filter_le _ _
  have hsz : ((p.filter fun x => !x.isEmpty) ++ List.replicate (p.length - (p.filter fun x => !x.isEmpty).length) ([] : S)).toArray.size = p.toArray.size := by simp; omega
  refine ⟨by simp, ⟨C_of_cells (by omega) (fun j hj => ?_), hlen⟩, ?_⟩
  · have h2 := Go.Sort.cell?_putRow (fun s : S => Value.string (bs s)) (Go.Sort.ahead w q) g 0 p.toArray _ (holds_blk hb) hsz j (by rw [hsz]; simp; omega)
    rw [filt_get p _ _ j hj] at h2
    exact h2
  · exact Below.trans (b := Go.Sort.ahead w q) ⟨rfl, rfl, rfl, Nat.le_refl _, fun _ _ => rfl⟩ (putRow_below _ _ _ _ _ hB)
def RowIf (b : Bool) (w' : World) (base : Nat) (v : Value) (p : List S) : Prop := b = true → ∃ A c, v = .slice A p.length c ∧ Kd.string.R 9 w' base (fun k => base ≤ k) v (p.map bs)
theorem RowIf.no {w' : World} {base : Nat} {v : Value} {p : List S} : RowIf false w' base v p := fun h => by cases h
theorem RowIf.yes {b : Bool} {w' : World} {base : Nat} {A : Option Addr} {n c : Nat} {p : List S} (hn : p.length = n) (h : Kd.string.R 9 w' base (fun k => base ≤ k) (.slice A n c) (p.map bs)) : RowIf b w' base (.slice A n c) p := fun _ => ⟨A, c, by rw [hn], h⟩
theorem path_any (s : S) (hs : s.length ≤ 1048575) (w : World) (hG : Glob w) :
    Calls Tryz.prog 143 #[.string (bs s)] w fun e w' => ∃ v, e = .returned (.tuple #[v, .int .i64 (if pathP (splitC 46 s) = true then 0 else 13)]) ∧ RowIf (pathP (splitC 46 s)) w' w.heap.size v (splitC 46 s) ∧ Below w.heap.size w w' := by
  have h := split_any 46 s (by omega) w hG
  have hz := splitC_size 46 s
  generalize splitC 46 s = p at *
  have hl : p.length ≤ 1048576 := by omega
  have hR := lit_R (p.map bs) w w.heap.size (fun k => w.heap.size ≤ k) (Nat.le_refl _) (by simpa using hl) (Nat.le_refl _)
  rw [List.length_map] at hR
  have hr := right_any (some ⟨w.heap.size, 0, none⟩) p.length p (w.alloc (.cells ((p.map bs).map Value.string).toArray 9)) (by have := (Kd.R_reads' hR).2.2; simpa using this) hl (fun x hx => by have := hz.2 x hx; omega)
  have HR := Aside0.mk hR
  clear hR hG hz
  have hB := Aside0.mk (below_alloc (Below.refl w.heap.size w) (.cells ((p.map bs).map Value.string).toArray 9))
  generalize w.heap.size = g at *
  generalize w.alloc (.cells ((p.map bs).map Value.string).toArray 9) = W at *
  generalize pathP p = b at *
  have hN := Aside0.mk hl
  clear hl
  obtain ⟨n, hn⟩ : ∃ n, p.length = n := ⟨_, rfl⟩
  rw [hn] at h hr HR
  have HNN := Aside0.mk hn
  clear hn
  cases b
  all_goals
    go_enter Tryz.func143, Tryz.ntmps143
    go_wp2_with fail
    refine h.mono ?_
    rintro e w1 ⟨rfl, rfl⟩
    go_wp2_with fail
    refine hr.mono ?_
    rintro e w2 ⟨rfl, ⟨q, rfl⟩⟩
    go_wp2
    go_ret2
    first
      | exact ⟨_, rfl, RowIf.no, pw_below_drewN hB.out q⟩
      | exact ⟨_, rfl, RowIf.yes HNN.out (Kd.R_drewN HR.out q), pw_below_drewN hB.out q⟩
end Go.Proofs.YtniibpndgcndbaaGreatDoor.Tpl
namespace Go.Proofs.YtniibpndgcndbaaGreatDoor.Tpl
open Go.RowKit Go.Proofs Go.Proofs.YtniibpndgcndbaaGreatDoor.PB Go.Proofs.YtniibpndgcndbaaGreatDoor.Short Go.Proofs.YtniibpndgcndbaaGreatDoorW.PrintWords Go.Proofs.YtniibpndgcndbaaGreatDoorW.PrintLast Go.Proofs.YtniibpndgcndbaaGreatDoorW.PrintMore Nodes
theorem blk3 {W : World} {g t : Nat} {a0 a1 a2 b0 b1 b2 : Value} (h : W.heap[g]? = some (.cells #[a0, a1, a2] t (0, 0))) : (((W.setCell ⟨g, 0, none⟩ b0).setCell ⟨g, 1, none⟩ b1).setCell ⟨g, 2, none⟩ b2).heap[g]? = some (.cells #[b0, b1, b2] t (0, 0)) := blk_put (blk_put (blk_put h 0 _ rfl) 1 _ rfl) 2 _ rfl
theorem below3 {w W : World} {g : Nat} {b0 b1 b2 : Value} (h : Below w.heap.size w W) (hg : w.heap.size ≤ g) : Below w.heap.size w (((W.setCell ⟨g, 0, none⟩ b0).setCell ⟨g, 1, none⟩ b1).setCell ⟨g, 2, none⟩ b2) := below_set (below_set (below_set h hg) hg) hg
theorem below_ahead' (w : World) (q : Nat) : Below w.heap.size w (w.drewN q) := pw_below_drewN (Below.refl _ _) q
def TokRet (o : Option Tok) (e : Ending) (w' : World) (base : Nat) : Prop :=
  match o with
  | none => e = .returned (.tuple #[.agg #[.int .u8 0, .string ⟨#[]⟩, .slice none 0 0], .int .i64 7])
  | some t => ∃ A c, e = .returned (.tuple #[.agg #[.int .u8 t.k, .string (bs t.t), .slice A t.p.length c], .int .i64 0]) ∧ Kd.string.R 9 w' base (fun k => base ≤ k) (.slice A t.p.length c) (t.p.map bs)
theorem R_set3 {W : World} {g : Nat} {b0 b1 b2 : Value} {base : Nat} {ok : Nat → Prop} {v : Value} {l : List ByteArray} {a0 a1 a2 : Value} (h : Kd.string.R 9 W base ok v l) (hb : W.heap[g]? = some (.cells #[a0, a1, a2] 101 (0, 0))) :
    Kd.string.R 9 (((W.setCell ⟨g, 0, none⟩ b0).setCell ⟨g, 1, none⟩ b1).setCell ⟨g, 2, none⟩ b2) base ok v l := by
  have hne : ∀ q, q ∈ 9 :: Kd.string.E → q ≠ 101 := by decide
  have h1 := Kd.R_set h hb hne 0 b0
  have h2 := Kd.R_set h1 (blk_put hb 0 b0 rfl) hne 1 b1
  exact Kd.R_set h2 (blk_put (blk_put hb 0 b0 rfl) 1 b1 rfl) hne 2 b2
set_option maxHeartbeats 4000000 in
set_option maxRecDepth 100000 in
theorem tag_any (s : S) (hs : s.length ≤ 1048575) (w : World) (hG : Glob w) :
    Calls Tryz.prog 95 #[.string (bs s)] w fun e w' => TokRet (tagP s) e w' w.heap.size ∧ Below w.heap.size w w' := by
  obtain ⟨o, ho⟩ : ∃ o, tagP s = o := ⟨_, rfl⟩
  rw [ho]
  rw [tagP_eq] at ho
  have HO := Aside0.mk ho
  clear ho
  have hwsz := wordsP_size s
  have hsz32 := splitC_size 32 s
  have hsp := fun W (hW : Glob W) => split_any 32 s (by omega) W hW
  have HG := Aside0.mk hG
  clear hG
  go_enter Tryz.func95, Tryz.ntmps95
  go_wp2_with fail
  have hB0 := Aside0.mk (below_alloc (Below.refl w.heap.size w) (.cells #[.int .u8 0, .string ⟨#[]⟩, .slice none 0 0] 101))
  have BK0 := Aside0.mk (blk_new w (.cells #[.int .u8 0, .string ⟨#[]⟩, .slice none 0 0] 101))
  have hgt : w.heap.size < (w.alloc (.cells #[.int .u8 0, .string ⟨#[]⟩, .slice none 0 0] 101)).heap.size := by simp
  generalize w.alloc (.cells #[.int .u8 0, .string ⟨#[]⟩, .slice none 0 0] 101) = W0 at hB0 BK0 hgt ⊢
  obtain ⟨g, hg⟩ : ∃ g, w.heap.size = g := ⟨_, rfl⟩
  rw [hg] at BK0 hgt ⊢
  have hge : w.heap.size ≤ g := Nat.le_of_eq hg
  clear hg
  refine (hsp W0 (HG.out.below hB0.out)).mono ?_
  rintro e W1 ⟨rfl, rfl⟩
  have hB1 := Aside0.mk (below_alloc hB0.out (.cells (((splitC 32 s).map bs).map Value.string).toArray 9))
  have BK1 := Aside0.mk (blk_alloc BK0.out (.cells (((splitC 32 s).map bs).map Value.string).toArray 9))
  have hdel := delete_any W0.heap.size (splitC 32 s) (W0.alloc (.cells (((splitC 32 s).map bs).map Value.string).toArray 9)) (g + 1) hgt (blk_new W0 _) (by omega)
  rw [show (splitC 32 s).filter (fun x => !x.isEmpty) = wordsP s from rfl] at hdel
  clear hB0 BK0 hsp
  generalize W0.alloc (.cells (((splitC 32 s).map bs).map Value.string).toArray 9) = W1 at hB1 BK1 hdel ⊢
  generalize (splitC 32 s).length = n1 at *
  go_wp2_with fail
  refine hdel.mono ?_
  rintro e W2 ⟨rfl, hRd, hb2⟩
  have hB2 := Aside0.mk (hB1.out.trans (hb2.mono (by omega)))
  have BK2 := Aside0.mk ((hb2.block g (by omega)).trans BK1.out)
  clear hB1 BK1 hb2 hdel
  generalize wordsP s = p at *
  obtain ⟨z0, z1, z2, f0, f1, f2⟩ := cells_3 BK2.out
  by_cases h0 : p.length = 0
  · obtain rfl : o = none := by rw [← HO.out]; unfold tagW tagX; rw [if_pos (.inl h0)]
    have e0 : ((p.length : Int) == 0) = true := by rw [beq_iff_eq]; omega
    clear h0
    go_wp2
    refine bodyPost_ret (results_ct rfl _ _ g 101 #[.int .u8 0, .string ⟨#[]⟩, .slice none 0 0] (0, 0) _ rfl (blk3 BK2.out) Tryz.underlying101 rfl (by kernel_rfl)) rfl ?_
    exact ⟨rfl, below3 hB2.out hge⟩
  have e0 : ((p.length : Int) == 0) = false := by rw [beq_eq_false_iff_ne]; omega
  by_cases h2 : 2 < p.length
  · obtain rfl : o = none := by rw [← HO.out]; unfold tagW tagX; rw [if_pos (.inr h2)]
    have e2 : decide ((2 : Int) < (p.length : Int)) = true := by rw [decide_eq_true_eq]; omega
    have e3 : decide (2 < p.length) = true := by rw [decide_eq_true_eq]; omega
    clear h0 h2
    go_wp2
    refine bodyPost_ret (results_ct rfl _ _ g 101 #[.int .u8 0, .string ⟨#[]⟩, .slice none 0 0] (0, 0) _ rfl (blk3 BK2.out) Tryz.underlying101 rfl (by kernel_rfl)) rfl ?_
    exact ⟨rfl, below3 hB2.out hge⟩
  have e2 : decide ((2 : Int) < (p.length : Int)) = false := by rw [decide_eq_false_iff_not]; omega
  have e3 : decide (2 < p.length) = false := by rw [decide_eq_false_iff_not]; omega
  obtain ⟨b, off, hA, hc0⟩ := cellS hRd 0 (by omega)
  cases hA
  obtain ⟨b, off, hA, hc1⟩ := cellS hRd (p.length - 1) (by omega)
  cases hA
  have hl1 : (0 : Int) ≤ (p.length : Int) - 1 := by omega
  have hl2 : (p.length : Int) - 1 < (p.length : Int) := by omega
  have hl3 : 0 < p.length := by omega
  have hx0 : (p.getD (p.length - 1) []).length ≤ s.length := by
    have hlt : p.length - 1 < p.length := by omega
    have e : p.getD (p.length - 1) [] = p[p.length - 1] := by simp [List.getD, hlt]
    rw [e]; exact hwsz.2 _ (List.getElem_mem _)
  replace hc0 : W2.cell? ⟨W0.heap.size, 0, none⟩ = some (.string (bs (p.getD 0 []))) := hc0
  replace hc1 : W2.cell? ⟨W0.heap.size, p.length - 1, none⟩ = some (.string (bs (p.getD (p.length - 1) []))) := by rw [← Nat.zero_add (p.length - 1)]; simpa using hc1
  have HO2 : tagX p.length (p.getD 0 []) (p.getD (p.length - 1) []) = o := HO.out
  generalize p.getD 0 [] = x0 at *
  generalize p.getD (p.length - 1) [] = x1 at *
  have hn12 : p.length = 1 ∨ p.length = 2 := by omega
  clear hwsz hsz32 hRd HO h0 h2
  generalize p.length = n at *
  have hown := ownP_lt x0
  go_wp2_with fail
  refine (scan_own.calls 5 (bs x0) _ _ (own_f _)).mono ?_
  rintro e W3 ⟨rfl, ⟨q3, rfl⟩⟩
  have hbD := below_ahead' W2 q3
  have hB := Aside0.mk (below_step hB2.out hbD)
  have BK := Aside0.mk (blk_below BK2.out hbD)
  have HGD := Aside0.mk (HG.out.below hB.out)
  replace hc1 := pw_cell_below hbD hc1
  generalize W2.drewN q3 = W at *
  clear hB2 BK2 z0 z1 z2 f0 f1 f2 hbD HG hc0
  obtain ⟨z0, z1, z2, f0, f1, f2⟩ := cells_3 BK.out
  have HT : o = tagY n x0 x1 := by rw [← HO2, tagX, if_neg (by omega)]
  unfold tagY at HT
  clear HO2
  generalize ownP x0 = k at *
  by_cases k46 : k = 4 ∨ k = 6
  · rw [if_pos k46] at HT
    have hb : ((k : Int) == 4) = true ∨ (((k : Int) == 4) = false ∧ ((k : Int) == 6) = true) := by
      rcases k46 with rfl | rfl
      · exact .inl rfl
      · exact .inr ⟨rfl, rfl⟩
    clear k46
    rcases hn12 with rfl | rfl
    · obtain rfl := HT
      rcases hb with b1 | ⟨b1, b2⟩
      all_goals
        go_wp2
        refine bodyPost_ret (results_ct rfl _ _ g 101 #[.int .u8 k, .string ⟨#[]⟩, .slice none 0 0] (0, 0) _ rfl (blk3 BK.out) Tryz.underlying101 rfl (by kernel_rfl)) rfl ?_
        exact ⟨⟨none, 0, rfl, Kd.R_nil _ _ _ _ _⟩, below3 hB.out hge⟩
    · obtain rfl := HT
      rcases hb with b1 | ⟨b1, b2⟩
      all_goals
        go_wp2
        refine bodyPost_ret (results_ct rfl _ _ g 101 #[.int .u8 0, .string ⟨#[]⟩, .slice none 0 0] (0, 0) _ rfl (blk3 BK.out) Tryz.underlying101 rfl (by kernel_rfl)) rfl ?_
        exact ⟨rfl, below3 hB.out hge⟩
  rw [if_neg k46] at HT
  have n4 : ((k : Int) == 4) = false := by rw [beq_eq_false_iff_ne]; omega
  have n6 : ((k : Int) == 6) = false := by rw [beq_eq_false_iff_ne]; omega
  by_cases hbad : (k ≠ 2 ∧ n ≠ 2) ∨ (k = 2 ∧ n ≠ 1)
  · rw [if_pos hbad] at HT
    obtain rfl := HT
    have hb : (((k : Int) == 2) = false ∧ ((k : Int) != 2) = true ∧ n = 1) ∨ (k = 2 ∧ n = 2) := by
      rw [beq_eq_false_iff_ne, bne_iff_ne]; omega
    clear hbad k46 hn12
    rcases hb with ⟨b1, b2, rfl⟩ | ⟨rfl, rfl⟩
    all_goals
      go_wp2
      refine bodyPost_ret (results_ct rfl _ _ g 101 #[.int .u8 0, .string ⟨#[]⟩, .slice none 0 0] (0, 0) _ rfl (blk3 BK.out) Tryz.underlying101 rfl (by kernel_rfl)) rfl ?_
      exact ⟨rfl, below3 hB.out hge⟩
  rw [if_neg hbad] at HT
  have hb : (((k : Int) == 2) = false ∧ ((k : Int) != 2) = true ∧ n = 2) ∨ (k = 2 ∧ n = 1) := by
    rw [beq_eq_false_iff_ne, bne_iff_ne]; omega
  have hP := path_any x1 (by omega) W HGD.out
  unfold pathOf at HT
  have HT := Aside0.mk HT
  clear hbad k46 hn12
  generalize hpp : pathP (splitC 46 x1) = pp at *
  rcases hb with ⟨b1, b2, rfl⟩ | ⟨rfl, rfl⟩
  all_goals
    cases pp
    · have ho : o = none := HT.out
      obtain rfl := ho
      go_wp2_with fail
      refine hP.mono ?_
      rintro e W4 ⟨v, rfl, hv, hb4⟩
      have hB4 := Aside0.mk (below_step hB.out hb4)
      have BK4 := Aside0.mk (blk_below BK.out hb4)
      clear hB BK z0 z1 z2 f0 f1 f2 hb4
      obtain ⟨z0, z1, z2, f0, f1, f2⟩ := cells_3 BK4.out
      go_wp2
      refine bodyPost_ret (results_ct rfl _ _ g 101 #[.int .u8 0, .string ⟨#[]⟩, .slice none 0 0] (0, 0) _ rfl (blk3 BK4.out) Tryz.underlying101 rfl (by kernel_rfl)) rfl ?_
      exact ⟨rfl, below3 hB4.out hge⟩
    · have ho : o = some ⟨_, [], splitC 46 x1⟩ := HT.out
      obtain rfl := ho
      go_wp2_with fail
      refine hP.mono ?_
      rintro e W4 ⟨v, rfl, hv, hb4⟩
      obtain ⟨A, c, rfl, hR4⟩ := hv rfl
      have hB4 := Aside0.mk (below_step hB.out hb4)
      have BK4 := Aside0.mk (blk_below BK.out hb4)
      have HR4 := Aside0.mk (Kd.R_mono (Kd.R_lower hR4 hB.out.size) (fun k hk => Nat.le_trans hB.out.size hk))
      clear hB BK z0 z1 z2 f0 f1 f2 hb4 hR4
      obtain ⟨z0, z1, z2, f0, f1, f2⟩ := cells_3 BK4.out
      go_wp2
      refine bodyPost_ret (results_ct rfl _ _ g 101 #[.int .u8 _, .string ⟨#[]⟩, .slice A (splitC 46 x1).length c] (0, 0) _ rfl (blk3 BK4.out) Tryz.underlying101 rfl (by kernel_rfl)) rfl ?_
      exact ⟨⟨A, c, rfl, R_set3 HR4.out BK4.out⟩, below3 hB4.out hge⟩
end Go.Proofs.YtniibpndgcndbaaGreatDoor.Tpl
namespace Go.Proofs.YtniibpndgcndbaaGreatDoor.Tpl
open Go.RowKit Go.Proofs Go.Proofs.YtniibpndgcndbaaGreatDoor.PB Go.Proofs.YtniibpndgcndbaaGreatDoor.Short Go.Proofs.YtniibpndgcndbaaGreatDoorW.PrintWords Go.Proofs.YtniibpndgcndbaaGreatDoorW.PrintLast Go.Proofs.YtniibpndgcndbaaGreatDoorW.PrintMore Nodes
def strOf : Value → Nat | .string b => b.size | _ => 0
theorem cut_any (c : UInt8) (s : S) (hs : s.length ≤ 1048576) (w : World) (hG : Glob w) :
    Calls Tryz.prog 94 #[.string (bs s), .string ⟨#[c, c]⟩] w fun e w' => e = .returned (.tuple #[.string (bs (Lib.cut s [c, c]).1), .string (bs (Lib.cut s [c, c]).2.1), .bool (Lib.cut s [c, c]).2.2]) ∧ ∃ n, w' = w.drewN n := by
  obtain ⟨⟨m, hm⟩, _⟩ := hG
  exact Tryz.strings_Cut (bs s) ⟨#[c, c]⟩ m w (by rw [bs_size]; omega) hm
def ToksRet (o : Option (List Tok)) (e : Ending) (w' : World) (base : Nat) : Prop :=
  match o with
  | none => e = .returned (.tuple #[.slice none 0 0, .int .i64 7])
  | some l => ∃ v, e = .returned (.tuple #[v, .int .i64 0]) ∧ kT.R 101 w' base (fun k => base ≤ k) v (tokv l)
theorem txt_len (s : S) : (txtTok s).length ≤ 1 := by unfold txtTok; split <;> simp
theorem tok_M (w : World) (base : Nat) (t : S) : kT.M w base (fun _ => False) (Tok.of ⟨1, t, []⟩) [.int .u8 1, .string (bs t), .slice none 0 0] := k101_mkM w base _ (Tok.of ⟨1, t, []⟩) (Kd.R_nil _ _ _ _ _)
theorem tok_M7 {w : World} {base : Nat} {okp : Nat → Prop} {k : Nat} {t : S} {p : List S} {A : Option Addr} {c : Nat} (h : Kd.string.R 9 w base okp (.slice A p.length c) (p.map bs)) : kT.M w base okp (Tok.of ⟨k, t, p⟩) [.int .u8 k, .string (bs t), .slice A p.length c] := k101_mkM w base _ (Tok.of ⟨k, t, p⟩) h
theorem tk_bnd {a r x : Nat} (h : a + 2 * r ≤ 2048) (h0 : 0 < r) (hx : x ≤ 1) : (a + 1) * 48 ≤ 140737488355328 ∧ (a + x + 1) * 48 ≤ 140737488355328 := by omega
theorem tk_bnd2 {a r x rs r2 : Nat} (h : a + 2 * r ≤ 2048) (hx : x ≤ 1) (h1 : rs + 2 ≤ r) (h2 : r2 + 2 ≤ rs) : a + x + 1 + 2 * r2 ≤ 2048 := by omega
set_option maxHeartbeats 4000000 in
set_option maxRecDepth 100000 in
theorem tokensS_any (s : S) (hs : s.length ≤ 1024) (w : World) (hG : Glob w) :
    Calls Tryz.prog 65 #[.string (bs s)] w fun e w' => ToksRet (toksS (s.length + 1) s) e w' w.heap.size ∧ Below w.heap.size w w' := by
  obtain ⟨o, ho⟩ : ∃ o, toksS (s.length + 1) s = o := ⟨_, rfl⟩
  rw [ho]
  have HO := Aside0.mk ho
  have HG := Aside0.mk hG
  have hl0 : decide ((((bs s).size : Nat) : Int) > 1024) = false := by rw [decide_eq_false_iff_not, bs_size]; omega
  have hl1 : decide ((1024 : Int) < (((bs s).size : Nat) : Int)) = false := hl0
  have hl2 : decide (1024 < (bs s).size) = false := by rw [decide_eq_false_iff_not, bs_size]; omega
  clear ho hG
  go_enter Tryz.func65, Tryz.ntmps65
  go_wp2
  go_loopw [0, 4] (fun v0 v4 wr => ∃ (r : S) (acc : List Tok), v0 = .string (bs r) ∧ Aside0 (o = (toksS (r.length + 1) r).map (acc ++ ·)) ∧ Aside0 (acc.length + 2 * r.length ≤ 2048) ∧ Aside0 (kT.R 101 wr w.heap.size (fun k => w.heap.size ≤ k) v4 (tokv acc)) ∧ Aside0 (Below w.heap.size w wr))
    (fun v0 _ _ => strOf v0)
  case atStart => exact ⟨s, [], rfl, ⟨by rw [HO.out]; cases o <;> rfl⟩, ⟨by simp; omega⟩, ⟨Kd.R_nil _ _ _ _ _⟩, ⟨Below.refl _ _⟩⟩
  case round =>
    obtain ⟨r, acc, rfl, HE, HL, HR, HB⟩ := hrel
    by_cases hr : r = []
    · have e0 : (bs r).toList.isEmpty = true := by rw [bs_list, hr]; rfl
      have ho : o = some acc := by rw [HE.out, hr]; simp [toksS]
      subst ho
      clear hr hl0 hl1 hl2
      go_wp2
      go_ret2
      exact ⟨⟨_, rfl, HR.out⟩, HB.out⟩
    · have e0 : (bs r).toList.isEmpty = false := by rw [bs_list]; cases r with | nil => exact absurd rfl hr | cons => rfl
      have hr0 : 0 < r.length := by cases r with | nil => exact absurd rfl hr | cons => simp
      have hrl := HL.out
      have hE := HE.out
      rw [toksS, if_neg hr] at hE
      have hsz1 := cut_sizes r 123
      have hcut := fun W hW => cut_any 123 r (by omega) W hW
      obtain ⟨tx, rs, is, hc⟩ : ∃ tx rs is, Lib.cut r [123, 123] = (tx, rs, is) := ⟨_, _, _, rfl⟩
      rw [hc] at hE hsz1
      simp only [hc] at hcut
      simp only at hE hsz1
      have HE2 := Aside0.mk hE
      have HS1 := Aside0.mk hsz1
      have HC := Aside0.mk hcut
      clear hE hsz1 hcut hc hr hl0 hl1 hl2
      go_wp2_with fail
      refine (HC.out _ (HG.out.below HB.out)).mono ?_
      rintro e W0 ⟨rfl, ⟨q0, rfl⟩⟩
      have HB0 := Aside0.mk (pw_below_drewN HB.out q0)
      have HR0 := Aside0.mk (Kd.R_drewN HR.out q0)
      clear HC HR HB
      generalize wr.drewN q0 = W0 at HB0 HR0 ⊢
      have hap : ((tokv acc).length + 1) * 48 ≤ 140737488355328 := by rw [tokv_len]; exact (tk_bnd hrl hr0 (Nat.zero_le 1)).1
      have hap2 : ((tokv (acc ++ txtTok tx)).length + 1) * 48 ≤ 140737488355328 := by rw [tokv_len, List.length_append]; exact (tk_bnd hrl hr0 (txt_len tx)).2
      cases is with
      | false =>
        obtain rfl : o = some (acc ++ txtTok tx) := by have h := HE2.out; simpa using h
        clear HE2
        by_cases htx : tx = []
        · have e1 : (bs tx).toList.isEmpty = true := by rw [bs_list, htx]; rfl
          have HTX : Aside0 (acc ++ txtTok tx = acc) := ⟨by rw [htx]; simp [txtTok]⟩
          clear htx
          go_wp2
          go_ret2
          exact ⟨⟨_, rfl, by rw [HTX.out]; exact HR0.out⟩, HB0.out⟩
        · have e1 : (bs tx).toList.isEmpty = false := by rw [bs_list]; cases tx with | nil => exact absurd rfl htx | cons => rfl
          have HTX : Aside0 (tokv (acc ++ txtTok tx) = tokv acc ++ [Tok.of ⟨1, tx, []⟩]) := ⟨by unfold txtTok; rw [if_neg htx]; simp [tokv]⟩
          clear htx
          go_wp2_with (at_builtin; refine Kd.R_append kT w.heap.size rfl _ _ 95 101 _ 48 rfl Tryz.underlying95 info101 rfl (by decide) (by decide) u4 (tokv acc) (Tok.of ⟨1, tx, []⟩) [.int .u8 1, .string (bs tx), .slice none 0 0] (fun k => w.heap.size ≤ k) (fun _ => False) rfl rfl (tok_M _ _ tx) (fun _ h => h.elim) (fun k hk => Nat.le_trans HB0.out.size hk) HR0.out HB0.out HB0.out.size hap ?_; intro v5 W5 hR5 hB5 hg5 hat5)
          have HR5 := Aside0.mk hR5
          have HB5 := Aside0.mk hB5
          clear hR5 hB5
          go_ret2
          exact ⟨⟨_, rfl, by rw [HTX.out]; exact HR5.out⟩, HB5.out⟩
      | true =>
        have hrs := HS1.out.2.2 rfl
        have hrl2 : rs.length ≤ 1048575 := by omega
        have hE := HE2.out
        rw [if_neg (by simp)] at hE
        have hsz2 := cut_sizes rs 125
        have hcut := fun W hW => cut_any 125 rs (by omega) W hW
        obtain ⟨xn, rs2, en, hc⟩ : ∃ xn rs2 en, Lib.cut rs [125, 125] = (xn, rs2, en) := ⟨_, _, _, rfl⟩
        rw [hc] at hE hsz2
        simp only [hc] at hcut
        simp only at hE hsz2
        have HE3 := Aside0.mk hE
        have HS2 : Aside0 (xn.length ≤ 1048575) := ⟨by omega⟩
        have HC2 := Aside0.mk hcut
        have hbn : en = true → acc.length + (txtTok tx).length + 1 + 2 * rs2.length ≤ 2048 ∧ rs2.length < r.length := fun h => ⟨tk_bnd2 hrl (txt_len tx) hrs (hsz2.2.2 h), by have := hsz2.2.2 h; omega⟩
        have HBN := Aside0.mk hbn
        clear hE hsz2 hcut hc HE2 HS1 hrs hbn
        by_cases htx : tx = []
        · have e1 : (bs tx).toList.isEmpty = true := by rw [bs_list, htx]; rfl
          have HTX : Aside0 (acc ++ txtTok tx = acc) := ⟨by rw [htx]; simp [txtTok]⟩
          clear htx
          go_wp2_with fail
          have hR5 := HR0.out
          rw [← HTX.out] at hR5
          have hB5 := HB0.out
          generalize W0 = W5 at *
          generalize u4 = v5 at *
          have HR5 := Aside0.mk hR5
          have HB5 := Aside0.mk hB5
          clear hR5 hB5 HR0 HB0
          refine (HC2.out _ (HG.out.below HB5.out)).mono ?_
          rintro e W6 ⟨rfl, ⟨q6, rfl⟩⟩
          have HB6 := Aside0.mk (pw_below_drewN HB5.out q6)
          have HR6 := Aside0.mk (Kd.R_drewN HR5.out q6)
          clear HC2 HR5 HB5
          generalize W5.drewN q6 = W6 at HB6 HR6 ⊢
          cases en with
          | false =>
            obtain rfl : o = none := by have h := HE3.out; simpa using h
            go_wp2
            go_ret2
            exact ⟨rfl, HB6.out⟩
          | true =>
            have hbn := HBN.out rfl
            have hE := HE3.out
            simp only [Bool.true_eq_false, if_false] at hE
            have htag := tag_any xn (by have := HS2.out; omega) W6 (HG.out.below HB6.out)
            cases htg : tagP xn with
            | none =>
              rw [htg] at hE htag
              obtain rfl : o = none := hE
              clear htg
              go_wp2_with fail
              refine htag.mono ?_
              rintro e W7 ⟨rfl, hb7⟩
              have HB7 := Aside0.mk (below_step HB6.out hb7)
              clear hb7
              go_wp2
              go_ret2
              exact ⟨rfl, below_alloc HB7.out _⟩
            | some tk =>
              rw [htg] at hE htag
              simp only at hE
              have HE4 := Aside0.mk hE
              obtain ⟨tkk, tkt, tkp⟩ := tk
              clear hE htg
              go_wp2_with fail
              refine htag.mono ?_
              rintro e W7 ⟨⟨A7, c7, rfl, hR7⟩, hb7⟩
              have HB7 := Aside0.mk (below_step HB6.out hb7)
              have HR8 := Aside0.mk (Kd.R_below HR6.out hb7)
              have HLT : Aside0 (∀ k, W6.heap.size ≤ k → w.heap.size ≤ k ∧ some k ≠ v5.ownBlock) := ⟨fun k hk => ⟨Nat.le_trans HB6.out.size hk, fun e => by have := Kd.R_lt HR6.out k e.symm; omega⟩⟩
              have HR7 := Aside0.mk (Kd.R_lower hR7 HB6.out.size)
              clear hb7 hR7 HR6
              simp only at HR7
              go_upto_region 15 with (fail)
              have BK8 := Aside0.mk (blk_new W7 (.cells #[.int .u8 tkk, .string (bs tkt), .slice A7 tkp.length c7] 101))
              replace HR8 := Aside0.mk (Kd.R_alloc HR8.out (.cells #[.int .u8 tkk, .string (bs tkt), .slice A7 tkp.length c7] 101))
              replace HR7 := Aside0.mk (Kd.R_alloc HR7.out (.cells #[.int .u8 tkk, .string (bs tkt), .slice A7 tkp.length c7] 101))
              replace HB7 := Aside0.mk (below_alloc HB7.out (.cells #[.int .u8 tkk, .string (bs tkt), .slice A7 tkp.length c7] 101))
              obtain ⟨g7, hg7⟩ : ∃ g7, W7.heap.size = g7 := ⟨_, rfl⟩
              rw [hg7] at BK8 ⊢
              clear hg7
              generalize W7.alloc (.cells #[.int .u8 tkk, .string (bs tkt), .slice A7 tkp.length c7] 101) = W8 at BK8 HR8 HR7 HB7 ⊢
              obtain ⟨z0, z1, z2, f0, f1, f2⟩ := cells_3 BK8.out
              go_wp2_with (at_builtin; refine Kd.R_append kT w.heap.size rfl _ _ 95 101 _ 48 rfl Tryz.underlying95 info101 rfl (by decide) (by decide) v5 (tokv (acc ++ txtTok tx)) (Tok.of ⟨tkk, tkt, tkp⟩) [.int .u8 tkk, .string (bs tkt), .slice A7 tkp.length c7] (fun k => w.heap.size ≤ k) (fun k => W6.heap.size ≤ k) rfl rfl (tok_M7 HR7.out) HLT.out (fun k hk => Nat.le_trans HB7.out.size hk) HR8.out HB7.out HB7.out.size hap2 ?_; intro v9 W9 hR9 hB9 hg9 hat9)
              go_roundw
              case rel => exact ⟨rs2, acc ++ txtTok tx ++ [⟨tkk, tkt, tkp⟩], rfl, ⟨by rw [HE4.out, toksS_fuel r.length (rs2.length + 1) rs2 hbn.2 (Nat.lt_succ_self _)]; cases toksS (rs2.length + 1) rs2 <;> simp⟩, ⟨by simp only [List.length_append, List.length_singleton]; exact hbn.1⟩, ⟨by have := hR9; simpa [tokv] using this⟩, ⟨hB9⟩⟩
              case measure => simp only [strOf, bs_size]; exact hbn.2
        · have e1 : (bs tx).toList.isEmpty = false := by rw [bs_list]; cases tx with | nil => exact absurd rfl htx | cons => rfl
          have HTX : Aside0 (tokv (acc ++ txtTok tx) = tokv acc ++ [Tok.of ⟨1, tx, []⟩]) := ⟨by unfold txtTok; rw [if_neg htx]; simp [tokv]⟩
          clear htx
          go_wp2_with (at_builtin; refine Kd.R_append kT w.heap.size rfl _ _ 95 101 _ 48 rfl Tryz.underlying95 info101 rfl (by decide) (by decide) u4 (tokv acc) (Tok.of ⟨1, tx, []⟩) [.int .u8 1, .string (bs tx), .slice none 0 0] (fun k => w.heap.size ≤ k) (fun _ => False) rfl rfl (tok_M _ _ tx) (fun _ h => h.elim) (fun k hk => Nat.le_trans HB0.out.size hk) HR0.out HB0.out HB0.out.size hap ?_; intro v5 W5 hR5 hB5 hg5 hat5)
          rw [← HTX.out] at hR5
          have HR5 := Aside0.mk hR5
          have HB5 := Aside0.mk hB5
          clear hR5 hB5 HR0 HB0
          refine (HC2.out _ (HG.out.below HB5.out)).mono ?_
          rintro e W6 ⟨rfl, ⟨q6, rfl⟩⟩
          have HB6 := Aside0.mk (pw_below_drewN HB5.out q6)
          have HR6 := Aside0.mk (Kd.R_drewN HR5.out q6)
          clear HC2 HR5 HB5
          generalize W5.drewN q6 = W6 at HB6 HR6 ⊢
          cases en with
          | false =>
            obtain rfl : o = none := by have h := HE3.out; simpa using h
            go_wp2
            go_ret2
            exact ⟨rfl, HB6.out⟩
          | true =>
            have hbn := HBN.out rfl
            have hE := HE3.out
            simp only [Bool.true_eq_false, if_false] at hE
            have htag := tag_any xn (by have := HS2.out; omega) W6 (HG.out.below HB6.out)
            cases htg : tagP xn with
            | none =>
              rw [htg] at hE htag
              obtain rfl : o = none := hE
              clear htg
              go_wp2_with fail
              refine htag.mono ?_
              rintro e W7 ⟨rfl, hb7⟩
              have HB7 := Aside0.mk (below_step HB6.out hb7)
              clear hb7
              go_wp2
              go_ret2
              exact ⟨rfl, below_alloc HB7.out _⟩
            | some tk =>
              rw [htg] at hE htag
              simp only at hE
              have HE4 := Aside0.mk hE
              obtain ⟨tkk, tkt, tkp⟩ := tk
              clear hE htg
              go_wp2_with fail
              refine htag.mono ?_
              rintro e W7 ⟨⟨A7, c7, rfl, hR7⟩, hb7⟩
              have HB7 := Aside0.mk (below_step HB6.out hb7)
              have HR8 := Aside0.mk (Kd.R_below HR6.out hb7)
              have HLT : Aside0 (∀ k, W6.heap.size ≤ k → w.heap.size ≤ k ∧ some k ≠ v5.ownBlock) := ⟨fun k hk => ⟨Nat.le_trans HB6.out.size hk, fun e => by have := Kd.R_lt HR6.out k e.symm; omega⟩⟩
              have HR7 := Aside0.mk (Kd.R_lower hR7 HB6.out.size)
              clear hb7 hR7 HR6
              simp only at HR7
              go_upto_region 15 with (fail)
              have BK8 := Aside0.mk (blk_new W7 (.cells #[.int .u8 tkk, .string (bs tkt), .slice A7 tkp.length c7] 101))
              replace HR8 := Aside0.mk (Kd.R_alloc HR8.out (.cells #[.int .u8 tkk, .string (bs tkt), .slice A7 tkp.length c7] 101))
              replace HR7 := Aside0.mk (Kd.R_alloc HR7.out (.cells #[.int .u8 tkk, .string (bs tkt), .slice A7 tkp.length c7] 101))
              replace HB7 := Aside0.mk (below_alloc HB7.out (.cells #[.int .u8 tkk, .string (bs tkt), .slice A7 tkp.length c7] 101))
              obtain ⟨g7, hg7⟩ : ∃ g7, W7.heap.size = g7 := ⟨_, rfl⟩
              rw [hg7] at BK8 ⊢
              clear hg7
              generalize W7.alloc (.cells #[.int .u8 tkk, .string (bs tkt), .slice A7 tkp.length c7] 101) = W8 at BK8 HR8 HR7 HB7 ⊢
              obtain ⟨z0, z1, z2, f0, f1, f2⟩ := cells_3 BK8.out
              go_wp2_with (at_builtin; refine Kd.R_append kT w.heap.size rfl _ _ 95 101 _ 48 rfl Tryz.underlying95 info101 rfl (by decide) (by decide) v5 (tokv (acc ++ txtTok tx)) (Tok.of ⟨tkk, tkt, tkp⟩) [.int .u8 tkk, .string (bs tkt), .slice A7 tkp.length c7] (fun k => w.heap.size ≤ k) (fun k => W6.heap.size ≤ k) rfl rfl (tok_M7 HR7.out) HLT.out (fun k hk => Nat.le_trans HB7.out.size hk) HR8.out HB7.out HB7.out.size hap2 ?_; intro v9 W9 hR9 hB9 hg9 hat9)
              go_roundw
              case rel => exact ⟨rs2, acc ++ txtTok tx ++ [⟨tkk, tkt, tkp⟩], rfl, ⟨by rw [HE4.out, toksS_fuel r.length (rs2.length + 1) rs2 hbn.2 (Nat.lt_succ_self _)]; cases toksS (rs2.length + 1) rs2 <;> simp⟩, ⟨by simp only [List.length_append, List.length_singleton]; exact hbn.1⟩, ⟨by have := hR9; simpa [tokv] using this⟩, ⟨hB9⟩⟩
              case measure => simp only [strOf, bs_size]; exact hbn.2
end Go.Proofs.YtniibpndgcndbaaGreatDoor.Tpl
namespace Go.Proofs.YtniibpndgcndbaaGreatDoor.Tpl
open Go.RowKit Go.Proofs Go.Proofs.YtniibpndgcndbaaGreatDoor.PB Go.Proofs.YtniibpndgcndbaaGreatDoor.Short Go.Proofs.YtniibpndgcndbaaGreatDoorW.PrintWords Go.Proofs.YtniibpndgcndbaaGreatDoorW.PrintLast Go.Proofs.YtniibpndgcndbaaGreatDoorW.PrintMore Nodes
theorem KeepP.set {ok : Nat → Prop} {w w1 : World} (h : KeepP ok w w1) {p : Addr} (hp : ok p.block ∨ w.heap.size ≤ p.block) (u : Value) : KeepP ok w (w1.setCell p u) := by
  refine ⟨h.os, h.tape, h.output, by have := h.size; simpa [World.setCell] using this, fun i hi hn => ?_⟩
  refine (Below.heap_setCell w1 p u i ?_).trans (h.blk i hi hn)
  rintro rfl
  rcases hp with hp | hp
  · exact hn hp
  · omega
theorem KeepP.alloc {ok : Nat → Prop} {w w1 : World} (h : KeepP ok w w1) (o : Obj) : KeepP ok w (w1.alloc o) := h.trans (KeepP.of_below (below_alloc (Below.refl _ _) o))
theorem below_step' {w0 W W1 : World} (h : Below w0.heap.size w0 W) (hb : Below W.heap.size W W1) : Below w0.heap.size w0 W1 := below_step h hb
theorem RdT.tail {w : World} {A : Option Addr} {c : Nat} {t : Tok} {r : List Tok} (h : RdT w A c (t :: r)) : RdT w (if c = 1 then A else A.map (·.add 3)) (c - 1) r := by
  have hl := h.2
  simp only [List.length_cons] at hl
  refine ⟨?_, by omega⟩
  have h1 := h.1
  refine ⟨by simp [tokv], by have := h1.2.1; simp only [List.length_cons] at this; omega, fun h0 => ?_⟩
  obtain ⟨ad, e, hc⟩ := h1.2.2 (by simp)
  subst e
  rw [if_neg (by omega)]
  refine ⟨ad.add 3, rfl, fun i x hx => ?_⟩
  obtain ⟨cs, g1, g2, g3⟩ := hc (i + 1) x (by simpa [tokv] using hx)
  refine ⟨cs, g1, g2, fun j v hv => ?_⟩
  have := g3 j v hv
  rw [← this]
  congr 1
  rw [Addr.add_add]
  congr 1
  have : kT.sz = 3 := rfl
  rw [this]; omega
def PS (w0 W : World) (g : Nat) (l : List Tok) : Prop := ∃ A c, W.heap[g]? = some (.cells #[.slice A l.length c] 141 (0, 0)) ∧ w0.heap.size ≤ g ∧ RdT w0 A c l ∧ Below w0.heap.size w0 W
theorem is_any (w0 W : World) (g : Nat) (l : List Tok) (k : Nat) (hk : 0 < k) (h : PS w0 W g l) : Calls Tryz.prog 174 #[.pointer (some ⟨g, 0, none⟩), .int .u8 k] W fun e w' => e = .returned (.bool (headK l == k)) ∧ W = w' := by
  obtain ⟨A, c, hg, hge, hR, hB⟩ := h
  have z0 := (blk_cell hg 0).trans rfl
  have f0 := blk_frozen hg 0
  cases l with
  | nil =>
    have e0 : (headK [] == k) = false := by rw [beq_eq_false_iff_ne]; show (0 : Nat) ≠ k; omega
    rw [e0]
    clear hg hR hB
    simp only [List.length_nil] at z0
    go_enter Tryz.func174, Tryz.ntmps174
    go_wp2
    go_ret
    exact ⟨rfl, rfl⟩
  | cons t r =>
    have hd : headK (t :: r) = t.k := rfl
    obtain ⟨ad, A2, c2, rfl, y0, y1, y2, i2, l2⟩ := hR.at (i := 0) (x := t) rfl
    replace y0 := (hB.cell (World.block_lt_of_cell? _ _ y0)).trans y0
    rw [hd]
    have e0 : ((t.k : Int) == (k : Int)) = (t.k == k) := beqI _ _
    generalize t.k = tk at *
    have hln : 0 < (t :: r).length := by simp
    have hli : (0 : Int) < (((t :: r).length : Nat) : Int) := by simp
    rw [Nat.zero_mul, Addr.add_zero'] at y0
    clear hg hR hB hd y1 y2 i2 l2
    generalize (t :: r).length = n at *
    generalize (tk == k) = q at *
    go_enter Tryz.func174, Tryz.ntmps174
    go_wp2
    go_ret
    exact ⟨by simp, rfl⟩
set_option maxHeartbeats 1000000 in
set_option maxRecDepth 100000 in
theorem take_any (w0 W : World) (g : Nat) (t : Tok) (r : List Tok) (h : PS w0 W g (t :: r)) : Calls Tryz.prog 175 #[.pointer (some ⟨g, 0, none⟩)] W fun e w' => ∃ A2 c2, e = .returned (.agg #[.int .u8 t.k, .string (bs t.t), .slice A2 t.p.length c2]) ∧ Kd.string.C w0 A2 t.p.length (t.p.map bs) ∧ t.p.length ≤ c2 ∧ PS w0 w' g r ∧ KeepP (fun k => k = g) W w' := by
  obtain ⟨A, c, hg, hge, hR, hB⟩ := h
  obtain ⟨i0, hi, hz0, hz1, hz2⟩ := info_parts info101
  have hcut := cut_from (P := Tryz.prog) 95 101 .i64 Tryz.underlying95 hi 3 hz1 A (t :: r).length c 1 (by omega) (by simp; omega)
  have hT := hR.tail
  obtain ⟨X, hX⟩ : ∃ X, (if c = 1 then A else A.map (·.add 3)) = X := ⟨_, rfl⟩
  rw [hX] at hT
  have hX' : (if c = (1 : Int).toNat then A else A.map (·.add ((1 : Int).toNat * 3))) = X := hX
  rw [hX'] at hcut
  have hcut' : ∀ W : World, (Instr.slice 95 (.slice A (t :: r).length c) (some (.int .i64 1)) none none).run Tryz.prog W = .ok (.slice X r.length (c - 1)) W := hcut
  clear hcut hX hX'
  obtain ⟨ad, A2, c2, rfl, y0, y1, y2, i2, l2⟩ := hR.at (i := 0) (x := t) rfl
  replace y0 := (hB.cell (World.block_lt_of_cell? _ _ y0)).trans y0
  replace y1 := (hB.cell (World.block_lt_of_cell? _ _ y1)).trans y1
  replace y2 := (hB.cell (World.block_lt_of_cell? _ _ y2)).trans y2
  rw [Nat.zero_mul, Addr.add_zero'] at y0 y1 y2
  have hli : (0 : Int) < (((t :: r).length : Nat) : Int) := by simp
  have hln : 0 < (t :: r).length := by simp
  generalize (t :: r).length = n at *
  have hgW : g < W.heap.size := blk_lt hg
  have HG := Aside0.mk hg
  have HB := Aside0.mk hB
  have HT := Aside0.mk hT
  obtain ⟨k, s, p⟩ := t
  simp only at *
  clear hR hi hz0 hz1 hz2 hg hB hT
  go_enter Tryz.func175, Tryz.ntmps175
  go_upto_region 1 with (fail)
  have hb1 := below_alloc (Below.refl W.heap.size W) (.cells #[.int .u8 0, .string ⟨#[]⟩, .slice none 0 0] 101)
  have BK1 := blk_new W (.cells #[.int .u8 0, .string ⟨#[]⟩, .slice none 0 0] 101)
  replace y0 := pw_cell_below hb1 y0
  replace y1 := pw_cell_below hb1 y1
  replace y2 := pw_cell_below hb1 y2
  have HG1 := blk_below HG.out hb1
  have hs1 : (W.alloc (.cells #[.int .u8 0, .string ⟨#[]⟩, .slice none 0 0] 101)).heap.size = W.heap.size + 1 := by simp
  have HK1 : KeepP (fun k => k = g) W (W.alloc (.cells #[.int .u8 0, .string ⟨#[]⟩, .slice none 0 0] 101)) := KeepP.of_below hb1
  have hB1 := below_step' HB.out hb1
  obtain ⟨g1, hg1⟩ : ∃ g1, W.heap.size = g1 := ⟨_, rfl⟩
  rw [hg1] at BK1 hs1 hgW ⊢
  generalize W.alloc (.cells #[.int .u8 0, .string ⟨#[]⟩, .slice none 0 0] 101) = W1 at *
  have z0 : W1.cell? ⟨g, 0, none⟩ = some (.slice (some ad) n c) := (blk_cell HG1 0).trans rfl
  have f0 := blk_frozen HG1 0
  have HG1' := Aside0.mk HG1
  have BK1' := Aside0.mk BK1
  have HK1' := Aside0.mk HK1
  have HB1' := Aside0.mk hB1
  have hne : g1 ≠ g := by omega
  have hgs := hg1
  clear HG1 BK1 hb1 HK1 hB1 hg1
  have Hgs := Aside0.mk hgs
  clear hgs
  go_upto_region 2 with (fail)
  have hb2 := below_alloc (Below.refl W1.heap.size W1) (.cells #[.int .u8 k, .string (bs s), .slice A2 p.length c2] 101)
  have BK2 := blk_new W1 (.cells #[.int .u8 k, .string (bs s), .slice A2 p.length c2] 101)
  rw [hs1] at BK2
  replace HG1' := Aside0.mk (blk_below HG1'.out hb2)
  replace BK1' := Aside0.mk (blk_below BK1'.out hb2)
  replace HK1' := Aside0.mk (HK1'.out.trans (KeepP.of_below hb2))
  replace HB1' := Aside0.mk (below_step HB1'.out hb2)
  clear z0 f0 hb2 y0 y1 y2
  generalize W1.alloc (.cells #[.int .u8 k, .string (bs s), .slice A2 p.length c2] 101) = W2 at *
  have z0 : W2.cell? ⟨g, 0, none⟩ = some (.slice (some ad) n c) := (blk_cell HG1'.out 0).trans rfl
  have f0 := blk_frozen HG1'.out 0
  obtain ⟨x0, x1, x2, q0, q1, q2⟩ := cells_3 BK1'.out
  obtain ⟨m0, m1, m2, n0, n1, n2⟩ := cells_3 BK2
  have hne2 : g1 + 1 ≠ g := by omega
  have hne3 : g ≠ g1 := by omega
  have BK2' := Aside0.mk BK2
  clear BK2
  go_wp2
  refine bodyPost_ret (results_cell_row rfl _ _ g1 101 #[.int .u8 k, .string (bs s), .slice A2 p.length c2] (0, 0) _ rfl (blk3 (blk_far BK1'.out (p := ⟨g, 0, none⟩) hne _)) Tryz.underlying101 rfl (by kernel_rfl)) rfl ?_
  refine ⟨A2, c2, rfl, i2, l2, ⟨X, c - 1, ?_, hge, HT.out, ?_⟩, ?_⟩
  · exact blk_far (blk_far (blk_far (blk_put HG1'.out 0 _ rfl) (p := ⟨g1, 0, none⟩) hne3 _) (p := ⟨g1, 1, none⟩) hne3 _) (p := ⟨g1, 2, none⟩) hne3 _
  · have hle : w0.heap.size ≤ g1 := by omega
    exact below3 (below_set HB1'.out hge) hle
  · have hle : W.heap.size ≤ g1 := Nat.le_of_eq Hgs.out
    exact KeepP.set (KeepP.set (KeepP.set (KeepP.set HK1'.out (.inl rfl) _) (.inr hle) _) (.inr hle) _) (.inr hle) _
end Go.Proofs.YtniibpndgcndbaaGreatDoor.Tpl
