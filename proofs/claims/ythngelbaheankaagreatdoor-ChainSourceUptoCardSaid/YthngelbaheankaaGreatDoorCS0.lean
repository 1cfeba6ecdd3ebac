/- Part 0 of the proof (texts of this claim, merged in build order; what the claim does not need has been left out). -/
import Derived.Test.YthngelbaheankaaGreatDoorCSWWords
import Derived.Test.YthngelbaheankaaGreatDoorCSWLast
import Derived.Test.YthngelbaheankaaGreatDoorCSWTab
import Derived.Test.YthngelbaheankaaGreatDoorCSWApart
import Derived.Test.YthngelbaheankaaGreatDoorCSWArr
import Derived.Test.YthngelbaheankaaGreatDoorCSWFoot
import Derived.Test.YthngelbaheankaaGreatDoorCSWKept
import Derived.Test.YthngelbaheankaaGreatDoorCSWShare
import Derived.Test.YthngelbaheankaaGreatDoorCSWN
import Derived.Test.YthngelbaheankaaGreatDoorCSWEqStruct
import Derived.Test.YthngelbaheankaaGreatDoorCSWRepsOne
import Derived.Test.YthngelbaheankaaGreatDoorCSWInv
import Derived.Test.YthngelbaheankaaGreatDoorCSWInvWords
import Derived.Test.YthngelbaheankaaGreatDoorCSWGuard
import Derived.Test.YthngelbaheankaaGreatDoorCSWNEv
import Derived.Test.YthngelbaheankaaGreatDoorCSWMore
import Derived.ArgAppend
import Derived.Below
import Derived.BigQuiet
import Derived.Deep.AppendLies
import Derived.Deep.CutBlock
import Derived.Deep.DeepCutAuto
import Derived.Deep.DrawnRows
import Derived.Deep.Draws
import Derived.Deep.LoopGhost
import Derived.Deep.OwnRows
import Derived.Deep.QuietTactic
import Derived.Deep.RegionHeld3
import Derived.Deep.RegionLaw
import Derived.Deep.RegionWith
import Derived.KernelRfl
import Derived.Laws.BitsLemmas
import Derived.Laws.BytesArg
import Derived.Laws.CopyRow
import Derived.Laws.IdiomCopy
import Derived.Laws.MakeOwn
import Derived.Laws.OwnMore
import Derived.Laws.Rows
import Derived.Laws.Slices
import Derived.Lib.AppendStr
import Derived.Lib.AppendZeros
import Derived.Lib.AppendZerosOnto
import Derived.Lib.ConvBytes
import Derived.Lib.IndexMore
import Derived.Lib.ItoaNum
import Derived.Lib.Overlaps
import Derived.Lib.SlicesCompact
import Derived.Maps.AppendAt
import Derived.OrdersHeld
import Derived.OwnWalk
import Derived.RowKit
import Derived.RowKit3
import Derived.Sort.Walk0
import Derived.Tactics
import Derived.Test.YthngelbaheankaaGreatDoorProg
import Derived.WalkKit
import Derived.WalkLawsBesides
import Derived.WalkSpells
import Derived.WideLaws
set_option linter.unusedVariables false
set_option linter.unusedSimpArgs false
namespace Go.Proofs.YthngelbaheankaaGreatDoor.Short
open Go.RowKit Go.Proofs.YthngelbaheankaaGreatDoorW.PrintWords Go.Proofs.YthngelbaheankaaGreatDoorW.PrintLast Go.Proofs.YthngelbaheankaaGreatDoorW.PrintMore
class Stp (w W : World) : Prop where out : Below w.heap.size w W
instance Stp.refl (w : World) : Stp w w := ⟨Below.refl _ _⟩
instance Stp.drewN {w W : World} [h : Stp w W] (n : Nat) : Stp w (W.drewN n) := ⟨pw_below_drewN h.out n⟩
instance Stp.drew {w W : World} [h : Stp w W] : Stp w W.drew := ⟨below_drew1 h.out⟩
instance Stp.alloc {w W : World} [h : Stp w W] (o : Obj) : Stp w (W.alloc o) := ⟨below_alloc h.out o⟩
theorem belS {w W X : World} (h : Below w.heap.size w W) [s : Stp W X] : Below w.heap.size w X := below_step h s.out
theorem blkS {W X : World} {g : Nat} {o : Obj} (h : W.heap[g]? = some o) [s : Stp W X] : X.heap[g]? = some o := blk_below h s.out
section
variable {w : World} {g : Nat} {t : TypeId}
theorem cells_2 {a0 a1 : Value} (h : w.heap[g]? = some (.cells #[a0, a1] t (0, 0))) : w.cell? ⟨g, 0, none⟩ = some a0 ∧ w.cell? ⟨g, 1, none⟩ = some a1 ∧ w.frozen? ⟨g, 0, none⟩ = false ∧ w.frozen? ⟨g, 1, none⟩ = false :=
  ⟨(blk_cell h 0).trans rfl, (blk_cell h 1).trans rfl, blk_frozen h 0, blk_frozen h 1⟩
theorem cells_3 {a0 a1 a2 : Value} (h : w.heap[g]? = some (.cells #[a0, a1, a2] t (0, 0))) : w.cell? ⟨g, 0, none⟩ = some a0 ∧ w.cell? ⟨g, 1, none⟩ = some a1 ∧ w.cell? ⟨g, 2, none⟩ = some a2 ∧ w.frozen? ⟨g, 0, none⟩ = false ∧ w.frozen? ⟨g, 1, none⟩ = false ∧ w.frozen? ⟨g, 2, none⟩ = false :=
  ⟨(blk_cell h 0).trans rfl, (blk_cell h 1).trans rfl, (blk_cell h 2).trans rfl, blk_frozen h 0, blk_frozen h 1, blk_frozen h 2⟩
theorem cells_4 {a0 a1 a2 a3 : Value} (h : w.heap[g]? = some (.cells #[a0, a1, a2, a3] t (0, 0))) : w.cell? ⟨g, 0, none⟩ = some a0 ∧ w.cell? ⟨g, 1, none⟩ = some a1 ∧ w.cell? ⟨g, 2, none⟩ = some a2 ∧ w.cell? ⟨g, 3, none⟩ = some a3 ∧ w.frozen? ⟨g, 0, none⟩ = false ∧ w.frozen? ⟨g, 1, none⟩ = false ∧ w.frozen? ⟨g, 2, none⟩ = false ∧ w.frozen? ⟨g, 3, none⟩ = false :=
  ⟨(blk_cell h 0).trans rfl, (blk_cell h 1).trans rfl, (blk_cell h 2).trans rfl, (blk_cell h 3).trans rfl, blk_frozen h 0, blk_frozen h 1, blk_frozen h 2, blk_frozen h 3⟩
theorem cells_5 {a0 a1 a2 a3 a4 : Value} (h : w.heap[g]? = some (.cells #[a0, a1, a2, a3, a4] t (0, 0))) : w.cell? ⟨g, 0, none⟩ = some a0 ∧ w.cell? ⟨g, 1, none⟩ = some a1 ∧ w.cell? ⟨g, 2, none⟩ = some a2 ∧ w.cell? ⟨g, 3, none⟩ = some a3 ∧ w.cell? ⟨g, 4, none⟩ = some a4 ∧ w.frozen? ⟨g, 0, none⟩ = false ∧ w.frozen? ⟨g, 1, none⟩ = false ∧ w.frozen? ⟨g, 2, none⟩ = false ∧ w.frozen? ⟨g, 3, none⟩ = false ∧ w.frozen? ⟨g, 4, none⟩ = false :=
  ⟨(blk_cell h 0).trans rfl, (blk_cell h 1).trans rfl, (blk_cell h 2).trans rfl, (blk_cell h 3).trans rfl, (blk_cell h 4).trans rfl, blk_frozen h 0, blk_frozen h 1, blk_frozen h 2, blk_frozen h 3, blk_frozen h 4⟩
theorem cells_6 {a0 a1 a2 a3 a4 a5 : Value} (h : w.heap[g]? = some (.cells #[a0, a1, a2, a3, a4, a5] t (0, 0))) : w.cell? ⟨g, 0, none⟩ = some a0 ∧ w.cell? ⟨g, 1, none⟩ = some a1 ∧ w.cell? ⟨g, 2, none⟩ = some a2 ∧ w.cell? ⟨g, 3, none⟩ = some a3 ∧ w.cell? ⟨g, 4, none⟩ = some a4 ∧ w.cell? ⟨g, 5, none⟩ = some a5 ∧ w.frozen? ⟨g, 0, none⟩ = false ∧ w.frozen? ⟨g, 1, none⟩ = false ∧ w.frozen? ⟨g, 2, none⟩ = false ∧ w.frozen? ⟨g, 3, none⟩ = false ∧ w.frozen? ⟨g, 4, none⟩ = false ∧ w.frozen? ⟨g, 5, none⟩ = false :=
  ⟨(blk_cell h 0).trans rfl, (blk_cell h 1).trans rfl, (blk_cell h 2).trans rfl, (blk_cell h 3).trans rfl, (blk_cell h 4).trans rfl, (blk_cell h 5).trans rfl, blk_frozen h 0, blk_frozen h 1, blk_frozen h 2, blk_frozen h 3, blk_frozen h 4, blk_frozen h 5⟩
theorem cells_7 {a0 a1 a2 a3 a4 a5 a6 : Value} (h : w.heap[g]? = some (.cells #[a0, a1, a2, a3, a4, a5, a6] t (0, 0))) : w.cell? ⟨g, 0, none⟩ = some a0 ∧ w.cell? ⟨g, 1, none⟩ = some a1 ∧ w.cell? ⟨g, 2, none⟩ = some a2 ∧ w.cell? ⟨g, 3, none⟩ = some a3 ∧ w.cell? ⟨g, 4, none⟩ = some a4 ∧ w.cell? ⟨g, 5, none⟩ = some a5 ∧ w.cell? ⟨g, 6, none⟩ = some a6 ∧ w.frozen? ⟨g, 0, none⟩ = false ∧ w.frozen? ⟨g, 1, none⟩ = false ∧ w.frozen? ⟨g, 2, none⟩ = false ∧ w.frozen? ⟨g, 3, none⟩ = false ∧ w.frozen? ⟨g, 4, none⟩ = false ∧ w.frozen? ⟨g, 5, none⟩ = false ∧ w.frozen? ⟨g, 6, none⟩ = false :=
  ⟨(blk_cell h 0).trans rfl, (blk_cell h 1).trans rfl, (blk_cell h 2).trans rfl, (blk_cell h 3).trans rfl, (blk_cell h 4).trans rfl, (blk_cell h 5).trans rfl, (blk_cell h 6).trans rfl, blk_frozen h 0, blk_frozen h 1, blk_frozen h 2, blk_frozen h 3, blk_frozen h 4, blk_frozen h 5, blk_frozen h 6⟩
end
end Go.Proofs.YthngelbaheankaaGreatDoor.Short
namespace Go.Proofs.YthngelbaheankaaGreatDoor.PB
open Go.RowKit Go.Proofs.YthngelbaheankaaGreatDoorW.PrintWords Go.Proofs.YthngelbaheankaaGreatDoorW.PrintLast Go.Proofs.YthngelbaheankaaGreatDoorW.PrintMore Go.Proofs.YthngelbaheankaaGreatDoor.Short
attribute [local go_sem] max2_int min2_int max_two min_two max_three min_three max_four min_four   -- for this text's walks alone
set_option linter.unusedVariables false
set_option linter.unusedSimpArgs false
def errW : Option Int → Value
  | none => .nilIface
  | some c => .iface 0 (.int .i64 c)
theorem errW_none : errW none = .nilIface := rfl
theorem errW_some (c : Int) : errW (some c) = .iface 0 (.int .i64 c) := rfl
theorem info110 : (Tryz.prog.info? 110).map (fun i => (i.zero, i.size, i.bytes)) = some (some (.agg #[(.int .u8 0), (.string ⟨#[]⟩), (.slice none 0 0)]), 3, 48) := by kernel_rfl
structure S116 where
  f0 : Int
  f1 : ByteArray
  f2 : (List ByteArray)
  f3 : (List S116)
  f4 : (List S116)
def z116 : S116 := ⟨(0 : Int), (⟨#[]⟩ : ByteArray), ([] : List ByteArray), ([] : List S116), ([] : List S116)⟩
def F116 (d : Kd S116) : Kd S116 := Kd.iso (Kd.pair (Kd.int .u8) (Kd.pair Kd.string (Kd.pair (Kd.slice 9 Kd.string) (Kd.pair (Kd.slice 116 d) (Kd.slice 116 d))))) (fun x : S116 => (x.f0, x.f1, x.f2, x.f3, x.f4))
theorem mono116 : Kd.Mono F116 := Kd.mono_iso _ (Kd.mono_pair (Kd.mono_const _) (Kd.mono_pair (Kd.mono_const _) (Kd.mono_pair (Kd.mono_const _) (Kd.mono_pair (Kd.mono_slice 116 Kd.mono_id) (Kd.mono_slice 116 Kd.mono_id)))))
theorem sub116 : Kd.Sub F116 [9, 116] := Kd.sub_iso _ (Kd.sub_pair (Kd.sub_const _ (by decide)) (Kd.sub_pair (Kd.sub_const _ (by decide)) (Kd.sub_pair (Kd.sub_const _ (by decide)) (Kd.sub_pair (Kd.sub_slice 116 (by decide) Kd.sub_id) (Kd.sub_slice 116 (by decide) Kd.sub_id)))))
theorem sz116 : ∀ n, (Kd.upto F116 5 [9, 116] n).sz = 5 := Kd.upto_sz (fun _ => rfl)
def k116 : Kd S116 := Kd.fix F116 5 [9, 116] sz116 (Kd.upto_E sub116)
theorem k116_open {w : World} {x : S116} {cs : List Value} (h : k116.K w x cs) : ∃ A2 c2 A3 c3 A4 c4, cs = [.int .u8 x.f0, .string x.f1, .slice A2 x.f2.length c2, .slice A3 x.f3.length c3, .slice A4 x.f4.length c4] ∧ x.f2.length ≤ c2 ∧ Kd.string.C w A2 x.f2.length x.f2 ∧ x.f3.length ≤ c3 ∧ k116.C w A3 x.f3.length x.f3 ∧ x.f4.length ≤ c4 ∧ k116.C w A4 x.f4.length x.f4 := by
  obtain ⟨n, h⟩ := h
  cases n with
  | zero => exact h.elim
  | succ n =>
    obtain ⟨_, _, rfl, rfl, ⟨_, _, rfl, rfl, ⟨_, _, rfl, ⟨A2, c2, rfl, l2, g2⟩, ⟨_, _, rfl, ⟨A3, c3, rfl, l3, g3⟩, ⟨A4, c4, rfl, l4, g4⟩⟩⟩⟩⟩ := h
    exact ⟨A2, c2, A3, c3, A4, c4, rfl, l2, g2, l3, Kd.fix_C g3, l4, Kd.fix_C g4⟩
theorem k116_mk (w : World) (x : S116) {A2 : Option Addr} {c2 : Nat} (l2 : x.f2.length ≤ c2) (g2 : Kd.string.C w A2 x.f2.length x.f2) {A3 : Option Addr} {c3 : Nat} (l3 : x.f3.length ≤ c3) (g3 : k116.C w A3 x.f3.length x.f3) {A4 : Option Addr} {c4 : Nat} (l4 : x.f4.length ≤ c4) (g4 : k116.C w A4 x.f4.length x.f4) : k116.K w x [.int .u8 x.f0, .string x.f1, .slice A2 x.f2.length c2, .slice A3 x.f3.length c3, .slice A4 x.f4.length c4] := by
  obtain ⟨n3, q3⟩ := Kd.fix_C_back mono116 g3
  obtain ⟨n4, q4⟩ := Kd.fix_C_back mono116 g4
  have r3 := Kd.upto_C_le mono116 sz116 (show n3 ≤ (max n3 n4) by omega) q3
  have r4 := Kd.upto_C_le mono116 sz116 (show n4 ≤ (max n3 n4) by omega) q4
  exact ⟨(max n3 n4) + 1, ⟨[.int .u8 x.f0], [.string x.f1, .slice A2 x.f2.length c2, .slice A3 x.f3.length c3, .slice A4 x.f4.length c4], rfl, rfl, ⟨[.string x.f1], [.slice A2 x.f2.length c2, .slice A3 x.f3.length c3, .slice A4 x.f4.length c4], rfl, rfl, ⟨[.slice A2 x.f2.length c2], [.slice A3 x.f3.length c3, .slice A4 x.f4.length c4], rfl, ⟨A2, c2, rfl, l2, g2⟩, ⟨[.slice A3 x.f3.length c3], [.slice A4 x.f4.length c4], rfl, ⟨A3, c3, rfl, l3, r3⟩, ⟨A4, c4, rfl, l4, r4⟩⟩⟩⟩⟩⟩
theorem k116_mkM (w : World) (base : Nat) (ok : Nat → Prop) (x : S116) {v2 : Value} (g2 : Kd.string.R 9 w base ok v2 x.f2) {v3 : Value} (g3 : k116.R 116 w base ok v3 x.f3) {v4 : Value} (g4 : k116.R 116 w base ok v4 x.f4) : k116.M w base ok x [.int .u8 x.f0, .string x.f1, v2, v3, v4] := by
  obtain ⟨n3, q3⟩ := Kd.fix_R_back mono116 g3
  obtain ⟨n4, q4⟩ := Kd.fix_R_back mono116 g4
  have r3 := Kd.upto_R_le mono116 sz116 (show n3 ≤ (max n3 n4) by omega) q3
  have r4 := Kd.upto_R_le mono116 sz116 (show n4 ≤ (max n3 n4) by omega) q4
  exact ⟨(max n3 n4) + 1, ⟨[.int .u8 x.f0], [.string x.f1, v2, v3, v4], rfl, rfl, ⟨[.string x.f1], [v2, v3, v4], rfl, rfl, ⟨[v2], [v3, v4], rfl, ⟨v2, rfl, g2⟩, ⟨[v3], [v4], rfl, ⟨v3, rfl, r3⟩, ⟨v4, rfl, r4⟩⟩⟩⟩⟩⟩
def rd_T116 (xs : List S116) (i : Int) : S116 := xs.getD i.toNat z116
theorem at_T116 {w : World} {A : Option Addr} {n : Nat} {xs : List S116} (h : Kd.C k116 w A n xs) (i : Int) (h0 : 0 ≤ i) (h1 : i < n) : ∃ ad A2 c2 A3 c3 A4 c4, A = some ad ∧ w.cell? (ad.add (i.toNat * 5)) = some (.int .u8 (rd_T116 xs i).f0) ∧ w.cell? ⟨(ad.add (i.toNat * 5)).block, (ad.add (i.toNat * 5)).off + 1, none⟩ = some (.string (rd_T116 xs i).f1) ∧ w.cell? ⟨(ad.add (i.toNat * 5)).block, (ad.add (i.toNat * 5)).off + 2, none⟩ = some (.slice A2 (rd_T116 xs i).f2.length c2) ∧ w.cell? ⟨(ad.add (i.toNat * 5)).block, (ad.add (i.toNat * 5)).off + 3, none⟩ = some (.slice A3 (rd_T116 xs i).f3.length c3) ∧ w.cell? ⟨(ad.add (i.toNat * 5)).block, (ad.add (i.toNat * 5)).off + 4, none⟩ = some (.slice A4 (rd_T116 xs i).f4.length c4) ∧ (rd_T116 xs i).f2.length ≤ c2 ∧ Kd.string.C w A2 (rd_T116 xs i).f2.length (rd_T116 xs i).f2 ∧ (rd_T116 xs i).f3.length ≤ c3 ∧ k116.C w A3 (rd_T116 xs i).f3.length (rd_T116 xs i).f3 ∧ (rd_T116 xs i).f4.length ≤ c4 ∧ k116.C w A4 (rd_T116 xs i).f4.length (rd_T116 xs i).f4 := by
  obtain ⟨ad, c, e, _, hK, hc0⟩ := Kd.C_get h z116 i h0 h1
  have hc : ∀ j u, c[j]? = some u → w.cell? (ad.add (i.toNat * 5 + j)) = some u := hc0
  obtain ⟨A2, c2, A3, c3, A4, c4, rfl, l2, g2, l3, g3, l4, g4⟩ := k116_open hK
  exact ⟨ad, A2, c2, A3, c3, A4, c4, e, hc 0 _ rfl, by rw [← add_field _ _ 1 (by omega)]; exact hc 1 _ rfl, by rw [← add_field _ _ 2 (by omega)]; exact hc 2 _ rfl, by rw [← add_field _ _ 3 (by omega)]; exact hc 3 _ rfl, by rw [← add_field _ _ 4 (by omega)]; exact hc 4 _ rfl, l2, g2, l3, g3, l4, g4⟩
structure S110 where
  f0 : Int
  f1 : ByteArray
  f2 : (List ByteArray)
def z110 : S110 := ⟨(0 : Int), (⟨#[]⟩ : ByteArray), ([] : List ByteArray)⟩
def k110 : Kd S110 := Kd.iso (Kd.pair (Kd.int .u8) (Kd.pair Kd.string (Kd.slice 9 Kd.string))) (fun x : S110 => (x.f0, x.f1, x.f2))
theorem k110_open {w : World} {x : S110} {cs : List Value} (h : k110.K w x cs) : ∃ A2 c2, cs = [.int .u8 x.f0, .string x.f1, .slice A2 x.f2.length c2] ∧ x.f2.length ≤ c2 ∧ Kd.string.C w A2 x.f2.length x.f2 := by
  obtain ⟨_, _, rfl, rfl, ⟨_, _, rfl, rfl, ⟨A2, c2, rfl, l2, g2⟩⟩⟩ := h
  exact ⟨A2, c2, rfl, l2, g2⟩
theorem k110_mkM (w : World) (base : Nat) (ok : Nat → Prop) (x : S110) {v2 : Value} (g2 : Kd.string.R 9 w base ok v2 x.f2) : k110.M w base ok x [.int .u8 x.f0, .string x.f1, v2] := ⟨[.int .u8 x.f0], [.string x.f1, v2], rfl, rfl, ⟨[.string x.f1], [v2], rfl, rfl, ⟨v2, rfl, g2⟩⟩⟩
def rd_T110 (xs : List S110) (i : Int) : S110 := xs.getD i.toNat z110
theorem at_T110 {w : World} {A : Option Addr} {n : Nat} {xs : List S110} (h : Kd.C k110 w A n xs) (i : Int) (h0 : 0 ≤ i) (h1 : i < n) : ∃ ad A2 c2, A = some ad ∧ w.cell? (ad.add (i.toNat * 3)) = some (.int .u8 (rd_T110 xs i).f0) ∧ w.cell? ⟨(ad.add (i.toNat * 3)).block, (ad.add (i.toNat * 3)).off + 1, none⟩ = some (.string (rd_T110 xs i).f1) ∧ w.cell? ⟨(ad.add (i.toNat * 3)).block, (ad.add (i.toNat * 3)).off + 2, none⟩ = some (.slice A2 (rd_T110 xs i).f2.length c2) ∧ (rd_T110 xs i).f2.length ≤ c2 ∧ Kd.string.C w A2 (rd_T110 xs i).f2.length (rd_T110 xs i).f2 := by
  obtain ⟨ad, c, e, _, hK, hc0⟩ := Kd.C_get h z110 i h0 h1
  have hc : ∀ j u, c[j]? = some u → w.cell? (ad.add (i.toNat * 3 + j)) = some u := hc0
  obtain ⟨A2, c2, rfl, l2, g2⟩ := k110_open hK
  exact ⟨ad, A2, c2, e, hc 0 _ rfl, by rw [← add_field _ _ 1 (by omega)]; exact hc 1 _ rfl, by rw [← add_field _ _ 2 (by omega)]; exact hc 2 _ rfl, l2, g2⟩
structure S27 where
  f0 : Int
  f1 : ByteArray
  f2 : Int
  f3 : (List S27)
  f4 : (List ByteArray)
def F27 (d : Kd S27) : Kd S27 := Kd.iso (Kd.pair (Kd.int .u8) (Kd.pair Kd.string (Kd.pair (Kd.int .i64) (Kd.pair (Kd.slice 27 d) (Kd.slice 9 Kd.string))))) (fun x : S27 => (x.f0, x.f1, x.f2, x.f3, x.f4))
theorem sub27 : Kd.Sub F27 [9, 27] := Kd.sub_iso _ (Kd.sub_pair (Kd.sub_const _ (by decide)) (Kd.sub_pair (Kd.sub_const _ (by decide)) (Kd.sub_pair (Kd.sub_const _ (by decide)) (Kd.sub_pair (Kd.sub_slice 27 (by decide) Kd.sub_id) (Kd.sub_const _ (by decide))))))
theorem sz27 : ∀ n, (Kd.upto F27 5 [9, 27] n).sz = 5 := Kd.upto_sz (fun _ => rfl)
def k27 : Kd S27 := Kd.fix F27 5 [9, 27] sz27 (Kd.upto_E sub27)
end Go.Proofs.YthngelbaheankaaGreatDoor.PB
namespace Go.Proofs.YthngelbaheankaaGreatDoor.PB
open Go.RowKit Go.Proofs.YthngelbaheankaaGreatDoorW.PrintWords Go.Proofs.YthngelbaheankaaGreatDoorW.PrintLast Go.Proofs.YthngelbaheankaaGreatDoorW.PrintMore Go.Proofs.YthngelbaheankaaGreatDoor.Short
attribute [local go_sem] max2_int min2_int max_two min_two max_three min_three max_four min_four   -- for this text's walks alone
set_option linter.unusedVariables false
set_option linter.unusedSimpArgs false
def bellmanref09_Named.l0 : Nat → ByteArray → Int → Option (Bool)
 | 0, _, _ => none
 | k + 1, x0, x3 => if x3 < (x0.size : Int) then (if 0 ≤ x3 then (if (bt x0 x3) ≥ 97 then (if (bt x0 x3) ≤ 122 then (bellmanref09_Named.l0 k x0 (wrap64 (x3 + 1))) else (if x3 = 0 then (some false) else (if (bt x0 x3) = 95 then (bellmanref09_Named.l0 k x0 (wrap64 (x3 + 1))) else (if (bt x0 x3) < 48 then (some false) else (if (bt x0 x3) > 57 then (some false) else (bellmanref09_Named.l0 k x0 (wrap64 (x3 + 1)))))))) else (if x3 = 0 then (some false) else (if (bt x0 x3) = 95 then (bellmanref09_Named.l0 k x0 (wrap64 (x3 + 1))) else (if (bt x0 x3) < 48 then (some false) else (if (bt x0 x3) > 57 then (some false) else (bellmanref09_Named.l0 k x0 (wrap64 (x3 + 1)))))))) else (none)) else (if x0.toList = ([] : List UInt8) then (some false) else (some (decide ((x0.size : Int) ≤ 32))))
def bellmanref09_Named.f (k : Nat) (a0 : ByteArray) : Option (Bool) := bellmanref09_Named.l0 k a0 0
end Go.Proofs.YthngelbaheankaaGreatDoor.PB
namespace Go.Proofs.YthngelbaheankaaGreatDoor.Tpl
abbrev S := List UInt8
inductive Nodes where
  | nil
  | cons (k : Nat) (t : S) (p : List S) (a b r : Nodes)
structure Tok where
  k : Nat
  t : S
  p : List S
structure Look where
  k : Nat
  t : S
  p : List S
  lv : Nat
  wi : Bool
def thisS : S := [116, 104, 105, 115]
namespace Nodes
def len : Nodes → Nat | nil => 0 | cons _ _ _ _ _ r => r.len + 1
def isNil : Nodes → Bool | nil => true | cons .. => false
def cnt : Nodes → Nat | nil => 0 | cons _ _ _ a b r => 1 + a.cnt + b.cnt + r.cnt
def app : Nodes → Nodes → Nodes | nil, y => y | cons k t p a b r, y => cons k t p a b (r.app y)
def leafP (k : Nat) (t : S) (p a b : Nat) : Bool :=
  if k = 1 then p + a + b == 0 else if k = 2 then a == 0 && b == 0 && t.isEmpty else if k = 5 then b == 0 && t.isEmpty else if k = 3 then t.isEmpty else false
def okN : Nodes → Nat → Bool
  | nil, _ => true
  | cons k t p a b r, lv => lv != 0 && leafP k t p.length a.len b.len && okN a (lv - 1) && okN b (lv - 1) && okN r lv
def inP : Nodes → Nat → Int × Bool → Int × Bool
  | nil, _, c => c
  | cons k t p a b r, lv, c => if c.2 || lv == 0 || decide (c.1 - 1 < 0) || !leafP k t p.length a.len b.len then (c.1 - 1, true) else inP r lv (inP b (lv - 1) (inP a (lv - 1) (c.1 - 1, false)))
theorem inP_bad (l : Nodes) : ∀ lv x, (inP l lv (x, true)).2 = true := by
  cases l with
  | nil => intro lv x; rfl
  | cons k t p a b r => intro lv x; simp [inP]
theorem inP_ok (l : Nodes) : ∀ lv x, (0 ≤ x) → inP l lv (x, false) = if okN l lv = true ∧ (l.cnt : Int) ≤ x then (x - l.cnt, false) else ((inP l lv (x, false)).1, true) := by
  induction l with
  | nil => intro lv x hx; simp [inP, okN, cnt, hx]
  | cons k t p a b r iha ihb ihr =>
    intro lv x hx
    by_cases c1 : (lv == 0 || decide (x - 1 < 0) || !leafP k t p.length a.len b.len) = true
    · rw [if_neg]
      · simp only [inP, Bool.false_or, c1, if_true]
      · simp only [okN, cnt, Bool.and_eq_true, bne_iff_ne]
        simp only [Bool.or_eq_true, beq_iff_eq, decide_eq_true_eq, Bool.not_eq_true'] at c1
        rintro ⟨⟨⟨⟨⟨h1, h2⟩, h3⟩, h4⟩, h5⟩, h6⟩
        rcases c1 with (c1 | c1) | c1
        · exact h1 c1
        · omega
        · rw [h2] at c1; cases c1
    · have c1' : (lv == 0 || decide (x - 1 < 0) || !leafP k t p.length a.len b.len) = false := by simpa using c1
      have e : inP (cons k t p a b r) lv (x, false) = inP r lv (inP b (lv - 1) (inP a (lv - 1) (x - 1, false))) := by
        conv => lhs; unfold inP
        simp only [Bool.false_or, c1', Bool.false_eq_true, if_false]
      rw [e]
      simp only [Bool.or_eq_false_iff, beq_eq_false_iff_ne, decide_eq_false_iff_not, Bool.not_eq_false'] at c1'
      obtain ⟨⟨h1, h2⟩, h3⟩ := c1'
      have ea := iha (lv - 1) (x - 1) (by omega)
      by_cases ca : okN a (lv - 1) = true ∧ (a.cnt : Int) ≤ x - 1
      · rw [if_pos ca] at ea
        rw [ea]
        have eb := ihb (lv - 1) (x - 1 - a.cnt) (by omega)
        by_cases cb : okN b (lv - 1) = true ∧ (b.cnt : Int) ≤ x - 1 - a.cnt
        · rw [if_pos cb] at eb
          rw [eb]
          have er := ihr lv (x - 1 - a.cnt - b.cnt) (by omega)
          by_cases cr : okN r lv = true ∧ (r.cnt : Int) ≤ x - 1 - a.cnt - b.cnt
          · rw [if_pos cr] at er
            rw [er, if_pos]
            · simp only [cnt]; congr 1; omega
            · refine ⟨by simp only [okN, bne_iff_ne, ne_eq, Bool.and_eq_true]; exact ⟨⟨⟨⟨h1, h3⟩, ca.1⟩, cb.1⟩, cr.1⟩, by simp only [cnt]; omega⟩
          · rw [if_neg cr] at er
            rw [er, if_neg]
            simp only [okN, Bool.and_eq_true, cnt]
            rintro ⟨⟨_, h5⟩, h6⟩
            exact cr ⟨h5, by omega⟩
        · rw [if_neg cb] at eb
          rw [eb, if_neg]
          · rw [show ((inP b (lv - 1) (x - 1 - ↑a.cnt, false)).fst, true) = (((inP b (lv - 1) (x - 1 - ↑a.cnt, false)).fst, true) : Int × Bool) from rfl]
            exact Prod.ext rfl (inP_bad r _ _)
          · simp only [okN, Bool.and_eq_true, cnt]
            rintro ⟨⟨⟨_, h5⟩, _⟩, h6⟩
            exact cb ⟨h5, by omega⟩
      · rw [if_neg ca] at ea
        rw [ea, if_neg]
        · have hb := inP_bad b (lv - 1) (inP a (lv - 1) (x - 1, false)).fst
          obtain ⟨y, z, hyz⟩ : ∃ y z, inP b (lv - 1) ((inP a (lv - 1) (x - 1, false)).fst, true) = (y, z) := ⟨_, _, rfl⟩
          rw [hyz] at hb ⊢
          have : z = true := hb
          subst this
          exact Prod.ext rfl (inP_bad r _ _)
        · simp only [okN, Bool.and_eq_true, cnt]
          rintro ⟨⟨⟨⟨_, h5⟩, _⟩, _⟩, h6⟩
          exact ca ⟨h5, by omega⟩
def fitsP (l : Nodes) : Bool := okN l 8 && decide (l.cnt ≤ 256)
theorem inP_fits (l : Nodes) : (inP l 8 (256, false)).2 = !fitsP l := by
  rw [inP_ok l 8 256 (by omega)]
  unfold fitsP
  split
  · rename_i h; rw [h.1]; have := h.2; simp; omega
  · rename_i h
    cases h1 : okN l 8
    · rfl
    · have : ¬ (l.cnt ≤ 256) := fun h2 => h ⟨h1, by omega⟩
      simp [this]
theorem inP_le (l : Nodes) : ∀ lv x, (inP l lv x).1 ≤ x.1 ∧ x.1 - l.cnt ≤ (inP l lv x).1 := by
  induction l with
  | nil => intro lv x; simp [inP, cnt]
  | cons k t p a b r iha ihb ihr =>
    intro lv x
    unfold inP
    simp only [cnt]
    split
    · simp; omega
    · have h1 := iha (lv - 1) (x.1 - 1, false)
      have h2 := ihb (lv - 1) (inP a (lv - 1) (x.1 - 1, false))
      have h3 := ihr lv (inP b (lv - 1) (inP a (lv - 1) (x.1 - 1, false)))
      simp only at h1
      omega
def elseTok : Tok := ⟨4, [], []⟩
def endTok : Tok := ⟨6, [], []⟩
def toks : Nodes → List Tok
  | nil => []
  | cons k t p a b r => ⟨k, t, p⟩ :: ((if k = 3 ∨ k = 5 then toks a ++ ((if b.isNil then [] else elseTok :: toks b) ++ [endTok]) else []) ++ toks r)
def flat : Nodes → Nat → Bool → List Look
  | nil, _, _ => []
  | cons k t p a b r, lv, wi => ⟨k, t, p, lv, wi⟩ :: (flat a (lv + 1) (wi || k == 5) ++ (flat b (lv + 1) wi ++ flat r lv wi))
theorem flat_len (l : Nodes) : ∀ lv wi, (flat l lv wi).length = l.cnt := by
  induction l with
  | nil => intros; rfl
  | cons k t p a b r iha ihb ihr => intro lv wi; simp [flat, cnt, iha, ihb, ihr]; omega
theorem okN_cons {k : Nat} {t : S} {p : List S} {a b r : Nodes} {lv : Nat} (h : okN (cons k t p a b r) lv = true) :
    0 < lv ∧ leafP k t p.length a.len b.len = true ∧ okN a (lv - 1) = true ∧ okN b (lv - 1) = true ∧ okN r lv = true := by
  simp only [okN, Bool.and_eq_true, bne_iff_ne] at h
  obtain ⟨⟨⟨⟨h1, h2⟩, h3⟩, h4⟩, h5⟩ := h
  exact ⟨by omega, h2, h3, h4, h5⟩
def rootOf (p : List S) : Option S := match p with | [] => none | s :: _ => if s = thisS then none else some s
def isThis (p : List S) : Bool := match p with | [] => false | s :: _ => s == thisS
def lostP : Nodes → Bool
  | nil => false
  | cons k _ p a b r => isThis p || (k != 5 && (lostP a || lostP b)) || lostP r
theorem any_within (l : Nodes) : ∀ lv, (flat l lv true).any (fun x => isThis x.p && !x.wi) = false := by
  induction l with
  | nil => intros; rfl
  | cons k t p a b r iha ihb ihr => intro lv; simp only [flat, List.any_cons, List.any_append, Bool.true_or, iha, ihb, ihr]; simp
theorem lost_flat (l : Nodes) : ∀ lv m, okN l m = true → (flat l lv false).any (fun x => isThis x.p && !x.wi) = lostP l := by
  induction l with
  | nil => intros; rfl
  | cons k t p a b r iha ihb ihr =>
    intro lv m h
    obtain ⟨h1, h2, h3, h4, h5⟩ := okN_cons h
    simp only [flat, List.any_cons, List.any_append, lostP, ihb _ _ h4, ihr _ _ h5, Bool.false_or, Bool.not_false, Bool.and_true]
    by_cases c : k = 5
    · subst c
      have hb : b = nil := by
        cases b with
        | nil => rfl
        | cons => simp [leafP, len] at h2
      subst hb
      simp only [beq_self_eq_true, any_within]
      simp [lostP]
    · have c1 : (k == 5) = false := by simpa using c
      have c2 : (k != 5) = true := by simpa using c
      rw [c1, iha _ _ h3, c2]
      simp [Bool.or_assoc]
def putS : List S → S → List S
  | [], s => [s]
  | x :: r, s => if x < s then x :: putS r s else if x = s then x :: r else s :: x :: r
def rootsP (l : Nodes) : List S := ((flat l 1 false).filterMap fun x => rootOf x.p).foldl putS []
abbrev Rising (l : List S) : Prop := l.Pairwise (· < ·)
theorem lt_of (x s : S) (h1 : ¬ x < s) (h2 : x ≠ s) : s < x := by
  rcases Std.lt_trichotomy x s with h | h | h
  · exact absurd h h1
  · exact absurd h h2
  · exact h
theorem putS_mem (l : List S) (s y : S) : y ∈ putS l s ↔ y = s ∨ y ∈ l := by
  induction l with
  | nil => simp [putS]
  | cons x r ih =>
    unfold putS
    split
    · simp only [List.mem_cons, ih]; constructor <;> rintro (h | h | h) <;> simp [h]
    · split
      · rename_i h; subst h; simp
      · simp
theorem putS_rising (l : List S) (s : S) (h : Rising l) : Rising (putS l s) := by
  induction l with
  | nil => simp [putS, Rising]
  | cons x r ih =>
    obtain ⟨h1, h2⟩ := List.pairwise_cons.1 h
    unfold putS
    split
    · rename_i c
      refine List.pairwise_cons.2 ⟨fun y hy => ?_, ih h2⟩
      rcases (putS_mem r s y).1 hy with rfl | hy
      · exact c
      · exact h1 y hy
    · rename_i c
      split
      · exact h
      · rename_i c2
        have := lt_of x s c c2
        refine List.pairwise_cons.2 ⟨fun y hy => ?_, h⟩
        rcases List.mem_cons.1 hy with rfl | hy
        · exact this
        · exact List.lt_trans this (h1 y hy)
theorem fold_mem (l : List S) : ∀ (out : List S) (y : S), y ∈ l.foldl putS out ↔ y ∈ out ∨ y ∈ l := by
  induction l with
  | nil => simp
  | cons x r ih =>
    intro out y
    rw [List.foldl_cons, ih, putS_mem, List.mem_cons]
    constructor
    · rintro ((h | h) | h)
      · exact .inr (.inl h)
      · exact .inl h
      · exact .inr (.inr h)
    · rintro (h | h | h)
      · exact .inl (.inr h)
      · exact .inl (.inl h)
      · exact .inr h
theorem fold_rising (l : List S) : ∀ (out : List S), Rising out → Rising (l.foldl putS out) := by
  induction l with
  | nil => intro out h; exact h
  | cons x r ih => intro out h; exact ih _ (putS_rising _ _ h)
theorem rising_ext : ∀ (a b : List S), Rising a → Rising b → (∀ y, y ∈ a ↔ y ∈ b) → a = b := by
  intro a
  induction a with
  | nil =>
    intro b _ _ h
    cases b with
    | nil => rfl
    | cons y _ => exact absurd ((h y).2 (by simp)) (by simp)
  | cons x r ih =>
    intro b ha hb h
    cases b with
    | nil => exact absurd ((h x).1 (by simp)) (by simp)
    | cons y q =>
      obtain ⟨a1, a2⟩ := List.pairwise_cons.1 ha
      obtain ⟨b1, b2⟩ := List.pairwise_cons.1 hb
      have hxy : x = y := by
        rcases List.mem_cons.1 ((h x).1 (by simp)) with e | e
        · exact e
        · rcases List.mem_cons.1 ((h y).2 (by simp)) with e2 | e2
          · exact e2.symm
          · exact absurd (List.lt_trans (b1 x e) (a1 y e2)) (List.lt_irrefl _)
      subst hxy
      refine congrArg _ (ih q a2 b2 fun z => ?_)
      constructor
      · intro hz
        rcases List.mem_cons.1 ((h z).1 (by simp [hz])) with e | e
        · subst e; exact absurd (a1 z hz) (List.lt_irrefl _)
        · exact e
      · intro hz
        rcases List.mem_cons.1 ((h z).2 (by simp [hz])) with e | e
        · subst e; exact absurd (b1 z hz) (List.lt_irrefl _)
        · exact e
end Nodes
def nameC (first : Bool) (c : UInt8) : Bool := (decide (97 ≤ c.toNat) && decide (c.toNat ≤ 122)) || (!first && (c.toNat == 95 || (decide (48 ≤ c.toNat) && decide (c.toNat ≤ 57))))
def nameL (first : Bool) : S → Bool
  | [] => true
  | c :: r => nameC first c && nameL false r
def nameP (s : S) : Bool := !s.isEmpty && decide (s.length ≤ 32) && nameL true s
def ifS : S := [105, 102]
def eachS : S := [101, 97, 99, 104]
def elseS : S := [101, 108, 115, 101]
def endS : S := [101, 110, 100]
def special (s : S) : Bool := s == ifS || s == eachS || s == elseS || s == endS
def pathP (l : List S) : Bool := decide (1 ≤ l.length) && decide (l.length ≤ 4) && !(l.length == 1 && special (l.getD 0 [])) && l.all nameP
def hasOpen (t : S) : Bool := Lib.contains t [123, 123]
def fineP (x : Tok) (next txt : Bool) : Bool :=
  if x.k = 1 then !x.t.isEmpty && x.p.length == 0 && !hasOpen x.t && !txt && !(next && x.t.getLast? == some 123)
  else if x.k = 2 ∨ x.k = 3 ∨ x.k = 5 then x.t.isEmpty && pathP x.p
  else if x.k = 4 ∨ x.k = 6 then x.t.isEmpty && x.p.length == 0
  else false
def toksP : List Tok → Bool
  | [] => true
  | x :: r => fineP x (!r.isEmpty) (match r with | [] => false | y :: _ => y.k == 1) && toksP r
def Nodes.chk (l : Nodes) : Bool := l.fitsP && toksP l.toks
end Go.Proofs.YthngelbaheankaaGreatDoor.Tpl
namespace Go.Proofs.YthngelbaheankaaGreatDoor.Short
theorem leq_spell (a b : List UInt8) : (Op.bytesLess a b || a == b) = !Op.bytesLess b a := by
  rw [Go.Proofs.bytesLess_eq, Go.Proofs.bytesLess_eq]
  by_cases h : b < a
  · rw [decide_eq_true h]
    have h1 : ¬ a < b := fun h2 => absurd (List.lt_trans h h2) (List.lt_irrefl _)
    have h2 : ¬ a = b := fun e => by subst e; exact List.lt_irrefl _ h
    simp [h1, h2]
  · rw [decide_eq_false h]
    by_cases h3 : a = b
    · simp [h3]
    · have := Tpl.Nodes.lt_of b a h (fun e => h3 e.symm)
      simp [this]
end Go.Proofs.YthngelbaheankaaGreatDoor.Short
namespace Go.Proofs.YthngelbaheankaaGreatDoor.PB
open Go.RowKit Go.Proofs.YthngelbaheankaaGreatDoorW.PrintWords Go.Proofs.YthngelbaheankaaGreatDoorW.PrintLast Go.Proofs.YthngelbaheankaaGreatDoorW.PrintMore Go.Proofs.YthngelbaheankaaGreatDoor.Short
attribute [local go_sem] max2_int min2_int max_two min_two max_three min_three max_four min_four   -- for this text's walks alone
set_option linter.unusedVariables false
set_option linter.unusedSimpArgs false
def tree_leaf.f (a0_0 : Int) (a0_1 : ByteArray) (l0_2 : List ByteArray) (l0_3 : List (S116)) (l0_4 : List (S116)) : Option (Bool) := if a0_0 = 1 then (some ((wrap64 ((wrap64 ((l0_2.length : Int) + (l0_3.length : Int))) + (l0_4.length : Int))) == 0)) else (if a0_0 = 2 then (if (l0_3.length : Int) > 0 then (some false) else (if (l0_4.length : Int) > 0 then (some false) else (some (a0_1.toList == ([] : List UInt8))))) else (if a0_0 = 5 then (if (l0_4.length : Int) > 0 then (some false) else (some (a0_1.toList == ([] : List UInt8)))) else (if a0_0 = 3 then (some (a0_1.toList == ([] : List UInt8))) else (some false))))
set_option maxHeartbeats 8000000 in
set_option maxRecDepth 100000 in
theorem tree_leaf.calls (a0_0 : Int) (a0_1 : ByteArray) (A0_2 : Option Addr) (c0_2 : Nat) (l0_2 : List ByteArray) (A0_3 : Option Addr) (c0_3 : Nat) (l0_3 : List (S116)) (A0_4 : Option Addr) (c0_4 : Nat) (l0_4 : List (S116)) (r : Bool) (w : World) (hr0_2 : Kd.C Kd.string w A0_2 l0_2.length l0_2) (hc0_2 : l0_2.length ≤ c0_2) (hr0_3 : Kd.C k116 w A0_3 l0_3.length l0_3) (hc0_3 : l0_3.length ≤ c0_3) (hr0_4 : Kd.C k116 w A0_4 l0_4.length l0_4) (hc0_4 : l0_4.length ≤ c0_4) (h : tree_leaf.f a0_0 a0_1 l0_2 l0_3 l0_4 = some r) :
  Calls Tryz.prog 201 #[.agg #[.int .u8 a0_0, .string a0_1, .slice A0_2 l0_2.length c0_2, .slice A0_3 l0_3.length c0_3, .slice A0_4 l0_4.length c0_4]] w fun e w' => e = .returned (.bool r) ∧ Below w.heap.size w w' := by
 have hu116 := Tryz.underlying116
 have HR0_2 := Aside0.mk hr0_2
 have HC0_2 := Aside0.mk hc0_2
 clear hr0_2 hc0_2
 have HR0_3 := Aside0.mk hr0_3
 have HC0_3 := Aside0.mk hc0_3
 clear hr0_3 hc0_3
 have HR0_4 := Aside0.mk hr0_4
 have HC0_4 := Aside0.mk hc0_4
 clear hr0_4 hc0_4
 have HB := Aside0.mk (Below.refl w.heap.size w)
 have H : (if a0_0 = 1 then (some ((wrap64 ((wrap64 ((l0_2.length : Int) + (l0_3.length : Int))) + (l0_4.length : Int))) == 0)) else (if a0_0 = 2 then (if (l0_3.length : Int) > 0 then (some false) else (if (l0_4.length : Int) > 0 then (some false) else (some (a0_1.toList == ([] : List UInt8))))) else (if a0_0 = 5 then (if (l0_4.length : Int) > 0 then (some false) else (some (a0_1.toList == ([] : List UInt8)))) else (if a0_0 = 3 then (some (a0_1.toList == ([] : List UInt8))) else (some false))))) = some r := h
 clear h
 by_cases c2 : a0_0 = 1
 ·rw [if_pos c2] at H
  have c2b0 : (a0_0 == 1) = true := beq_iff_eq.mpr c2
  have c2b1 : (a0_0 != 1) = false := bne_eq_false_iff_eq.mpr c2
  clear c2
  obtain rfl := Option.some.inj H
  go_enter Tryz.func201, Tryz.ntmps201
  go_wp2_with (first | ((with_reducible refine gate_dst (N := 1) rfl ?_); refine box_event ?hg (N := 1) ?hd (cs := #[.int .u8 a0_0, .string a0_1, .slice A0_2 l0_2.length c0_2, .slice A0_3 l0_3.length c0_3, .slice A0_4 l0_4.length c0_4]) (t := 116) ?hr ?_; (case hd => rfl); (case hg => rfl); (case hr => first | (go_simp; done) | (go_simp; rfl)); intro gb101 hg w3 hbox hb; have n0_ := Aside0.mk (below_step (belS HB.out) hb); have n1_ := Aside0.mk (hbox); have n2_ := Aside0.mk ((by rw [hg]; exact (below_size (belS HB.out)) : w.heap.size ≤ gb101)); have n3_ := Aside0.mk ((by rw [hg]; exact (below_size (belS HB.out)) : w.heap.size ≤ gb101)); clear HB; have HB := n0_; have BK101 := n1_; have GW101 := n2_; have GE101 := n3_; clear n0_ n1_ n2_ n3_; clear hb hbox hg; obtain ⟨hcz4_0, hcz4_1, hcz4_2, hcz4_3, hcz4_4, hfz4_0, hfz4_1, hfz4_2, hfz4_3, hfz4_4⟩ := cells_5 BK101.out))
  go_ret
  exact ⟨by first | rfl | (simp [errW_none, errW_some] <;> rfl) | (simp [*, errW_none, errW_some] <;> rfl), by repeat (first | (with_reducible first | exact HB.out | apply below_alloc | apply pw_below_drewN | apply below_drew1 | refine below_set ?_ GE101.out) | exact HB.out)⟩
 ·rw [if_neg c2] at H
  have c2b0 : (a0_0 == 1) = false := beq_eq_false_iff_ne.mpr c2
  have c2b1 : (a0_0 != 1) = true := bne_iff_ne.mpr c2
  by_cases c5 : a0_0 = 2
  ·rw [if_pos c5] at H
   have c5b0 : (a0_0 == 2) = true := beq_iff_eq.mpr c5
   have c5b1 : (a0_0 != 2) = false := bne_eq_false_iff_eq.mpr c5
   clear c5
   by_cases c6 : (l0_3.length : Int) > 0
   ·rw [if_pos c6] at H
    have c6b0 : decide (0 < (l0_3.length : Int)) = true := decide_eq_true c6
    have c6b1 : decide (0 < l0_3.length) = true := decide_eq_true (by omega)
    clear c6
    obtain rfl := Option.some.inj H
    go_enter Tryz.func201, Tryz.ntmps201
    go_wp2_with (first | ((with_reducible refine gate_dst (N := 1) rfl ?_); refine box_event ?hg (N := 1) ?hd (cs := #[.int .u8 a0_0, .string a0_1, .slice A0_2 l0_2.length c0_2, .slice A0_3 l0_3.length c0_3, .slice A0_4 l0_4.length c0_4]) (t := 116) ?hr ?_; (case hd => rfl); (case hg => rfl); (case hr => first | (go_simp; done) | (go_simp; rfl)); intro gb101 hg w7 hbox hb; have n0_ := Aside0.mk (below_step (belS HB.out) hb); have n1_ := Aside0.mk (hbox); have n2_ := Aside0.mk ((by rw [hg]; exact (below_size (belS HB.out)) : w.heap.size ≤ gb101)); have n3_ := Aside0.mk ((by rw [hg]; exact (below_size (belS HB.out)) : w.heap.size ≤ gb101)); clear HB; have HB := n0_; have BK101 := n1_; have GW101 := n2_; have GE101 := n3_; clear n0_ n1_ n2_ n3_; clear hb hbox hg; obtain ⟨hcz8_0, hcz8_1, hcz8_2, hcz8_3, hcz8_4, hfz8_0, hfz8_1, hfz8_2, hfz8_3, hfz8_4⟩ := cells_5 BK101.out))
    go_ret
    exact ⟨by first | rfl | (simp [errW_none, errW_some] <;> rfl) | (simp [*, errW_none, errW_some] <;> rfl), by repeat (first | (with_reducible first | exact HB.out | apply below_alloc | apply pw_below_drewN | apply below_drew1 | refine below_set ?_ GE101.out) | exact HB.out)⟩
   ·rw [if_neg c6] at H
    have c6b0 : decide (0 < (l0_3.length : Int)) = false := decide_eq_false c6
    have c6b1 : decide (0 < l0_3.length) = false := decide_eq_false (by omega)
    clear c6
    by_cases c9 : (l0_4.length : Int) > 0
    ·rw [if_pos c9] at H
     have c9b0 : decide (0 < (l0_4.length : Int)) = true := decide_eq_true c9
     have c9b1 : decide (0 < l0_4.length) = true := decide_eq_true (by omega)
     clear c9
     obtain rfl := Option.some.inj H
     go_enter Tryz.func201, Tryz.ntmps201
     go_wp2_with (first | ((with_reducible refine gate_dst (N := 1) rfl ?_); refine box_event ?hg (N := 1) ?hd (cs := #[.int .u8 a0_0, .string a0_1, .slice A0_2 l0_2.length c0_2, .slice A0_3 l0_3.length c0_3, .slice A0_4 l0_4.length c0_4]) (t := 116) ?hr ?_; (case hd => rfl); (case hg => rfl); (case hr => first | (go_simp; done) | (go_simp; rfl)); intro gb101 hg w10 hbox hb; have n0_ := Aside0.mk (below_step (belS HB.out) hb); have n1_ := Aside0.mk (hbox); have n2_ := Aside0.mk ((by rw [hg]; exact (below_size (belS HB.out)) : w.heap.size ≤ gb101)); have n3_ := Aside0.mk ((by rw [hg]; exact (below_size (belS HB.out)) : w.heap.size ≤ gb101)); clear HB; have HB := n0_; have BK101 := n1_; have GW101 := n2_; have GE101 := n3_; clear n0_ n1_ n2_ n3_; clear hb hbox hg; obtain ⟨hcz11_0, hcz11_1, hcz11_2, hcz11_3, hcz11_4, hfz11_0, hfz11_1, hfz11_2, hfz11_3, hfz11_4⟩ := cells_5 BK101.out))
     go_ret
     exact ⟨by first | rfl | (simp [errW_none, errW_some] <;> rfl) | (simp [*, errW_none, errW_some] <;> rfl), by repeat (first | (with_reducible first | exact HB.out | apply below_alloc | apply pw_below_drewN | apply below_drew1 | refine below_set ?_ GE101.out) | exact HB.out)⟩
    ·rw [if_neg c9] at H
     have c9b0 : decide (0 < (l0_4.length : Int)) = false := decide_eq_false c9
     have c9b1 : decide (0 < l0_4.length) = false := decide_eq_false (by omega)
     clear c9
     obtain rfl := Option.some.inj H
     go_enter Tryz.func201, Tryz.ntmps201
     go_wp2_with (first | ((with_reducible refine gate_dst (N := 1) rfl ?_); refine box_event ?hg (N := 1) ?hd (cs := #[.int .u8 a0_0, .string a0_1, .slice A0_2 l0_2.length c0_2, .slice A0_3 l0_3.length c0_3, .slice A0_4 l0_4.length c0_4]) (t := 116) ?hr ?_; (case hd => rfl); (case hg => rfl); (case hr => first | (go_simp; done) | (go_simp; rfl)); intro gb101 hg w12 hbox hb; have n0_ := Aside0.mk (below_step (belS HB.out) hb); have n1_ := Aside0.mk (hbox); have n2_ := Aside0.mk ((by rw [hg]; exact (below_size (belS HB.out)) : w.heap.size ≤ gb101)); have n3_ := Aside0.mk ((by rw [hg]; exact (below_size (belS HB.out)) : w.heap.size ≤ gb101)); clear HB; have HB := n0_; have BK101 := n1_; have GW101 := n2_; have GE101 := n3_; clear n0_ n1_ n2_ n3_; clear hb hbox hg; obtain ⟨hcz13_0, hcz13_1, hcz13_2, hcz13_3, hcz13_4, hfz13_0, hfz13_1, hfz13_2, hfz13_3, hfz13_4⟩ := cells_5 BK101.out))
     go_ret
     exact ⟨by first | rfl | (simp [errW_none, errW_some] <;> rfl) | (simp [*, errW_none, errW_some] <;> rfl), by repeat (first | (with_reducible first | exact HB.out | apply below_alloc | apply pw_below_drewN | apply below_drew1 | refine below_set ?_ GE101.out) | exact HB.out)⟩
  ·rw [if_neg c5] at H
   have c5b0 : (a0_0 == 2) = false := beq_eq_false_iff_ne.mpr c5
   have c5b1 : (a0_0 != 2) = true := bne_iff_ne.mpr c5
   by_cases c14 : a0_0 = 5
   ·rw [if_pos c14] at H
    have c14b0 : (a0_0 == 5) = true := beq_iff_eq.mpr c14
    have c14b1 : (a0_0 != 5) = false := bne_eq_false_iff_eq.mpr c14
    clear c14
    by_cases c15 : (l0_4.length : Int) > 0
    ·rw [if_pos c15] at H
     have c15b0 : decide (0 < (l0_4.length : Int)) = true := decide_eq_true c15
     have c15b1 : decide (0 < l0_4.length) = true := decide_eq_true (by omega)
     clear c15
     obtain rfl := Option.some.inj H
     go_enter Tryz.func201, Tryz.ntmps201
     go_wp2_with (first | ((with_reducible refine gate_dst (N := 1) rfl ?_); refine box_event ?hg (N := 1) ?hd (cs := #[.int .u8 a0_0, .string a0_1, .slice A0_2 l0_2.length c0_2, .slice A0_3 l0_3.length c0_3, .slice A0_4 l0_4.length c0_4]) (t := 116) ?hr ?_; (case hd => rfl); (case hg => rfl); (case hr => first | (go_simp; done) | (go_simp; rfl)); intro gb101 hg w16 hbox hb; have n0_ := Aside0.mk (below_step (belS HB.out) hb); have n1_ := Aside0.mk (hbox); have n2_ := Aside0.mk ((by rw [hg]; exact (below_size (belS HB.out)) : w.heap.size ≤ gb101)); have n3_ := Aside0.mk ((by rw [hg]; exact (below_size (belS HB.out)) : w.heap.size ≤ gb101)); clear HB; have HB := n0_; have BK101 := n1_; have GW101 := n2_; have GE101 := n3_; clear n0_ n1_ n2_ n3_; clear hb hbox hg; obtain ⟨hcz17_0, hcz17_1, hcz17_2, hcz17_3, hcz17_4, hfz17_0, hfz17_1, hfz17_2, hfz17_3, hfz17_4⟩ := cells_5 BK101.out))
     go_ret
     exact ⟨by first | rfl | (simp [errW_none, errW_some] <;> rfl) | (simp [*, errW_none, errW_some] <;> rfl), by repeat (first | (with_reducible first | exact HB.out | apply below_alloc | apply pw_below_drewN | apply below_drew1 | refine below_set ?_ GE101.out) | exact HB.out)⟩
    ·rw [if_neg c15] at H
     have c15b0 : decide (0 < (l0_4.length : Int)) = false := decide_eq_false c15
     have c15b1 : decide (0 < l0_4.length) = false := decide_eq_false (by omega)
     clear c15
     obtain rfl := Option.some.inj H
     go_enter Tryz.func201, Tryz.ntmps201
     go_wp2_with (first | ((with_reducible refine gate_dst (N := 1) rfl ?_); refine box_event ?hg (N := 1) ?hd (cs := #[.int .u8 a0_0, .string a0_1, .slice A0_2 l0_2.length c0_2, .slice A0_3 l0_3.length c0_3, .slice A0_4 l0_4.length c0_4]) (t := 116) ?hr ?_; (case hd => rfl); (case hg => rfl); (case hr => first | (go_simp; done) | (go_simp; rfl)); intro gb101 hg w18 hbox hb; have n0_ := Aside0.mk (below_step (belS HB.out) hb); have n1_ := Aside0.mk (hbox); have n2_ := Aside0.mk ((by rw [hg]; exact (below_size (belS HB.out)) : w.heap.size ≤ gb101)); have n3_ := Aside0.mk ((by rw [hg]; exact (below_size (belS HB.out)) : w.heap.size ≤ gb101)); clear HB; have HB := n0_; have BK101 := n1_; have GW101 := n2_; have GE101 := n3_; clear n0_ n1_ n2_ n3_; clear hb hbox hg; obtain ⟨hcz19_0, hcz19_1, hcz19_2, hcz19_3, hcz19_4, hfz19_0, hfz19_1, hfz19_2, hfz19_3, hfz19_4⟩ := cells_5 BK101.out))
     go_ret
     exact ⟨by first | rfl | (simp [errW_none, errW_some] <;> rfl) | (simp [*, errW_none, errW_some] <;> rfl), by repeat (first | (with_reducible first | exact HB.out | apply below_alloc | apply pw_below_drewN | apply below_drew1 | refine below_set ?_ GE101.out) | exact HB.out)⟩
   ·rw [if_neg c14] at H
    have c14b0 : (a0_0 == 5) = false := beq_eq_false_iff_ne.mpr c14
    have c14b1 : (a0_0 != 5) = true := bne_iff_ne.mpr c14
    by_cases c20 : a0_0 = 3
    ·rw [if_pos c20] at H
     have c20b0 : (a0_0 == 3) = true := beq_iff_eq.mpr c20
     have c20b1 : (a0_0 != 3) = false := bne_eq_false_iff_eq.mpr c20
     clear c20
     obtain rfl := Option.some.inj H
     go_enter Tryz.func201, Tryz.ntmps201
     go_wp2_with (first | ((with_reducible refine gate_dst (N := 1) rfl ?_); refine box_event ?hg (N := 1) ?hd (cs := #[.int .u8 a0_0, .string a0_1, .slice A0_2 l0_2.length c0_2, .slice A0_3 l0_3.length c0_3, .slice A0_4 l0_4.length c0_4]) (t := 116) ?hr ?_; (case hd => rfl); (case hg => rfl); (case hr => first | (go_simp; done) | (go_simp; rfl)); intro gb101 hg w21 hbox hb; have n0_ := Aside0.mk (below_step (belS HB.out) hb); have n1_ := Aside0.mk (hbox); have n2_ := Aside0.mk ((by rw [hg]; exact (below_size (belS HB.out)) : w.heap.size ≤ gb101)); have n3_ := Aside0.mk ((by rw [hg]; exact (below_size (belS HB.out)) : w.heap.size ≤ gb101)); clear HB; have HB := n0_; have BK101 := n1_; have GW101 := n2_; have GE101 := n3_; clear n0_ n1_ n2_ n3_; clear hb hbox hg; obtain ⟨hcz22_0, hcz22_1, hcz22_2, hcz22_3, hcz22_4, hfz22_0, hfz22_1, hfz22_2, hfz22_3, hfz22_4⟩ := cells_5 BK101.out))
     go_ret
     exact ⟨by first | rfl | (simp [errW_none, errW_some] <;> rfl) | (simp [*, errW_none, errW_some] <;> rfl), by repeat (first | (with_reducible first | exact HB.out | apply below_alloc | apply pw_below_drewN | apply below_drew1 | refine below_set ?_ GE101.out) | exact HB.out)⟩
    ·rw [if_neg c20] at H
     have c20b0 : (a0_0 == 3) = false := beq_eq_false_iff_ne.mpr c20
     have c20b1 : (a0_0 != 3) = true := bne_iff_ne.mpr c20
     obtain rfl := Option.some.inj H
     go_enter Tryz.func201, Tryz.ntmps201
     go_wp2_with (first | ((with_reducible refine gate_dst (N := 1) rfl ?_); refine box_event ?hg (N := 1) ?hd (cs := #[.int .u8 a0_0, .string a0_1, .slice A0_2 l0_2.length c0_2, .slice A0_3 l0_3.length c0_3, .slice A0_4 l0_4.length c0_4]) (t := 116) ?hr ?_; (case hd => rfl); (case hg => rfl); (case hr => first | (go_simp; done) | (go_simp; rfl)); intro gb101 hg w23 hbox hb; have n0_ := Aside0.mk (below_step (belS HB.out) hb); have n1_ := Aside0.mk (hbox); have n2_ := Aside0.mk ((by rw [hg]; exact (below_size (belS HB.out)) : w.heap.size ≤ gb101)); have n3_ := Aside0.mk ((by rw [hg]; exact (below_size (belS HB.out)) : w.heap.size ≤ gb101)); clear HB; have HB := n0_; have BK101 := n1_; have GW101 := n2_; have GE101 := n3_; clear n0_ n1_ n2_ n3_; clear hb hbox hg; obtain ⟨hcz24_0, hcz24_1, hcz24_2, hcz24_3, hcz24_4, hfz24_0, hfz24_1, hfz24_2, hfz24_3, hfz24_4⟩ := cells_5 BK101.out))
     go_ret
     exact ⟨by first | rfl | (simp [errW_none, errW_some] <;> rfl) | (simp [*, errW_none, errW_some] <;> rfl), by repeat (first | (with_reducible first | exact HB.out | apply below_alloc | apply pw_below_drewN | apply below_drew1 | refine below_set ?_ GE101.out) | exact HB.out)⟩
def scan_words.f (a0 : Int) : Option (ByteArray) := if a0 = 3 then (some (⟨#[105, 102]⟩ : ByteArray)) else (if a0 = 5 then (some (⟨#[101, 97, 99, 104]⟩ : ByteArray)) else (if a0 = 4 then (some (⟨#[101, 108, 115, 101]⟩ : ByteArray)) else (if a0 = 6 then (some (⟨#[101, 110, 100]⟩ : ByteArray)) else (some (⟨#[]⟩ : ByteArray)))))
set_option maxHeartbeats 8000000 in
set_option maxRecDepth 100000 in
theorem scan_words.calls (a0 : Int) (r : ByteArray) (w : World) (h : scan_words.f a0 = some r) :
  Calls Tryz.prog 194 #[.int .u8 a0] w fun e w' => e = .returned (.string r) ∧ Drawn0 w w' := by
 have H : (if a0 = 3 then (some (⟨#[105, 102]⟩ : ByteArray)) else (if a0 = 5 then (some (⟨#[101, 97, 99, 104]⟩ : ByteArray)) else (if a0 = 4 then (some (⟨#[101, 108, 115, 101]⟩ : ByteArray)) else (if a0 = 6 then (some (⟨#[101, 110, 100]⟩ : ByteArray)) else (some (⟨#[]⟩ : ByteArray)))))) = some r := h
 clear h
 by_cases c2 : a0 = 3
 ·rw [if_pos c2] at H
  have c2b0 : (a0 == 3) = true := beq_iff_eq.mpr c2
  have c2b1 : (a0 != 3) = false := bne_eq_false_iff_eq.mpr c2
  clear c2
  obtain rfl := Option.some.inj H
  go_enter Tryz.func194, Tryz.ntmps194
  go_wp2
  go_ret
  exact ⟨by first | rfl | (simp; done) | (simp [*]; done), by repeat (first | exact Drawn0.refl _ | apply Drawn0.step)⟩
 ·rw [if_neg c2] at H
  have c2b0 : (a0 == 3) = false := beq_eq_false_iff_ne.mpr c2
  have c2b1 : (a0 != 3) = true := bne_iff_ne.mpr c2
  by_cases c3 : a0 = 5
  ·rw [if_pos c3] at H
   have c3b0 : (a0 == 5) = true := beq_iff_eq.mpr c3
   have c3b1 : (a0 != 5) = false := bne_eq_false_iff_eq.mpr c3
   clear c3
   obtain rfl := Option.some.inj H
   go_enter Tryz.func194, Tryz.ntmps194
   go_wp2
   go_ret
   exact ⟨by first | rfl | (simp; done) | (simp [*]; done), by repeat (first | exact Drawn0.refl _ | apply Drawn0.step)⟩
  ·rw [if_neg c3] at H
   have c3b0 : (a0 == 5) = false := beq_eq_false_iff_ne.mpr c3
   have c3b1 : (a0 != 5) = true := bne_iff_ne.mpr c3
   by_cases c4 : a0 = 4
   ·rw [if_pos c4] at H
    have c4b0 : (a0 == 4) = true := beq_iff_eq.mpr c4
    have c4b1 : (a0 != 4) = false := bne_eq_false_iff_eq.mpr c4
    clear c4
    obtain rfl := Option.some.inj H
    go_enter Tryz.func194, Tryz.ntmps194
    go_wp2
    go_ret
    exact ⟨by first | rfl | (simp; done) | (simp [*]; done), by repeat (first | exact Drawn0.refl _ | apply Drawn0.step)⟩
   ·rw [if_neg c4] at H
    have c4b0 : (a0 == 4) = false := beq_eq_false_iff_ne.mpr c4
    have c4b1 : (a0 != 4) = true := bne_iff_ne.mpr c4
    by_cases c5 : a0 = 6
    ·rw [if_pos c5] at H
     have c5b0 : (a0 == 6) = true := beq_iff_eq.mpr c5
     have c5b1 : (a0 != 6) = false := bne_eq_false_iff_eq.mpr c5
     clear c5
     obtain rfl := Option.some.inj H
     go_enter Tryz.func194, Tryz.ntmps194
     go_wp2
     go_ret
     exact ⟨by first | rfl | (simp; done) | (simp [*]; done), by repeat (first | exact Drawn0.refl _ | apply Drawn0.step)⟩
    ·rw [if_neg c5] at H
     have c5b0 : (a0 == 6) = false := beq_eq_false_iff_ne.mpr c5
     have c5b1 : (a0 != 6) = true := bne_iff_ne.mpr c5
     obtain rfl := Option.some.inj H
     go_enter Tryz.func194, Tryz.ntmps194
     go_wp2
     go_ret
     exact ⟨by first | rfl | (simp; done) | (simp [*]; done), by repeat (first | exact Drawn0.refl _ | apply Drawn0.step)⟩
def scan_own.l0 : Nat → ByteArray → Int → Option (Int)
 | 0, _, _ => none
 | k + 1, x0, x3 => if x3 < 7 then ((scan_words.f x3).bind fun t102 => (if t102.toList = x0.toList then (some x3) else (scan_own.l0 k x0 ((x3 + 1) % 256)))) else (some 2)
def scan_own.f (k : Nat) (a0 : ByteArray) : Option (Int) := scan_own.l0 k a0 3
set_option maxHeartbeats 8000000 in
set_option maxRecDepth 100000 in
theorem scan_own.calls (k : Nat) (a0 : ByteArray) (r : Int) (w : World) (h : scan_own.f k a0 = some r) :
  Calls Tryz.prog 157 #[.string a0] w fun e w' => e = .returned (.int .u8 r) ∧ Drawn0 w w' := by
 have H : (scan_own.l0 k a0 3) = some r := h
 clear h
 have H' := Aside0.mk H
 clear H
 go_enter Tryz.func157, Tryz.ntmps157
 go_wp2
 go_loopg [3] k (fun kq v3 w' => ∃ (x3_1 : Int), v3 = .int .u8 x3_1 ∧ Aside0 (scan_own.l0 kq a0 x3_1 = some r) ∧ Aside0 (kq ≤ k) ∧ Drawn0 w w')
 case atStart => exact ⟨(3), (by first | rfl | (simp; done) | (simp [*]; done)), H', ⟨Nat.le_refl _⟩, by repeat (first | exact Drawn0.refl _ | apply Drawn0.step)⟩
 case round =>
  clear H'
  try clear c1
  obtain ⟨x3_1, rfl, HA, HK1, ⟨m1, rfl⟩⟩ := hrel
  cases gk with
  | zero => exact absurd HA.out (by simp [scan_own.l0])
  | succ k1 =>
   have H := HA.out
   clear HA
   simp only [scan_own.l0] at H
   by_cases c2 : x3_1 < 7
   ·rw [if_pos c2] at H
    have c2b0 : decide (x3_1 < 7) = true := decide_eq_true c2
    clear c2
    replace H := Option.bind_eq_some_iff.mp H
    obtain ⟨t102, A30, H⟩ := H
    replace H : (if t102.toList = a0.toList then (some x3_1) else (scan_own.l0 k1 a0 ((x3_1 + 1) % 256))) = some r := H
    have A3 := Aside0.mk A30
    clear A30
    by_cases c4 : t102.toList = a0.toList
    ·rw [if_pos c4] at H
     have c4b0 : (t102.toList == a0.toList) = true := beq_iff_eq.mpr c4
     have c4b1 : (t102.toList != a0.toList) = false := bne_eq_false_iff_eq.mpr c4
     clear c4
     obtain rfl := Option.some.inj H
     go_wp2_with (first | ((with_reducible refine gate_callee (f := 194) rfl ?_); refine goesL_ (some 9) rfl rfl Tryz.func194 (by kernel_rfl) rfl #[.int .u8 x3_1] rfl (by (try simp only [List.map_toArray, List.map_cons, List.map_nil]); first | done | rfl) ?_; (with_reducible refine (scan_words.calls x3_1 t102 _ A3.out).mono ?_); rintro e w' ⟨rfl, ⟨nd, rfl⟩⟩; refine ⟨_, rfl, ?_⟩))
     go_ret
     exact ⟨by first | rfl | (simp; done) | (simp [*]; done), by repeat (first | exact Drawn0.refl _ | apply Drawn0.step)⟩
    ·rw [if_neg c4] at H
     have c4b0 : (t102.toList == a0.toList) = false := beq_eq_false_iff_ne.mpr c4
     have c4b1 : (t102.toList != a0.toList) = true := bne_iff_ne.mpr c4
     have H' := Aside0.mk H
     clear H
     go_wp2_with (first | ((with_reducible refine gate_callee (f := 194) rfl ?_); refine goesL_ (some 9) rfl rfl Tryz.func194 (by kernel_rfl) rfl #[.int .u8 x3_1] rfl (by (try simp only [List.map_toArray, List.map_cons, List.map_nil]); first | done | rfl) ?_; (with_reducible refine (scan_words.calls x3_1 t102 _ A3.out).mono ?_); rintro e w' ⟨rfl, ⟨nd, rfl⟩⟩; refine ⟨_, rfl, ?_⟩))
     go_roundg k1
     case measure => have := HK1.out; omega
     case rel => exact ⟨((x3_1 + 1) % 256), (by first | rfl | (simp; done) | (simp [*]; done)), H', ⟨by have := HK1.out; omega⟩, by repeat (first | exact Drawn0.refl _ | apply Drawn0.step)⟩
   ·rw [if_neg c2] at H
    have c2b0 : decide (x3_1 < 7) = false := decide_eq_false c2
    clear c2
    obtain rfl := Option.some.inj H
    go_wp2
    go_ret
    exact ⟨by first | rfl | (simp; done) | (simp [*]; done), by repeat (first | exact Drawn0.refl _ | apply Drawn0.step)⟩
mutual
def value_Name.j0 : Nat → ByteArray → Bool → Option (Int)
 | 0, _, _ => none
 | k + 1, x0, x11 => if x11 = true then (some 13) else (value_Name.l0 k x0 (x0.size : Int) 0)
def value_Name.l0 : Nat → ByteArray → Int → Int → Option (Int)
 | 0, _, _, _ => none
 | k + 1, x0, x13, x14 => if x14 < x13 then (if 0 ≤ x14 then (if x14 < (x0.size : Int) then (if (bt x0 x14) ≥ 97 then (value_Name.j2 k x0 x14 (bt x0 x14) x13 x14 (decide ((bt x0 x14) ≤ 122))) else (value_Name.j2 k x0 x14 (bt x0 x14) x13 x14 false)) else (none)) else (none)) else (some 0)
def value_Name.j2 : Nat → ByteArray → Int → Int → Int → Int → Bool → Option (Int)
 | 0, _, _, _, _, _, _ => none
 | k + 1, x0, x3, x4, x13, x14, x20 => if x20 = true then (value_Name.l0 k x0 x13 (wrap64 (x14 + 1))) else (if x3 > 0 then (if x4 = 95 then (value_Name.l0 k x0 x13 (wrap64 (x14 + 1))) else (if x4 ≥ 48 then (if x4 ≤ 57 then (value_Name.l0 k x0 x13 (wrap64 (x14 + 1))) else (some 13)) else (some 13))) else (some 13))
end
def value_Name.f (k : Nat) (a0 : ByteArray) : Option (Int) := if a0.toList = ([] : List UInt8) then (value_Name.j0 k a0 true) else (value_Name.j0 k a0 (decide ((a0.size : Int) > 32)))
set_option maxHeartbeats 8000000 in
set_option maxRecDepth 100000 in
theorem value_Name.calls (k : Nat) (a0 : ByteArray) (r : Int) (w : World) (h : value_Name.f k a0 = some r) :
  Calls Tryz.prog 69 #[.string a0] w fun e w' => e = .returned (.int .i64 r) ∧ Drawn0 w w' := by
 have H : (if a0.toList = ([] : List UInt8) then (value_Name.j0 k a0 true) else (value_Name.j0 k a0 (decide ((a0.size : Int) > 32)))) = some r := h
 clear h
 have HC2 := Aside0.mk H
 clear H
 go_enter Tryz.func69, Tryz.ntmps69
 go_upto_region 1 with (fail)
 go_cut [11] (fun v11 wc => ∃ (kq : Nat) (x11_1 : Bool), v11 = .bool x11_1 ∧ Aside0 (value_Name.j0 kq a0 x11_1 = some r) ∧ Aside0 (kq ≤ k) ∧ Drawn0 w wc)
 case first =>
  have H := HC2.out
  clear HC2
  by_cases c3 : a0.toList = ([] : List UInt8)
  ·rw [if_pos c3] at H
   have c3b0 : (a0.toList == ([] : List UInt8)) = true := beq_iff_eq.mpr c3
   have c3b1 : (a0.toList != ([] : List UInt8)) = false := bne_eq_false_iff_eq.mpr c3
   clear c3
   (first | rw [c3b0] | (simp only [i64_w, i32_w]; rw [c3b0]) | skip)
   have H' := Aside0.mk H
   clear H
   go_wp2
   go_meet
   case rel => exact ⟨_, (true), (by first | rfl | (simp; done) | (simp [*]; done)), H', ⟨by first | omega | exact Nat.le_refl _⟩, by repeat (first | exact Drawn0.refl _ | apply Drawn0.step)⟩
  ·rw [if_neg c3] at H
   have c3b0 : (a0.toList == ([] : List UInt8)) = false := beq_eq_false_iff_ne.mpr c3
   have c3b1 : (a0.toList != ([] : List UInt8)) = true := bne_iff_ne.mpr c3
   (first | rw [c3b0] | (simp only [i64_w, i32_w]; rw [c3b0]) | skip)
   have H' := Aside0.mk H
   clear H
   go_wp2
   go_meet
   case rel => exact ⟨_, (decide ((a0.size : Int) > 32)), (by first | rfl | (simp; done) | (simp [*]; done)), H', ⟨by first | omega | exact Nat.le_refl _⟩, by repeat (first | exact Drawn0.refl _ | apply Drawn0.step)⟩
 case rest =>
  clear HC2
  try clear p2
  try clear c3
  try clear c3b0
  try clear c3b1
  obtain ⟨kq, x11_1, rfl, HA, HJ1, ⟨mc1, rfl⟩⟩ := hcut
  cases kq with
  | zero => exact absurd HA.out (by simp [value_Name.j0])
  | succ kj1 =>
   have H := HA.out
   clear HA
   simp only [value_Name.j0] at H
   by_cases c4 : x11_1 = true
   ·subst c4
    have H1 : (some 13) = some r := by rw [if_pos rfl] at H; exact H
    clear H
    have H := H1
    clear H1
    obtain rfl := Option.some.inj H
    go_wp2
    go_ret
    exact ⟨by first | rfl | (simp; done) | (simp [*]; done), by repeat (first | exact Drawn0.refl _ | apply Drawn0.step)⟩
   ·replace c4 := Bool.eq_false_iff.mpr c4
    subst c4
    have H1 : (value_Name.l0 kj1 a0 (a0.size : Int) 0) = some r := by rw [if_neg (show ¬ (false = true) by decide)] at H; exact H
    clear H
    have H := H1
    clear H1
    have H' := Aside0.mk H
    clear H
    go_wp2
    go_loopg [14] kj1 (fun kq v14 w' => ∃ (x14_2 : Int), v14 = .int .i64 x14_2 ∧ Aside0 (value_Name.l0 kq a0 (a0.size : Int) x14_2 = some r) ∧ Aside0 (kq ≤ kj1) ∧ Drawn0 w w')
    case atStart => exact ⟨(0), (by first | rfl | (simp; done) | (simp [*]; done)), H', ⟨Nat.le_refl _⟩, by repeat (first | exact Drawn0.refl _ | apply Drawn0.step)⟩
    case round =>
     clear H'
     try clear c1
     try clear p2
     try clear c3
     try clear c3b0
     try clear c3b1
     try clear c4
     try clear p2
     obtain ⟨x14_2, rfl, HA, HK2, ⟨m2, rfl⟩⟩ := hrel
     cases gk with
     | zero => exact absurd HA.out (by simp [value_Name.l0])
     | succ k2 =>
      have H := HA.out
      clear HA
      simp only [value_Name.l0] at H
      by_cases c5 : x14_2 < (a0.size : Int)
      ·rw [if_pos c5] at H
       have c5b0 : decide (x14_2 < (a0.size : Int)) = true := decide_eq_true c5
       clear c5
       by_cases c6 : 0 ≤ x14_2
       ·rw [if_pos c6] at H
        have c6b0 : decide (0 ≤ x14_2) = true := decide_eq_true c6
        clear c6
        by_cases c7 : x14_2 < (a0.size : Int)
        ·rw [if_pos c7] at H
         have c7b0 : decide (x14_2 < (a0.size : Int)) = true := decide_eq_true c7
         clear c7
         have HC9 := Aside0.mk H
         clear H
         have p8 : 0 ≤ (x14_2 : Int) := of_decide_eq_true (by first | (with_reducible assumption) | assumption)
         have q8 : x14_2 < (a0.size : Int) := of_decide_eq_true (by first | (with_reducible assumption) | assumption)
         have hx8 := bt_at a0 x14_2
         replace p8 := eq_true p8
         replace q8 := eq_true q8
         go_upto_region 8 with (fail)
         go_cut [20] (fun v20 wc => ∃ (kq : Nat) (x20_8 : Bool), v20 = .bool x20_8 ∧ Aside0 (value_Name.j2 kq a0 x14_2 (bt a0 x14_2) (a0.size : Int) x14_2 x20_8 = some r) ∧ Aside0 (kq ≤ k2) ∧ Drawn0 w wc)
         case first =>
          have H := HC9.out
          clear HC9
          by_cases c10 : (bt a0 x14_2) ≥ 97
          ·rw [if_pos c10] at H
           have c10b0 : decide (97 ≤ (bt a0 x14_2)) = true := decide_eq_true c10
           clear c10
           (first | rw [c10b0] | (simp only [i64_w, i32_w]; rw [c10b0]) | skip)
           have H' := Aside0.mk H
           clear H
           go_wp2
           go_meet
           case rel => exact ⟨_, (decide ((bt a0 x14_2) ≤ 122)), (by first | rfl | (simp; done) | (simp [*]; done)), H', ⟨by have := HJ1.out; have := HK2.out; first | omega | exact Nat.le_refl _⟩, by repeat (first | exact Drawn0.refl _ | apply Drawn0.step)⟩
          ·rw [if_neg c10] at H
           have c10b0 : decide (97 ≤ (bt a0 x14_2)) = false := decide_eq_false c10
           clear c10
           (first | rw [c10b0] | (simp only [i64_w, i32_w]; rw [c10b0]) | skip)
           have H' := Aside0.mk H
           clear H
           go_wp2
           go_meet
           case rel => exact ⟨_, (false), (by first | rfl | (simp; done) | (simp [*]; done)), H', ⟨by have := HJ1.out; have := HK2.out; first | omega | exact Nat.le_refl _⟩, by repeat (first | exact Drawn0.refl _ | apply Drawn0.step)⟩
         case rest =>
          clear HC9
          try clear c1
          try clear p2
          try clear c3
          try clear c3b0
          try clear c3b1
          try clear c4
          try clear c5
          try clear c5b0
          try clear c6
          try clear c6b0
          try clear c7
          try clear c7b0
          try clear p8
          try clear q8
          try clear hx8
          try clear c10
          try clear c10b0
          try clear p2
          try clear p8
          try clear q8
          obtain ⟨kq, x20_8, rfl, HA, HJ8, ⟨mc8, rfl⟩⟩ := hcut
          cases kq with
          | zero => exact absurd HA.out (by simp [value_Name.j2])
          | succ kj8 =>
           have H := HA.out
           clear HA
           simp only [value_Name.j2] at H
           by_cases c11 : x20_8 = true
           ·subst c11
            have H1 : (value_Name.l0 kj8 a0 (a0.size : Int) (wrap64 (x14_2 + 1))) = some r := by rw [if_pos rfl] at H; exact H
            clear H
            have H := H1
            clear H1
            have H' := Aside0.mk H
            clear H
            go_wp2
            go_roundg kj8
            case measure => have := HJ1.out; have := HK2.out; have := HJ8.out; omega
            case rel => exact ⟨(wrap64 (x14_2 + 1)), (by first | rfl | (simp; done) | (simp [*]; done)), H', ⟨by have := HJ1.out; have := HK2.out; have := HJ8.out; omega⟩, by repeat (first | exact Drawn0.refl _ | apply Drawn0.step)⟩
           ·replace c11 := Bool.eq_false_iff.mpr c11
            subst c11
            rw [if_neg (show ¬ (false = true) by decide)] at H
            by_cases c12 : x14_2 > 0
            ·rw [if_pos c12] at H
             have c12b0 : decide (0 < x14_2) = true := decide_eq_true c12
             clear c12
             by_cases c13 : (bt a0 x14_2) = 95
             ·rw [if_pos c13] at H
              have c13b0 : ((bt a0 x14_2) == 95) = true := beq_iff_eq.mpr c13
              have c13b1 : ((bt a0 x14_2) != 95) = false := bne_eq_false_iff_eq.mpr c13
              clear c13
              have H' := Aside0.mk H
              clear H
              go_wp2
              go_roundg kj8
              case measure => have := HJ1.out; have := HK2.out; have := HJ8.out; omega
              case rel => exact ⟨(wrap64 (x14_2 + 1)), (by first | rfl | (simp; done) | (simp [*]; done)), H', ⟨by have := HJ1.out; have := HK2.out; have := HJ8.out; omega⟩, by repeat (first | exact Drawn0.refl _ | apply Drawn0.step)⟩
             ·rw [if_neg c13] at H
              have c13b0 : ((bt a0 x14_2) == 95) = false := beq_eq_false_iff_ne.mpr c13
              have c13b1 : ((bt a0 x14_2) != 95) = true := bne_iff_ne.mpr c13
              by_cases c14 : (bt a0 x14_2) ≥ 48
              ·rw [if_pos c14] at H
               have c14b0 : decide (48 ≤ (bt a0 x14_2)) = true := decide_eq_true c14
               clear c14
               by_cases c15 : (bt a0 x14_2) ≤ 57
               ·rw [if_pos c15] at H
                have c15b0 : decide ((bt a0 x14_2) ≤ 57) = true := decide_eq_true c15
                clear c15
                have H' := Aside0.mk H
                clear H
                go_wp2
                go_roundg kj8
                case measure => have := HJ1.out; have := HK2.out; have := HJ8.out; omega
                case rel => exact ⟨(wrap64 (x14_2 + 1)), (by first | rfl | (simp; done) | (simp [*]; done)), H', ⟨by have := HJ1.out; have := HK2.out; have := HJ8.out; omega⟩, by repeat (first | exact Drawn0.refl _ | apply Drawn0.step)⟩
               ·rw [if_neg c15] at H
                have c15b0 : decide ((bt a0 x14_2) ≤ 57) = false := decide_eq_false c15
                clear c15
                obtain rfl := Option.some.inj H
                go_wp2
                go_ret
                exact ⟨by first | rfl | (simp; done) | (simp [*]; done), by repeat (first | exact Drawn0.refl _ | apply Drawn0.step)⟩
              ·rw [if_neg c14] at H
               have c14b0 : decide (48 ≤ (bt a0 x14_2)) = false := decide_eq_false c14
               clear c14
               obtain rfl := Option.some.inj H
               go_wp2
               go_ret
               exact ⟨by first | rfl | (simp; done) | (simp [*]; done), by repeat (first | exact Drawn0.refl _ | apply Drawn0.step)⟩
            ·rw [if_neg c12] at H
             have c12b0 : decide (0 < x14_2) = false := decide_eq_false c12
             clear c12
             obtain rfl := Option.some.inj H
             go_wp2
             go_ret
             exact ⟨by first | rfl | (simp; done) | (simp [*]; done), by repeat (first | exact Drawn0.refl _ | apply Drawn0.step)⟩
        ·rw [if_neg c7] at H
         exact absurd H (by simp)
       ·rw [if_neg c6] at H
        exact absurd H (by simp)
      ·rw [if_neg c5] at H
       have c5b0 : decide (x14_2 < (a0.size : Int)) = false := decide_eq_false c5
       clear c5
       obtain rfl := Option.some.inj H
       go_wp2
       go_ret
       exact ⟨by first | rfl | (simp; done) | (simp [*]; done), by repeat (first | exact Drawn0.refl _ | apply Drawn0.step)⟩
end Go.Proofs.YthngelbaheankaaGreatDoor.PB
namespace Go.Proofs.YthngelbaheankaaGreatDoor.PB
open Go.RowKit Go.Proofs.YthngelbaheankaaGreatDoorW.PrintWords Go.Proofs.YthngelbaheankaaGreatDoorW.PrintLast Go.Proofs.YthngelbaheankaaGreatDoorW.PrintMore Go.Proofs.YthngelbaheankaaGreatDoor.Short
attribute [local go_sem] max2_int min2_int max_two min_two max_three min_three max_four min_four   -- for this text's walks alone
set_option linter.unusedVariables false
set_option linter.unusedSimpArgs false
def bellmanref01_SameTexts.l0 : Nat → List ByteArray → List ByteArray → Int → Int → Option (Bool)
 | 0, _, _, _, _ => none
 | k + 1, x0, x1, x12, x13 => if x13 < x12 then (if 0 ≤ x13 then (if x13 < (x0.length : Int) then (if x13 < (x1.length : Int) then (if (rdOf ByteArray.empty x0 x13).toList = (rdOf ByteArray.empty x1 x13).toList then (bellmanref01_SameTexts.l0 k x0 x1 x12 (wrap64 (x13 + 1))) else (some false)) else (none)) else (none)) else (none)) else (some true)
def bellmanref01_SameTexts.f (k : Nat) (l0 : List ByteArray) (l1 : List ByteArray) : Option (Bool) := if (l0.length : Int) = (l1.length : Int) then (bellmanref01_SameTexts.l0 k l0 l1 (l0.length : Int) 0) else (some false)
set_option maxHeartbeats 8000000 in
set_option maxRecDepth 100000 in
theorem bellmanref01_SameTexts.calls (k : Nat) (A0 : Option Addr) (c0 : Nat) (l0 : List ByteArray) (A1 : Option Addr) (c1 : Nat) (l1 : List ByteArray) (r : Bool) (w : World) (hr0 : Kd.C Kd.string w A0 l0.length l0) (hc0 : l0.length ≤ c0) (hr1 : Kd.C Kd.string w A1 l1.length l1) (hc1 : l1.length ≤ c1) (h : bellmanref01_SameTexts.f k l0 l1 = some r) :
  Calls Tryz.prog 31 #[.slice A0 l0.length c0, .slice A1 l1.length c1] w fun e w' => e = .returned (.bool r) ∧ Drawn0 w w' := by
 have HR0 := Aside0.mk hr0
 have HC0 := Aside0.mk hc0
 clear hr0 hc0
 have HR1 := Aside0.mk hr1
 have HC1 := Aside0.mk hc1
 clear hr1 hc1
 have H : (if (l0.length : Int) = (l1.length : Int) then (bellmanref01_SameTexts.l0 k l0 l1 (l0.length : Int) 0) else (some false)) = some r := h
 clear h
 by_cases c3 : (l0.length : Int) = (l1.length : Int)
 ·rw [if_pos c3] at H
  have c3b0 : ((l0.length : Int) == (l1.length : Int)) = true := beq_iff_eq.mpr c3
  have c3b1 : ((l0.length : Int) != (l1.length : Int)) = false := bne_eq_false_iff_eq.mpr c3
  have c3b2 : (l0.length == l1.length) = true := by first | simpa using c3 | (simp at c3 ⊢; omega)
  clear c3
  have H' := Aside0.mk H
  clear H
  go_enter Tryz.func31, Tryz.ntmps31
  go_wp2
  repeat (go_quiet (fail); try go_wp2)
  go_loopg [13] k (fun kq v13 w' => ∃ (x13_1 : Int), v13 = .int .i64 x13_1 ∧ Aside0 (bellmanref01_SameTexts.l0 kq l0 l1 (l0.length : Int) x13_1 = some r) ∧ Aside0 (kq ≤ k) ∧ Drawn0 w w')
  case atStart => exact ⟨(0), (by first | rfl | (simp; done) | (simp [*]; done)), H', ⟨Nat.le_refl _⟩, by repeat (first | exact Drawn0.refl _ | apply Drawn0.step)⟩
  case round =>
   clear H'
   try clear c1
   try clear p2
   try clear c3
   try clear c3b0
   try clear c3b1
   try clear c3b2
   obtain ⟨x13_1, rfl, HA, HK1, ⟨m1, rfl⟩⟩ := hrel
   cases gk with
   | zero => exact absurd HA.out (by simp [bellmanref01_SameTexts.l0])
   | succ k1 =>
    have H := HA.out
    clear HA
    simp only [bellmanref01_SameTexts.l0] at H
    by_cases c4 : x13_1 < (l0.length : Int)
    ·rw [if_pos c4] at H
     have c4b0 : decide (x13_1 < (l0.length : Int)) = true := decide_eq_true c4
     clear c4
     by_cases c5 : 0 ≤ x13_1
     ·rw [if_pos c5] at H
      have c5b0 : decide (0 ≤ x13_1) = true := decide_eq_true c5
      clear c5
      by_cases c6 : x13_1 < (l0.length : Int)
      ·rw [if_pos c6] at H
       have c6b0 : decide (x13_1 < (l0.length : Int)) = true := decide_eq_true c6
       clear c6
       by_cases c7 : x13_1 < (l1.length : Int)
       ·rw [if_pos c7] at H
        have c7b0 : decide (x13_1 < (l1.length : Int)) = true := decide_eq_true c7
        clear c7
        by_cases c8 : (rdOf ByteArray.empty l0 x13_1).toList = (rdOf ByteArray.empty l1 x13_1).toList
        ·rw [if_pos c8] at H
         have c8b0 : ((rdOf ByteArray.empty l0 x13_1).toList == (rdOf ByteArray.empty l1 x13_1).toList) = true := beq_iff_eq.mpr c8
         have c8b1 : ((rdOf ByteArray.empty l0 x13_1).toList != (rdOf ByteArray.empty l1 x13_1).toList) = false := bne_eq_false_iff_eq.mpr c8
         clear c8
         have H' := Aside0.mk H
         clear H
         have p153 : 0 ≤ (x13_1 : Int) := of_decide_eq_true (by first | (with_reducible assumption) | assumption)
         have q153 : x13_1 < (l0.length : Int) := of_decide_eq_true (by first | (with_reducible assumption) | assumption)
         obtain ⟨ad153, e153, hx153_0⟩ := Kd.at_string HR0.out x13_1 p153 q153
         cases e153
         replace p153 := eq_true p153
         replace q153 := eq_true q153
         have p154 : 0 ≤ (x13_1 : Int) := of_decide_eq_true (by first | (with_reducible assumption) | assumption)
         have q154 : x13_1 < (l1.length : Int) := of_decide_eq_true (by first | (with_reducible assumption) | assumption)
         obtain ⟨ad154, e154, hx154_0⟩ := Kd.at_string HR1.out x13_1 p154 q154
         cases e154
         replace p154 := eq_true p154
         replace q154 := eq_true q154
         go_wp2
         repeat (go_quiet (fail); try go_wp2)
         go_roundg k1
         case measure => have := HK1.out; omega
         case rel => exact ⟨(wrap64 (x13_1 + 1)), (by first | rfl | (simp; done) | (simp [*]; done)), H', ⟨by have := HK1.out; omega⟩, by repeat (first | exact Drawn0.refl _ | apply Drawn0.step)⟩
        ·rw [if_neg c8] at H
         have c8b0 : ((rdOf ByteArray.empty l0 x13_1).toList == (rdOf ByteArray.empty l1 x13_1).toList) = false := beq_eq_false_iff_ne.mpr c8
         have c8b1 : ((rdOf ByteArray.empty l0 x13_1).toList != (rdOf ByteArray.empty l1 x13_1).toList) = true := bne_iff_ne.mpr c8
         obtain rfl := Option.some.inj H
         have p153 : 0 ≤ (x13_1 : Int) := of_decide_eq_true (by first | (with_reducible assumption) | assumption)
         have q153 : x13_1 < (l0.length : Int) := of_decide_eq_true (by first | (with_reducible assumption) | assumption)
         obtain ⟨ad153, e153, hx153_0⟩ := Kd.at_string HR0.out x13_1 p153 q153
         cases e153
         replace p153 := eq_true p153
         replace q153 := eq_true q153
         have p154 : 0 ≤ (x13_1 : Int) := of_decide_eq_true (by first | (with_reducible assumption) | assumption)
         have q154 : x13_1 < (l1.length : Int) := of_decide_eq_true (by first | (with_reducible assumption) | assumption)
         obtain ⟨ad154, e154, hx154_0⟩ := Kd.at_string HR1.out x13_1 p154 q154
         cases e154
         replace p154 := eq_true p154
         replace q154 := eq_true q154
         go_wp2
         repeat (go_quiet (fail); try go_wp2)
         go_ret
         exact ⟨by first | rfl | (simp; done) | (simp [*]; done), by repeat (first | exact Drawn0.refl _ | apply Drawn0.step)⟩
       ·rw [if_neg c7] at H
        exact absurd H (by simp)
      ·rw [if_neg c6] at H
       exact absurd H (by simp)
     ·rw [if_neg c5] at H
      exact absurd H (by simp)
    ·rw [if_neg c4] at H
     have c4b0 : decide (x13_1 < (l0.length : Int)) = false := decide_eq_false c4
     clear c4
     obtain rfl := Option.some.inj H
     go_wp2
     repeat (go_quiet (fail); try go_wp2)
     go_ret
     exact ⟨by first | rfl | (simp; done) | (simp [*]; done), by repeat (first | exact Drawn0.refl _ | apply Drawn0.step)⟩
 ·rw [if_neg c3] at H
  have c3b0 : ((l0.length : Int) == (l1.length : Int)) = false := beq_eq_false_iff_ne.mpr c3
  have c3b1 : ((l0.length : Int) != (l1.length : Int)) = true := bne_iff_ne.mpr c3
  have c3b2 : (l0.length == l1.length) = false := by first | simpa using c3 | (simp at c3 ⊢; omega)
  obtain rfl := Option.some.inj H
  go_enter Tryz.func31, Tryz.ntmps31
  go_wp2
  repeat (go_quiet (fail); try go_wp2)
  go_ret
  exact ⟨by first | rfl | (simp; done) | (simp [*]; done), by repeat (first | exact Drawn0.refl _ | apply Drawn0.step)⟩
def IsS176 (w0 W : World) (g : Nat) (f0 : List (S110)) : Prop := ∃ A0 c0, W.heap[g]? = some (.cells #[.slice A0 f0.length c0] 176 (0, 0)) ∧ w0.heap.size ≤ g ∧ Kd.C k110 w0 A0 f0.length f0
theorem IsS176.grown {w0 W : World} {g : Nat} {f0 : List (S110)} {W1 : World} {row : Option Nat} (h : IsS176 w0 W g f0) (hw : W.grownBy W1 row) (hne : some g ≠ row) : IsS176 w0 W1 g f0 := by
 obtain ⟨A0, c0, hb, hg, hr0⟩ := h
 exact ⟨A0, c0, blk_grown hb hw hne, hg, hr0⟩
theorem IsS176.kept {w0 W : World} {g : Nat} {f0 : List (S110)} {W1 : World} {S : Nat → Prop} (h : IsS176 w0 W g f0) (hk : Kept W W1 S) (hne : ¬ S g) : IsS176 w0 W1 g f0 := by
 obtain ⟨A0, c0, hb, hg, hr0⟩ := h
 exact ⟨A0, c0, blk_kept hb hk hne, hg, hr0⟩
theorem IsS176.below {w0 W : World} {g : Nat} {f0 : List (S110)} {W1 : World} (h : IsS176 w0 W g f0) (hw : Below W.heap.size W W1) : IsS176 w0 W1 g f0 := h.grown (grown_of_below hw none) (by simp)
theorem IsS176.alloc {w0 W : World} {g : Nat} {f0 : List (S110)} (h : IsS176 w0 W g f0) (o : Obj) : IsS176 w0 (W.alloc o) g f0 := h.below (below_alloc (Below.refl _ _) o)
theorem IsS176.drewN {w0 W : World} {g : Nat} {f0 : List (S110)} (h : IsS176 w0 W g f0) (m : Nat) : IsS176 w0 (W.drewN m) g f0 := h
theorem IsS176.drew {w0 W : World} {g : Nat} {f0 : List (S110)} (h : IsS176 w0 W g f0) : IsS176 w0 W.drew g f0 := h
theorem IsS176.at_ {w0 W : World} {g : Nat} {f0 : List (S110)} {w' : World} {m : Nat} (hq : W.drewN m = w') (h : IsS176 w0 W g f0) : IsS176 w0 w' g f0 := by subst hq; exact IsS176.drewN h m
theorem IsS176.apart {w0 W : World} {g : Nat} {f0 : List (S110)} {α : Type} {d : Kd α} {e : Nat} {base : Nat} {ok : Nat → Prop} {v : Value} {xs : List α} (h : IsS176 w0 W g f0) (ho : d.R e W base ok v xs) (ht : ∀ q, q ∈ e :: d.E → q ≠ 176) : d.R e W base (fun k => ok k ∧ k ≠ g) v xs := by
 obtain ⟨A0, c0, hb, hg, hr0⟩ := h
 exact Kd.R_types ho hb ht
theorem IsS176.own_ne {w0 W : World} {g : Nat} {f0 : List (S110)} {α : Type} {d : Kd α} {e : Nat} {base : Nat} {ok : Nat → Prop} {v : Value} {xs : List α} (h : IsS176 w0 W g f0) (ho : d.R e W base ok v xs) (ht : e ≠ 176) : some g ≠ v.ownBlock := by
 obtain ⟨A0, c0, hb, hg, hr0⟩ := h
 exact Kd.R_ne ho hb ht
theorem IsS176.lt {w0 W : World} {g : Nat} {f0 : List (S110)} (h : IsS176 w0 W g f0) : g < W.heap.size := by
 obtain ⟨A0, c0, hb, hg, hr0⟩ := h
 exact blk_lt hb
theorem IsS176.ge {w0 W : World} {g : Nat} {f0 : List (S110)} (h : IsS176 w0 W g f0) : w0.heap.size ≤ g := by
 obtain ⟨A0, c0, hb, hg, hr0⟩ := h
 exact hg
theorem IsS176.new (w0 W : World) (A0 : Option Addr) (c0 : Nat) (f0 : List (S110)) (hB : Below w0.heap.size w0 W) (hr0 : Kd.C k110 w0 A0 f0.length f0) : IsS176 w0 (W.alloc (.cells #[.slice A0 f0.length c0] 176)) W.heap.size f0 := ⟨A0, c0, by simpa using heap_alloc_new W _, hB.size, hr0⟩
end Go.Proofs.YthngelbaheankaaGreatDoor.PB
namespace Go.Proofs.YthngelbaheankaaGreatDoor.Tpl
open Go.RowKit Go.Proofs.YthngelbaheankaaGreatDoor.PB Go.Proofs.YthngelbaheankaaGreatDoor.Short Go.Proofs.YthngelbaheankaaGreatDoorW.PrintWords Go.Proofs.YthngelbaheankaaGreatDoorW.PrintLast Go.Proofs.YthngelbaheankaaGreatDoorW.PrintMore
abbrev SN := S116
abbrev ST := S110
abbrev kN : Kd SN := k116
abbrev kT : Kd ST := k110
def bs (s : S) : ByteArray := ⟨s.toArray⟩
theorem bs_size (s : S) : (bs s).size = s.length := by simp [bs, ByteArray.size]
theorem bs_list (s : S) : (bs s).toList = s := by unfold bs; exact ByteArray.toList_mk s
namespace Nodes
def of : Nodes → List SN
  | nil => []
  | cons k t p a b r => ⟨k, bs t, p.map bs, a.of, b.of⟩ :: r.of
def drop : Nodes → Nat → Nodes
  | l, 0 => l
  | nil, _ + 1 => nil
  | cons _ _ _ _ _ r, i + 1 => r.drop i
theorem of_len (l : Nodes) : l.of.length = l.len := by
  induction l with
  | nil => rfl
  | cons k t p a b r _ _ ih => simp [of, len, ih]
theorem drop_zero (l : Nodes) : l.drop 0 = l := by cases l <;> rfl
theorem drop_len (l : Nodes) : ∀ i, (l.drop i).len = l.len - i := by
  induction l with
  | nil => intro i; cases i <;> simp [drop, len]
  | cons k t p a b r _ _ ih => intro i; cases i <;> simp [drop, len, ih]
theorem drop_step {l : Nodes} : ∀ {i k t p a b r}, l.drop i = cons k t p a b r → i < l.len ∧ l.drop (i + 1) = r ∧ rd_T116 l.of i = ⟨k, bs t, p.map bs, a.of, b.of⟩ := by
  induction l with
  | nil => intro i k t p a b r h; cases i <;> simp [drop] at h
  | cons k' t' p' a' b' r' _ _ ih =>
    intro i k t p a b r h
    cases i with
    | zero =>
      simp only [drop, cons.injEq] at h
      obtain ⟨rfl, rfl, rfl, rfl, rfl, rfl⟩ := h
      exact ⟨by simp [len], by simp [drop], rfl⟩
    | succ i =>
      obtain ⟨h1, h2, h3⟩ := ih h
      refine ⟨by simp [len]; exact h1, h2, ?_⟩
      rw [← h3]
      unfold rd_T116
      have e : ((i : Int) + 1).toNat = (i : Int).toNat + 1 := by omega
      simp [of, e]
theorem drop_nil {l : Nodes} {i : Nat} (h : l.drop i = nil) : l.len ≤ i := by
  have := drop_len l i
  rw [h] at this
  simp only [len] at this
  omega
theorem isNil_len (l : Nodes) : l.isNil = decide (l.len = 0) := by cases l <;> simp [isNil, len]
def sm : Nodes → Prop
  | nil => True
  | cons k t p a b r => k < 256 ∧ t.length ≤ 1048576 ∧ p.length ≤ 1048576 ∧ (∀ s, s ∈ p → s.length ≤ 1048576) ∧ a.len ≤ 1048576 ∧ b.len ≤ 1048576 ∧ a.sm ∧ b.sm ∧ r.sm
theorem sm_drop {l : Nodes} (h : l.sm) : ∀ i, (l.drop i).sm := by
  induction l with
  | nil => intro i; cases i <;> exact trivial
  | cons k t p a b r _ _ ih =>
    intro i
    cases i with
    | zero => exact h
    | succ i => exact ih h.2.2.2.2.2.2.2.2 i
theorem cnt_drop (l : Nodes) : ∀ i, (l.drop i).cnt ≤ l.cnt := by
  induction l with
  | nil => intro i; cases i <;> simp [drop]
  | cons k t p a b r _ _ ih =>
    intro i
    cases i with
    | zero => exact Nat.le_refl _
    | succ i => have := ih i; simp only [drop, cnt]; omega
def Rd (w : World) (A : Option Addr) (c : Nat) (l : Nodes) : Prop := kN.C w A l.len l.of ∧ l.len ≤ c
theorem Rd.below {w w1 : World} {A : Option Addr} {c : Nat} {l : Nodes} (h : Rd w A c l) (hb : Below w.heap.size w w1) : Rd w1 A c l := ⟨Kd.C_below h.1 hb, h.2⟩
theorem Rd.at {w : World} {A : Option Addr} {c : Nat} {l : Nodes} (h : Rd w A c l) {i : Nat} {k t p a b r} (hd : l.drop i = cons k t p a b r) :
    ∃ ad A2 c2 A3 c3 A4 c4, A = some ad ∧ w.cell? (ad.add (i * 5)) = some (.int .u8 k) ∧ w.cell? ⟨(ad.add (i * 5)).block, (ad.add (i * 5)).off + 1, none⟩ = some (.string (bs t)) ∧ w.cell? ⟨(ad.add (i * 5)).block, (ad.add (i * 5)).off + 2, none⟩ = some (.slice A2 p.length c2) ∧
      w.cell? ⟨(ad.add (i * 5)).block, (ad.add (i * 5)).off + 3, none⟩ = some (.slice A3 a.len c3) ∧ w.cell? ⟨(ad.add (i * 5)).block, (ad.add (i * 5)).off + 4, none⟩ = some (.slice A4 b.len c4) ∧
      Kd.string.C w A2 p.length (p.map bs) ∧ p.length ≤ c2 ∧ Rd w A3 c3 a ∧ Rd w A4 c4 b := by
  obtain ⟨h1, _, h3⟩ := drop_step hd
  have hq : ((i : Int) < l.len) := by omega
  obtain ⟨ad, A2, c2, A3, c3, A4, c4, e, x0, x1, x2, x3, x4, l2, i2, l3, i3, l4, i4⟩ := at_T116 h.1 (i : Int) (by omega) hq
  rw [h3] at x0 x1 x2 x3 x4 l2 i2 l3 i3 l4 i4
  simp only [Int.toNat_natCast, List.length_map, of_len] at x0 x1 x2 x3 x4 l2 i2 l3 i3 l4 i4
  exact ⟨ad, A2, c2, A3, c3, A4, c4, e, x0, x1, x2, x3, x4, i2, l2, ⟨i3, l3⟩, ⟨i4, l4⟩⟩
end Nodes
end Go.Proofs.YthngelbaheankaaGreatDoor.Tpl
namespace Go.Proofs.YthngelbaheankaaGreatDoor.Tpl
set_option linter.unusedSimpArgs false
open Go.RowKit Go.Proofs.YthngelbaheankaaGreatDoor.PB Go.Proofs.YthngelbaheankaaGreatDoor.Short Go.Proofs.YthngelbaheankaaGreatDoorW.PrintWords Go.Proofs.YthngelbaheankaaGreatDoorW.PrintLast Go.Proofs.YthngelbaheankaaGreatDoorW.PrintMore Nodes
theorem bt_bs (s : S) (i : Nat) (h : i < s.length) : bt (bs s) (i : Int) = ((s.getD i 0).toNat : Int) := by
  have h2 : i < (bs s).size := by rw [bs_size]; exact h
  unfold bt
  rw [dif_pos (by simpa using h2)]
  simp only [Int.toNat_natCast]
  congr 2
  show (bs s).data[i] = _
  simp [bs, List.getD, h]
theorem w64 (i : Nat) (h : i ≤ 1048577) : wrap64 ((i : Int) + 1) = ((i + 1 : Nat) : Int) := by unfold wrap64; omega
theorem drop_get (s : S) (i : Nat) (h : i < s.length) : s.drop i = s.getD i 0 :: s.drop (i + 1) := by
  rw [List.drop_eq_getElem_cons h]; simp [List.getD, h]
theorem nameC_t (n : UInt8) (f : Bool) : nameC f n = (decide ((97 : Int) ≤ n.toNat) && decide ((n.toNat : Int) ≤ 122) || (!f && (decide ((n.toNat : Int) = 95) || (decide ((48 : Int) ≤ n.toNat) && decide ((n.toNat : Int) ≤ 57))))) := by
  unfold nameC
  congr 1
  · congr 1 <;> (rw [decide_eq_decide]; omega)
  · congr 2
    · rw [Bool.eq_iff_iff]; simp; omega
    · congr 1 <;> (rw [decide_eq_decide]; omega)
theorem named_l0 (s : S) (hs : s.length ≤ 1048576) : ∀ d i, s.length - i = d → i ≤ s.length → bellmanref09_Named.l0 (d + 1) (bs s) (i : Int) = some (nameL (i == 0) (s.drop i) && (!s.isEmpty && decide (s.length ≤ 32))) := by
  intro d
  induction d with
  | zero =>
    intro i h1 h2
    obtain rfl : i = s.length := by omega
    unfold bellmanref09_Named.l0
    rw [if_neg (by rw [bs_size]; omega), List.drop_length]
    simp only [nameL, Bool.true_and, bs_list, bs_size]
    cases s with
    | nil => rfl
    | cons c r => rw [if_neg (by simp)]; simp only [List.isEmpty_cons, Bool.not_false, Bool.true_and]; congr 1; rw [decide_eq_decide]; omega
  | succ d ih =>
    intro i h1 h2
    have hi : i < s.length := by omega
    unfold bellmanref09_Named.l0
    rw [if_pos (by rw [bs_size]; omega), if_pos (by omega), bt_bs s i hi, w64 i (by omega), ih (i + 1) (by omega) (by omega), drop_get s i hi]
    simp only [nameL, show ((i + 1 == 0) : Bool) = false from by simp, nameC_t]
    generalize s.getD i 0 = n
    by_cases c0 : i = 0
    · subst c0
      by_cases c1 : (97 : Int) ≤ n.toNat
      · by_cases c2 : (n.toNat : Int) ≤ 122
        · simp [c1, c2]
        · simp [c1, c2]
      · simp [c1]
    · have c0' : ¬ ((i : Int) = 0) := by omega
      have c0'' : (i == 0) = false := by simp [c0]
      by_cases c1 : (97 : Int) ≤ n.toNat
      · by_cases c2 : (n.toNat : Int) ≤ 122
        · simp [c1, c2]
        · rcases (by omega : (n.toNat : Int) < 48 ∨ (48 : Int) ≤ n.toNat) with c6 | c6
          · have c6' : ¬ (48 : Int) ≤ n.toNat := by omega
            by_cases c5 : (n.toNat : Int) = 95
            · omega
            · simp [c0, c1, c2, c0', c0'', c5, c6, c6']
          · have c6' : ¬ (n.toNat : Int) < 48 := by omega
            have c6'' : (48 : Int) ≤ n.toNat := c6
            rcases (by omega : (57 : Int) < n.toNat ∨ (n.toNat : Int) ≤ 57) with c7 | c7
            · have c7' : ¬ (n.toNat : Int) ≤ 57 := by omega
              by_cases c5 : (n.toNat : Int) = 95
              · simp [c0, c1, c2, c0', c0'', c5]
              · simp [c0, c1, c2, c0', c0'', c5, c6', c6'', c7, c7']
            · have c7' : ¬ (57 : Int) < n.toNat := by omega
              have c7'' : (n.toNat : Int) ≤ 57 := c7
              by_cases c5 : (n.toNat : Int) = 95
              · omega
              · simp [c0, c1, c2, c0', c0'', c5, c6', c6'', c7', c7'']
      · rcases (by omega : (n.toNat : Int) < 48 ∨ (48 : Int) ≤ n.toNat) with c6 | c6
        · have c6' : ¬ (48 : Int) ≤ n.toNat := by omega
          by_cases c5 : (n.toNat : Int) = 95
          · omega
          · simp [c0, c1, c0', c0'', c5, c6, c6']
        · have c6' : ¬ (n.toNat : Int) < 48 := by omega
          have c6'' : (48 : Int) ≤ n.toNat := c6
          rcases (by omega : (57 : Int) < n.toNat ∨ (n.toNat : Int) ≤ 57) with c7 | c7
          · have c7' : ¬ (n.toNat : Int) ≤ 57 := by omega
            by_cases c5 : (n.toNat : Int) = 95
            · simp [c0, c1, c0', c0'', c5]
            · simp [c0, c1, c0', c0'', c5, c6', c6'', c7, c7']
          · have c7' : ¬ (57 : Int) < n.toNat := by omega
            have c7'' : (n.toNat : Int) ≤ 57 := c7
            by_cases c5 : (n.toNat : Int) = 95
            · omega
            · simp [c0, c1, c0', c0'', c5, c6', c6'', c7', c7'']
theorem named_f (s : S) (hs : s.length ≤ 1048576) : ∃ k, bellmanref09_Named.f k (bs s) = some (nameP s) := by
  refine ⟨s.length + 1, ?_⟩
  unfold bellmanref09_Named.f
  have := named_l0 s hs s.length 0 (by omega) (by omega)
  rw [show ((0 : Nat) : Int) = 0 from rfl] at this
  rw [this]
  unfold nameP
  simp only [beq_self_eq_true, List.drop_zero]
  congr 1
  cases nameL true s <;> simp
theorem name_l0 (s : S) (hs : s.length ≤ 1048576) : ∀ d i, s.length - i = d → i ≤ s.length → value_Name.l0 (2 * d + 1) (bs s) (s.length : Int) (i : Int) = some (if nameL (i == 0) (s.drop i) = true then 0 else 13) := by
  intro d
  induction d with
  | zero =>
    intro i h1 h2
    obtain rfl : i = s.length := by omega
    unfold value_Name.l0
    rw [if_neg (by omega), List.drop_length]
    simp [nameL]
  | succ d ih =>
    intro i h1 h2
    have hi : i < s.length := by omega
    have ih' := ih (i + 1) (by omega) (by omega)
    rw [show 2 * (d + 1) + 1 = (2 * d + 1 + 1) + 1 from by omega]
    unfold value_Name.l0
    rw [if_pos (by omega), if_pos (by omega), if_pos (by rw [bs_size]; omega), bt_bs s i hi, drop_get s i hi]
    simp only [value_Name.j2, w64 i (by omega), ih', nameL, show ((i + 1 == 0) : Bool) = false from by simp, nameC_t]
    generalize s.getD i 0 = n
    by_cases c0 : i = 0
    · subst c0
      by_cases c1 : (97 : Int) ≤ n.toNat
      · by_cases c2 : (n.toNat : Int) ≤ 122
        · simp [c1, c2]
        · simp [c1, c2]
      · simp [c1]
    · have c0' : (i : Int) > 0 := by omega
      have c0'' : (i == 0) = false := by simp [c0]
      have c3 : ¬ (i = 0) := c0
      by_cases c1 : (97 : Int) ≤ n.toNat
      · by_cases c2 : (n.toNat : Int) ≤ 122
        · simp [c1, c2]
        · have c4 : 0 < i := by omega
          rcases (by omega : (n.toNat : Int) < 48 ∨ (48 : Int) ≤ n.toNat) with c6 | c6
          · have c6' : ¬ (48 : Int) ≤ n.toNat := by omega
            by_cases c5 : (n.toNat : Int) = 95
            · omega
            · simp [c1, c2, c0', c0'', c4, c5, c6, c6']
          · have c6' : ¬ (n.toNat : Int) < 48 := by omega
            have c6'' : (48 : Int) ≤ n.toNat := c6
            rcases (by omega : (57 : Int) < n.toNat ∨ (n.toNat : Int) ≤ 57) with c7 | c7
            · have c7' : ¬ (n.toNat : Int) ≤ 57 := by omega
              by_cases c5 : (n.toNat : Int) = 95
              · simp [c1, c2, c0', c0'', c4, c5]
              · simp [c1, c2, c0', c0'', c4, c5, c6', c6'', c7, c7']
            · have c7' : ¬ (57 : Int) < n.toNat := by omega
              have c7'' : (n.toNat : Int) ≤ 57 := c7
              by_cases c5 : (n.toNat : Int) = 95
              · omega
              · simp [c1, c2, c0', c0'', c4, c5, c6', c6'', c7', c7'']
      · have c4 : 0 < i := by omega
        rcases (by omega : (n.toNat : Int) < 48 ∨ (48 : Int) ≤ n.toNat) with c6 | c6
        · have c6' : ¬ (48 : Int) ≤ n.toNat := by omega
          by_cases c5 : (n.toNat : Int) = 95
          · omega
          · simp [c1, c0', c0'', c4, c5, c6, c6']
        · have c6' : ¬ (n.toNat : Int) < 48 := by omega
          have c6'' : (48 : Int) ≤ n.toNat := c6
          rcases (by omega : (57 : Int) < n.toNat ∨ (n.toNat : Int) ≤ 57) with c7 | c7
          · have c7' : ¬ (n.toNat : Int) ≤ 57 := by omega
            by_cases c5 : (n.toNat : Int) = 95
            · simp [c1, c0', c0'', c4, c5]
            · simp [c1, c0', c0'', c4, c5, c6', c6'', c7, c7']
          · have c7' : ¬ (57 : Int) < n.toNat := by omega
            have c7'' : (n.toNat : Int) ≤ 57 := c7
            by_cases c5 : (n.toNat : Int) = 95
            · omega
            · simp [c1, c0', c0'', c4, c5, c6', c6'', c7', c7'']
theorem name_f (s : S) (hs : s.length ≤ 1048576) : ∃ k, value_Name.f k (bs s) = some (if nameP s = true then 0 else 13) := by
  refine ⟨2 * s.length + 2, ?_⟩
  unfold value_Name.f nameP
  simp only [bs_list, bs_size]
  have := name_l0 s hs s.length 0 (by omega) (by omega)
  rw [show ((0 : Nat) : Int) = 0 from rfl] at this
  cases s with
  | nil => simp [value_Name.j0]
  | cons c r =>
    rw [if_neg (by simp)]
    by_cases h : (c :: r).length ≤ 32
    · have h' : decide (((c :: r).length : Int) > 32) = false := by simp; simp at h; omega
      rw [h']
      simp only [value_Name.j0, Bool.false_eq_true, if_false, bs_size, this, beq_self_eq_true, List.drop_zero, List.isEmpty_cons, Bool.not_false, Bool.true_and, decide_eq_true h]
    · have h' : decide (((c :: r).length : Int) > 32) = true := by simp; simp at h; omega
      rw [h']
      simp only [value_Name.j0, if_true, List.isEmpty_cons, Bool.not_false, Bool.true_and, decide_eq_false h, Bool.false_and, Bool.false_eq_true, if_false]
def ownP (s : S) : Nat := if s = ifS then 3 else if s = elseS then 4 else if s = eachS then 5 else if s = endS then 6 else 2
theorem own_f (s : S) : scan_own.f 5 (bs s) = some (ownP s : Int) := by
  by_cases h1 : s = [105, 102]
  · subst h1; kernel_rfl
  by_cases h2 : s = [101, 108, 115, 101]
  · subst h2; kernel_rfl
  by_cases h3 : s = [101, 97, 99, 104]
  · subst h3; kernel_rfl
  by_cases h4 : s = [101, 110, 100]
  · subst h4; kernel_rfl
  unfold scan_own.f
  have e1 : ¬ (([105, 102] : S) = s) := fun h => h1 h.symm
  have e2 : ¬ (([101, 108, 115, 101] : S) = s) := fun h => h2 h.symm
  have e3 : ¬ (([101, 97, 99, 104] : S) = s) := fun h => h3 h.symm
  have e4 : ¬ (([101, 110, 100] : S) = s) := fun h => h4 h.symm
  have m1 : (⟨#[105, 102]⟩ : ByteArray).toList = [105, 102] := bs_list [105, 102]
  have m2 : (⟨#[101, 108, 115, 101]⟩ : ByteArray).toList = [101, 108, 115, 101] := bs_list _
  have m3 : (⟨#[101, 97, 99, 104]⟩ : ByteArray).toList = [101, 97, 99, 104] := bs_list _
  have m4 : (⟨#[101, 110, 100]⟩ : ByteArray).toList = [101, 110, 100] := bs_list _
  unfold scan_own.l0
  rw [if_pos (by decide)]
  simp only [scan_words.f, if_true, Option.bind_some, m1, bs_list, if_neg e1, show ((3 : Int) + 1) % 256 = 4 from by decide]
  unfold scan_own.l0
  rw [if_pos (by decide)]
  simp only [scan_words.f, show ((4 : Int) = 3) = False from by simp, show ((4 : Int) = 5) = False from by simp, if_false, if_true, Option.bind_some, m2, bs_list, if_neg e2, show ((4 : Int) + 1) % 256 = 5 from by decide]
  unfold scan_own.l0
  rw [if_pos (by decide)]
  simp only [scan_words.f, show ((5 : Int) = 3) = False from by simp, if_false, if_true, Option.bind_some, m3, bs_list, if_neg e3, show ((5 : Int) + 1) % 256 = 6 from by decide]
  unfold scan_own.l0
  rw [if_pos (by decide)]
  simp only [scan_words.f, show ((6 : Int) = 3) = False from by simp, show ((6 : Int) = 5) = False from by simp, show ((6 : Int) = 4) = False from by simp, if_false, if_true, Option.bind_some, m4, bs_list, if_neg e4, show ((6 : Int) + 1) % 256 = 7 from by decide]
  unfold scan_own.l0
  rw [if_neg (by decide)]
  unfold ownP ifS elseS eachS endS
  rw [if_neg h1, if_neg h2, if_neg h3, if_neg h4]
  rfl
theorem own_special (s : S) : special s = (ownP s != 2) := by
  unfold special ownP
  by_cases h1 : s = ifS
  · simp [h1]
  by_cases h2 : s = elseS
  · simp [h1, h2]; subst h2; decide
  by_cases h3 : s = eachS
  · subst h3; decide
  by_cases h4 : s = endS
  · subst h4; decide
  simp [h1, h2, h3, h4]
theorem rd_map (p : List S) (i : Nat) (h : i < p.length) : rdOf ByteArray.empty (p.map bs) (i : Int) = bs (p.getD i []) := by
  unfold rdOf
  simp [List.getD, h]
end Go.Proofs.YthngelbaheankaaGreatDoor.Tpl
namespace Go.Proofs.YthngelbaheankaaGreatDoor.Tpl
set_option linter.unusedSimpArgs false
open Go.RowKit Go.Proofs.YthngelbaheankaaGreatDoor.PB Go.Proofs.YthngelbaheankaaGreatDoor.Short Go.Proofs.YthngelbaheankaaGreatDoorW.PrintWords Go.Proofs.YthngelbaheankaaGreatDoorW.PrintLast Go.Proofs.YthngelbaheankaaGreatDoorW.PrintMore Nodes
theorem len_cnt (l : Nodes) : l.len ≤ l.cnt := by
  induction l with
  | nil => simp [len]
  | cons k t p a b r _ _ ihr => simp only [len, cnt]; omega
end Go.Proofs.YthngelbaheankaaGreatDoor.Tpl
namespace Go.Proofs.YthngelbaheankaaGreatDoor.Tpl
open Go.RowKit Go.Proofs.YthngelbaheankaaGreatDoor.PB Go.Proofs.YthngelbaheankaaGreatDoor.Short Go.Proofs.YthngelbaheankaaGreatDoorW.PrintWords Go.Proofs.YthngelbaheankaaGreatDoorW.PrintLast Go.Proofs.YthngelbaheankaaGreatDoorW.PrintMore Nodes
attribute [local go_sem ↓] Go.wp_at_zero Go.wp_at_succ
structure KeepP (ok : Nat → Prop) (w w' : World) : Prop where
  os : w'.os = w.os
  tape : w'.tape = w.tape
  output : w'.output = w.output
  size : w.heap.size ≤ w'.heap.size
  blk : ∀ i, i < w.heap.size → ¬ ok i → w'.heap[i]? = w.heap[i]?
namespace KeepP
variable {ok ok' : Nat → Prop} {w w1 w2 : World}
theorem refl (w : World) : KeepP ok w w := ⟨rfl, rfl, rfl, Nat.le_refl _, fun _ _ _ => rfl⟩
theorem trans (h : KeepP ok w w1) (k : KeepP ok w1 w2) : KeepP ok w w2 := ⟨k.os.trans h.os, k.tape.trans h.tape, k.output.trans h.output, Nat.le_trans h.size k.size, fun i hi hn => (k.blk i (Nat.lt_of_lt_of_le hi h.size) hn).trans (h.blk i hi hn)⟩
theorem mono (h : KeepP ok w w1) (hk : ∀ k, ok k → ok' k) : KeepP ok' w w1 := ⟨h.os, h.tape, h.output, h.size, fun i hi hn => h.blk i hi (fun c => hn (hk i c))⟩
theorem of_below (h : Below w.heap.size w w1) : KeepP ok w w1 := ⟨h.os, h.tape, h.output, h.size, fun i hi _ => h.block i hi⟩
theorem grown {row : Option Nat} (h : w.grownBy w1 row) (hr : ∀ k, row = some k → ok k) : KeepP ok w w1 := ⟨h.os, h.tape, h.output, h.size, fun i hi hn => h.block i hi (fun e => hn (hr i e.symm))⟩
theorem below (h : KeepP ok w w1) {B : Nat} (hB : ∀ k, ok k → B ≤ k) (hle : B ≤ w.heap.size) : Below B w w1 := ⟨h.os, h.tape, h.output, h.size, fun i hi => h.blk i (Nat.lt_of_lt_of_le hi hle) (fun c => by have := hB i c; omega)⟩
theorem blkOf (h : KeepP ok w w1) {g : Nat} {o : Obj} (hg : w.heap[g]? = some o) (hn : ¬ ok g) : w1.heap[g]? = some o := (h.blk g (blk_lt hg) hn).trans hg
end KeepP
theorem info_str : (Tryz.prog.info? 9).map (fun i => (i.zero, i.size, i.bytes)) = some (some (.string ⟨#[]⟩), 1, 16) := by kernel_rfl
set_option maxHeartbeats 1000000 in
set_option maxRecDepth 100000 in
/-- slices.Clone of texts -/
theorem clone_any (A : Option Addr) (c : Nat) (p : List ByteArray) (w : World) (hC : Kd.string.C w A p.length p) (hn : p.length ≤ 1048576) :
    Calls Tryz.prog 117 #[.slice A p.length c] w fun e w' => ∃ v', e = .returned v' ∧ Kd.string.R 9 w' w.heap.size (fun k => w.heap.size ≤ k) v' p ∧ Below w.heap.size w w' := by
  have q24 : ∀ (w : World) (a : Option Addr) (n c n' c' : Nat), (binOp .eql 25 (.slice a n c) (.slice none n' c')).run Tryz.prog w = .ok (.bool a.isNone) w := fun w a n c n' c' => Lib.run_eql_slice_nil w _ _ a n c n' c' Tryz.underlying25
  cases A with
  | none =>
    have h0 : p = [] := by
      cases p with
      | nil => rfl
      | cons x r => obtain ⟨ad, e, _⟩ := hC.2.2 (by simp); cases e
    subst h0
    go_enter Tryz.func117, Tryz.ntmps117
    go_wp2
    go_ret
    exact ⟨_, rfl, Kd.R_nil _ _ _ _ _, Below.refl _ _⟩
  | some ad =>
    obtain ⟨i0, hi, hz0, hz1, hz2⟩ := info_parts info_str
    have A := Aside0.mk hC
    clear hC
    go_enter Tryz.func117, Tryz.ntmps117
    go_wp2_with (at_builtin; refine wpList_append_own _ rfl _ _ 25 rfl w.heap.size 9 i0 (.string { data := #[] }) 1 16 Tryz.underlying25 hi hz0 hz1 hz2 rfl (by decide) _ _ _ rfl (World.ownsRow_made w #[] 0 (Nat.le_refl _) (Nat.zero_le _) rfl) ad p.length c (p.map (Value.string)) rfl ?qc1 ?qc2 ?qc3 ?qc4 ?qc5 ?qc6 ?_)
    case qc1 => simp
    case qc2 =>
      intro j u hj
      have hjn : j < p.length := by have := (List.getElem?_eq_some_iff.1 hj).1; simpa using this
      refine Lib.cell?_alloc_some _ ?_
      obtain ⟨ad', e, hc⟩ := A.out.2.2 (by omega)
      cases e
      obtain ⟨cs, hl, hk, hcell⟩ := hc j _ (List.getElem?_eq_getElem hjn)
      have hk' : cs = [.string p[j]] := hk
      subst hk'
      have h0 := hcell 0 _ rfl
      rw [List.getElem?_map, List.getElem?_eq_getElem hjn] at hj
      cases hj
      simpa [Kd.string, Kd.scalar] using h0
    case qc3 => intro u hu; obtain ⟨x, _, rfl⟩ := List.mem_map.1 hu; rfl
    case qc4 => unfold maxLen; omega
    case qc5 => omega
    case qc6 => simp
    intro v' w1 hown hgrow hnil
    go_wp2
    go_ret
    have ho : w1.ownsRow w.heap.size 9 1 v' p.length (encs Value.string p) := by simpa [encs] using hown
    exact ⟨v', rfl, Kd.R_of_own ho (fun k hk => own_base ho k hk), ((Below.refl _ w).alloc (Nat.le_refl _) _).grown hgrow (by simp) (by intro k hk; simp [Value.ownBlock] at hk; omega)⟩
theorem clone_S (A : Option Addr) (c : Nat) (p : List S) (w : World) (hC : Kd.string.C w A p.length (p.map bs)) (hn : p.length ≤ 1048576) :
    Calls Tryz.prog 117 #[.slice A p.length c] w fun e w' => ∃ Av cv, e = .returned (.slice Av p.length cv) ∧ Kd.string.R 9 w' w.heap.size (fun k => w.heap.size ≤ k) (.slice Av p.length cv) (p.map bs) ∧ Below w.heap.size w w' := by
  have h := clone_any A c (p.map bs) w (by simpa using hC) (by simpa using hn)
  rw [List.length_map] at h
  refine h.mono ?_
  rintro e w' ⟨v, rfl, hv, hb⟩
  obtain ⟨Av, cv, e⟩ := Kd.R_slice hv
  rw [List.length_map] at e
  subst e
  exact ⟨Av, cv, rfl, hv, hb⟩
def Tok.of (x : Tok) : ST := ⟨x.k, bs x.t, x.p.map bs⟩
def tokv (l : List Tok) : List ST := l.map Tok.of
theorem tokM (w : World) (base k : Nat) : kT.M w base (fun _ => False) (Tok.of ⟨k, [], []⟩) [.int .u8 k, .string ⟨#[]⟩, .slice none 0 0] := k110_mkM w base _ (Tok.of ⟨k, [], []⟩) (Kd.R_nil _ _ _ _ _)
theorem toks_len (l : Nodes) : (tokv l.toks).length ≤ 3 * l.cnt := by
  unfold tokv
  rw [List.length_map]
  induction l with
  | nil => simp [toks]
  | cons k t p a b r iha ihb ihr =>
    simp only [toks, cnt, List.length_cons, List.length_append]
    split
    · simp only [List.length_append, List.length_cons, List.length_nil]
      cases b with
      | nil => simp [isNil]; simp only [cnt, toks, List.length_nil] at *; omega
      | cons => simp only [isNil, Bool.false_eq_true, if_false, List.length_cons] at *; simp only [cnt] at *; omega
    · simp; omega
theorem put_bounds {ca cb cr cd la l2 l3 ta tb m cl : Nat} (h1 : 1 + ca + cb + cr = cd) (h2 : cd ≤ cl) (h3 : cl ≤ m + 1) (hx : cd * 3 + la ≤ 1048576) (h4 : ta ≤ 3 * ca) (h5 : tb ≤ 3 * cb) (h6 : l2 = la + 1) (h7 : l3 = l2 + ta) :
    (l3 + 1) * 48 ≤ 140737488355328 ∧ cb * 3 + (l3 + 1) ≤ 1048576 ∧ cr * 3 + (l3 + 1) ≤ 1048576 ∧ cr * 3 + (l3 + 1 + tb + 1) ≤ 1048576 ∧ cb ≤ m ∧ (l3 + 1 + tb + 1) * 48 ≤ 140737488355328 := by omega
theorem put_bounds1 {ca cb cr cd la m cl : Nat} (h1 : 1 + ca + cb + cr = cd) (h2 : cd ≤ cl) (h3 : cl ≤ m + 1) (hx : cd * 3 + la ≤ 1048576) : ca ≤ m ∧ ca * 3 + (la + 1) ≤ 1048576 ∧ cr * 3 + (la + 1) ≤ 1048576 := by omega
theorem le48 {n x : Nat} (h : x + n ≤ 1048576) : (n + 1) * 48 ≤ 140737488355328 := by omega
set_option maxHeartbeats 4000000 in
set_option maxRecDepth 100000 in
theorem put_any (w0 : World) (m : Nat) : ∀ (l : Nodes) (A : Option Addr) (c : Nat) (xs : List ST) (v : Value) (ok : Nat → Prop) (w : World), l.cnt ≤ m → l.cnt * 3 + xs.length ≤ 1048576 → l.sm → Rd w0 A c l → Below w0.heap.size w0 w → (∀ k, ok k → w0.heap.size ≤ k) → (∀ k, w.heap.size ≤ k → ok k) → kT.R 110 w w0.heap.size ok v xs →
    Calls Tryz.prog 110 #[v, .slice A l.len c] w fun e w' => ∃ v', e = .returned v' ∧ kT.R 110 w' w0.heap.size ok v' (xs ++ tokv l.toks) ∧ KeepP ok w w' := by
  induction m with
  | zero =>
    intro l A c xs v ok w hm
    cases l with
    | cons => simp [cnt] at hm
    | nil =>
      intro _ _ _ _ _ _ hR
      go_enter Tryz.func110, Tryz.ntmps110
      go_wp2
      refine wp_loop_rounds 1 ?_
      rw [rounds_succ]
      go_wp2
      go_ret
      exact ⟨_, rfl, by simpa [toks, tokv] using hR, KeepP.refl _⟩
  | succ m ih =>
    intro l A c xs v ok w hm hx hs hR hB hok hfr hO
    have HR := Aside0.mk hR
    have HS := Aside0.mk hs
    have HB := Aside0.mk hB
    have HM := Aside0.mk hm
    have HX := Aside0.mk hx
    have HO := Aside0.mk hO
    have HOK := Aside0.mk hok
    have HFR := Aside0.mk hfr
    have hll := hR.1.2.1
    clear hR hs hB hm hx hO hok hfr
    go_enter Tryz.func110, Tryz.ntmps110
    go_wp2
    go_loopw [0, 9] (fun v0 v9 wr => ∃ (i : Nat) (acc : List ST), v9 = .int .i64 i ∧ i ≤ l.len ∧ Aside0 (xs ++ tokv l.toks = acc ++ tokv (l.drop i).toks) ∧ Aside0 ((l.drop i).cnt * 3 + acc.length ≤ 1048576) ∧ Aside0 (kT.R 110 wr w0.heap.size ok v0 acc) ∧ Aside0 (KeepP ok w wr))
      (fun _ v _ => l.len - (intOf v).toNat)
    case atStart => exact ⟨0, xs, rfl, Nat.zero_le _, by rw [drop_zero]; exact ⟨rfl⟩, by rw [drop_zero]; exact HX, HO, ⟨KeepP.refl _⟩⟩
    case round =>
      clear HO HX
      obtain ⟨i, acc, rfl, hi, HE, HX, HO, HK⟩ := hrel
      cases hd : l.drop i with
      | nil =>
        have h1 := drop_nil hd
        obtain rfl : i = l.len := by omega
        rw [hd] at HE
        clear hd
        go_wp2
        go_ret
        exact ⟨_, rfl, by rw [HE.out]; simpa [toks, tokv] using HO.out, HK.out⟩
      | cons k t p a b r =>
        obtain ⟨h1, h2, _⟩ := drop_step hd
        have HBr := Aside0.mk (HB.out.trans (HK.out.below HOK.out HB.out.size))
        obtain ⟨ad, A2, c2, A3, c3, A4, c4, rfl, y0, y1, y2, y3, y4, i2, l2, R3, R4⟩ := HR.out.at hd
        replace y0 := (HBr.out.cell (World.block_lt_of_cell? _ _ y0)).trans y0
        replace y1 := (HBr.out.cell (World.block_lt_of_cell? _ _ y1)).trans y1
        replace y2 := (HBr.out.cell (World.block_lt_of_cell? _ _ y2)).trans y2
        replace y3 := (HBr.out.cell (World.block_lt_of_cell? _ _ y3)).trans y3
        replace y4 := (HBr.out.cell (World.block_lt_of_cell? _ _ y4)).trans y4
        obtain ⟨s1, s2, s3, s4, s5, s6, s7, s8, s9⟩ : (cons k t p a b r).sm := hd ▸ sm_drop HS.out i
        have HE' : xs ++ tokv l.toks = acc ++ tokv (cons k t p a b r).toks := hd ▸ HE.out
        have HD := Aside0.mk hd
        clear hd HE
        go_wp2_with fail
        obtain ⟨g, hg⟩ : ∃ g, wr.heap.size = g := ⟨_, rfl⟩
        have BK := Aside0.mk (blk_new wr (.cells #[.int .u8 k, .string (bs t), .slice A2 p.length c2, .slice A3 a.len c3, .slice A4 b.len c4] 116))
        have HBW := Aside0.mk (below_alloc HBr.out (.cells #[.int .u8 k, .string (bs t), .slice A2 p.length c2, .slice A3 a.len c3, .slice A4 b.len c4] 116))
        have HBw := Aside0.mk (below_alloc (Below.refl wr.heap.size wr) (.cells #[.int .u8 k, .string (bs t), .slice A2 p.length c2, .slice A3 a.len c3, .slice A4 b.len c4] 116))
        generalize hW : wr.alloc (.cells #[.int .u8 k, .string (bs t), .slice A2 p.length c2, .slice A3 a.len c3, .slice A4 b.len c4] 116) = W at BK HBW HBw ⊢
        rw [hg] at BK ⊢
        obtain ⟨m0, m1, m2, m3, m4, n0, n1, n2, n3, n4⟩ := cells_5 BK.out
        have hgW : g < W.heap.size := blk_lt BK.out
        have hwW : wr.heap.size ≤ W.heap.size := HBw.out.size
        have HOW : Aside0 (kT.R 110 W w0.heap.size (fun k => ok k ∧ k ≠ g) u0 acc) := ⟨Kd.R_types (Kd.R_below HO.out HBw.out) BK.out (by decide)⟩
        have HLT : Aside0 (∀ k, u0.ownBlock = some k → k < wr.heap.size) := ⟨by obtain ⟨inner, ho⟩ := Kd.R_own HO.out; exact own_lt ho⟩
        have Hs1 : w0.heap.size ≤ W.heap.size := HBW.out.size
        have HF : Aside0 (∀ k, W.heap.size ≤ k → ok k ∧ k ≠ g) := ⟨fun k hk => ⟨HFR.out k (by have := HK.out.size; omega), by omega⟩⟩
        have HP : Aside0 (∀ k, W.heap.size ≤ k → (ok k ∧ k ≠ g) ∧ some k ≠ u0.ownBlock) := ⟨fun k hk => ⟨HF.out k hk, fun e => by have := HLT.out k e.symm; omega⟩⟩
        have HL : (acc.length + 1) * 48 ≤ 140737488355328   := le48 HX.out
        have HNE : Aside0 (some g ≠ u0.ownBlock) := ⟨fun e => by have := HLT.out g e.symm; omega⟩
        go_region_held3 (fun w' => w'.cell? ⟨g, 0, none⟩ = some (.int .u8 k) ∧ w'.cell? ⟨g, 1, none⟩ = some (.string (bs t)) ∧ w'.cell? ⟨g, 2, none⟩ = some (.slice A2 p.length c2))
          (first
            | go_keep
            | (have q := cells_5 (blk_below (w := W.drew) BK.out hb1); exact ⟨q.1, q.2.1, q.2.2.1⟩)
            | (have q := cells_5 ((hg2.block g (Nat.lt_of_lt_of_le hgW hb1.size) HNE.out).trans (blk_below (w := W.drew) BK.out hb1)); exact ⟨q.1, q.2.1, q.2.2.1⟩))
          (first
            | ((go_at_call 117; refine (clone_S A2 c2 p _ (Kd.C_below i2 (by exact belS HBW.out)) s3).mono ?_; rintro e w1 ⟨Av1, cv1, rfl, hv1, hb1⟩))
            | ((refine Kd.R_append_step kT w0.heap.size (by first | rfl | assumption) _ _ 103 110 _ 48 (by rfl) Tryz.underlying103 info110 rfl (by decide) (by decide) u0 acc ⟨k, bs t, p.map bs⟩ [.int .u8 k, .string (bs t), .slice Av1 p.length cv1] (fun k => ok k ∧ k ≠ g) (fun k => W.heap.size ≤ k) (by rfl) (by rfl) (k110_mkM _ _ _ ⟨k, bs t, p.map bs⟩ (Kd.R_lower hv1 Hs1)) HP.out (fun k hk => HF.out k (Nat.le_trans hb1.size hk)) (Kd.R_below HOW.out (below_step (below_drew1 (Below.refl W.heap.size W)) hb1)) (below_step (below_drew1 HBW.out) hb1) (Nat.le_trans Hs1 hb1.size) HL ?_; intro v2 w2 hO2 hB2 hg2 hat2)))
        have hbD : Below wr.heap.size wr w1 := below_step (below_drew1 HBw.out) hb1
        have BK2 := Aside0.mk ((hg2.block g (Nat.lt_of_lt_of_le hgW hb1.size) HNE.out).trans (blk_below (w := W.drew) BK.out hb1))
        have HK2 : Aside0 (KeepP ok w w2) := ⟨HK.out.trans ((KeepP.of_below hbD).trans (KeepP.grown hg2 (fun k hk => (HOW.out.1 k hk).1)))⟩
        have HO2 := Aside0.mk hO2
        have HNK : ¬ (ok g ∧ g ≠ g) := fun h => h.2 rfl
        have hs2 : w1.heap.size ≤ w2.heap.size := hg2.size
        have hsW : W.heap.size ≤ w1.heap.size := hb1.size
        have hwr := HK.out.size
        clear hb1 hv1 hg2 hB2 hat2 hbD hO2 HOW BK HO m0 m1 m2 m3 m4 n0 n1 n2 n3 n4 HBw HBW HLT HP HBr HK hW
        obtain ⟨m0, m1, m2, m3, m4, n0, n1, n2, n3, n4⟩ := cells_5 BK2.out
        by_cases hk : k = 3 ∨ k = 5
        · have HH : xs ++ tokv l.toks = (acc ++ [⟨k, bs t, p.map bs⟩] ++ tokv a.toks) ++ (tokv ((if b.isNil then [] else elseTok :: toks b) ++ [endTok]) ++ tokv r.toks) := by rw [HE']; simp [toks, tokv, Tok.of, hk]
          have q3 : ((k : Int) != 3 && (k : Int) != 5) = false := by rcases hk with rfl | rfl <;> decide
          have hcnt : 1 + a.cnt + b.cnt + r.cnt = (l.drop i).cnt := by rw [HD.out]; simp only [cnt]
          have hcl := cnt_drop l i
          have hm := HM.out
          have hx := HX.out
          have hta := toks_len a
          have htb := toks_len b
          have HOK' : ∀ k, ok k ∧ k ≠ g → w0.heap.size ≤ k := fun k h => HOK.out k h.1
          have HB2 := Aside0.mk (HB.out.trans (HK2.out.below HOK.out HB.out.size))
          obtain ⟨acc2, ha2⟩ : ∃ acc2, acc ++ [⟨k, bs t, p.map bs⟩] = acc2 := ⟨_, rfl⟩
          rw [ha2] at HH
          have HO2' : Aside0 (kT.R 110 w2 w0.heap.size (fun k => ok k ∧ k ≠ g) v2 acc2) := ⟨ha2 ▸ HO2.out⟩
          have hla2 : acc2.length = acc.length + 1 := by rw [← ha2]; simp
          clear ha2 HO2
          have hba := put_bounds1 hcnt hcl hm hx
          rcases hk with rfl | rfl
          all_goals
            go_wp2_with fail
            refine (ih a A3 c3 acc2 v2 (fun k => ok k ∧ k ≠ g) w2 hba.1 (hla2 ▸ hba.2.1) s7 R3 HB2.out HOK' (fun k hk => HF.out k (Nat.le_trans hsW (Nat.le_trans hs2 hk))) HO2'.out).mono ?_
            rintro e w3 ⟨v3, rfl, hO3, hK3⟩
            have BK3 := Aside0.mk (hK3.blkOf BK2.out HNK)
            have HK3 : Aside0 (KeepP ok w w3) := ⟨HK2.out.trans (hK3.mono (fun _ h => h.1))⟩
            have hs3 := hK3.size
            have HB3 := Aside0.mk (HB.out.trans (HK3.out.below HOK.out HB.out.size))
            obtain ⟨acc3, ha3⟩ : ∃ acc3, acc2 ++ tokv a.toks = acc3 := ⟨_, rfl⟩
            rw [ha3] at HH hO3
            have hla3 : acc3.length = acc2.length + (tokv a.toks).length := by rw [← ha3, List.length_append]
            have HO3 := Aside0.mk hO3
            have HF3 : ∀ k, w3.heap.size ≤ k → ok k ∧ k ≠ g := fun k hk => HF.out k (Nat.le_trans hsW (Nat.le_trans hs2 (Nat.le_trans hs3 hk)))
            have hle3 : w0.heap.size ≤ w3.heap.size := HB3.out.size
            obtain ⟨HL3, hrel, hrel2, hrel3, hbm, HL5a⟩ := put_bounds hcnt hcl hm hx hta htb hla2 hla3
            clear m0 m1 m2 m3 m4 n0 n1 n2 n3 n4 hO3 hK3 ha3 hla3 hta htb hx hm hcl hcnt
            obtain ⟨m0, m1, m2, m3, m4, n0, n1, n2, n3, n4⟩ := cells_5 BK3.out
            have HN3 : some g ≠ v3.ownBlock := fun e => (HO3.out.1 g e.symm).2 rfl
            cases hb : b.isNil with
            | true =>
              have hb0 : b.len = 0 := by simpa [isNil_len] using hb
              rw [hb0] at m4
              rw [hb] at HH
              go_wp2_with (at_builtin; refine Kd.R_append kT w0.heap.size rfl _ _ 103 110 _ 48 rfl Tryz.underlying103 info110 rfl (by decide) (by decide) v3 acc3 (Tok.of ⟨6, [], []⟩) [.int .u8 6, .string ⟨#[]⟩, .slice none 0 0] (fun k => ok k ∧ k ≠ g) (fun _ => False) rfl rfl (tokM _ _ 6) (fun _ h => h.elim) HF3 HO3.out HB3.out hle3 HL3 ?_; intro v4 w4 hO4 hB4 hg4 hat4)
              go_roundw
              case rel => exact ⟨i + 1, _, by simp, by omega, ⟨by rw [HH, h2]; simp [tokv, endTok, Tok.of]⟩, ⟨by rw [h2]; simp only [List.length_append, List.length_singleton]; exact hrel2⟩, ⟨Kd.R_mono hO4 (fun _ h => h.1)⟩, ⟨HK3.out.trans (KeepP.grown hg4 (fun k hk => (HO3.out.1 k hk).1))⟩⟩
              case measure => simp [intOf]; omega
            | false =>
              have hb0 : 0 < b.len := by have := hb; rw [isNil_len] at this; simp at this; omega
              rw [hb] at HH
              go_wp2_with fail
              go_region_held3 (fun w' => w'.cell? ⟨g, 4, none⟩ = some (.slice A4 b.len c4))
                (first
                  | go_keep
                  | exact (cells_5 ((hg4.block g (blk_lt BK3.out) HN3).trans BK3.out)).2.2.2.2.1
                  | exact (cells_5 (hK5.blkOf ((hg4.block g (blk_lt BK3.out) HN3).trans BK3.out) HNK)).2.2.2.2.1)
                (first
                  | ((refine Kd.R_append_step (W := w3.drew) kT w0.heap.size (by first | rfl | assumption) _ _ 103 110 _ 48 (by rfl) Tryz.underlying103 info110 rfl (by decide) (by decide) v3 acc3 (Tok.of ⟨4, [], []⟩) [.int .u8 4, .string ⟨#[]⟩, .slice none 0 0] (fun k => ok k ∧ k ≠ g) (fun _ => False) (by rfl) (by rfl) (tokM _ _ 4) (fun _ h => h.elim) HF3 (Kd.R_below HO3.out (below_drew1 (Below.refl _ _))) (below_drew1 HB3.out) hle3 HL3 ?_; intro v4 w4 hO4 hB4 hg4 hat4))
                  | ((go_at_call 110; refine (ih b A4 c4 (acc3 ++ [Tok.of ⟨4, [], []⟩]) v4 (fun k => ok k ∧ k ≠ g) _ hbm (by simp only [List.length_append, List.length_singleton]; exact hrel) s8 R4 hB4 HOK' (fun k hk => HF3 k (Nat.le_trans hg4.size hk)) hO4).mono ?_; rintro e w5 ⟨v5, rfl, hO5, hK5⟩)))
              have BK5 := Aside0.mk (hK5.blkOf ((hg4.block g (blk_lt BK3.out) HN3).trans BK3.out) HNK)
              have HK5 : Aside0 (KeepP ok w w5) := ⟨HK3.out.trans ((KeepP.of_below (below_drew1 (Below.refl _ _))).trans ((KeepP.grown hg4 (fun k hk => (HO3.out.1 k hk).1)).trans (hK5.mono (fun _ h => h.1))))⟩
              have hs5 : w3.heap.size ≤ w5.heap.size := Nat.le_trans hg4.size hK5.size
              have HB5 := Aside0.mk (HB.out.trans (HK5.out.below HOK.out HB.out.size))
              have HO5 := Aside0.mk hO5
              have hla5 : (acc3 ++ [Tok.of ⟨4, [], []⟩] ++ tokv b.toks).length = acc3.length + 1 + (tokv b.toks).length := by rw [List.length_append, List.length_append, List.length_singleton]
              have HL5 : ((acc3 ++ [Tok.of ⟨4, [], []⟩] ++ tokv b.toks).length + 1) * 48 ≤ 140737488355328 := by rw [hla5]; exact HL5a
              have HF5 : ∀ k, w5.heap.size ≤ k → ok k ∧ k ≠ g := fun k hk => HF3 k (Nat.le_trans hs5 hk)
              have hle5 : w0.heap.size ≤ w5.heap.size := HB5.out.size
              clear hg4 hK5 hO5 hO4 hB4 hat4 m0 m1 m2 m3 m4 n0 n1 n2 n3 n4
              go_wp2_with (at_builtin; refine Kd.R_append kT w0.heap.size rfl _ _ 103 110 _ 48 rfl Tryz.underlying103 info110 rfl (by decide) (by decide) v5 (acc3 ++ [Tok.of ⟨4, [], []⟩] ++ tokv b.toks) (Tok.of ⟨6, [], []⟩) [.int .u8 6, .string ⟨#[]⟩, .slice none 0 0] (fun k => ok k ∧ k ≠ g) (fun _ => False) rfl rfl (tokM _ _ 6) (fun _ h => h.elim) HF5 HO5.out HB5.out hle5 HL5 ?_; intro v6 w6 hO6 hB6 hg6 hat6)
              go_roundw
              case rel => exact ⟨i + 1, _, by simp, by omega, ⟨by rw [HH, h2]; simp [tokv, endTok, elseTok, Tok.of]⟩, ⟨by rw [h2, List.length_append, hla5]; exact hrel3⟩, ⟨Kd.R_mono hO6 (fun _ h => h.1)⟩, ⟨HK5.out.trans (KeepP.grown hg6 (fun k hk => (HO5.out.1 k hk).1))⟩⟩
              case measure => simp [intOf]; omega
        · have q3 : ((k : Int) != 3) = true := by rw [bne_iff_ne]; omega
          have q5 : ((k : Int) != 5) = true := by rw [bne_iff_ne]; omega
          go_wp2
          go_roundw
          case rel => exact ⟨i + 1, acc ++ [⟨k, bs t, p.map bs⟩], by simp, by omega, ⟨by rw [HE', h2]; simp [toks, tokv, Tok.of, hk]⟩, ⟨by have hcnt : 1 + a.cnt + b.cnt + r.cnt = (l.drop i).cnt := (by rw [HD.out]; simp only [cnt]); rw [h2, List.length_append, List.length_singleton]; exact (put_bounds1 hcnt (cnt_drop l i) HM.out HX.out).2.2⟩, ⟨Kd.R_mono HO2.out (fun _ h => h.1)⟩, HK2⟩
          case measure => simp [intOf]; omega
end Go.Proofs.YthngelbaheankaaGreatDoor.Tpl
namespace Go.Proofs.YthngelbaheankaaGreatDoor.Tpl
open Go.RowKit Go.Proofs.YthngelbaheankaaGreatDoor.PB Go.Proofs.YthngelbaheankaaGreatDoor.Short Go.Proofs.YthngelbaheankaaGreatDoorW.PrintWords Go.Proofs.YthngelbaheankaaGreatDoorW.PrintLast Go.Proofs.YthngelbaheankaaGreatDoorW.PrintMore Nodes
theorem leaf_any (k : Nat) (t : S) (p : List S) (a b : Nodes) (hp : p.length ≤ 1048576) (ha : a.len ≤ 1048576) (hb : b.len ≤ 1048576) : tree_leaf.f k (bs t) (p.map bs) a.of b.of = some (leafP k t p.length a.len b.len) := by
  unfold tree_leaf.f leafP
  simp only [List.length_map, of_len, bs_list]
  have w1 : wrap64 (wrap64 ((p.length : Int) + a.len) + b.len) = p.length + a.len + b.len := by unfold wrap64; omega
  rw [w1]
  have q : (t == []) = t.isEmpty := by cases t <;> rfl
  by_cases k1 : k = 1
  · subst k1
    rw [if_pos (show ((1 : Nat) : Int) = 1 from rfl), if_pos (show (1 : Nat) = 1 from rfl)]
    congr 1
    rw [Bool.eq_iff_iff, beq_iff_eq, beq_iff_eq]
    omega
  by_cases k2 : k = 2
  · subst k2
    rw [if_neg (show ¬ ((2 : Nat) : Int) = 1 by decide), if_pos (show ((2 : Nat) : Int) = 2 from rfl), if_neg (show ¬ (2 : Nat) = 1 by decide), if_pos (show (2 : Nat) = 2 from rfl), q]
    by_cases ha0 : a.len = 0
    · by_cases hb0 : b.len = 0
      · simp [ha0, hb0]
      · rw [if_neg (by omega), if_pos (by omega)]; simp [hb0]
    · rw [if_pos (by omega)]; simp [ha0]
  by_cases k5 : k = 5
  · subst k5
    rw [if_neg (show ¬ ((5 : Nat) : Int) = 1 by decide), if_neg (show ¬ ((5 : Nat) : Int) = 2 by decide), if_pos (show ((5 : Nat) : Int) = 5 from rfl), if_neg (show ¬ (5 : Nat) = 1 by decide), if_neg (show ¬ (5 : Nat) = 2 by decide), if_pos (show (5 : Nat) = 5 from rfl), q]
    by_cases hb0 : b.len = 0
    · simp [hb0]
    · rw [if_pos (by omega)]; simp [hb0]
  rw [if_neg (by omega), if_neg (by omega), if_neg (by omega), if_neg k1, if_neg k2, if_neg k5, q]
  by_cases k3 : k = 3
  · rw [if_pos (by omega), if_pos k3]
  · rw [if_neg (by omega), if_neg k3]
set_option maxHeartbeats 4000000 in
set_option maxRecDepth 100000 in
theorem in_any (w0 : World) (g : Nat) (hg0 : w0.heap.size ≤ g) (m : Nat) : ∀ (l : Nodes) (A : Option Addr) (c lv : Nat) (x : Int) (bad : Bool) (w : World), l.cnt ≤ m → l.sm → Rd w0 A c l → l.len ≤ 1048576 → lv ≤ 8 → -1000000000 + l.cnt ≤ x → x ≤ 1000000000 → Below w0.heap.size w0 w → w.heap[g]? = some (.cells #[.int .i64 x, .bool bad] 233 (0, 0)) →
    Calls Tryz.prog 161 #[.pointer (some ⟨g, 0, none⟩), .slice A l.len c, .int .i64 lv] w fun e w' => e = .returned (.tuple #[]) ∧ w'.heap[g]? = some (.cells #[.int .i64 (inP l lv (x, bad)).1, .bool (inP l lv (x, bad)).2] 233 (0, 0)) ∧ Below w0.heap.size w0 w' ∧ KeepBut w w' g none := by
  induction m with
  | zero =>
    intro l A c lv x bad w hm
    cases l with
    | cons => simp [cnt] at hm
    | nil =>
      intro _ _ _ _ _ _ hB hg
      go_enter Tryz.func161, Tryz.ntmps161
      go_wp2
      refine wp_loop_rounds 1 ?_
      rw [rounds_succ]
      go_wp2
      go_end0
      exact ⟨rfl, hg, hB, KeepBut.refl _ _ _⟩
  | succ m ih =>
    intro l A c lv x bad w hm hs hR hll hlv hx0 hx1 hB hg
    have HR := Aside0.mk hR
    have HG := Aside0.mk hg
    have HS := Aside0.mk hs
    have HB := Aside0.mk hB
    have HX := Aside0.mk hx0
    have HM := Aside0.mk hm
    clear hR hg hs hB hx0 hm
    go_enter Tryz.func161, Tryz.ntmps161
    go_wp2
    go_loopw [10] (fun v wr => ∃ (i : Nat) (x1 : Int) (b1 : Bool), v = .int .i64 i ∧ i ≤ l.len ∧ x1 ≤ 1000000000 ∧ Aside0 (-1000000000 + (l.drop i).cnt ≤ x1) ∧ Aside0 (inP l lv (x, bad) = inP (l.drop i) lv (x1, b1)) ∧ Aside0 (wr.heap[g]? = some (.cells #[.int .i64 x1, .bool b1] 233 (0, 0))) ∧ Aside0 (Below w0.heap.size w0 wr) ∧ Aside0 (KeepBut w wr g none))
      (fun v _ => l.len - (intOf v).toNat)
    case atStart => exact ⟨0, x, bad, rfl, Nat.zero_le _, hx1, by rw [drop_zero]; exact HX, by rw [drop_zero]; exact ⟨rfl⟩, HG, HB, ⟨KeepBut.refl _ _ _⟩⟩
    case round =>
      clear HX HG HB
      obtain ⟨i, x1, b1, rfl, hi, hx2, HX, HE, HG, HB, HK⟩ := hrel
      cases hd : l.drop i with
      | nil =>
        have h1 := drop_nil hd
        obtain rfl : i = l.len := by omega
        rw [hd] at HE
        clear hd
        go_wp2
        go_end0
        exact ⟨rfl, by rw [HE.out]; exact HG.out, HB.out, HK.out⟩
      | cons k t p a b r =>
        obtain ⟨h1, h2, _⟩ := drop_step hd
        obtain ⟨ad, A2, c2, A3, c3, A4, c4, rfl, y0, y1, y2, y3, y4, i2, l2, R3, R4⟩ := HR.out.at hd
        replace y0 := (HB.out.cell (World.block_lt_of_cell? _ _ y0)).trans y0
        replace y1 := (HB.out.cell (World.block_lt_of_cell? _ _ y1)).trans y1
        replace y2 := (HB.out.cell (World.block_lt_of_cell? _ _ y2)).trans y2
        replace y3 := (HB.out.cell (World.block_lt_of_cell? _ _ y3)).trans y3
        replace y4 := (HB.out.cell (World.block_lt_of_cell? _ _ y4)).trans y4
        obtain ⟨s1, s2, s3, s4, s5, s6, s7, s8, s9⟩ : (cons k t p a b r).sm := hd ▸ sm_drop HS.out i
        have HE' : inP l lv (x, bad) = inP (cons k t p a b r) lv (x1, b1) := hd ▸ HE.out
        have hX : -1000000000 < x1 := by have h := HX.out; rw [hd] at h; simp only [cnt] at h; omega
        have HD := Aside0.mk hd
        clear hd HE
        obtain ⟨z0, z1, f0, f1⟩ := cells_2 HG.out
        have hgl : g < wr.heap.size := blk_lt HG.out
        by_cases cA : b1 = true ∨ lv = 0 ∨ x1 - 1 < 0
        · have e1 : inP (cons k t p a b r) lv (x1, b1) = (x1 - 1, true) := by
            conv => lhs; unfold inP
            rw [if_pos]; simp only [Bool.or_eq_true, beq_iff_eq, decide_eq_true_eq]; rcases cA with h | h | h <;> simp [h]
          rw [e1] at HE'
          clear e1
          have e2 : (x1 - 1, true) = inP l lv (x, bad) := HE'.symm
          rcases cA with rfl | rfl | hx
          · go_wp2
            refine bodyPost_ret (results_none rfl _ _ _) rfl ?_
            rw [← e2]
            exact ⟨rfl, blk_alloc (blk_put (blk_put HG.out 0 _ rfl) 1 _ rfl) _, below_alloc (below_set (below_set HB.out hg0) hg0) _, keep_alloc ((HK.out.set_ _ _).set_ _ _) _⟩
          · have hb : b1 = true ∨ b1 = false := by cases b1 <;> simp
            rcases hb with rfl | rfl
            all_goals
              go_wp2
              refine bodyPost_ret (results_none rfl _ _ _) rfl ?_
              rw [← e2]
              exact ⟨rfl, blk_alloc (blk_put (blk_put HG.out 0 _ rfl) 1 _ rfl) _, below_alloc (below_set (below_set HB.out hg0) hg0) _, keep_alloc ((HK.out.set_ _ _).set_ _ _) _⟩
          · have hb : b1 = true ∨ b1 = false := by cases b1 <;> simp
            have hl : ((lv : Int) == 0) = true ∨ ((lv : Int) == 0) = false := by cases ((lv : Int) == 0) <;> simp
            rcases hb with rfl | rfl
            · go_wp2
              refine bodyPost_ret (results_none rfl _ _ _) rfl ?_
              rw [← e2]
              exact ⟨rfl, blk_alloc (blk_put (blk_put HG.out 0 _ rfl) 1 _ rfl) _, below_alloc (below_set (below_set HB.out hg0) hg0) _, keep_alloc ((HK.out.set_ _ _).set_ _ _) _⟩
            · rcases hl with hl | hl
              all_goals
                go_wp2
                refine bodyPost_ret (results_none rfl _ _ _) rfl ?_
                rw [← e2]
                exact ⟨rfl, blk_alloc (blk_put (blk_put HG.out 0 _ rfl) 1 _ rfl) _, below_alloc (below_set (below_set HB.out hg0) hg0) _, keep_alloc ((HK.out.set_ _ _).set_ _ _) _⟩
        · simp only [not_or, Bool.not_eq_true] at cA
          obtain ⟨rfl, hlv0, hxx⟩ := cA
          have hl : ((lv : Int) == 0) = false := by rw [beq_eq_false_iff_ne]; omega
          have hx3 : 0 ≤ x1 - 1 := by omega
          go_wp2_with fail
          have HB1 := Aside0.mk (below_alloc (below_set (j := 0) (v := .int .i64 (x1 - 1)) HB.out hg0) (.cells #[.int .u8 k, .string (bs t), .slice A2 p.length c2, .slice A3 a.len c3, .slice A4 b.len c4] 116))
          have HG1 := Aside0.mk (blk_alloc (blk_put HG.out 0 (.int .i64 (x1 - 1)) rfl) (.cells #[.int .u8 k, .string (bs t), .slice A2 p.length c2, .slice A3 a.len c3, .slice A4 b.len c4] 116))
          have HN1 := Aside0.mk (blk_new (wr.setCell ⟨g, 0, none⟩ (.int .i64 (x1 - 1))) (.cells #[.int .u8 k, .string (bs t), .slice A2 p.length c2, .slice A3 a.len c3, .slice A4 b.len c4] 116))
          rw [World.size_setCell] at HN1
          generalize hW : (wr.setCell ⟨g, 0, none⟩ (.int .i64 (x1 - 1))).alloc (.cells #[.int .u8 k, .string (bs t), .slice A2 p.length c2, .slice A3 a.len c3, .slice A4 b.len c4] 116) = W at HB1 HG1 HN1 ⊢
          have cl := (tree_leaf.calls k (bs t) A2 c2 (p.map bs) A3 c3 a.of A4 c4 b.of _ W (by rw [List.length_map]; exact Kd.C_below i2 HB1.out) (by rw [List.length_map]; exact l2) (by rw [of_len]; exact Kd.C_below R3.1 HB1.out) (by rw [of_len]; exact R3.2) (by rw [of_len]; exact Kd.C_below R4.1 HB1.out) (by rw [of_len]; exact R4.2) (leaf_any k t p a b s3 s5 s6))
          simp only [List.length_map, of_len] at cl
          refine cl.mono ?_
          rintro e w1 ⟨rfl, hb1⟩
          clear cl
          replace HG1 := Aside0.mk (blk_below HG1.out hb1)
          replace HN1 := Aside0.mk (blk_below HN1.out hb1)
          replace HB1 := Aside0.mk (below_step HB1.out hb1)
          have HK1 := Aside0.mk (HK.out.trans (keep_alloc ((KeepBut.refl wr g none).set_ 0 (.int .i64 (x1 - 1))) (.cells #[.int .u8 k, .string (bs t), .slice A2 p.length c2, .slice A3 a.len c3, .slice A4 b.len c4] 116)) (.inl rfl))
          rw [hW] at HK1
          replace HK1 := Aside0.mk (HK1.out.trans (KeepBut.of_below hb1 g none) (.inl rfl))
          have hne : wr.heap.size ≠ g := by omega
          clear hb1 hW z0 z1 f0 f1
          obtain ⟨z0, z1, f0, f1⟩ := cells_2 HG1.out
          obtain ⟨m0, m1, m2, m3, m4, n0, n1, n2, n3, n4⟩ := cells_5 HN1.out
          have hgl1 : g < w1.heap.size := blk_lt HG1.out
          cases hlf : leafP k t p.length a.len b.len with
          | false =>
            have e2 : (x1 - 1, true) = inP l lv (x, bad) := by
              rw [HE']; conv => rhs; unfold inP
              rw [if_pos]; simp [hlf]
            go_wp2
            refine bodyPost_ret (results_none rfl _ _ _) rfl ?_
            rw [← e2]
            exact ⟨rfl, blk_put HG1.out 1 _ rfl, below_set HB1.out hg0, HK1.out.set_ _ _⟩
          | true =>
            have e2 : inP l lv (x, bad) = inP r lv (inP b (lv - 1) (inP a (lv - 1) (x1 - 1, false))) := by
              rw [HE']; conv => lhs; unfold inP
              rw [if_neg]; simp [hlf, hlv0]; omega
            have hlv1 : (lv : Int) - 1 = ((lv - 1 : Nat) : Int) := by omega
            have hcnt : a.cnt + b.cnt + r.cnt + 1 ≤ (l.drop i).cnt := by rw [HD.out]; simp only [cnt]; omega
            have hcl := cnt_drop l i
            have hm := HM.out
            have hxl := HX.out
            have hle1 := inP_le a (lv - 1) (x1 - 1, false)
            have hle2 := inP_le b (lv - 1) (inP a (lv - 1) (x1 - 1, false))
            simp only at hle1
            go_wp2_with fail
            refine (ih a A3 c3 (lv - 1) (x1 - 1) false _ (by omega) s7 R3 s5 (by omega) (by omega) (by omega) (below_set HB1.out hg0) (blk_put HG1.out 1 _ rfl)).mono ?_
            rintro e w2 ⟨rfl, hg2, hb2, hk2⟩
            have HN2 := hk2.blk (blk_far HN1.out (p := ⟨g, 1, none⟩) hne (.bool false)) hne (by simp)
            have HK2 := Aside0.mk ((HK1.out.set_ 1 (.bool false)).trans hk2 (.inl rfl))
            have HB2 := Aside0.mk hb2
            have HG2 := Aside0.mk hg2
            clear z0 z1 f0 f1 m0 m1 m2 m3 m4 n0 n1 n2 n3 n4 hg2 hb2 hk2 HG1 HB1 HK1 hgl1
            obtain ⟨z0, z1, f0, f1⟩ := cells_2 HG2.out
            obtain ⟨m0, m1, m2, m3, m4, n0, n1, n2, n3, n4⟩ := cells_5 HN2
            go_wp2_with fail
            refine (ih b A4 c4 (lv - 1) _ _ _ (by omega) s8 R4 s6 (by omega) (by omega) (by omega) HB2.out HG2.out).mono ?_
            rintro e w3 ⟨rfl, hg3, hb3, hk3⟩
            have HK3 := Aside0.mk (HK2.out.trans hk3 (.inl rfl))
            clear z0 z1 f0 f1 m0 m1 m2 m3 m4 n0 n1 n2 n3 n4 hk3
            have HB3 := Aside0.mk hb3
            have HG3 := Aside0.mk hg3
            clear hb3 hg3
            go_wp2
            go_roundw
            case rel => exact ⟨i + 1, (inP b (lv - 1) (inP a (lv - 1) (x1 - 1, false))).1, (inP b (lv - 1) (inP a (lv - 1) (x1 - 1, false))).2, by simp, by omega, by omega, ⟨by rw [h2]; omega⟩, ⟨by rw [e2, h2]⟩, HG3, HB3, HK3⟩
            case measure => simp [intOf]; omega
theorem fits_any (l : Nodes) (A : Option Addr) (c : Nat) (w : World) (hs : l.sm) (hR : Rd w A c l) (hl : l.len ≤ 1048576) (hc : l.cnt ≤ 1048576) :
    Calls Tryz.prog 109 #[.slice A l.len c] w fun e w' => e = .returned (.bool l.fitsP) ∧ Below w.heap.size w w' := by
  have HR := Aside0.mk hR
  have HS := Aside0.mk hs
  clear hR hs
  go_enter Tryz.func109, Tryz.ntmps109
  go_wp2_with fail
  have HB1 := Aside0.mk (below_alloc (Below.refl w.heap.size w) (.cells #[.int .i64 256, .bool false] 233))
  have HG1 := Aside0.mk (blk_new w (.cells #[.int .i64 256, .bool false] 233))
  refine (in_any w w.heap.size (Nat.le_refl _) l.cnt l A c 8 256 false _ (Nat.le_refl _) HS.out HR.out hl (by omega) (by omega) (by omega) HB1.out HG1.out).mono ?_
  rintro e w1 ⟨rfl, hg, hb, _⟩
  clear HB1 HG1
  obtain ⟨z0, z1, f0, f1⟩ := cells_2 hg
  rw [inP_fits] at z1
  go_wp2
  go_ret
  exact ⟨by simp, hb⟩
end Go.Proofs.YthngelbaheankaaGreatDoor.Tpl
namespace Go.Proofs.YthngelbaheankaaGreatDoor.Tpl
open Nodes
theorem le_cases {a b : S} (h : a ≤ b) : a < b ∨ a = b := by
  rcases Std.lt_trichotomy a b with h1 | h1 | h1
  · exact .inl h1
  · exact .inr h1
  · exact absurd h1 h
theorem lt_le_trans {a b c : S} (h : a ≤ b) (k : b < c) : a < c := by
  rcases le_cases h with h | rfl
  · exact List.lt_trans h k
  · exact k
theorem compact_inv (d : Array S) (hs : ∀ i, i + 1 < d.size → d[i]! ≤ d[i + 1]!) : ∀ m, m ≤ d.size →
    Rising (Lib.compactUpTo d m) ∧ (∀ y, y ∈ Lib.compactUpTo d m → y ≤ d[m - 1]!) ∧ (∀ y, y ∈ Lib.compactUpTo d m ↔ ∃ j, j < m ∧ d[j]! = y) := by
  intro m
  induction m with
  | zero => intro _; exact ⟨by simp [Lib.compactUpTo, Rising], by simp [Lib.compactUpTo], by simp [Lib.compactUpTo]⟩
  | succ m ih =>
    intro hm
    obtain ⟨h1, h2, h3⟩ := ih (by omega)
    rw [Lib.compactUpTo_succ]
    by_cases hk : Lib.keeps d m = true
    · rw [if_pos hk]
      have hlt : ∀ y, y ∈ Lib.compactUpTo d m → y < d[m]! := by
        intro y hy
        have hm0 : m ≠ 0 := by rintro rfl; simp [Lib.compactUpTo] at hy
        have hne : d[m]! ≠ d[m - 1]! := by have := of_decide_eq_true hk; rcases this with h | h; exact absurd h hm0; exact h
        have hle := hs (m - 1) (by omega)
        rw [show m - 1 + 1 = m by omega] at hle
        refine lt_le_trans (h2 y hy) ?_
        rcases le_cases hle with h | h
        · exact h
        · exact absurd h.symm hne
      refine ⟨List.pairwise_append.2 ⟨h1, by simp, fun a ha b hb => by rw [List.mem_singleton.1 hb]; exact hlt a ha⟩, fun y hy => ?_, fun y => ?_⟩
      · rw [Nat.add_sub_cancel]
        rcases List.mem_append.1 hy with hy | hy
        · exact fun hc => List.lt_irrefl _ (List.lt_trans hc (hlt y hy))
        · rw [List.mem_singleton.1 hy]; exact List.lt_irrefl _
      · rw [List.mem_append, h3, List.mem_singleton]
        constructor
        · rintro (⟨j, hj, e⟩ | e)
          · exact ⟨j, by omega, e⟩
          · exact ⟨m, by omega, e.symm⟩
        · rintro ⟨j, hj, e⟩
          rcases Nat.lt_or_eq_of_le (Nat.le_of_lt_succ hj) with h | rfl
          · exact .inl ⟨j, h, e⟩
          · exact .inr e.symm
    · rw [if_neg hk, List.append_nil]
      have hk' : ¬ (m = 0 ∨ d[m]! ≠ d[m - 1]!) := fun h => hk (decide_eq_true h)
      have hm0 : m ≠ 0 := fun h => hk' (.inl h)
      have he : d[m]! = d[m - 1]! := Classical.not_not.1 fun h => hk' (.inr h)
      refine ⟨h1, fun y hy => by rw [Nat.add_sub_cancel, he]; exact h2 y hy, fun y => ?_⟩
      rw [h3]
      constructor
      · rintro ⟨j, hj, e⟩; exact ⟨j, by omega, e⟩
      · rintro ⟨j, hj, e⟩
        rcases Nat.lt_or_eq_of_le (Nat.le_of_lt_succ hj) with h | rfl
        · exact ⟨j, h, e⟩
        · exact ⟨j - 1, by omega, by rw [← he]; exact e⟩
theorem compact_sorted (ss : List S) (hs : ss.Pairwise (· ≤ ·)) : Rising (Lib.compact ss) ∧ ∀ y, y ∈ Lib.compact ss ↔ y ∈ ss := by
  have h := compact_inv ss.toArray (fun i hi => by
    have hi' : i + 1 < ss.length := by simpa using hi
    rw [getElem!_pos _ _ (by simp; omega), getElem!_pos _ _ (by simpa using hi')]
    have := List.pairwise_iff_getElem.1 hs i (i + 1) (by omega) hi' (by omega)
    simpa using this) ss.length (by simp)
  refine ⟨h.1, fun y => ?_⟩
  show y ∈ Lib.compactUpTo ss.toArray ss.length ↔ _
  rw [h.2.2, List.mem_iff_getElem]
  constructor
  · rintro ⟨j, hj, e⟩
    rw [getElem!_pos _ _ (by simpa using hj)] at e
    exact ⟨j, hj, by simpa using e⟩
  · rintro ⟨j, hj, e⟩
    exact ⟨j, hj, by rw [getElem!_pos _ _ (by simpa using hj)]; simpa using e⟩
theorem sort_sorted (ss : List S) : (ss.mergeSort fun x y => decide (x ≤ y)).Pairwise (· ≤ ·) := by
  have h := List.pairwise_mergeSort (le := fun x y : S => decide (x ≤ y)) (fun a b c h1 h2 => by simp only [decide_eq_true_eq] at *; exact List.le_trans h1 h2) (fun a b => by simp only [Bool.or_eq_true, decide_eq_true_eq]; exact List.le_total a b) ss
  exact h.imp fun h => of_decide_eq_true h
theorem compact_sort (ss : List S) : Lib.compact (ss.mergeSort fun x y => decide (x ≤ y)) = ss.foldl putS [] := by
  obtain ⟨h1, h2⟩ := compact_sorted _ (sort_sorted ss)
  refine rising_ext _ _ h1 (fold_rising ss [] (by simp [Rising])) fun y => ?_
  rw [h2, List.mem_mergeSort, fold_mem]
  simp
end Go.Proofs.YthngelbaheankaaGreatDoor.Tpl
namespace Go.Proofs.YthngelbaheankaaGreatDoor.Tpl
inductive Vals where
  | nil
  | cons (k : Nat) (t : S) (n : Int) (i : Vals) (m : List S) (r : Vals)
namespace Vals
def len : Vals → Nat | nil => 0 | cons _ _ _ _ _ r => r.len + 1
def cnt : Vals → Nat | nil => 0 | cons _ _ _ i _ r => 1 + i.cnt + r.cnt
def app : Vals → Vals → Vals | nil, y => y | cons k t n i m r, y => cons k t n i m (r.app y)
def drop : Vals → Nat → Vals
  | l, 0 => l
  | nil, _ + 1 => nil
  | cons _ _ _ _ _ r, i + 1 => r.drop i
def risingQ : Option S → List S → Bool
  | _, [] => true
  | p, s :: r => nameP s && (match p with | none => true | some q => decide (q < s)) && risingQ (some s) r
def risingP (l : List S) : Bool := risingQ none l
def leafV (k : Nat) (t : S) (n : Int) (items : Nat) (m : List S) : Bool :=
  if k = 1 then decide (t.length ≤ 4096) && n == 0 && items + m.length == 0
  else if k = 3 then (n == 0 || n == 1) && t.isEmpty && items + m.length == 0
  else if k = 2 then t.isEmpty && items + m.length == 0
  else if k = 5 then t.isEmpty && n == 0 && m.length == items && risingP m
  else if k = 4 then t.isEmpty && n == 0 && m.length == 0
  else false
def okV : Vals → Nat → Bool
  | nil, _ => true
  | cons k t n i m r, lv => lv != 0 && leafV k t n i.len m && okV i (lv - 1) && okV r lv
def fitsV (l : Vals) : Bool := okV l 8 && decide (l.cnt ≤ 256)
def sm : Vals → Prop
  | nil => True
  | cons k t n i m r => k < 256 ∧ t.length ≤ 1048576 ∧ (-9223372036854775808 ≤ n ∧ n ≤ 9223372036854775807) ∧ i.len ≤ 1048576 ∧ m.length ≤ 1048576 ∧ (∀ s, s ∈ m → s.length ≤ 1048576) ∧ i.sm ∧ r.sm
end Vals
end Go.Proofs.YthngelbaheankaaGreatDoor.Tpl
namespace Go.Proofs.YthngelbaheankaaGreatDoor.Tpl
open Vals
structure Val where
  k : Nat
  t : S
  n : Int
  i : Vals
  m : List S
def Val.one (v : Val) : Vals := Vals.cons v.k v.t v.n v.i v.m Vals.nil
def Val.zero : Val := ⟨0, [], 0, Vals.nil, []⟩
def chkV (k : Nat) (t : S) (n : Int) (i : Vals) (m : List S) : Bool := fitsV (cons k t n i m Vals.nil)
def Val.ok (v : Val) : Bool := chkV v.k v.t v.n v.i v.m
def Val.sm (v : Val) : Prop := v.one.sm
end Go.Proofs.YthngelbaheankaaGreatDoor.Tpl
namespace Go.Proofs.YthngelbaheankaaGreatDoor.Tpl
open Vals Nodes
abbrev Pen := S × Int
def thenE (x : Except Int Pen) (f : Pen → Except Int Pen) : Except Int Pen := match x with | .ok st' => f st' | .error e => .error e
def Both (s : S) (x y : Except Int Pen) : Prop := y = .error 12 ∨ match x with
  | .error e => y = .error e
  | .ok p => ∃ k, y = .ok (s ++ p.1, k) ∧ k ≤ p.2
theorem Both.bind {s : S} {x y : Except Int Pen} {f : Pen → Except Int Pen} (h : Both s x y) (hf : ∀ p k, k ≤ p.2 → Both s (f p) (f (s ++ p.1, k))) :
    Both s (thenE x f) (thenE y f) := by
  rcases h with h | h
  · subst h; exact .inl rfl
  · cases x with
    | error e => simp only at h; subst h; exact .inr rfl
    | ok p => obtain ⟨k, rfl, hk⟩ := h; exact hf p k hk
end Go.Proofs.YthngelbaheankaaGreatDoor.Tpl
namespace Go.Proofs.YthngelbaheankaaGreatDoor.Ins
open Go.RowKit Go.Proofs.YthngelbaheankaaGreatDoorW.PrintWords
variable {P : Program}
theorem run_copyK (w : World) (dT sT ty elem : TypeId) (k g o dLen dCap : Nat) (a : Addr) (sLen sCap : Nat) (cur : Array Value) (t : TypeId) (cs : List Value)
    (hu : P.underlying dT = some (.slice elem)) (hs : (P.info? elem).map (·.size) = some k)
    (hg : w.heap[g]? = some (.cells cur t (0, 0))) (hn : cs.length = Nat.min sLen dLen * k)
    (hsrc : ∀ j v, cs[j]? = some v → w.cell? (a.add j) = some v) (hfit : o + cs.length ≤ cur.size) (h1 : ∀ v ∈ cs, v.oneCell' = true) :
    (Builtin.copy_ #[dT, sT] ty #[.slice (some ⟨g, o, none⟩) dLen dCap, .slice (some a) sLen sCap]).run P w =
      .ok (goInt (Nat.min sLen dLen)) (w.setRow g (cur.toList.take o ++ cs ++ cur.toList.drop (o + cs.length)).toArray) := by
  have hl := run_loadCells_list (P := P) w a cs hsrc
  have hst := run_storeCells_at P g o t cs 0 cur w hg (by simpa using hfit) h1
  cases hq : P.info? elem with
  | none => simp [hq] at hs
  | some i =>
    have hi : i.size = k := by simpa [hq] using hs
    simp only [Nat.add_zero] at hst
    simp [Builtin.copy_, run_underlying hu, Builtin.lenOf, Builtin.firstCells, sizeOf, typeInfo, hq, hi, ← hn, hl, hst]
theorem shift_list (cur : List Value) (vs : List Value) (a k m : Nat) (ha : a ≤ m) (hm : m + k ≤ cur.length) (hv : vs.length = k) :
    let arr1 := cur.take (a + k) ++ (cur.take m).drop a ++ cur.drop (a + k + ((cur.take m).drop a).length)
    let arr2 := arr1.take a ++ vs ++ arr1.drop (a + vs.length)
    arr2.length = cur.length ∧ arr2.take (m + k) = (cur.take m).take a ++ vs ++ (cur.take m).drop a := by
  have h1 : ((cur.take m).drop a).length = m - a := by rw [List.length_drop, List.length_take]; omega
  simp only [h1, hv]
  have hl1 : (cur.take (a + k)).length = a + k := by rw [List.length_take]; omega
  have e0 : (cur.take (a + k) ++ (cur.take m).drop a ++ cur.drop (a + k + (m - a))).length = cur.length := by
    rw [List.length_append, List.length_append, hl1, h1, List.length_drop]; omega
  have e1 : (cur.take (a + k) ++ (cur.take m).drop a ++ cur.drop (a + k + (m - a))).take a = cur.take a := by
    rw [List.append_assoc, List.take_append_of_le_length (by omega), List.take_take, Nat.min_eq_left (by omega)]
  have e2 : (cur.take (a + k) ++ (cur.take m).drop a ++ cur.drop (a + k + (m - a))).drop (a + k) = (cur.take m).drop a ++ cur.drop (a + k + (m - a)) := by
    rw [List.append_assoc, List.drop_append_of_le_length (by omega), List.drop_of_length_le (by omega), List.nil_append]
  rw [e1, e2]
  have e3 : (cur.take m).take a = cur.take a := by rw [List.take_take, Nat.min_eq_left ha]
  have hla : (cur.take a).length = a := by rw [List.length_take]; omega
  refine ⟨by simp only [List.length_append, hla, hv, h1, List.length_drop]; omega, ?_⟩
  rw [e3, ← List.append_assoc, List.take_append_of_le_length (by simp only [List.length_append, hla, hv, h1]; omega), List.take_of_length_le (by simp only [List.length_append, hla, hv, h1]; omega)]
theorem grow_list (inner vs zs : List Value) (a k : Nat) (ha : a ≤ inner.length) (hv : vs.length = k) (hz : k + (inner.length - a) ≤ zs.length) :
    let row := inner.take a ++ zs
    let arr1 := row.take a ++ vs ++ row.drop (a + vs.length)
    let arr2 := arr1.take (a + k) ++ inner.drop a ++ arr1.drop (a + k + (inner.drop a).length)
    arr2.length = row.length ∧ arr2.take (inner.length + k) = inner.take a ++ vs ++ inner.drop a := by
  have hla : (inner.take a).length = a := by rw [List.length_take]; omega
  have hld : (inner.drop a).length = inner.length - a := List.length_drop
  simp only
  have e1 : (inner.take a ++ zs).take a = inner.take a := by rw [List.take_append_of_le_length (by omega), List.take_of_length_le (by omega)]
  have hrl : (inner.take a ++ zs).length = a + zs.length := by rw [List.length_append, hla]
  rw [e1]
  have e2 : (inner.take a ++ vs ++ (inner.take a ++ zs).drop (a + vs.length)).take (a + k) = inner.take a ++ vs := by
    rw [List.take_append_of_le_length (by rw [List.length_append, hla, hv]; omega), List.take_of_length_le (by rw [List.length_append, hla, hv]; omega)]
  rw [e2]
  refine ⟨by simp only [List.length_append, List.length_drop, hla, hv, hld]; omega, ?_⟩
  rw [List.take_append_of_le_length (by simp only [List.length_append, hla, hv, hld]; omega), List.take_of_length_le (by simp only [List.length_append, hla, hv, hld]; omega)]
end Go.Proofs.YthngelbaheankaaGreatDoor.Ins
