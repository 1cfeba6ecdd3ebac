/- Part 0 of the proof (texts of this claim, merged in build order; what the claim does not need has been left out). -/
import Derived.Test.YtniibpndgcndbaaGreatDoorRPWWords
import Derived.Test.YtniibpndgcndbaaGreatDoorRPWLast
import Derived.Test.YtniibpndgcndbaaGreatDoorRPWTab
import Derived.Test.YtniibpndgcndbaaGreatDoorRPWApart
import Derived.Test.YtniibpndgcndbaaGreatDoorRPWFoot
import Derived.Test.YtniibpndgcndbaaGreatDoorRPWKept
import Derived.Test.YtniibpndgcndbaaGreatDoorRPWShare
import Derived.Test.YtniibpndgcndbaaGreatDoorRPWN
import Derived.Laws.StructEq
import Derived.Test.YtniibpndgcndbaaGreatDoorRPWRepsOne
import Derived.Test.YtniibpndgcndbaaGreatDoorRPWGuard
import Derived.Test.YtniibpndgcndbaaGreatDoorRPWNEv
import Derived.Test.YtniibpndgcndbaaGreatDoorRPWMore
import Derived.ArgAppend
import Derived.Below
import Derived.BigQuiet
import Derived.Deep.AppendLies
import Derived.Deep.CutBlock
import Derived.Deep.DeepCutAuto
import Derived.Deep.DrawnRows
import Derived.Deep.Draws
import Derived.Deep.LoopGhost
import Derived.Deep.OwnRows
import Derived.Deep.QuietTactic
import Derived.Deep.RegionHeld3
import Derived.Deep.RegionLaw
import Derived.Deep.RegionWith
import Derived.KernelRfl
import Derived.Laws.BitsLemmas
import Derived.Laws.BytesArg
import Derived.Laws.IdiomCopy
import Derived.Laws.MakeOwn
import Derived.Laws.OwnMore
import Derived.Laws.Rows
import Derived.Laws.Slices
import Derived.Lib.AppendStr
import Derived.Lib.ConvBytes
import Derived.Lib.IndexMore
import Derived.Lib.ItoaNum
import Derived.Maps.AppendAt
import Derived.OrdersHeld
import Derived.OwnWalk
import Derived.RowKit
import Derived.RowKit3
import Derived.Sort.Walk0
import Derived.Tactics
import Derived.Test.YtniibpndgcndbaaGreatDoorProg
import Derived.WalkKit
import Derived.WalkLawsBesides
import Derived.WalkSpells
import Derived.WideLaws
set_option linter.unusedVariables false
set_option linter.unusedSimpArgs false
namespace Go.Proofs.YtniibpndgcndbaaGreatDoor.Short
open Go.RowKit Go.Proofs.YtniibpndgcndbaaGreatDoorW.PrintWords Go.Proofs.YtniibpndgcndbaaGreatDoorW.PrintLast Go.Proofs.YtniibpndgcndbaaGreatDoorW.PrintMore
class Stp (w W : World) : Prop where out : Below w.heap.size w W
instance Stp.refl (w : World) : Stp w w := ⟨Below.refl _ _⟩
instance Stp.drewN {w W : World} [h : Stp w W] (n : Nat) : Stp w (W.drewN n) := ⟨pw_below_drewN h.out n⟩
instance Stp.drew {w W : World} [h : Stp w W] : Stp w W.drew := ⟨below_drew1 h.out⟩
instance Stp.alloc {w W : World} [h : Stp w W] (o : Obj) : Stp w (W.alloc o) := ⟨below_alloc h.out o⟩
theorem belS {w W X : World} (h : Below w.heap.size w W) [s : Stp W X] : Below w.heap.size w X := below_step h s.out
section
variable {w : World} {g : Nat} {t : TypeId}
theorem cells_2 {a0 a1 : Value} (h : w.heap[g]? = some (.cells #[a0, a1] t (0, 0))) : w.cell? ⟨g, 0, none⟩ = some a0 ∧ w.cell? ⟨g, 1, none⟩ = some a1 ∧ w.frozen? ⟨g, 0, none⟩ = false ∧ w.frozen? ⟨g, 1, none⟩ = false :=
  ⟨(blk_cell h 0).trans rfl, (blk_cell h 1).trans rfl, blk_frozen h 0, blk_frozen h 1⟩
theorem cells_3 {a0 a1 a2 : Value} (h : w.heap[g]? = some (.cells #[a0, a1, a2] t (0, 0))) : w.cell? ⟨g, 0, none⟩ = some a0 ∧ w.cell? ⟨g, 1, none⟩ = some a1 ∧ w.cell? ⟨g, 2, none⟩ = some a2 ∧ w.frozen? ⟨g, 0, none⟩ = false ∧ w.frozen? ⟨g, 1, none⟩ = false ∧ w.frozen? ⟨g, 2, none⟩ = false :=
  ⟨(blk_cell h 0).trans rfl, (blk_cell h 1).trans rfl, (blk_cell h 2).trans rfl, blk_frozen h 0, blk_frozen h 1, blk_frozen h 2⟩
theorem cells_5 {a0 a1 a2 a3 a4 : Value} (h : w.heap[g]? = some (.cells #[a0, a1, a2, a3, a4] t (0, 0))) : w.cell? ⟨g, 0, none⟩ = some a0 ∧ w.cell? ⟨g, 1, none⟩ = some a1 ∧ w.cell? ⟨g, 2, none⟩ = some a2 ∧ w.cell? ⟨g, 3, none⟩ = some a3 ∧ w.cell? ⟨g, 4, none⟩ = some a4 ∧ w.frozen? ⟨g, 0, none⟩ = false ∧ w.frozen? ⟨g, 1, none⟩ = false ∧ w.frozen? ⟨g, 2, none⟩ = false ∧ w.frozen? ⟨g, 3, none⟩ = false ∧ w.frozen? ⟨g, 4, none⟩ = false :=
  ⟨(blk_cell h 0).trans rfl, (blk_cell h 1).trans rfl, (blk_cell h 2).trans rfl, (blk_cell h 3).trans rfl, (blk_cell h 4).trans rfl, blk_frozen h 0, blk_frozen h 1, blk_frozen h 2, blk_frozen h 3, blk_frozen h 4⟩
end
end Go.Proofs.YtniibpndgcndbaaGreatDoor.Short
namespace Go.Proofs.YtniibpndgcndbaaGreatDoor.PB
open Go.RowKit Go.Proofs.YtniibpndgcndbaaGreatDoorW.PrintWords Go.Proofs.YtniibpndgcndbaaGreatDoorW.PrintLast Go.Proofs.YtniibpndgcndbaaGreatDoorW.PrintMore Go.Proofs.YtniibpndgcndbaaGreatDoor.Short
attribute [local go_sem] max2_int min2_int max_two min_two max_three min_three max_four min_four   -- for this text's walks alone
set_option linter.unusedVariables false
set_option linter.unusedSimpArgs false
def errW : Option Int → Value
  | none => .nilIface
  | some c => .iface 0 (.int .i64 c)
theorem errW_none : errW none = .nilIface := rfl
theorem errW_some (c : Int) : errW (some c) = .iface 0 (.int .i64 c) := rfl
theorem info101 : (Tryz.prog.info? 101).map (fun i => (i.zero, i.size, i.bytes)) = some (some (.agg #[(.int .u8 0), (.string ⟨#[]⟩), (.slice none 0 0)]), 3, 48) := by kernel_rfl
structure S37 where
  f0 : Int
  f1 : ByteArray
  f2 : (List ByteArray)
  f3 : (List S37)
  f4 : (List S37)
def z37 : S37 := ⟨(0 : Int), (⟨#[]⟩ : ByteArray), ([] : List ByteArray), ([] : List S37), ([] : List S37)⟩
def F37 (d : Kd S37) : Kd S37 := Kd.iso (Kd.pair (Kd.int .u8) (Kd.pair Kd.string (Kd.pair (Kd.slice 9 Kd.string) (Kd.pair (Kd.slice 37 d) (Kd.slice 37 d))))) (fun x : S37 => (x.f0, x.f1, x.f2, x.f3, x.f4))
theorem mono37 : Kd.Mono F37 := Kd.mono_iso _ (Kd.mono_pair (Kd.mono_const _) (Kd.mono_pair (Kd.mono_const _) (Kd.mono_pair (Kd.mono_const _) (Kd.mono_pair (Kd.mono_slice 37 Kd.mono_id) (Kd.mono_slice 37 Kd.mono_id)))))
theorem sub37 : Kd.Sub F37 [9, 37] := Kd.sub_iso _ (Kd.sub_pair (Kd.sub_const _ (by decide)) (Kd.sub_pair (Kd.sub_const _ (by decide)) (Kd.sub_pair (Kd.sub_const _ (by decide)) (Kd.sub_pair (Kd.sub_slice 37 (by decide) Kd.sub_id) (Kd.sub_slice 37 (by decide) Kd.sub_id)))))
theorem sz37 : ∀ n, (Kd.upto F37 5 [9, 37] n).sz = 5 := Kd.upto_sz (fun _ => rfl)
def k37 : Kd S37 := Kd.fix F37 5 [9, 37] sz37 (Kd.upto_E sub37)
theorem k37_open {w : World} {x : S37} {cs : List Value} (h : k37.K w x cs) : ∃ A2 c2 A3 c3 A4 c4, cs = [.int .u8 x.f0, .string x.f1, .slice A2 x.f2.length c2, .slice A3 x.f3.length c3, .slice A4 x.f4.length c4] ∧ x.f2.length ≤ c2 ∧ Kd.string.C w A2 x.f2.length x.f2 ∧ x.f3.length ≤ c3 ∧ k37.C w A3 x.f3.length x.f3 ∧ x.f4.length ≤ c4 ∧ k37.C w A4 x.f4.length x.f4 := by
  obtain ⟨n, h⟩ := h
  cases n with
  | zero => exact h.elim
  | succ n =>
    obtain ⟨_, _, rfl, rfl, ⟨_, _, rfl, rfl, ⟨_, _, rfl, ⟨A2, c2, rfl, l2, g2⟩, ⟨_, _, rfl, ⟨A3, c3, rfl, l3, g3⟩, ⟨A4, c4, rfl, l4, g4⟩⟩⟩⟩⟩ := h
    exact ⟨A2, c2, A3, c3, A4, c4, rfl, l2, g2, l3, Kd.fix_C g3, l4, Kd.fix_C g4⟩
theorem k37_mk (w : World) (x : S37) {A2 : Option Addr} {c2 : Nat} (l2 : x.f2.length ≤ c2) (g2 : Kd.string.C w A2 x.f2.length x.f2) {A3 : Option Addr} {c3 : Nat} (l3 : x.f3.length ≤ c3) (g3 : k37.C w A3 x.f3.length x.f3) {A4 : Option Addr} {c4 : Nat} (l4 : x.f4.length ≤ c4) (g4 : k37.C w A4 x.f4.length x.f4) : k37.K w x [.int .u8 x.f0, .string x.f1, .slice A2 x.f2.length c2, .slice A3 x.f3.length c3, .slice A4 x.f4.length c4] := by
  obtain ⟨n3, q3⟩ := Kd.fix_C_back mono37 g3
  obtain ⟨n4, q4⟩ := Kd.fix_C_back mono37 g4
  have r3 := Kd.upto_C_le mono37 sz37 (show n3 ≤ (max n3 n4) by omega) q3
  have r4 := Kd.upto_C_le mono37 sz37 (show n4 ≤ (max n3 n4) by omega) q4
  exact ⟨(max n3 n4) + 1, ⟨[.int .u8 x.f0], [.string x.f1, .slice A2 x.f2.length c2, .slice A3 x.f3.length c3, .slice A4 x.f4.length c4], rfl, rfl, ⟨[.string x.f1], [.slice A2 x.f2.length c2, .slice A3 x.f3.length c3, .slice A4 x.f4.length c4], rfl, rfl, ⟨[.slice A2 x.f2.length c2], [.slice A3 x.f3.length c3, .slice A4 x.f4.length c4], rfl, ⟨A2, c2, rfl, l2, g2⟩, ⟨[.slice A3 x.f3.length c3], [.slice A4 x.f4.length c4], rfl, ⟨A3, c3, rfl, l3, r3⟩, ⟨A4, c4, rfl, l4, r4⟩⟩⟩⟩⟩⟩
theorem k37_mkM (w : World) (base : Nat) (ok : Nat → Prop) (x : S37) {v2 : Value} (g2 : Kd.string.R 9 w base ok v2 x.f2) {v3 : Value} (g3 : k37.R 37 w base ok v3 x.f3) {v4 : Value} (g4 : k37.R 37 w base ok v4 x.f4) : k37.M w base ok x [.int .u8 x.f0, .string x.f1, v2, v3, v4] := by
  obtain ⟨n3, q3⟩ := Kd.fix_R_back mono37 g3
  obtain ⟨n4, q4⟩ := Kd.fix_R_back mono37 g4
  have r3 := Kd.upto_R_le mono37 sz37 (show n3 ≤ (max n3 n4) by omega) q3
  have r4 := Kd.upto_R_le mono37 sz37 (show n4 ≤ (max n3 n4) by omega) q4
  exact ⟨(max n3 n4) + 1, ⟨[.int .u8 x.f0], [.string x.f1, v2, v3, v4], rfl, rfl, ⟨[.string x.f1], [v2, v3, v4], rfl, rfl, ⟨[v2], [v3, v4], rfl, ⟨v2, rfl, g2⟩, ⟨[v3], [v4], rfl, ⟨v3, rfl, r3⟩, ⟨v4, rfl, r4⟩⟩⟩⟩⟩⟩
theorem k37_openF {W : World} {ok : Nat → Prop} {x : S37} {cs : List Value} (h : Kd.FK k37 W ok x cs) : ∃ A2 c2 A3 c3 A4 c4, cs = [.int .u8 x.f0, .string x.f1, .slice A2 x.f2.length c2, .slice A3 x.f3.length c3, .slice A4 x.f4.length c4] ∧ x.f2.length ≤ c2 ∧ Kd.F Kd.string W ok A2 x.f2.length x.f2 ∧ x.f3.length ≤ c3 ∧ Kd.F k37 W ok A3 x.f3.length x.f3 ∧ x.f4.length ≤ c4 ∧ Kd.F k37 W ok A4 x.f4.length x.f4 := by
  obtain ⟨A2, c2, A3, c3, A4, c4, rfl, l2, _, l3, _, l4, _⟩ := k37_open (Kd.FK_now h)
  exact ⟨A2, c2, A3, c3, A4, c4, rfl, l2, (fun W' hW => by obtain ⟨A2_, c2_, A3_, c3_, A4_, c4_, he, l2_, g2_, l3_, g3_, l4_, g4_⟩ := k37_open (h W' hW); injection (Option.some.inj (show some (Value.slice A2 x.f2.length c2) = some (Value.slice A2_ x.f2.length c2_) from congrArg (fun l => l[2]?) he)) with ha_ _ _; rw [ha_]; exact g2_), l3, (fun W' hW => by obtain ⟨A2_, c2_, A3_, c3_, A4_, c4_, he, l2_, g2_, l3_, g3_, l4_, g4_⟩ := k37_open (h W' hW); injection (Option.some.inj (show some (Value.slice A3 x.f3.length c3) = some (Value.slice A3_ x.f3.length c3_) from congrArg (fun l => l[3]?) he)) with ha_ _ _; rw [ha_]; exact g3_), l4, (fun W' hW => by obtain ⟨A2_, c2_, A3_, c3_, A4_, c4_, he, l2_, g2_, l3_, g3_, l4_, g4_⟩ := k37_open (h W' hW); injection (Option.some.inj (show some (Value.slice A4 x.f4.length c4) = some (Value.slice A4_ x.f4.length c4_) from congrArg (fun l => l[4]?) he)) with ha_ _ _; rw [ha_]; exact g4_)⟩
def rd_T37 (xs : List S37) (i : Int) : S37 := xs.getD i.toNat z37
theorem at_T37 {w : World} {A : Option Addr} {n : Nat} {xs : List S37} (h : Kd.C k37 w A n xs) (i : Int) (h0 : 0 ≤ i) (h1 : i < n) : ∃ ad A2 c2 A3 c3 A4 c4, A = some ad ∧ w.cell? (ad.add (i.toNat * 5)) = some (.int .u8 (rd_T37 xs i).f0) ∧ w.cell? ⟨(ad.add (i.toNat * 5)).block, (ad.add (i.toNat * 5)).off + 1, none⟩ = some (.string (rd_T37 xs i).f1) ∧ w.cell? ⟨(ad.add (i.toNat * 5)).block, (ad.add (i.toNat * 5)).off + 2, none⟩ = some (.slice A2 (rd_T37 xs i).f2.length c2) ∧ w.cell? ⟨(ad.add (i.toNat * 5)).block, (ad.add (i.toNat * 5)).off + 3, none⟩ = some (.slice A3 (rd_T37 xs i).f3.length c3) ∧ w.cell? ⟨(ad.add (i.toNat * 5)).block, (ad.add (i.toNat * 5)).off + 4, none⟩ = some (.slice A4 (rd_T37 xs i).f4.length c4) ∧ (rd_T37 xs i).f2.length ≤ c2 ∧ Kd.string.C w A2 (rd_T37 xs i).f2.length (rd_T37 xs i).f2 ∧ (rd_T37 xs i).f3.length ≤ c3 ∧ k37.C w A3 (rd_T37 xs i).f3.length (rd_T37 xs i).f3 ∧ (rd_T37 xs i).f4.length ≤ c4 ∧ k37.C w A4 (rd_T37 xs i).f4.length (rd_T37 xs i).f4 := by
  obtain ⟨ad, c, e, _, hK, hc0⟩ := Kd.C_get h z37 i h0 h1
  have hc : ∀ j u, c[j]? = some u → w.cell? (ad.add (i.toNat * 5 + j)) = some u := hc0
  obtain ⟨A2, c2, A3, c3, A4, c4, rfl, l2, g2, l3, g3, l4, g4⟩ := k37_open hK
  exact ⟨ad, A2, c2, A3, c3, A4, c4, e, hc 0 _ rfl, by rw [← add_field _ _ 1 (by omega)]; exact hc 1 _ rfl, by rw [← add_field _ _ 2 (by omega)]; exact hc 2 _ rfl, by rw [← add_field _ _ 3 (by omega)]; exact hc 3 _ rfl, by rw [← add_field _ _ 4 (by omega)]; exact hc 4 _ rfl, l2, g2, l3, g3, l4, g4⟩
structure S101 where
  f0 : Int
  f1 : ByteArray
  f2 : (List ByteArray)
def z101 : S101 := ⟨(0 : Int), (⟨#[]⟩ : ByteArray), ([] : List ByteArray)⟩
def k101 : Kd S101 := Kd.iso (Kd.pair (Kd.int .u8) (Kd.pair Kd.string (Kd.slice 9 Kd.string))) (fun x : S101 => (x.f0, x.f1, x.f2))
theorem k101_open {w : World} {x : S101} {cs : List Value} (h : k101.K w x cs) : ∃ A2 c2, cs = [.int .u8 x.f0, .string x.f1, .slice A2 x.f2.length c2] ∧ x.f2.length ≤ c2 ∧ Kd.string.C w A2 x.f2.length x.f2 := by
  obtain ⟨_, _, rfl, rfl, ⟨_, _, rfl, rfl, ⟨A2, c2, rfl, l2, g2⟩⟩⟩ := h
  exact ⟨A2, c2, rfl, l2, g2⟩
theorem k101_mkM (w : World) (base : Nat) (ok : Nat → Prop) (x : S101) {v2 : Value} (g2 : Kd.string.R 9 w base ok v2 x.f2) : k101.M w base ok x [.int .u8 x.f0, .string x.f1, v2] := ⟨[.int .u8 x.f0], [.string x.f1, v2], rfl, rfl, ⟨[.string x.f1], [v2], rfl, rfl, ⟨v2, rfl, g2⟩⟩⟩
def rd_T101 (xs : List S101) (i : Int) : S101 := xs.getD i.toNat z101
theorem at_T101 {w : World} {A : Option Addr} {n : Nat} {xs : List S101} (h : Kd.C k101 w A n xs) (i : Int) (h0 : 0 ≤ i) (h1 : i < n) : ∃ ad A2 c2, A = some ad ∧ w.cell? (ad.add (i.toNat * 3)) = some (.int .u8 (rd_T101 xs i).f0) ∧ w.cell? ⟨(ad.add (i.toNat * 3)).block, (ad.add (i.toNat * 3)).off + 1, none⟩ = some (.string (rd_T101 xs i).f1) ∧ w.cell? ⟨(ad.add (i.toNat * 3)).block, (ad.add (i.toNat * 3)).off + 2, none⟩ = some (.slice A2 (rd_T101 xs i).f2.length c2) ∧ (rd_T101 xs i).f2.length ≤ c2 ∧ Kd.string.C w A2 (rd_T101 xs i).f2.length (rd_T101 xs i).f2 := by
  obtain ⟨ad, c, e, _, hK, hc0⟩ := Kd.C_get h z101 i h0 h1
  have hc : ∀ j u, c[j]? = some u → w.cell? (ad.add (i.toNat * 3 + j)) = some u := hc0
  obtain ⟨A2, c2, rfl, l2, g2⟩ := k101_open hK
  exact ⟨ad, A2, c2, e, hc 0 _ rfl, by rw [← add_field _ _ 1 (by omega)]; exact hc 1 _ rfl, by rw [← add_field _ _ 2 (by omega)]; exact hc 2 _ rfl, l2, g2⟩
structure S43 where
  f0 : Int
  f1 : ByteArray
  f2 : Int
  f3 : (List S43)
  f4 : (List ByteArray)
def z43 : S43 := ⟨(0 : Int), (⟨#[]⟩ : ByteArray), (0 : Int), ([] : List S43), ([] : List ByteArray)⟩
def F43 (d : Kd S43) : Kd S43 := Kd.iso (Kd.pair (Kd.int .u8) (Kd.pair Kd.string (Kd.pair (Kd.int .i64) (Kd.pair (Kd.slice 43 d) (Kd.slice 9 Kd.string))))) (fun x : S43 => (x.f0, x.f1, x.f2, x.f3, x.f4))
theorem mono43 : Kd.Mono F43 := Kd.mono_iso _ (Kd.mono_pair (Kd.mono_const _) (Kd.mono_pair (Kd.mono_const _) (Kd.mono_pair (Kd.mono_const _) (Kd.mono_pair (Kd.mono_slice 43 Kd.mono_id) (Kd.mono_const _)))))
theorem sub43 : Kd.Sub F43 [9, 43] := Kd.sub_iso _ (Kd.sub_pair (Kd.sub_const _ (by decide)) (Kd.sub_pair (Kd.sub_const _ (by decide)) (Kd.sub_pair (Kd.sub_const _ (by decide)) (Kd.sub_pair (Kd.sub_slice 43 (by decide) Kd.sub_id) (Kd.sub_const _ (by decide))))))
theorem sz43 : ∀ n, (Kd.upto F43 5 [9, 43] n).sz = 5 := Kd.upto_sz (fun _ => rfl)
def k43 : Kd S43 := Kd.fix F43 5 [9, 43] sz43 (Kd.upto_E sub43)
theorem k43_open {w : World} {x : S43} {cs : List Value} (h : k43.K w x cs) : ∃ A3 c3 A4 c4, cs = [.int .u8 x.f0, .string x.f1, .int .i64 x.f2, .slice A3 x.f3.length c3, .slice A4 x.f4.length c4] ∧ x.f3.length ≤ c3 ∧ k43.C w A3 x.f3.length x.f3 ∧ x.f4.length ≤ c4 ∧ Kd.string.C w A4 x.f4.length x.f4 := by
  obtain ⟨n, h⟩ := h
  cases n with
  | zero => exact h.elim
  | succ n =>
    obtain ⟨_, _, rfl, rfl, ⟨_, _, rfl, rfl, ⟨_, _, rfl, rfl, ⟨_, _, rfl, ⟨A3, c3, rfl, l3, g3⟩, ⟨A4, c4, rfl, l4, g4⟩⟩⟩⟩⟩ := h
    exact ⟨A3, c3, A4, c4, rfl, l3, Kd.fix_C g3, l4, g4⟩
theorem k43_mk (w : World) (x : S43) {A3 : Option Addr} {c3 : Nat} (l3 : x.f3.length ≤ c3) (g3 : k43.C w A3 x.f3.length x.f3) {A4 : Option Addr} {c4 : Nat} (l4 : x.f4.length ≤ c4) (g4 : Kd.string.C w A4 x.f4.length x.f4) : k43.K w x [.int .u8 x.f0, .string x.f1, .int .i64 x.f2, .slice A3 x.f3.length c3, .slice A4 x.f4.length c4] := by
  obtain ⟨n3, q3⟩ := Kd.fix_C_back mono43 g3
  have r3 := Kd.upto_C_le mono43 sz43 (show n3 ≤ n3 by omega) q3
  exact ⟨n3 + 1, ⟨[.int .u8 x.f0], [.string x.f1, .int .i64 x.f2, .slice A3 x.f3.length c3, .slice A4 x.f4.length c4], rfl, rfl, ⟨[.string x.f1], [.int .i64 x.f2, .slice A3 x.f3.length c3, .slice A4 x.f4.length c4], rfl, rfl, ⟨[.int .i64 x.f2], [.slice A3 x.f3.length c3, .slice A4 x.f4.length c4], rfl, rfl, ⟨[.slice A3 x.f3.length c3], [.slice A4 x.f4.length c4], rfl, ⟨A3, c3, rfl, l3, r3⟩, ⟨A4, c4, rfl, l4, g4⟩⟩⟩⟩⟩⟩
theorem k43_openF {W : World} {ok : Nat → Prop} {x : S43} {cs : List Value} (h : Kd.FK k43 W ok x cs) : ∃ A3 c3 A4 c4, cs = [.int .u8 x.f0, .string x.f1, .int .i64 x.f2, .slice A3 x.f3.length c3, .slice A4 x.f4.length c4] ∧ x.f3.length ≤ c3 ∧ Kd.F k43 W ok A3 x.f3.length x.f3 ∧ x.f4.length ≤ c4 ∧ Kd.F Kd.string W ok A4 x.f4.length x.f4 := by
  obtain ⟨A3, c3, A4, c4, rfl, l3, _, l4, _⟩ := k43_open (Kd.FK_now h)
  exact ⟨A3, c3, A4, c4, rfl, l3, (fun W' hW => by obtain ⟨A3_, c3_, A4_, c4_, he, l3_, g3_, l4_, g4_⟩ := k43_open (h W' hW); injection (Option.some.inj (show some (Value.slice A3 x.f3.length c3) = some (Value.slice A3_ x.f3.length c3_) from congrArg (fun l => l[3]?) he)) with ha_ _ _; rw [ha_]; exact g3_), l4, (fun W' hW => by obtain ⟨A3_, c3_, A4_, c4_, he, l3_, g3_, l4_, g4_⟩ := k43_open (h W' hW); injection (Option.some.inj (show some (Value.slice A4 x.f4.length c4) = some (Value.slice A4_ x.f4.length c4_) from congrArg (fun l => l[4]?) he)) with ha_ _ _; rw [ha_]; exact g4_)⟩
theorem k43_mkF (W : World) (ok : Nat → Prop) (x : S43) {A3 : Option Addr} {c3 : Nat} (l3 : x.f3.length ≤ c3) (g3 : Kd.F k43 W ok A3 x.f3.length x.f3) {A4 : Option Addr} {c4 : Nat} (l4 : x.f4.length ≤ c4) (g4 : Kd.F Kd.string W ok A4 x.f4.length x.f4) : Kd.FK k43 W ok x [.int .u8 x.f0, .string x.f1, .int .i64 x.f2, .slice A3 x.f3.length c3, .slice A4 x.f4.length c4] := fun W2 hW => k43_mk W2 x l3 (g3 W2 hW) l4 (g4 W2 hW)
def rd_T43 (xs : List S43) (i : Int) : S43 := xs.getD i.toNat z43
theorem at_T43 {w : World} {A : Option Addr} {n : Nat} {xs : List S43} (h : Kd.C k43 w A n xs) (i : Int) (h0 : 0 ≤ i) (h1 : i < n) : ∃ ad A3 c3 A4 c4, A = some ad ∧ w.cell? (ad.add (i.toNat * 5)) = some (.int .u8 (rd_T43 xs i).f0) ∧ w.cell? ⟨(ad.add (i.toNat * 5)).block, (ad.add (i.toNat * 5)).off + 1, none⟩ = some (.string (rd_T43 xs i).f1) ∧ w.cell? ⟨(ad.add (i.toNat * 5)).block, (ad.add (i.toNat * 5)).off + 2, none⟩ = some (.int .i64 (rd_T43 xs i).f2) ∧ w.cell? ⟨(ad.add (i.toNat * 5)).block, (ad.add (i.toNat * 5)).off + 3, none⟩ = some (.slice A3 (rd_T43 xs i).f3.length c3) ∧ w.cell? ⟨(ad.add (i.toNat * 5)).block, (ad.add (i.toNat * 5)).off + 4, none⟩ = some (.slice A4 (rd_T43 xs i).f4.length c4) ∧ (rd_T43 xs i).f3.length ≤ c3 ∧ k43.C w A3 (rd_T43 xs i).f3.length (rd_T43 xs i).f3 ∧ (rd_T43 xs i).f4.length ≤ c4 ∧ Kd.string.C w A4 (rd_T43 xs i).f4.length (rd_T43 xs i).f4 := by
  obtain ⟨ad, c, e, _, hK, hc0⟩ := Kd.C_get h z43 i h0 h1
  have hc : ∀ j u, c[j]? = some u → w.cell? (ad.add (i.toNat * 5 + j)) = some u := hc0
  obtain ⟨A3, c3, A4, c4, rfl, l3, g3, l4, g4⟩ := k43_open hK
  exact ⟨ad, A3, c3, A4, c4, e, hc 0 _ rfl, by rw [← add_field _ _ 1 (by omega)]; exact hc 1 _ rfl, by rw [← add_field _ _ 2 (by omega)]; exact hc 2 _ rfl, by rw [← add_field _ _ 3 (by omega)]; exact hc 3 _ rfl, by rw [← add_field _ _ 4 (by omega)]; exact hc 4 _ rfl, l3, g3, l4, g4⟩
end Go.Proofs.YtniibpndgcndbaaGreatDoor.PB
namespace Go.Proofs.YtniibpndgcndbaaGreatDoor.PB
open Go.RowKit Go.Proofs.YtniibpndgcndbaaGreatDoorW.PrintWords Go.Proofs.YtniibpndgcndbaaGreatDoorW.PrintLast Go.Proofs.YtniibpndgcndbaaGreatDoorW.PrintMore Go.Proofs.YtniibpndgcndbaaGreatDoor.Short
attribute [local go_sem] max2_int min2_int max_two min_two max_three min_three max_four min_four   -- for this text's walks alone
set_option linter.unusedVariables false
set_option linter.unusedSimpArgs false
def esc_Most.f (a0 : Int) : Option (Int × Int) := if a0 = 1 then (some (256, 0)) else (if a0 = 2 then (some (2048, 0)) else (if a0 = 3 then (some (160, 0)) else (some (0, 1))))
set_option maxHeartbeats 8000000 in
set_option maxRecDepth 100000 in
theorem esc_Most.calls (a0 : Int) (r1 : Int) (r2 : Int) (w : World) (h : esc_Most.f a0 = some (r1, r2)) :
  Calls Tryz.prog 35 #[.int .u8 a0] w fun e w' => e = .returned (.tuple #[.int .i64 r1, .int .i64 r2]) ∧ Drawn0 w w' := by
 have H : (if a0 = 1 then (some (256, 0)) else (if a0 = 2 then (some (2048, 0)) else (if a0 = 3 then (some (160, 0)) else (some (0, 1))))) = some (r1, r2) := h
 clear h
 by_cases c2 : a0 = 1
 ·rw [if_pos c2] at H
  have c2b0 : (a0 == 1) = true := beq_iff_eq.mpr c2
  have c2b1 : (a0 != 1) = false := bne_eq_false_iff_eq.mpr c2
  clear c2
  simp only [Option.some.injEq, Prod.mk.injEq] at H
  obtain ⟨rfl, rfl⟩ := H
  go_enter Tryz.func35, Tryz.ntmps35
  go_wp2
  go_ret2
  exact ⟨by first | rfl | (simp; done) | (simp [*]; done), by repeat (first | exact Drawn0.refl _ | apply Drawn0.step)⟩
 ·rw [if_neg c2] at H
  have c2b0 : (a0 == 1) = false := beq_eq_false_iff_ne.mpr c2
  have c2b1 : (a0 != 1) = true := bne_iff_ne.mpr c2
  by_cases c3 : a0 = 2
  ·rw [if_pos c3] at H
   have c3b0 : (a0 == 2) = true := beq_iff_eq.mpr c3
   have c3b1 : (a0 != 2) = false := bne_eq_false_iff_eq.mpr c3
   clear c3
   simp only [Option.some.injEq, Prod.mk.injEq] at H
   obtain ⟨rfl, rfl⟩ := H
   go_enter Tryz.func35, Tryz.ntmps35
   go_wp2
   go_ret2
   exact ⟨by first | rfl | (simp; done) | (simp [*]; done), by repeat (first | exact Drawn0.refl _ | apply Drawn0.step)⟩
  ·rw [if_neg c3] at H
   have c3b0 : (a0 == 2) = false := beq_eq_false_iff_ne.mpr c3
   have c3b1 : (a0 != 2) = true := bne_iff_ne.mpr c3
   by_cases c4 : a0 = 3
   ·rw [if_pos c4] at H
    have c4b0 : (a0 == 3) = true := beq_iff_eq.mpr c4
    have c4b1 : (a0 != 3) = false := bne_eq_false_iff_eq.mpr c4
    clear c4
    simp only [Option.some.injEq, Prod.mk.injEq] at H
    obtain ⟨rfl, rfl⟩ := H
    go_enter Tryz.func35, Tryz.ntmps35
    go_wp2
    go_ret2
    exact ⟨by first | rfl | (simp; done) | (simp [*]; done), by repeat (first | exact Drawn0.refl _ | apply Drawn0.step)⟩
   ·rw [if_neg c4] at H
    have c4b0 : (a0 == 3) = false := beq_eq_false_iff_ne.mpr c4
    have c4b1 : (a0 != 3) = true := bne_iff_ne.mpr c4
    simp only [Option.some.injEq, Prod.mk.injEq] at H
    obtain ⟨rfl, rfl⟩ := H
    go_enter Tryz.func35, Tryz.ntmps35
    go_wp2
    go_ret2
    exact ⟨by first | rfl | (simp; done) | (simp [*]; done), by repeat (first | exact Drawn0.refl _ | apply Drawn0.step)⟩
end Go.Proofs.YtniibpndgcndbaaGreatDoor.PB
namespace Go.Proofs.YtniibpndgcndbaaGreatDoor.Tpl
abbrev S := List UInt8
inductive Nodes where
  | nil
  | cons (k : Nat) (t : S) (p : List S) (a b r : Nodes)
structure Tok where
  k : Nat
  t : S
  p : List S
structure Look where
  k : Nat
  t : S
  p : List S
  lv : Nat
  wi : Bool
def thisS : S := [116, 104, 105, 115]
namespace Nodes
def len : Nodes → Nat | nil => 0 | cons _ _ _ _ _ r => r.len + 1
def isNil : Nodes → Bool | nil => true | cons .. => false
def cnt : Nodes → Nat | nil => 0 | cons _ _ _ a b r => 1 + a.cnt + b.cnt + r.cnt
def app : Nodes → Nodes → Nodes | nil, y => y | cons k t p a b r, y => cons k t p a b (r.app y)
def leafP (k : Nat) (t : S) (p a b : Nat) : Bool :=
  if k = 1 then p + a + b == 0 else if k = 2 then a == 0 && b == 0 && t.isEmpty else if k = 5 then b == 0 && t.isEmpty else if k = 3 then t.isEmpty else false
def okN : Nodes → Nat → Bool
  | nil, _ => true
  | cons k t p a b r, lv => lv != 0 && leafP k t p.length a.len b.len && okN a (lv - 1) && okN b (lv - 1) && okN r lv
def inP : Nodes → Nat → Int × Bool → Int × Bool
  | nil, _, c => c
  | cons k t p a b r, lv, c => if c.2 || lv == 0 || decide (c.1 - 1 < 0) || !leafP k t p.length a.len b.len then (c.1 - 1, true) else inP r lv (inP b (lv - 1) (inP a (lv - 1) (c.1 - 1, false)))
theorem inP_bad (l : Nodes) : ∀ lv x, (inP l lv (x, true)).2 = true := by
  cases l with
  | nil => intro lv x; rfl
  | cons k t p a b r => intro lv x; simp [inP]
theorem inP_ok (l : Nodes) : ∀ lv x, (0 ≤ x) → inP l lv (x, false) = if okN l lv = true ∧ (l.cnt : Int) ≤ x then (x - l.cnt, false) else ((inP l lv (x, false)).1, true) := by
  induction l with
  | nil => intro lv x hx; simp [inP, okN, cnt, hx]
  | cons k t p a b r iha ihb ihr =>
    intro lv x hx
    by_cases c1 : (lv == 0 || decide (x - 1 < 0) || !leafP k t p.length a.len b.len) = true
    · rw [if_neg]
      · simp only [inP, Bool.false_or, c1, if_true]
      · simp only [okN, cnt, Bool.and_eq_true, bne_iff_ne]
        simp only [Bool.or_eq_true, beq_iff_eq, decide_eq_true_eq, Bool.not_eq_true'] at c1
        rintro ⟨⟨⟨⟨⟨h1, h2⟩, h3⟩, h4⟩, h5⟩, h6⟩
        rcases c1 with (c1 | c1) | c1
        · exact h1 c1
        · omega
        · rw [h2] at c1; cases c1
    · have c1' : (lv == 0 || decide (x - 1 < 0) || !leafP k t p.length a.len b.len) = false := by simpa using c1
      have e : inP (cons k t p a b r) lv (x, false) = inP r lv (inP b (lv - 1) (inP a (lv - 1) (x - 1, false))) := by
        conv => lhs; unfold inP
        simp only [Bool.false_or, c1', Bool.false_eq_true, if_false]
      rw [e]
      simp only [Bool.or_eq_false_iff, beq_eq_false_iff_ne, decide_eq_false_iff_not, Bool.not_eq_false'] at c1'
      obtain ⟨⟨h1, h2⟩, h3⟩ := c1'
      have ea := iha (lv - 1) (x - 1) (by omega)
      by_cases ca : okN a (lv - 1) = true ∧ (a.cnt : Int) ≤ x - 1
      · rw [if_pos ca] at ea
        rw [ea]
        have eb := ihb (lv - 1) (x - 1 - a.cnt) (by omega)
        by_cases cb : okN b (lv - 1) = true ∧ (b.cnt : Int) ≤ x - 1 - a.cnt
        · rw [if_pos cb] at eb
          rw [eb]
          have er := ihr lv (x - 1 - a.cnt - b.cnt) (by omega)
          by_cases cr : okN r lv = true ∧ (r.cnt : Int) ≤ x - 1 - a.cnt - b.cnt
          · rw [if_pos cr] at er
            rw [er, if_pos]
            · simp only [cnt]; congr 1; omega
            · refine ⟨by simp only [okN, bne_iff_ne, ne_eq, Bool.and_eq_true]; exact ⟨⟨⟨⟨h1, h3⟩, ca.1⟩, cb.1⟩, cr.1⟩, by simp only [cnt]; omega⟩
          · rw [if_neg cr] at er
            rw [er, if_neg]
            simp only [okN, Bool.and_eq_true, cnt]
            rintro ⟨⟨_, h5⟩, h6⟩
            exact cr ⟨h5, by omega⟩
        · rw [if_neg cb] at eb
          rw [eb, if_neg]
          · rw [show ((inP b (lv - 1) (x - 1 - ↑a.cnt, false)).fst, true) = (((inP b (lv - 1) (x - 1 - ↑a.cnt, false)).fst, true) : Int × Bool) from rfl]
            exact Prod.ext rfl (inP_bad r _ _)
          · simp only [okN, Bool.and_eq_true, cnt]
            rintro ⟨⟨⟨_, h5⟩, _⟩, h6⟩
            exact cb ⟨h5, by omega⟩
      · rw [if_neg ca] at ea
        rw [ea, if_neg]
        · have hb := inP_bad b (lv - 1) (inP a (lv - 1) (x - 1, false)).fst
          obtain ⟨y, z, hyz⟩ : ∃ y z, inP b (lv - 1) ((inP a (lv - 1) (x - 1, false)).fst, true) = (y, z) := ⟨_, _, rfl⟩
          rw [hyz] at hb ⊢
          have : z = true := hb
          subst this
          exact Prod.ext rfl (inP_bad r _ _)
        · simp only [okN, Bool.and_eq_true, cnt]
          rintro ⟨⟨⟨⟨_, h5⟩, _⟩, _⟩, h6⟩
          exact ca ⟨h5, by omega⟩
def fitsP (l : Nodes) : Bool := okN l 8 && decide (l.cnt ≤ 256)
theorem inP_fits (l : Nodes) : (inP l 8 (256, false)).2 = !fitsP l := by
  rw [inP_ok l 8 256 (by omega)]
  unfold fitsP
  split
  · rename_i h; rw [h.1]; have := h.2; simp; omega
  · rename_i h
    cases h1 : okN l 8
    · rfl
    · have : ¬ (l.cnt ≤ 256) := fun h2 => h ⟨h1, by omega⟩
      simp [this]
theorem inP_le (l : Nodes) : ∀ lv x, (inP l lv x).1 ≤ x.1 ∧ x.1 - l.cnt ≤ (inP l lv x).1 := by
  induction l with
  | nil => intro lv x; simp [inP, cnt]
  | cons k t p a b r iha ihb ihr =>
    intro lv x
    unfold inP
    simp only [cnt]
    split
    · simp; omega
    · have h1 := iha (lv - 1) (x.1 - 1, false)
      have h2 := ihb (lv - 1) (inP a (lv - 1) (x.1 - 1, false))
      have h3 := ihr lv (inP b (lv - 1) (inP a (lv - 1) (x.1 - 1, false)))
      simp only at h1
      omega
def elseTok : Tok := ⟨4, [], []⟩
def endTok : Tok := ⟨6, [], []⟩
def toks : Nodes → List Tok
  | nil => []
  | cons k t p a b r => ⟨k, t, p⟩ :: ((if k = 3 ∨ k = 5 then toks a ++ ((if b.isNil then [] else elseTok :: toks b) ++ [endTok]) else []) ++ toks r)
theorem lt_of (x s : S) (h1 : ¬ x < s) (h2 : x ≠ s) : s < x := by
  rcases Std.lt_trichotomy x s with h | h | h
  · exact absurd h h1
  · exact absurd h h2
  · exact h
end Nodes
def nameC (first : Bool) (c : UInt8) : Bool := (decide (97 ≤ c.toNat) && decide (c.toNat ≤ 122)) || (!first && (c.toNat == 95 || (decide (48 ≤ c.toNat) && decide (c.toNat ≤ 57))))
def nameL (first : Bool) : S → Bool
  | [] => true
  | c :: r => nameC first c && nameL false r
def nameP (s : S) : Bool := !s.isEmpty && decide (s.length ≤ 32) && nameL true s
def ifS : S := [105, 102]
def eachS : S := [101, 97, 99, 104]
def elseS : S := [101, 108, 115, 101]
def endS : S := [101, 110, 100]
def special (s : S) : Bool := s == ifS || s == eachS || s == elseS || s == endS
def pathP (l : List S) : Bool := decide (1 ≤ l.length) && decide (l.length ≤ 4) && !(l.length == 1 && special (l.getD 0 [])) && l.all nameP
def hasOpen (t : S) : Bool := Lib.contains t [123, 123]
def fineP (x : Tok) (next txt : Bool) : Bool :=
  if x.k = 1 then !x.t.isEmpty && x.p.length == 0 && !hasOpen x.t && !txt && !(next && x.t.getLast? == some 123)
  else if x.k = 2 ∨ x.k = 3 ∨ x.k = 5 then x.t.isEmpty && pathP x.p
  else if x.k = 4 ∨ x.k = 6 then x.t.isEmpty && x.p.length == 0
  else false
def toksP : List Tok → Bool
  | [] => true
  | x :: r => fineP x (!r.isEmpty) (match r with | [] => false | y :: _ => y.k == 1) && toksP r
def Nodes.chk (l : Nodes) : Bool := l.fitsP && toksP l.toks
end Go.Proofs.YtniibpndgcndbaaGreatDoor.Tpl
namespace Go.Proofs.YtniibpndgcndbaaGreatDoor.Short
theorem leq_spell (a b : List UInt8) : (Op.bytesLess a b || a == b) = !Op.bytesLess b a := by
  rw [Go.Proofs.bytesLess_eq, Go.Proofs.bytesLess_eq]
  by_cases h : b < a
  · rw [decide_eq_true h]
    have h1 : ¬ a < b := fun h2 => absurd (List.lt_trans h h2) (List.lt_irrefl _)
    have h2 : ¬ a = b := fun e => by subst e; exact List.lt_irrefl _ h
    simp [h1, h2]
  · rw [decide_eq_false h]
    by_cases h3 : a = b
    · simp [h3]
    · have := Tpl.Nodes.lt_of b a h (fun e => h3 e.symm)
      simp [this]
end Go.Proofs.YtniibpndgcndbaaGreatDoor.Short
namespace Go.Proofs.YtniibpndgcndbaaGreatDoor.PB
open Go.RowKit Go.Proofs.YtniibpndgcndbaaGreatDoorW.PrintWords Go.Proofs.YtniibpndgcndbaaGreatDoorW.PrintLast Go.Proofs.YtniibpndgcndbaaGreatDoorW.PrintMore Go.Proofs.YtniibpndgcndbaaGreatDoor.Short
attribute [local go_sem] max2_int min2_int max_two min_two max_three min_three max_four min_four   -- for this text's walks alone
set_option linter.unusedVariables false
set_option linter.unusedSimpArgs false
def tree_leaf.f (a0_0 : Int) (a0_1 : ByteArray) (l0_2 : List ByteArray) (l0_3 : List (S37)) (l0_4 : List (S37)) : Option (Bool) := if a0_0 = 1 then (some ((wrap64 ((wrap64 ((l0_2.length : Int) + (l0_3.length : Int))) + (l0_4.length : Int))) == 0)) else (if a0_0 = 2 then (if (l0_3.length : Int) > 0 then (some false) else (if (l0_4.length : Int) > 0 then (some false) else (some (a0_1.toList == ([] : List UInt8))))) else (if a0_0 = 5 then (if (l0_4.length : Int) > 0 then (some false) else (some (a0_1.toList == ([] : List UInt8)))) else (if a0_0 = 3 then (some (a0_1.toList == ([] : List UInt8))) else (some false))))
set_option maxHeartbeats 8000000 in
set_option maxRecDepth 100000 in
theorem tree_leaf.calls (a0_0 : Int) (a0_1 : ByteArray) (A0_2 : Option Addr) (c0_2 : Nat) (l0_2 : List ByteArray) (A0_3 : Option Addr) (c0_3 : Nat) (l0_3 : List (S37)) (A0_4 : Option Addr) (c0_4 : Nat) (l0_4 : List (S37)) (r : Bool) (w : World) (hr0_2 : Kd.C Kd.string w A0_2 l0_2.length l0_2) (hc0_2 : l0_2.length ≤ c0_2) (hr0_3 : Kd.C k37 w A0_3 l0_3.length l0_3) (hc0_3 : l0_3.length ≤ c0_3) (hr0_4 : Kd.C k37 w A0_4 l0_4.length l0_4) (hc0_4 : l0_4.length ≤ c0_4) (h : tree_leaf.f a0_0 a0_1 l0_2 l0_3 l0_4 = some r) :
  Calls Tryz.prog 167 #[.agg #[.int .u8 a0_0, .string a0_1, .slice A0_2 l0_2.length c0_2, .slice A0_3 l0_3.length c0_3, .slice A0_4 l0_4.length c0_4]] w fun e w' => e = .returned (.bool r) ∧ Below w.heap.size w w' := by
 have hu37 := Tryz.underlying37
 have HR0_2 := Aside0.mk hr0_2
 have HC0_2 := Aside0.mk hc0_2
 clear hr0_2 hc0_2
 have HR0_3 := Aside0.mk hr0_3
 have HC0_3 := Aside0.mk hc0_3
 clear hr0_3 hc0_3
 have HR0_4 := Aside0.mk hr0_4
 have HC0_4 := Aside0.mk hc0_4
 clear hr0_4 hc0_4
 have HB := Aside0.mk (Below.refl w.heap.size w)
 have H : (if a0_0 = 1 then (some ((wrap64 ((wrap64 ((l0_2.length : Int) + (l0_3.length : Int))) + (l0_4.length : Int))) == 0)) else (if a0_0 = 2 then (if (l0_3.length : Int) > 0 then (some false) else (if (l0_4.length : Int) > 0 then (some false) else (some (a0_1.toList == ([] : List UInt8))))) else (if a0_0 = 5 then (if (l0_4.length : Int) > 0 then (some false) else (some (a0_1.toList == ([] : List UInt8)))) else (if a0_0 = 3 then (some (a0_1.toList == ([] : List UInt8))) else (some false))))) = some r := h
 clear h
 by_cases c2 : a0_0 = 1
 ·rw [if_pos c2] at H
  have c2b0 : (a0_0 == 1) = true := beq_iff_eq.mpr c2
  have c2b1 : (a0_0 != 1) = false := bne_eq_false_iff_eq.mpr c2
  clear c2
  obtain rfl := Option.some.inj H
  go_enter Tryz.func167, Tryz.ntmps167
  go_wp2_with (first | ((with_reducible refine gate_dst (N := 1) rfl ?_); refine box_event ?hg (N := 1) ?hd (cs := #[.int .u8 a0_0, .string a0_1, .slice A0_2 l0_2.length c0_2, .slice A0_3 l0_3.length c0_3, .slice A0_4 l0_4.length c0_4]) (t := 37) ?hr ?_; (case hd => rfl); (case hg => rfl); (case hr => first | (go_simp; done) | (go_simp; rfl)); intro gb101 hg w3 hbox hb; have n0_ := Aside0.mk (below_step (belS HB.out) hb); have n1_ := Aside0.mk (hbox); have n2_ := Aside0.mk ((by rw [hg]; exact (below_size (belS HB.out)) : w.heap.size ≤ gb101)); have n3_ := Aside0.mk ((by rw [hg]; exact (below_size (belS HB.out)) : w.heap.size ≤ gb101)); clear HB; have HB := n0_; have BK101 := n1_; have GW101 := n2_; have GE101 := n3_; clear n0_ n1_ n2_ n3_; clear hb hbox hg; obtain ⟨hcz4_0, hcz4_1, hcz4_2, hcz4_3, hcz4_4, hfz4_0, hfz4_1, hfz4_2, hfz4_3, hfz4_4⟩ := cells_5 BK101.out))
  go_ret
  exact ⟨by first | rfl | (simp [errW_none, errW_some] <;> rfl) | (simp [*, errW_none, errW_some] <;> rfl), by repeat (first | (with_reducible first | exact HB.out | apply below_alloc | apply pw_below_drewN | apply below_drew1 | refine below_set ?_ GE101.out) | exact HB.out)⟩
 ·rw [if_neg c2] at H
  have c2b0 : (a0_0 == 1) = false := beq_eq_false_iff_ne.mpr c2
  have c2b1 : (a0_0 != 1) = true := bne_iff_ne.mpr c2
  by_cases c5 : a0_0 = 2
  ·rw [if_pos c5] at H
   have c5b0 : (a0_0 == 2) = true := beq_iff_eq.mpr c5
   have c5b1 : (a0_0 != 2) = false := bne_eq_false_iff_eq.mpr c5
   clear c5
   by_cases c6 : (l0_3.length : Int) > 0
   ·rw [if_pos c6] at H
    have c6b0 : decide (0 < (l0_3.length : Int)) = true := decide_eq_true c6
    have c6b1 : decide (0 < l0_3.length) = true := decide_eq_true (by omega)
    clear c6
    obtain rfl := Option.some.inj H
    go_enter Tryz.func167, Tryz.ntmps167
    go_wp2_with (first | ((with_reducible refine gate_dst (N := 1) rfl ?_); refine box_event ?hg (N := 1) ?hd (cs := #[.int .u8 a0_0, .string a0_1, .slice A0_2 l0_2.length c0_2, .slice A0_3 l0_3.length c0_3, .slice A0_4 l0_4.length c0_4]) (t := 37) ?hr ?_; (case hd => rfl); (case hg => rfl); (case hr => first | (go_simp; done) | (go_simp; rfl)); intro gb101 hg w7 hbox hb; have n0_ := Aside0.mk (below_step (belS HB.out) hb); have n1_ := Aside0.mk (hbox); have n2_ := Aside0.mk ((by rw [hg]; exact (below_size (belS HB.out)) : w.heap.size ≤ gb101)); have n3_ := Aside0.mk ((by rw [hg]; exact (below_size (belS HB.out)) : w.heap.size ≤ gb101)); clear HB; have HB := n0_; have BK101 := n1_; have GW101 := n2_; have GE101 := n3_; clear n0_ n1_ n2_ n3_; clear hb hbox hg; obtain ⟨hcz8_0, hcz8_1, hcz8_2, hcz8_3, hcz8_4, hfz8_0, hfz8_1, hfz8_2, hfz8_3, hfz8_4⟩ := cells_5 BK101.out))
    go_ret
    exact ⟨by first | rfl | (simp [errW_none, errW_some] <;> rfl) | (simp [*, errW_none, errW_some] <;> rfl), by repeat (first | (with_reducible first | exact HB.out | apply below_alloc | apply pw_below_drewN | apply below_drew1 | refine below_set ?_ GE101.out) | exact HB.out)⟩
   ·rw [if_neg c6] at H
    have c6b0 : decide (0 < (l0_3.length : Int)) = false := decide_eq_false c6
    have c6b1 : decide (0 < l0_3.length) = false := decide_eq_false (by omega)
    clear c6
    by_cases c9 : (l0_4.length : Int) > 0
    ·rw [if_pos c9] at H
     have c9b0 : decide (0 < (l0_4.length : Int)) = true := decide_eq_true c9
     have c9b1 : decide (0 < l0_4.length) = true := decide_eq_true (by omega)
     clear c9
     obtain rfl := Option.some.inj H
     go_enter Tryz.func167, Tryz.ntmps167
     go_wp2_with (first | ((with_reducible refine gate_dst (N := 1) rfl ?_); refine box_event ?hg (N := 1) ?hd (cs := #[.int .u8 a0_0, .string a0_1, .slice A0_2 l0_2.length c0_2, .slice A0_3 l0_3.length c0_3, .slice A0_4 l0_4.length c0_4]) (t := 37) ?hr ?_; (case hd => rfl); (case hg => rfl); (case hr => first | (go_simp; done) | (go_simp; rfl)); intro gb101 hg w10 hbox hb; have n0_ := Aside0.mk (below_step (belS HB.out) hb); have n1_ := Aside0.mk (hbox); have n2_ := Aside0.mk ((by rw [hg]; exact (below_size (belS HB.out)) : w.heap.size ≤ gb101)); have n3_ := Aside0.mk ((by rw [hg]; exact (below_size (belS HB.out)) : w.heap.size ≤ gb101)); clear HB; have HB := n0_; have BK101 := n1_; have GW101 := n2_; have GE101 := n3_; clear n0_ n1_ n2_ n3_; clear hb hbox hg; obtain ⟨hcz11_0, hcz11_1, hcz11_2, hcz11_3, hcz11_4, hfz11_0, hfz11_1, hfz11_2, hfz11_3, hfz11_4⟩ := cells_5 BK101.out))
     go_ret
     exact ⟨by first | rfl | (simp [errW_none, errW_some] <;> rfl) | (simp [*, errW_none, errW_some] <;> rfl), by repeat (first | (with_reducible first | exact HB.out | apply below_alloc | apply pw_below_drewN | apply below_drew1 | refine below_set ?_ GE101.out) | exact HB.out)⟩
    ·rw [if_neg c9] at H
     have c9b0 : decide (0 < (l0_4.length : Int)) = false := decide_eq_false c9
     have c9b1 : decide (0 < l0_4.length) = false := decide_eq_false (by omega)
     clear c9
     obtain rfl := Option.some.inj H
     go_enter Tryz.func167, Tryz.ntmps167
     go_wp2_with (first | ((with_reducible refine gate_dst (N := 1) rfl ?_); refine box_event ?hg (N := 1) ?hd (cs := #[.int .u8 a0_0, .string a0_1, .slice A0_2 l0_2.length c0_2, .slice A0_3 l0_3.length c0_3, .slice A0_4 l0_4.length c0_4]) (t := 37) ?hr ?_; (case hd => rfl); (case hg => rfl); (case hr => first | (go_simp; done) | (go_simp; rfl)); intro gb101 hg w12 hbox hb; have n0_ := Aside0.mk (below_step (belS HB.out) hb); have n1_ := Aside0.mk (hbox); have n2_ := Aside0.mk ((by rw [hg]; exact (below_size (belS HB.out)) : w.heap.size ≤ gb101)); have n3_ := Aside0.mk ((by rw [hg]; exact (below_size (belS HB.out)) : w.heap.size ≤ gb101)); clear HB; have HB := n0_; have BK101 := n1_; have GW101 := n2_; have GE101 := n3_; clear n0_ n1_ n2_ n3_; clear hb hbox hg; obtain ⟨hcz13_0, hcz13_1, hcz13_2, hcz13_3, hcz13_4, hfz13_0, hfz13_1, hfz13_2, hfz13_3, hfz13_4⟩ := cells_5 BK101.out))
     go_ret
     exact ⟨by first | rfl | (simp [errW_none, errW_some] <;> rfl) | (simp [*, errW_none, errW_some] <;> rfl), by repeat (first | (with_reducible first | exact HB.out | apply below_alloc | apply pw_below_drewN | apply below_drew1 | refine below_set ?_ GE101.out) | exact HB.out)⟩
  ·rw [if_neg c5] at H
   have c5b0 : (a0_0 == 2) = false := beq_eq_false_iff_ne.mpr c5
   have c5b1 : (a0_0 != 2) = true := bne_iff_ne.mpr c5
   by_cases c14 : a0_0 = 5
   ·rw [if_pos c14] at H
    have c14b0 : (a0_0 == 5) = true := beq_iff_eq.mpr c14
    have c14b1 : (a0_0 != 5) = false := bne_eq_false_iff_eq.mpr c14
    clear c14
    by_cases c15 : (l0_4.length : Int) > 0
    ·rw [if_pos c15] at H
     have c15b0 : decide (0 < (l0_4.length : Int)) = true := decide_eq_true c15
     have c15b1 : decide (0 < l0_4.length) = true := decide_eq_true (by omega)
     clear c15
     obtain rfl := Option.some.inj H
     go_enter Tryz.func167, Tryz.ntmps167
     go_wp2_with (first | ((with_reducible refine gate_dst (N := 1) rfl ?_); refine box_event ?hg (N := 1) ?hd (cs := #[.int .u8 a0_0, .string a0_1, .slice A0_2 l0_2.length c0_2, .slice A0_3 l0_3.length c0_3, .slice A0_4 l0_4.length c0_4]) (t := 37) ?hr ?_; (case hd => rfl); (case hg => rfl); (case hr => first | (go_simp; done) | (go_simp; rfl)); intro gb101 hg w16 hbox hb; have n0_ := Aside0.mk (below_step (belS HB.out) hb); have n1_ := Aside0.mk (hbox); have n2_ := Aside0.mk ((by rw [hg]; exact (below_size (belS HB.out)) : w.heap.size ≤ gb101)); have n3_ := Aside0.mk ((by rw [hg]; exact (below_size (belS HB.out)) : w.heap.size ≤ gb101)); clear HB; have HB := n0_; have BK101 := n1_; have GW101 := n2_; have GE101 := n3_; clear n0_ n1_ n2_ n3_; clear hb hbox hg; obtain ⟨hcz17_0, hcz17_1, hcz17_2, hcz17_3, hcz17_4, hfz17_0, hfz17_1, hfz17_2, hfz17_3, hfz17_4⟩ := cells_5 BK101.out))
     go_ret
     exact ⟨by first | rfl | (simp [errW_none, errW_some] <;> rfl) | (simp [*, errW_none, errW_some] <;> rfl), by repeat (first | (with_reducible first | exact HB.out | apply below_alloc | apply pw_below_drewN | apply below_drew1 | refine below_set ?_ GE101.out) | exact HB.out)⟩
    ·rw [if_neg c15] at H
     have c15b0 : decide (0 < (l0_4.length : Int)) = false := decide_eq_false c15
     have c15b1 : decide (0 < l0_4.length) = false := decide_eq_false (by omega)
     clear c15
     obtain rfl := Option.some.inj H
     go_enter Tryz.func167, Tryz.ntmps167
     go_wp2_with (first | ((with_reducible refine gate_dst (N := 1) rfl ?_); refine box_event ?hg (N := 1) ?hd (cs := #[.int .u8 a0_0, .string a0_1, .slice A0_2 l0_2.length c0_2, .slice A0_3 l0_3.length c0_3, .slice A0_4 l0_4.length c0_4]) (t := 37) ?hr ?_; (case hd => rfl); (case hg => rfl); (case hr => first | (go_simp; done) | (go_simp; rfl)); intro gb101 hg w18 hbox hb; have n0_ := Aside0.mk (below_step (belS HB.out) hb); have n1_ := Aside0.mk (hbox); have n2_ := Aside0.mk ((by rw [hg]; exact (below_size (belS HB.out)) : w.heap.size ≤ gb101)); have n3_ := Aside0.mk ((by rw [hg]; exact (below_size (belS HB.out)) : w.heap.size ≤ gb101)); clear HB; have HB := n0_; have BK101 := n1_; have GW101 := n2_; have GE101 := n3_; clear n0_ n1_ n2_ n3_; clear hb hbox hg; obtain ⟨hcz19_0, hcz19_1, hcz19_2, hcz19_3, hcz19_4, hfz19_0, hfz19_1, hfz19_2, hfz19_3, hfz19_4⟩ := cells_5 BK101.out))
     go_ret
     exact ⟨by first | rfl | (simp [errW_none, errW_some] <;> rfl) | (simp [*, errW_none, errW_some] <;> rfl), by repeat (first | (with_reducible first | exact HB.out | apply below_alloc | apply pw_below_drewN | apply below_drew1 | refine below_set ?_ GE101.out) | exact HB.out)⟩
   ·rw [if_neg c14] at H
    have c14b0 : (a0_0 == 5) = false := beq_eq_false_iff_ne.mpr c14
    have c14b1 : (a0_0 != 5) = true := bne_iff_ne.mpr c14
    by_cases c20 : a0_0 = 3
    ·rw [if_pos c20] at H
     have c20b0 : (a0_0 == 3) = true := beq_iff_eq.mpr c20
     have c20b1 : (a0_0 != 3) = false := bne_eq_false_iff_eq.mpr c20
     clear c20
     obtain rfl := Option.some.inj H
     go_enter Tryz.func167, Tryz.ntmps167
     go_wp2_with (first | ((with_reducible refine gate_dst (N := 1) rfl ?_); refine box_event ?hg (N := 1) ?hd (cs := #[.int .u8 a0_0, .string a0_1, .slice A0_2 l0_2.length c0_2, .slice A0_3 l0_3.length c0_3, .slice A0_4 l0_4.length c0_4]) (t := 37) ?hr ?_; (case hd => rfl); (case hg => rfl); (case hr => first | (go_simp; done) | (go_simp; rfl)); intro gb101 hg w21 hbox hb; have n0_ := Aside0.mk (below_step (belS HB.out) hb); have n1_ := Aside0.mk (hbox); have n2_ := Aside0.mk ((by rw [hg]; exact (below_size (belS HB.out)) : w.heap.size ≤ gb101)); have n3_ := Aside0.mk ((by rw [hg]; exact (below_size (belS HB.out)) : w.heap.size ≤ gb101)); clear HB; have HB := n0_; have BK101 := n1_; have GW101 := n2_; have GE101 := n3_; clear n0_ n1_ n2_ n3_; clear hb hbox hg; obtain ⟨hcz22_0, hcz22_1, hcz22_2, hcz22_3, hcz22_4, hfz22_0, hfz22_1, hfz22_2, hfz22_3, hfz22_4⟩ := cells_5 BK101.out))
     go_ret
     exact ⟨by first | rfl | (simp [errW_none, errW_some] <;> rfl) | (simp [*, errW_none, errW_some] <;> rfl), by repeat (first | (with_reducible first | exact HB.out | apply below_alloc | apply pw_below_drewN | apply below_drew1 | refine below_set ?_ GE101.out) | exact HB.out)⟩
    ·rw [if_neg c20] at H
     have c20b0 : (a0_0 == 3) = false := beq_eq_false_iff_ne.mpr c20
     have c20b1 : (a0_0 != 3) = true := bne_iff_ne.mpr c20
     obtain rfl := Option.some.inj H
     go_enter Tryz.func167, Tryz.ntmps167
     go_wp2_with (first | ((with_reducible refine gate_dst (N := 1) rfl ?_); refine box_event ?hg (N := 1) ?hd (cs := #[.int .u8 a0_0, .string a0_1, .slice A0_2 l0_2.length c0_2, .slice A0_3 l0_3.length c0_3, .slice A0_4 l0_4.length c0_4]) (t := 37) ?hr ?_; (case hd => rfl); (case hg => rfl); (case hr => first | (go_simp; done) | (go_simp; rfl)); intro gb101 hg w23 hbox hb; have n0_ := Aside0.mk (below_step (belS HB.out) hb); have n1_ := Aside0.mk (hbox); have n2_ := Aside0.mk ((by rw [hg]; exact (below_size (belS HB.out)) : w.heap.size ≤ gb101)); have n3_ := Aside0.mk ((by rw [hg]; exact (below_size (belS HB.out)) : w.heap.size ≤ gb101)); clear HB; have HB := n0_; have BK101 := n1_; have GW101 := n2_; have GE101 := n3_; clear n0_ n1_ n2_ n3_; clear hb hbox hg; obtain ⟨hcz24_0, hcz24_1, hcz24_2, hcz24_3, hcz24_4, hfz24_0, hfz24_1, hfz24_2, hfz24_3, hfz24_4⟩ := cells_5 BK101.out))
     go_ret
     exact ⟨by first | rfl | (simp [errW_none, errW_some] <;> rfl) | (simp [*, errW_none, errW_some] <;> rfl), by repeat (first | (with_reducible first | exact HB.out | apply below_alloc | apply pw_below_drewN | apply below_drew1 | refine below_set ?_ GE101.out) | exact HB.out)⟩
def scan_words.f (a0 : Int) : Option (ByteArray) := if a0 = 3 then (some (⟨#[105, 102]⟩ : ByteArray)) else (if a0 = 5 then (some (⟨#[101, 97, 99, 104]⟩ : ByteArray)) else (if a0 = 4 then (some (⟨#[101, 108, 115, 101]⟩ : ByteArray)) else (if a0 = 6 then (some (⟨#[101, 110, 100]⟩ : ByteArray)) else (some (⟨#[]⟩ : ByteArray)))))
set_option maxHeartbeats 8000000 in
set_option maxRecDepth 100000 in
theorem scan_words.calls (a0 : Int) (r : ByteArray) (w : World) (h : scan_words.f a0 = some r) :
  Calls Tryz.prog 173 #[.int .u8 a0] w fun e w' => e = .returned (.string r) ∧ Drawn0 w w' := by
 have H : (if a0 = 3 then (some (⟨#[105, 102]⟩ : ByteArray)) else (if a0 = 5 then (some (⟨#[101, 97, 99, 104]⟩ : ByteArray)) else (if a0 = 4 then (some (⟨#[101, 108, 115, 101]⟩ : ByteArray)) else (if a0 = 6 then (some (⟨#[101, 110, 100]⟩ : ByteArray)) else (some (⟨#[]⟩ : ByteArray)))))) = some r := h
 clear h
 by_cases c2 : a0 = 3
 ·rw [if_pos c2] at H
  have c2b0 : (a0 == 3) = true := beq_iff_eq.mpr c2
  have c2b1 : (a0 != 3) = false := bne_eq_false_iff_eq.mpr c2
  clear c2
  obtain rfl := Option.some.inj H
  go_enter Tryz.func173, Tryz.ntmps173
  go_wp2
  go_ret
  exact ⟨by first | rfl | (simp; done) | (simp [*]; done), by repeat (first | exact Drawn0.refl _ | apply Drawn0.step)⟩
 ·rw [if_neg c2] at H
  have c2b0 : (a0 == 3) = false := beq_eq_false_iff_ne.mpr c2
  have c2b1 : (a0 != 3) = true := bne_iff_ne.mpr c2
  by_cases c3 : a0 = 5
  ·rw [if_pos c3] at H
   have c3b0 : (a0 == 5) = true := beq_iff_eq.mpr c3
   have c3b1 : (a0 != 5) = false := bne_eq_false_iff_eq.mpr c3
   clear c3
   obtain rfl := Option.some.inj H
   go_enter Tryz.func173, Tryz.ntmps173
   go_wp2
   go_ret
   exact ⟨by first | rfl | (simp; done) | (simp [*]; done), by repeat (first | exact Drawn0.refl _ | apply Drawn0.step)⟩
  ·rw [if_neg c3] at H
   have c3b0 : (a0 == 5) = false := beq_eq_false_iff_ne.mpr c3
   have c3b1 : (a0 != 5) = true := bne_iff_ne.mpr c3
   by_cases c4 : a0 = 4
   ·rw [if_pos c4] at H
    have c4b0 : (a0 == 4) = true := beq_iff_eq.mpr c4
    have c4b1 : (a0 != 4) = false := bne_eq_false_iff_eq.mpr c4
    clear c4
    obtain rfl := Option.some.inj H
    go_enter Tryz.func173, Tryz.ntmps173
    go_wp2
    go_ret
    exact ⟨by first | rfl | (simp; done) | (simp [*]; done), by repeat (first | exact Drawn0.refl _ | apply Drawn0.step)⟩
   ·rw [if_neg c4] at H
    have c4b0 : (a0 == 4) = false := beq_eq_false_iff_ne.mpr c4
    have c4b1 : (a0 != 4) = true := bne_iff_ne.mpr c4
    by_cases c5 : a0 = 6
    ·rw [if_pos c5] at H
     have c5b0 : (a0 == 6) = true := beq_iff_eq.mpr c5
     have c5b1 : (a0 != 6) = false := bne_eq_false_iff_eq.mpr c5
     clear c5
     obtain rfl := Option.some.inj H
     go_enter Tryz.func173, Tryz.ntmps173
     go_wp2
     go_ret
     exact ⟨by first | rfl | (simp; done) | (simp [*]; done), by repeat (first | exact Drawn0.refl _ | apply Drawn0.step)⟩
    ·rw [if_neg c5] at H
     have c5b0 : (a0 == 6) = false := beq_eq_false_iff_ne.mpr c5
     have c5b1 : (a0 != 6) = true := bne_iff_ne.mpr c5
     obtain rfl := Option.some.inj H
     go_enter Tryz.func173, Tryz.ntmps173
     go_wp2
     go_ret
     exact ⟨by first | rfl | (simp; done) | (simp [*]; done), by repeat (first | exact Drawn0.refl _ | apply Drawn0.step)⟩
def scan_own.l0 : Nat → ByteArray → Int → Option (Int)
 | 0, _, _ => none
 | k + 1, x0, x3 => if x3 < 7 then ((scan_words.f x3).bind fun t102 => (if t102.toList = x0.toList then (some x3) else (scan_own.l0 k x0 ((x3 + 1) % 256)))) else (some 2)
def scan_own.f (k : Nat) (a0 : ByteArray) : Option (Int) := scan_own.l0 k a0 3
theorem scan_own.mono_l : ∀ k, (∀ y0 y1, LeO (scan_own.l0 k y0 y1) (scan_own.l0 (k + 1) y0 y1))
 | 0 => fun _ _ r h => by simp [scan_own.l0] at h
 | k + 1 => by
  have ih0 := scan_own.mono_l k
  ·intro y0 y1
   unfold scan_own.l0
   repeat' first
   | (with_reducible exact ih0 _ _)
   | (with_reducible exact LeO.refl _)
   | (with_reducible exact LeO.none _)
   | (with_reducible refine LeO.ite ?_ ?_)
   | (with_reducible refine LeO.bind ?_ (fun _ => ?_))
   | exact ih0 _ _
   | exact LeO.none _
   | refine LeO.ite ?_ ?_
   | refine LeO.bind ?_ (fun _ => ?_)
set_option maxHeartbeats 8000000 in
set_option maxRecDepth 100000 in
theorem scan_own.calls (k : Nat) (a0 : ByteArray) (r : Int) (w : World) (h : scan_own.f k a0 = some r) :
  Calls Tryz.prog 142 #[.string a0] w fun e w' => e = .returned (.int .u8 r) ∧ Drawn0 w w' := by
 have H : (scan_own.l0 k a0 3) = some r := h
 clear h
 have H' := Aside0.mk H
 clear H
 go_enter Tryz.func142, Tryz.ntmps142
 go_wp2
 go_loopg [3] k (fun kq v3 w' => ∃ (x3_1 : Int), v3 = .int .u8 x3_1 ∧ Aside0 (scan_own.l0 kq a0 x3_1 = some r) ∧ Aside0 (kq ≤ k) ∧ Drawn0 w w')
 case atStart => exact ⟨(3), (by first | rfl | (simp; done) | (simp [*]; done)), H', ⟨Nat.le_refl _⟩, by repeat (first | exact Drawn0.refl _ | apply Drawn0.step)⟩
 case round =>
  clear H'
  try clear c1
  obtain ⟨x3_1, rfl, HA, HK1, ⟨m1, rfl⟩⟩ := hrel
  cases gk with
  | zero => exact absurd HA.out (by simp [scan_own.l0])
  | succ k1 =>
   have H := HA.out
   clear HA
   simp only [scan_own.l0] at H
   by_cases c2 : x3_1 < 7
   ·rw [if_pos c2] at H
    have c2b0 : decide (x3_1 < 7) = true := decide_eq_true c2
    clear c2
    replace H := Option.bind_eq_some_iff.mp H
    obtain ⟨t102, A30, H⟩ := H
    replace H : (if t102.toList = a0.toList then (some x3_1) else (scan_own.l0 k1 a0 ((x3_1 + 1) % 256))) = some r := H
    have A3 := Aside0.mk A30
    clear A30
    by_cases c4 : t102.toList = a0.toList
    ·rw [if_pos c4] at H
     have c4b0 : (t102.toList == a0.toList) = true := beq_iff_eq.mpr c4
     have c4b1 : (t102.toList != a0.toList) = false := bne_eq_false_iff_eq.mpr c4
     clear c4
     obtain rfl := Option.some.inj H
     go_wp2_with (first | ((with_reducible refine gate_callee (f := 173) rfl ?_); refine goesL_ (some 9) rfl rfl Tryz.func173 (by kernel_rfl) rfl #[.int .u8 x3_1] rfl (by (try simp only [List.map_toArray, List.map_cons, List.map_nil]); first | done | rfl) ?_; (with_reducible refine (scan_words.calls x3_1 t102 _ A3.out).mono ?_); rintro e w' ⟨rfl, ⟨nd, rfl⟩⟩; refine ⟨_, rfl, ?_⟩))
     go_ret
     exact ⟨by first | rfl | (simp; done) | (simp [*]; done), by repeat (first | exact Drawn0.refl _ | apply Drawn0.step)⟩
    ·rw [if_neg c4] at H
     have c4b0 : (t102.toList == a0.toList) = false := beq_eq_false_iff_ne.mpr c4
     have c4b1 : (t102.toList != a0.toList) = true := bne_iff_ne.mpr c4
     have H' := Aside0.mk H
     clear H
     go_wp2_with (first | ((with_reducible refine gate_callee (f := 173) rfl ?_); refine goesL_ (some 9) rfl rfl Tryz.func173 (by kernel_rfl) rfl #[.int .u8 x3_1] rfl (by (try simp only [List.map_toArray, List.map_cons, List.map_nil]); first | done | rfl) ?_; (with_reducible refine (scan_words.calls x3_1 t102 _ A3.out).mono ?_); rintro e w' ⟨rfl, ⟨nd, rfl⟩⟩; refine ⟨_, rfl, ?_⟩))
     go_roundg k1
     case measure => have := HK1.out; omega
     case rel => exact ⟨((x3_1 + 1) % 256), (by first | rfl | (simp; done) | (simp [*]; done)), H', ⟨by have := HK1.out; omega⟩, by repeat (first | exact Drawn0.refl _ | apply Drawn0.step)⟩
   ·rw [if_neg c2] at H
    have c2b0 : decide (x3_1 < 7) = false := decide_eq_false c2
    clear c2
    obtain rfl := Option.some.inj H
    go_wp2
    go_ret
    exact ⟨by first | rfl | (simp; done) | (simp [*]; done), by repeat (first | exact Drawn0.refl _ | apply Drawn0.step)⟩
mutual
def value_Name.j0 : Nat → ByteArray → Bool → Option (Int)
 | 0, _, _ => none
 | k + 1, x0, x11 => if x11 = true then (some 13) else (value_Name.l0 k x0 (x0.size : Int) 0)
def value_Name.l0 : Nat → ByteArray → Int → Int → Option (Int)
 | 0, _, _, _ => none
 | k + 1, x0, x13, x14 => if x14 < x13 then (if 0 ≤ x14 then (if x14 < (x0.size : Int) then (if (bt x0 x14) ≥ 97 then (value_Name.j2 k x0 x14 (bt x0 x14) x13 x14 (decide ((bt x0 x14) ≤ 122))) else (value_Name.j2 k x0 x14 (bt x0 x14) x13 x14 false)) else (none)) else (none)) else (some 0)
def value_Name.j2 : Nat → ByteArray → Int → Int → Int → Int → Bool → Option (Int)
 | 0, _, _, _, _, _, _ => none
 | k + 1, x0, x3, x4, x13, x14, x20 => if x20 = true then (value_Name.l0 k x0 x13 (wrap64 (x14 + 1))) else (if x3 > 0 then (if x4 = 95 then (value_Name.l0 k x0 x13 (wrap64 (x14 + 1))) else (if x4 ≥ 48 then (if x4 ≤ 57 then (value_Name.l0 k x0 x13 (wrap64 (x14 + 1))) else (some 13)) else (some 13))) else (some 13))
end
def value_Name.f (k : Nat) (a0 : ByteArray) : Option (Int) := if a0.toList = ([] : List UInt8) then (value_Name.j0 k a0 true) else (value_Name.j0 k a0 (decide ((a0.size : Int) > 32)))
theorem value_Name.mono_l : ∀ k, (∀ y0 y1, LeO (value_Name.j0 k y0 y1) (value_Name.j0 (k + 1) y0 y1)) ∧ (∀ y0 y1 y2, LeO (value_Name.l0 k y0 y1 y2) (value_Name.l0 (k + 1) y0 y1 y2)) ∧ (∀ y0 y1 y2 y3 y4 y5, LeO (value_Name.j2 k y0 y1 y2 y3 y4 y5) (value_Name.j2 (k + 1) y0 y1 y2 y3 y4 y5))
 | 0 => ⟨fun _ _ r h => by simp [value_Name.j0] at h, fun _ _ _ r h => by simp [value_Name.l0] at h, fun _ _ _ _ _ _ r h => by simp [value_Name.j2] at h⟩
 | k + 1 => by
  obtain ⟨ih0, ih1, ih2⟩ := value_Name.mono_l k
  refine ⟨?_, ?_, ?_⟩
  ·intro y0 y1
   unfold value_Name.j0
   repeat' first
   | (with_reducible exact ih0 _ _)
   | (with_reducible exact ih1 _ _ _)
   | (with_reducible exact ih2 _ _ _ _ _ _)
   | (with_reducible exact LeO.refl _)
   | (with_reducible exact LeO.none _)
   | (with_reducible refine LeO.ite ?_ ?_)
   | (with_reducible refine LeO.bind ?_ (fun _ => ?_))
   | exact ih0 _ _
   | exact ih1 _ _ _
   | exact ih2 _ _ _ _ _ _
   | exact LeO.none _
   | refine LeO.ite ?_ ?_
   | refine LeO.bind ?_ (fun _ => ?_)
  ·intro y0 y1 y2
   unfold value_Name.l0
   repeat' first
   | (with_reducible exact ih0 _ _)
   | (with_reducible exact ih1 _ _ _)
   | (with_reducible exact ih2 _ _ _ _ _ _)
   | (with_reducible exact LeO.refl _)
   | (with_reducible exact LeO.none _)
   | (with_reducible refine LeO.ite ?_ ?_)
   | (with_reducible refine LeO.bind ?_ (fun _ => ?_))
   | exact ih0 _ _
   | exact ih1 _ _ _
   | exact ih2 _ _ _ _ _ _
   | exact LeO.none _
   | refine LeO.ite ?_ ?_
   | refine LeO.bind ?_ (fun _ => ?_)
  ·intro y0 y1 y2 y3 y4 y5
   unfold value_Name.j2
   repeat' first
   | (with_reducible exact ih0 _ _)
   | (with_reducible exact ih1 _ _ _)
   | (with_reducible exact ih2 _ _ _ _ _ _)
   | (with_reducible exact LeO.refl _)
   | (with_reducible exact LeO.none _)
   | (with_reducible refine LeO.ite ?_ ?_)
   | (with_reducible refine LeO.bind ?_ (fun _ => ?_))
   | exact ih0 _ _
   | exact ih1 _ _ _
   | exact ih2 _ _ _ _ _ _
   | exact LeO.none _
   | refine LeO.ite ?_ ?_
   | refine LeO.bind ?_ (fun _ => ?_)
theorem value_Name.mono : ∀ a0 k, LeO (value_Name.f k a0) (value_Name.f (k + 1) a0) := by
 intro a0 k
 obtain ⟨ih0, ih1, ih2⟩ := value_Name.mono_l k
 unfold value_Name.f
 repeat' first
   | (with_reducible exact ih0 _ _)
   | (with_reducible exact ih1 _ _ _)
   | (with_reducible exact ih2 _ _ _ _ _ _)
   | (with_reducible exact LeO.refl _)
   | (with_reducible exact LeO.none _)
   | (with_reducible refine LeO.ite ?_ ?_)
   | (with_reducible refine LeO.bind ?_ (fun _ => ?_))
   | exact ih0 _ _
   | exact ih1 _ _ _
   | exact ih2 _ _ _ _ _ _
   | exact LeO.none _
   | refine LeO.ite ?_ ?_
   | refine LeO.bind ?_ (fun _ => ?_)
set_option maxHeartbeats 8000000 in
set_option maxRecDepth 100000 in
theorem value_Name.calls (k : Nat) (a0 : ByteArray) (r : Int) (w : World) (h : value_Name.f k a0 = some r) :
  Calls Tryz.prog 179 #[.string a0] w fun e w' => e = .returned (.int .i64 r) ∧ Drawn0 w w' := by
 have H : (if a0.toList = ([] : List UInt8) then (value_Name.j0 k a0 true) else (value_Name.j0 k a0 (decide ((a0.size : Int) > 32)))) = some r := h
 clear h
 have HC2 := Aside0.mk H
 clear H
 go_enter Tryz.func179, Tryz.ntmps179
 go_upto_region 1 with (fail)
 go_cut [11] (fun v11 wc => ∃ (kq : Nat) (x11_1 : Bool), v11 = .bool x11_1 ∧ Aside0 (value_Name.j0 kq a0 x11_1 = some r) ∧ Aside0 (kq ≤ k) ∧ Drawn0 w wc)
 case first =>
  have H := HC2.out
  clear HC2
  by_cases c3 : a0.toList = ([] : List UInt8)
  ·rw [if_pos c3] at H
   have c3b0 : (a0.toList == ([] : List UInt8)) = true := beq_iff_eq.mpr c3
   have c3b1 : (a0.toList != ([] : List UInt8)) = false := bne_eq_false_iff_eq.mpr c3
   clear c3
   (first | rw [c3b0] | (simp only [i64_w, i32_w]; rw [c3b0]) | skip)
   have H' := Aside0.mk H
   clear H
   go_wp2
   go_meet
   case rel => exact ⟨_, (true), (by first | rfl | (simp; done) | (simp [*]; done)), H', ⟨by first | omega | exact Nat.le_refl _⟩, by repeat (first | exact Drawn0.refl _ | apply Drawn0.step)⟩
  ·rw [if_neg c3] at H
   have c3b0 : (a0.toList == ([] : List UInt8)) = false := beq_eq_false_iff_ne.mpr c3
   have c3b1 : (a0.toList != ([] : List UInt8)) = true := bne_iff_ne.mpr c3
   (first | rw [c3b0] | (simp only [i64_w, i32_w]; rw [c3b0]) | skip)
   have H' := Aside0.mk H
   clear H
   go_wp2
   go_meet
   case rel => exact ⟨_, (decide ((a0.size : Int) > 32)), (by first | rfl | (simp; done) | (simp [*]; done)), H', ⟨by first | omega | exact Nat.le_refl _⟩, by repeat (first | exact Drawn0.refl _ | apply Drawn0.step)⟩
 case rest =>
  clear HC2
  try clear c1
  try clear p2
  try clear c3
  try clear c3b0
  try clear c3b1
  obtain ⟨kq, x11_1, rfl, HA, HJ1, ⟨mc1, rfl⟩⟩ := hcut
  cases kq with
  | zero => exact absurd HA.out (by simp [value_Name.j0])
  | succ kj1 =>
   have H := HA.out
   clear HA
   simp only [value_Name.j0] at H
   by_cases c4 : x11_1 = true
   ·subst c4
    have H1 : (some 13) = some r := by rw [if_pos rfl] at H; exact H
    clear H
    have H := H1
    clear H1
    obtain rfl := Option.some.inj H
    go_wp2
    go_ret
    exact ⟨by first | rfl | (simp; done) | (simp [*]; done), by repeat (first | exact Drawn0.refl _ | apply Drawn0.step)⟩
   ·replace c4 := Bool.eq_false_iff.mpr c4
    subst c4
    have H1 : (value_Name.l0 kj1 a0 (a0.size : Int) 0) = some r := by rw [if_neg (show ¬ (false = true) by decide)] at H; exact H
    clear H
    have H := H1
    clear H1
    have H' := Aside0.mk H
    clear H
    go_wp2
    go_loopg [14] kj1 (fun kq v14 w' => ∃ (x14_2 : Int), v14 = .int .i64 x14_2 ∧ Aside0 (value_Name.l0 kq a0 (a0.size : Int) x14_2 = some r) ∧ Aside0 (kq ≤ kj1) ∧ Drawn0 w w')
    case atStart => exact ⟨(0), (by first | rfl | (simp; done) | (simp [*]; done)), H', ⟨Nat.le_refl _⟩, by repeat (first | exact Drawn0.refl _ | apply Drawn0.step)⟩
    case round =>
     clear H'
     try clear c1
     try clear p2
     try clear c3
     try clear c3b0
     try clear c3b1
     try clear c4
     try clear p2
     obtain ⟨x14_2, rfl, HA, HK2, ⟨m2, rfl⟩⟩ := hrel
     cases gk with
     | zero => exact absurd HA.out (by simp [value_Name.l0])
     | succ k2 =>
      have H := HA.out
      clear HA
      simp only [value_Name.l0] at H
      by_cases c5 : x14_2 < (a0.size : Int)
      ·rw [if_pos c5] at H
       have c5b0 : decide (x14_2 < (a0.size : Int)) = true := decide_eq_true c5
       clear c5
       by_cases c6 : 0 ≤ x14_2
       ·rw [if_pos c6] at H
        have c6b0 : decide (0 ≤ x14_2) = true := decide_eq_true c6
        clear c6
        by_cases c7 : x14_2 < (a0.size : Int)
        ·rw [if_pos c7] at H
         have c7b0 : decide (x14_2 < (a0.size : Int)) = true := decide_eq_true c7
         clear c7
         have HC9 := Aside0.mk H
         clear H
         have p8 : 0 ≤ (x14_2 : Int) := of_decide_eq_true (by first | (with_reducible assumption) | assumption)
         have q8 : x14_2 < (a0.size : Int) := of_decide_eq_true (by first | (with_reducible assumption) | assumption)
         have hx8 := bt_at a0 x14_2
         replace p8 := eq_true p8
         replace q8 := eq_true q8
         go_upto_region 8 with (fail)
         go_cut [20] (fun v20 wc => ∃ (kq : Nat) (x20_8 : Bool), v20 = .bool x20_8 ∧ Aside0 (value_Name.j2 kq a0 x14_2 (bt a0 x14_2) (a0.size : Int) x14_2 x20_8 = some r) ∧ Aside0 (kq ≤ k2) ∧ Drawn0 w wc)
         case first =>
          have H := HC9.out
          clear HC9
          by_cases c10 : (bt a0 x14_2) ≥ 97
          ·rw [if_pos c10] at H
           have c10b0 : decide (97 ≤ (bt a0 x14_2)) = true := decide_eq_true c10
           clear c10
           (first | rw [c10b0] | (simp only [i64_w, i32_w]; rw [c10b0]) | skip)
           have H' := Aside0.mk H
           clear H
           go_wp2
           go_meet
           case rel => exact ⟨_, (decide ((bt a0 x14_2) ≤ 122)), (by first | rfl | (simp; done) | (simp [*]; done)), H', ⟨by have := HJ1.out; have := HK2.out; first | omega | exact Nat.le_refl _⟩, by repeat (first | exact Drawn0.refl _ | apply Drawn0.step)⟩
          ·rw [if_neg c10] at H
           have c10b0 : decide (97 ≤ (bt a0 x14_2)) = false := decide_eq_false c10
           clear c10
           (first | rw [c10b0] | (simp only [i64_w, i32_w]; rw [c10b0]) | skip)
           have H' := Aside0.mk H
           clear H
           go_wp2
           go_meet
           case rel => exact ⟨_, (false), (by first | rfl | (simp; done) | (simp [*]; done)), H', ⟨by have := HJ1.out; have := HK2.out; first | omega | exact Nat.le_refl _⟩, by repeat (first | exact Drawn0.refl _ | apply Drawn0.step)⟩
         case rest =>
          clear HC9
          try clear c1
          try clear p2
          try clear c3
          try clear c3b0
          try clear c3b1
          try clear c4
          try clear c5
          try clear c5b0
          try clear c6
          try clear c6b0
          try clear c7
          try clear c7b0
          try clear p8
          try clear q8
          try clear hx8
          try clear c10
          try clear c10b0
          try clear p2
          try clear p8
          try clear q8
          obtain ⟨kq, x20_8, rfl, HA, HJ8, ⟨mc8, rfl⟩⟩ := hcut
          cases kq with
          | zero => exact absurd HA.out (by simp [value_Name.j2])
          | succ kj8 =>
           have H := HA.out
           clear HA
           simp only [value_Name.j2] at H
           by_cases c11 : x20_8 = true
           ·subst c11
            have H1 : (value_Name.l0 kj8 a0 (a0.size : Int) (wrap64 (x14_2 + 1))) = some r := by rw [if_pos rfl] at H; exact H
            clear H
            have H := H1
            clear H1
            have H' := Aside0.mk H
            clear H
            go_wp2
            go_roundg kj8
            case measure => have := HJ1.out; have := HK2.out; have := HJ8.out; omega
            case rel => exact ⟨(wrap64 (x14_2 + 1)), (by first | rfl | (simp; done) | (simp [*]; done)), H', ⟨by have := HJ1.out; have := HK2.out; have := HJ8.out; omega⟩, by repeat (first | exact Drawn0.refl _ | apply Drawn0.step)⟩
           ·replace c11 := Bool.eq_false_iff.mpr c11
            subst c11
            rw [if_neg (show ¬ (false = true) by decide)] at H
            by_cases c12 : x14_2 > 0
            ·rw [if_pos c12] at H
             have c12b0 : decide (0 < x14_2) = true := decide_eq_true c12
             clear c12
             by_cases c13 : (bt a0 x14_2) = 95
             ·rw [if_pos c13] at H
              have c13b0 : ((bt a0 x14_2) == 95) = true := beq_iff_eq.mpr c13
              have c13b1 : ((bt a0 x14_2) != 95) = false := bne_eq_false_iff_eq.mpr c13
              clear c13
              have H' := Aside0.mk H
              clear H
              go_wp2
              go_roundg kj8
              case measure => have := HJ1.out; have := HK2.out; have := HJ8.out; omega
              case rel => exact ⟨(wrap64 (x14_2 + 1)), (by first | rfl | (simp; done) | (simp [*]; done)), H', ⟨by have := HJ1.out; have := HK2.out; have := HJ8.out; omega⟩, by repeat (first | exact Drawn0.refl _ | apply Drawn0.step)⟩
             ·rw [if_neg c13] at H
              have c13b0 : ((bt a0 x14_2) == 95) = false := beq_eq_false_iff_ne.mpr c13
              have c13b1 : ((bt a0 x14_2) != 95) = true := bne_iff_ne.mpr c13
              by_cases c14 : (bt a0 x14_2) ≥ 48
              ·rw [if_pos c14] at H
               have c14b0 : decide (48 ≤ (bt a0 x14_2)) = true := decide_eq_true c14
               clear c14
               by_cases c15 : (bt a0 x14_2) ≤ 57
               ·rw [if_pos c15] at H
                have c15b0 : decide ((bt a0 x14_2) ≤ 57) = true := decide_eq_true c15
                clear c15
                have H' := Aside0.mk H
                clear H
                go_wp2
                go_roundg kj8
                case measure => have := HJ1.out; have := HK2.out; have := HJ8.out; omega
                case rel => exact ⟨(wrap64 (x14_2 + 1)), (by first | rfl | (simp; done) | (simp [*]; done)), H', ⟨by have := HJ1.out; have := HK2.out; have := HJ8.out; omega⟩, by repeat (first | exact Drawn0.refl _ | apply Drawn0.step)⟩
               ·rw [if_neg c15] at H
                have c15b0 : decide ((bt a0 x14_2) ≤ 57) = false := decide_eq_false c15
                clear c15
                obtain rfl := Option.some.inj H
                go_wp2
                go_ret
                exact ⟨by first | rfl | (simp; done) | (simp [*]; done), by repeat (first | exact Drawn0.refl _ | apply Drawn0.step)⟩
              ·rw [if_neg c14] at H
               have c14b0 : decide (48 ≤ (bt a0 x14_2)) = false := decide_eq_false c14
               clear c14
               obtain rfl := Option.some.inj H
               go_wp2
               go_ret
               exact ⟨by first | rfl | (simp; done) | (simp [*]; done), by repeat (first | exact Drawn0.refl _ | apply Drawn0.step)⟩
            ·rw [if_neg c12] at H
             have c12b0 : decide (0 < x14_2) = false := decide_eq_false c12
             clear c12
             obtain rfl := Option.some.inj H
             go_wp2
             go_ret
             exact ⟨by first | rfl | (simp; done) | (simp [*]; done), by repeat (first | exact Drawn0.refl _ | apply Drawn0.step)⟩
        ·rw [if_neg c7] at H
         exact absurd H (by simp)
       ·rw [if_neg c6] at H
        exact absurd H (by simp)
      ·rw [if_neg c5] at H
       have c5b0 : decide (x14_2 < (a0.size : Int)) = false := decide_eq_false c5
       clear c5
       obtain rfl := Option.some.inj H
       go_wp2
       go_ret
       exact ⟨by first | rfl | (simp; done) | (simp [*]; done), by repeat (first | exact Drawn0.refl _ | apply Drawn0.step)⟩
end Go.Proofs.YtniibpndgcndbaaGreatDoor.PB
namespace Go.Proofs.YtniibpndgcndbaaGreatDoor.PB
open Go.RowKit Go.Proofs.YtniibpndgcndbaaGreatDoorW.PrintWords Go.Proofs.YtniibpndgcndbaaGreatDoorW.PrintLast Go.Proofs.YtniibpndgcndbaaGreatDoorW.PrintMore Go.Proofs.YtniibpndgcndbaaGreatDoor.Short
attribute [local go_sem] max2_int min2_int max_two min_two max_three min_three max_four min_four   -- for this text's walks alone
set_option linter.unusedVariables false
set_option linter.unusedSimpArgs false
def bellmanref09_Named.l0 : Nat → ByteArray → Int → Option (Bool)
 | 0, _, _ => none
 | k + 1, x0, x3 => if x3 < (x0.size : Int) then (if 0 ≤ x3 then (if (bt x0 x3) ≥ 97 then (if (bt x0 x3) ≤ 122 then (bellmanref09_Named.l0 k x0 (wrap64 (x3 + 1))) else (if x3 = 0 then (some false) else (if (bt x0 x3) = 95 then (bellmanref09_Named.l0 k x0 (wrap64 (x3 + 1))) else (if (bt x0 x3) < 48 then (some false) else (if (bt x0 x3) > 57 then (some false) else (bellmanref09_Named.l0 k x0 (wrap64 (x3 + 1)))))))) else (if x3 = 0 then (some false) else (if (bt x0 x3) = 95 then (bellmanref09_Named.l0 k x0 (wrap64 (x3 + 1))) else (if (bt x0 x3) < 48 then (some false) else (if (bt x0 x3) > 57 then (some false) else (bellmanref09_Named.l0 k x0 (wrap64 (x3 + 1)))))))) else (none)) else (if x0.toList = ([] : List UInt8) then (some false) else (some (decide ((x0.size : Int) ≤ 32))))
def bellmanref09_Named.f (k : Nat) (a0 : ByteArray) : Option (Bool) := bellmanref09_Named.l0 k a0 0
end Go.Proofs.YtniibpndgcndbaaGreatDoor.PB
namespace Go.Proofs.YtniibpndgcndbaaGreatDoor.PB
open Go.RowKit Go.Proofs.YtniibpndgcndbaaGreatDoorW.PrintWords Go.Proofs.YtniibpndgcndbaaGreatDoorW.PrintLast Go.Proofs.YtniibpndgcndbaaGreatDoorW.PrintMore Go.Proofs.YtniibpndgcndbaaGreatDoor.Short
attribute [local go_sem] max2_int min2_int max_two min_two max_three min_three max_four min_four   -- for this text's walks alone
set_option linter.unusedVariables false
set_option linter.unusedSimpArgs false
def IsS141 (w0 W : World) (g : Nat) (f0 : List (S101)) : Prop := ∃ A0 c0, W.heap[g]? = some (.cells #[.slice A0 f0.length c0] 141 (0, 0)) ∧ w0.heap.size ≤ g ∧ Kd.C k101 w0 A0 f0.length f0
theorem IsS141.grown {w0 W : World} {g : Nat} {f0 : List (S101)} {W1 : World} {row : Option Nat} (h : IsS141 w0 W g f0) (hw : W.grownBy W1 row) (hne : some g ≠ row) : IsS141 w0 W1 g f0 := by
 obtain ⟨A0, c0, hb, hg, hr0⟩ := h
 exact ⟨A0, c0, blk_grown hb hw hne, hg, hr0⟩
theorem IsS141.fresh {w0 W : World} {g : Nat} {f0 : List (S101)} (h : IsS141 w0 W g f0) : ∀ k, W.heap.size ≤ k → k ≠ g := by
 obtain ⟨A0, c0, hb, hg, hr0⟩ := h
 exact Kd.freshB hb
theorem IsS141.kept {w0 W : World} {g : Nat} {f0 : List (S101)} {W1 : World} {S : Nat → Prop} (h : IsS141 w0 W g f0) (hk : Kept W W1 S) (hne : ¬ S g) : IsS141 w0 W1 g f0 := by
 obtain ⟨A0, c0, hb, hg, hr0⟩ := h
 exact ⟨A0, c0, blk_kept hb hk hne, hg, hr0⟩
theorem IsS141.below {w0 W : World} {g : Nat} {f0 : List (S101)} {W1 : World} (h : IsS141 w0 W g f0) (hw : Below W.heap.size W W1) : IsS141 w0 W1 g f0 := h.grown (grown_of_below hw none) (by simp)
theorem IsS141.alloc {w0 W : World} {g : Nat} {f0 : List (S101)} (h : IsS141 w0 W g f0) (o : Obj) : IsS141 w0 (W.alloc o) g f0 := h.below (below_alloc (Below.refl _ _) o)
theorem IsS141.drewN {w0 W : World} {g : Nat} {f0 : List (S101)} (h : IsS141 w0 W g f0) (m : Nat) : IsS141 w0 (W.drewN m) g f0 := h
theorem IsS141.drew {w0 W : World} {g : Nat} {f0 : List (S101)} (h : IsS141 w0 W g f0) : IsS141 w0 W.drew g f0 := h
theorem IsS141.at_ {w0 W : World} {g : Nat} {f0 : List (S101)} {w' : World} {m : Nat} (hq : W.drewN m = w') (h : IsS141 w0 W g f0) : IsS141 w0 w' g f0 := by subst hq; exact IsS141.drewN h m
theorem IsS141.apart {w0 W : World} {g : Nat} {f0 : List (S101)} {α : Type} {d : Kd α} {e : Nat} {base : Nat} {ok : Nat → Prop} {v : Value} {xs : List α} (h : IsS141 w0 W g f0) (ho : d.R e W base ok v xs) (ht : ∀ q, q ∈ e :: d.E → q ≠ 141) : d.R e W base (fun k => ok k ∧ k ≠ g) v xs := by
 obtain ⟨A0, c0, hb, hg, hr0⟩ := h
 exact Kd.R_types ho hb ht
theorem IsS141.own_ne {w0 W : World} {g : Nat} {f0 : List (S101)} {α : Type} {d : Kd α} {e : Nat} {base : Nat} {ok : Nat → Prop} {v : Value} {xs : List α} (h : IsS141 w0 W g f0) (ho : d.R e W base ok v xs) (ht : e ≠ 141) : some g ≠ v.ownBlock := by
 obtain ⟨A0, c0, hb, hg, hr0⟩ := h
 exact Kd.R_ne ho hb ht
theorem IsS141.lt {w0 W : World} {g : Nat} {f0 : List (S101)} (h : IsS141 w0 W g f0) : g < W.heap.size := by
 obtain ⟨A0, c0, hb, hg, hr0⟩ := h
 exact blk_lt hb
theorem IsS141.ge {w0 W : World} {g : Nat} {f0 : List (S101)} (h : IsS141 w0 W g f0) : w0.heap.size ≤ g := by
 obtain ⟨A0, c0, hb, hg, hr0⟩ := h
 exact hg
end Go.Proofs.YtniibpndgcndbaaGreatDoor.PB
namespace Go.Proofs.YtniibpndgcndbaaGreatDoor.PB
open Go.RowKit Go.Proofs.YtniibpndgcndbaaGreatDoorW.PrintWords Go.Proofs.YtniibpndgcndbaaGreatDoorW.PrintLast Go.Proofs.YtniibpndgcndbaaGreatDoorW.PrintMore Go.Proofs.YtniibpndgcndbaaGreatDoor.Short
attribute [local go_sem] leq_spell
attribute [local go_sem] max2_int min2_int max_two min_two max_three min_three max_four min_four   -- for this text's walks alone
set_option linter.unusedVariables false
set_option linter.unusedSimpArgs false
def value_rising.l0 : Nat → List ByteArray → List ByteArray → Int → Int → Option (Bool)
 | 0, _, _, _, _ => none
 | k + 1, x0, x5, x6, x7 => if x7 < x6 then (if 0 ≤ x7 then (if x7 < (x5.length : Int) then ((value_Name.f k (rdOf ByteArray.empty x5 x7)).bind fun t188 => (if t188 = 0 then (if x7 > 0 then (if 0 ≤ (wrap64 (x7 - 1)) then (if (wrap64 (x7 - 1)) < (x0.length : Int) then (if (Op.bytesLess ((rdOf ByteArray.empty x0 (wrap64 (x7 - 1))).toList) ((rdOf ByteArray.empty x5 x7).toList)) = true then (value_rising.l0 k x0 x5 x6 (wrap64 (x7 + 1))) else (some false)) else (none)) else (none)) else (value_rising.l0 k x0 x5 x6 (wrap64 (x7 + 1)))) else (some false))) else (none)) else (none)) else (some true)
def value_rising.f (k : Nat) (l0 : List ByteArray) : Option (Bool) := value_rising.l0 k l0 l0 (l0.length : Int) 0
set_option maxHeartbeats 8000000 in
set_option maxRecDepth 100000 in
theorem value_rising.calls (k : Nat) (A0 : Option Addr) (c0 : Nat) (l0 : List ByteArray) (r : Bool) (w : World) (hr0 : Kd.C Kd.string w A0 l0.length l0) (hc0 : l0.length ≤ c0) (h : value_rising.f k l0 = some r) :
  Calls Tryz.prog 147 #[.slice A0 l0.length c0] w fun e w' => e = .returned (.bool r) ∧ Drawn0 w w' := by
 have HR0 := Aside0.mk hr0
 have HC0 := Aside0.mk hc0
 clear hr0 hc0
 have H : (value_rising.l0 k l0 l0 (l0.length : Int) 0) = some r := h
 clear h
 have H' := Aside0.mk H
 clear H
 go_enter Tryz.func147, Tryz.ntmps147
 go_wp2
 go_loopg [7] k (fun kq v7 w' => ∃ (x7_1 : Int), v7 = .int .i64 x7_1 ∧ Aside0 (value_rising.l0 kq l0 l0 (l0.length : Int) x7_1 = some r) ∧ Aside0 (kq ≤ k) ∧ Drawn0 w w')
 case atStart => exact ⟨(0), (by first | rfl | (simp; done) | (simp [*]; done)), H', ⟨Nat.le_refl _⟩, by repeat (first | exact Drawn0.refl _ | apply Drawn0.step)⟩
 case round =>
  clear H'
  try clear c1
  obtain ⟨x7_1, rfl, HA, HK1, ⟨m1, rfl⟩⟩ := hrel
  cases gk with
  | zero => exact absurd HA.out (by simp [value_rising.l0])
  | succ k1 =>
   have H := HA.out
   clear HA
   simp only [value_rising.l0] at H
   by_cases c2 : x7_1 < (l0.length : Int)
   ·rw [if_pos c2] at H
    have c2b0 : decide (x7_1 < (l0.length : Int)) = true := decide_eq_true c2
    clear c2
    by_cases c3 : 0 ≤ x7_1
    ·rw [if_pos c3] at H
     have c3b0 : decide (0 ≤ x7_1) = true := decide_eq_true c3
     clear c3
     by_cases c4 : x7_1 < (l0.length : Int)
     ·rw [if_pos c4] at H
      have c4b0 : decide (x7_1 < (l0.length : Int)) = true := decide_eq_true c4
      clear c4
      replace H := Option.bind_eq_some_iff.mp H
      obtain ⟨t188, A50, H⟩ := H
      (try dsimp only at H)
      have A5 := Aside0.mk A50
      clear A50
      by_cases c6 : t188 = 0
      ·rw [if_pos c6] at H
       have c6b0 : (t188 == 0) = true := beq_iff_eq.mpr c6
       have c6b1 : (t188 != 0) = false := bne_eq_false_iff_eq.mpr c6
       clear c6
       by_cases c7 : x7_1 > 0
       ·rw [if_pos c7] at H
        have c7b0 : decide (0 < x7_1) = true := decide_eq_true c7
        clear c7
        obtain ⟨ji8, hji8⟩ : ∃ j_ : Int, (wrap64 (x7_1 - 1)) = j_ := ⟨_, rfl⟩
        replace H : (if 0 ≤ (ji8) then (if (ji8) < (l0.length : Int) then (if (Op.bytesLess ((rdOf ByteArray.empty l0 (ji8)).toList) ((rdOf ByteArray.empty l0 x7_1).toList)) = true then (value_rising.l0 k1 l0 l0 (l0.length : Int) (wrap64 (x7_1 + 1))) else (some false)) else (none)) else (none)) = some r := by first | (rw [hji8] at H; exact H) | (simp only [hji8] at H ⊢; exact H)
        (try rw [hji8] at A5)
        have hji8w : (IntKind.i64.wrap (x7_1 - 1)) = ji8 := (i64_w _).trans hji8
        by_cases c9 : 0 ≤ (ji8)
        ·rw [if_pos c9] at H
         have c9b0 : decide (0 ≤ (ji8)) = true := decide_eq_true c9
         clear c9
         by_cases c10 : (ji8) < (l0.length : Int)
         ·rw [if_pos c10] at H
          have c10b0 : decide ((ji8) < (l0.length : Int)) = true := decide_eq_true c10
          clear c10
          by_cases c11 : (Op.bytesLess ((rdOf ByteArray.empty l0 (ji8)).toList) ((rdOf ByteArray.empty l0 x7_1).toList)) = true
          ·rw [if_pos c11] at H
           have c11b0 : (Op.bytesLess ((rdOf ByteArray.empty l0 (ji8)).toList) ((rdOf ByteArray.empty l0 x7_1).toList)) = true := c11
           clear c11
           have H' := Aside0.mk H
           clear H
           have p187 : 0 ≤ (x7_1 : Int) := of_decide_eq_true (by first | (with_reducible assumption) | assumption)
           have q187 : x7_1 < (l0.length : Int) := of_decide_eq_true (by first | (with_reducible assumption) | assumption)
           obtain ⟨ad187, e187, hx187_0⟩ := Kd.at_string HR0.out x7_1 p187 q187
           cases e187
           replace p187 := eq_true p187
           replace q187 := eq_true q187
           go_wp2_with (first | ((with_reducible refine gate_callee (f := 179) rfl ?_); refine goesL_ (some 13) rfl rfl Tryz.func179 (by kernel_rfl) rfl #[.string (rdOf ByteArray.empty l0 x7_1)] rfl (by (try simp only [List.map_toArray, List.map_cons, List.map_nil]); first | done | rfl) ?_; (with_reducible refine (value_Name.calls k1 (rdOf ByteArray.empty l0 x7_1) t188 _ A5.out).mono ?_); rintro e w' ⟨rfl, ⟨nd, rfl⟩⟩; refine ⟨_, rfl, ?_⟩; have p189 : 0 ≤ ((ji8) : Int) := of_decide_eq_true (by first | (with_reducible assumption) | assumption); have q189 : (ji8) < (l0.length : Int) := of_decide_eq_true (by first | (with_reducible assumption) | assumption); obtain ⟨ad189, e189, hx189_0⟩ := Kd.at_string HR0.out (ji8) p189 q189; obtain rfl : ad187 = ad189 := (by injection e189); replace p189 := eq_true p189; replace q189 := eq_true q189))
           go_roundg k1
           case measure => have := HK1.out; omega
           case rel => exact ⟨(wrap64 (x7_1 + 1)), (by first | rfl | (simp; done) | (simp [*]; done)), H', ⟨by have := HK1.out; omega⟩, by repeat (first | exact Drawn0.refl _ | apply Drawn0.step)⟩
          ·rw [if_neg c11] at H
           have c11b0 : (Op.bytesLess ((rdOf ByteArray.empty l0 (ji8)).toList) ((rdOf ByteArray.empty l0 x7_1).toList)) = false := by simpa using c11
           clear c11
           obtain rfl := Option.some.inj H
           have p187 : 0 ≤ (x7_1 : Int) := of_decide_eq_true (by first | (with_reducible assumption) | assumption)
           have q187 : x7_1 < (l0.length : Int) := of_decide_eq_true (by first | (with_reducible assumption) | assumption)
           obtain ⟨ad187, e187, hx187_0⟩ := Kd.at_string HR0.out x7_1 p187 q187
           cases e187
           replace p187 := eq_true p187
           replace q187 := eq_true q187
           go_wp2_with (first | ((with_reducible refine gate_callee (f := 179) rfl ?_); refine goesL_ (some 13) rfl rfl Tryz.func179 (by kernel_rfl) rfl #[.string (rdOf ByteArray.empty l0 x7_1)] rfl (by (try simp only [List.map_toArray, List.map_cons, List.map_nil]); first | done | rfl) ?_; (with_reducible refine (value_Name.calls k1 (rdOf ByteArray.empty l0 x7_1) t188 _ A5.out).mono ?_); rintro e w' ⟨rfl, ⟨nd, rfl⟩⟩; refine ⟨_, rfl, ?_⟩; have p189 : 0 ≤ ((ji8) : Int) := of_decide_eq_true (by first | (with_reducible assumption) | assumption); have q189 : (ji8) < (l0.length : Int) := of_decide_eq_true (by first | (with_reducible assumption) | assumption); obtain ⟨ad189, e189, hx189_0⟩ := Kd.at_string HR0.out (ji8) p189 q189; obtain rfl : ad187 = ad189 := (by injection e189); replace p189 := eq_true p189; replace q189 := eq_true q189))
           go_ret
           exact ⟨by first | rfl | (simp; done) | (simp only [← hji8] <;> (first | rfl | simp)) | (simp [*]; done), by repeat (first | exact Drawn0.refl _ | apply Drawn0.step)⟩
         ·rw [if_neg c10] at H
          exact absurd H (by simp)
        ·rw [if_neg c9] at H
         exact absurd H (by simp)
       ·rw [if_neg c7] at H
        have c7b0 : decide (0 < x7_1) = false := decide_eq_false c7
        clear c7
        have H' := Aside0.mk H
        clear H
        have p187 : 0 ≤ (x7_1 : Int) := of_decide_eq_true (by first | (with_reducible assumption) | assumption)
        have q187 : x7_1 < (l0.length : Int) := of_decide_eq_true (by first | (with_reducible assumption) | assumption)
        obtain ⟨ad187, e187, hx187_0⟩ := Kd.at_string HR0.out x7_1 p187 q187
        cases e187
        replace p187 := eq_true p187
        replace q187 := eq_true q187
        go_wp2_with (first | ((with_reducible refine gate_callee (f := 179) rfl ?_); refine goesL_ (some 13) rfl rfl Tryz.func179 (by kernel_rfl) rfl #[.string (rdOf ByteArray.empty l0 x7_1)] rfl (by (try simp only [List.map_toArray, List.map_cons, List.map_nil]); first | done | rfl) ?_; (with_reducible refine (value_Name.calls k1 (rdOf ByteArray.empty l0 x7_1) t188 _ A5.out).mono ?_); rintro e w' ⟨rfl, ⟨nd, rfl⟩⟩; refine ⟨_, rfl, ?_⟩))
        go_roundg k1
        case measure => have := HK1.out; omega
        case rel => exact ⟨(wrap64 (x7_1 + 1)), (by first | rfl | (simp; done) | (simp [*]; done)), H', ⟨by have := HK1.out; omega⟩, by repeat (first | exact Drawn0.refl _ | apply Drawn0.step)⟩
      ·rw [if_neg c6] at H
       have c6b0 : (t188 == 0) = false := beq_eq_false_iff_ne.mpr c6
       have c6b1 : (t188 != 0) = true := bne_iff_ne.mpr c6
       obtain rfl := Option.some.inj H
       have p187 : 0 ≤ (x7_1 : Int) := of_decide_eq_true (by first | (with_reducible assumption) | assumption)
       have q187 : x7_1 < (l0.length : Int) := of_decide_eq_true (by first | (with_reducible assumption) | assumption)
       obtain ⟨ad187, e187, hx187_0⟩ := Kd.at_string HR0.out x7_1 p187 q187
       cases e187
       replace p187 := eq_true p187
       replace q187 := eq_true q187
       go_wp2_with (first | ((with_reducible refine gate_callee (f := 179) rfl ?_); refine goesL_ (some 13) rfl rfl Tryz.func179 (by kernel_rfl) rfl #[.string (rdOf ByteArray.empty l0 x7_1)] rfl (by (try simp only [List.map_toArray, List.map_cons, List.map_nil]); first | done | rfl) ?_; (with_reducible refine (value_Name.calls k1 (rdOf ByteArray.empty l0 x7_1) t188 _ A5.out).mono ?_); rintro e w' ⟨rfl, ⟨nd, rfl⟩⟩; refine ⟨_, rfl, ?_⟩))
       go_ret
       exact ⟨by first | rfl | (simp; done) | (simp [*]; done), by repeat (first | exact Drawn0.refl _ | apply Drawn0.step)⟩
     ·rw [if_neg c4] at H
      exact absurd H (by simp)
    ·rw [if_neg c3] at H
     exact absurd H (by simp)
   ·rw [if_neg c2] at H
    have c2b0 : decide (x7_1 < (l0.length : Int)) = false := decide_eq_false c2
    clear c2
    obtain rfl := Option.some.inj H
    go_wp2
    go_ret
    exact ⟨by first | rfl | (simp; done) | (simp [*]; done), by repeat (first | exact Drawn0.refl _ | apply Drawn0.step)⟩
def value_leaf.f (k : Nat) (a0_0 : Int) (a0_1 : ByteArray) (a0_2 : Int) (l0_3 : List (S43)) (l0_4 : List ByteArray) : Option (Bool) := if a0_0 = 1 then (if (a0_1.size : Int) ≤ 4096 then (if a0_2 = 0 then (some ((wrap64 ((l0_3.length : Int) + (l0_4.length : Int))) == 0)) else (some false)) else (some false)) else (if a0_0 = 3 then (if (Go.bits .andNot .i64 a0_2 1) = 0 then (if a0_1.toList = ([] : List UInt8) then (some ((wrap64 ((l0_3.length : Int) + (l0_4.length : Int))) == 0)) else (some false)) else (some false)) else (if a0_0 = 2 then (if a0_1.toList = ([] : List UInt8) then (some ((wrap64 ((l0_3.length : Int) + (l0_4.length : Int))) == 0)) else (some false)) else (if a0_0 = 5 then (if a0_1.toList = ([] : List UInt8) then (if a0_2 = 0 then (if (l0_4.length : Int) = (l0_3.length : Int) then ((value_rising.f k l0_4).bind fun t191 => (some t191)) else (some false)) else (some false)) else (some false)) else (if a0_0 = 4 then (if a0_1.toList = ([] : List UInt8) then (if a0_2 = 0 then (some ((l0_4.length : Int) == 0)) else (some false)) else (some false)) else (some false)))))
set_option maxHeartbeats 8000000 in
set_option maxRecDepth 100000 in
theorem value_leaf.calls (k : Nat) (a0_0 : Int) (a0_1 : ByteArray) (a0_2 : Int) (A0_3 : Option Addr) (c0_3 : Nat) (l0_3 : List (S43)) (A0_4 : Option Addr) (c0_4 : Nat) (l0_4 : List ByteArray) (r : Bool) (w : World) (hr0_3 : Kd.C k43 w A0_3 l0_3.length l0_3) (hc0_3 : l0_3.length ≤ c0_3) (hr0_4 : Kd.C Kd.string w A0_4 l0_4.length l0_4) (hc0_4 : l0_4.length ≤ c0_4) (h : value_leaf.f k a0_0 a0_1 a0_2 l0_3 l0_4 = some r) :
  Calls Tryz.prog 99 #[.agg #[.int .u8 a0_0, .string a0_1, .int .i64 a0_2, .slice A0_3 l0_3.length c0_3, .slice A0_4 l0_4.length c0_4]] w fun e w' => e = .returned (.bool r) ∧ Below w.heap.size w w' := by
 have hu43 := Tryz.underlying43
 have HR0_3 := Aside0.mk hr0_3
 have HC0_3 := Aside0.mk hc0_3
 clear hr0_3 hc0_3
 have HR0_4 := Aside0.mk hr0_4
 have HC0_4 := Aside0.mk hc0_4
 clear hr0_4 hc0_4
 have HB := Aside0.mk (Below.refl w.heap.size w)
 have H : (if a0_0 = 1 then (if (a0_1.size : Int) ≤ 4096 then (if a0_2 = 0 then (some ((wrap64 ((l0_3.length : Int) + (l0_4.length : Int))) == 0)) else (some false)) else (some false)) else (if a0_0 = 3 then (if (Go.bits .andNot .i64 a0_2 1) = 0 then (if a0_1.toList = ([] : List UInt8) then (some ((wrap64 ((l0_3.length : Int) + (l0_4.length : Int))) == 0)) else (some false)) else (some false)) else (if a0_0 = 2 then (if a0_1.toList = ([] : List UInt8) then (some ((wrap64 ((l0_3.length : Int) + (l0_4.length : Int))) == 0)) else (some false)) else (if a0_0 = 5 then (if a0_1.toList = ([] : List UInt8) then (if a0_2 = 0 then (if (l0_4.length : Int) = (l0_3.length : Int) then ((value_rising.f k l0_4).bind fun t191 => (some t191)) else (some false)) else (some false)) else (some false)) else (if a0_0 = 4 then (if a0_1.toList = ([] : List UInt8) then (if a0_2 = 0 then (some ((l0_4.length : Int) == 0)) else (some false)) else (some false)) else (some false)))))) = some r := h
 clear h
 by_cases c2 : a0_0 = 1
 ·rw [if_pos c2] at H
  have c2b0 : (a0_0 == 1) = true := beq_iff_eq.mpr c2
  have c2b1 : (a0_0 != 1) = false := bne_eq_false_iff_eq.mpr c2
  clear c2
  by_cases c3 : (a0_1.size : Int) ≤ 4096
  ·rw [if_pos c3] at H
   have c3b0 : decide ((a0_1.size : Int) ≤ 4096) = true := decide_eq_true c3
   have c3b1 : decide (a0_1.size ≤ 4096) = true := decide_eq_true (by omega)
   clear c3
   by_cases c4 : a0_2 = 0
   ·rw [if_pos c4] at H
    have c4b0 : (a0_2 == 0) = true := beq_iff_eq.mpr c4
    have c4b1 : (a0_2 != 0) = false := bne_eq_false_iff_eq.mpr c4
    clear c4
    obtain rfl := Option.some.inj H
    go_enter Tryz.func99, Tryz.ntmps99
    go_wp2_with (first | ((with_reducible refine gate_dst (N := 1) rfl ?_); (try (refine gate_guard (by rfl) ?_; dsimp only)); refine box_event ?hg (N := 1) ?hd (cs := #[.int .u8 a0_0, .string a0_1, .int .i64 a0_2, .slice A0_3 l0_3.length c0_3, .slice A0_4 l0_4.length c0_4]) (t := 43) ?hr ?_; (case hd => rfl); (case hg => rfl); (case hr => first | (go_simp; done) | (go_simp; rfl)); intro gb190 hg w5 hbox hb; have n0_ := Aside0.mk (below_step (belS HB.out) hb); have n1_ := Aside0.mk (hbox); have n2_ := Aside0.mk ((by rw [hg]; exact (below_size (belS HB.out)) : w.heap.size ≤ gb190)); have n3_ := Aside0.mk ((by rw [hg]; exact (below_size (belS HB.out)) : w.heap.size ≤ gb190)); clear HB; have HB := n0_; have BK190 := n1_; have GW190 := n2_; have GE190 := n3_; clear n0_ n1_ n2_ n3_; clear hb hbox hg; obtain ⟨hcz6_0, hcz6_1, hcz6_2, hcz6_3, hcz6_4, hfz6_0, hfz6_1, hfz6_2, hfz6_3, hfz6_4⟩ := cells_5 BK190.out))
    go_ret
    exact ⟨by first | rfl | (simp [errW_none, errW_some] <;> rfl) | (simp [*, errW_none, errW_some] <;> rfl), by repeat (first | (with_reducible first | exact HB.out | apply below_alloc | apply pw_below_drewN | apply below_drew1 | refine below_set ?_ GE190.out) | exact HB.out)⟩
   ·rw [if_neg c4] at H
    have c4b0 : (a0_2 == 0) = false := beq_eq_false_iff_ne.mpr c4
    have c4b1 : (a0_2 != 0) = true := bne_iff_ne.mpr c4
    obtain rfl := Option.some.inj H
    go_enter Tryz.func99, Tryz.ntmps99
    go_wp2_with (first | ((with_reducible refine gate_dst (N := 1) rfl ?_); (try (refine gate_guard (by rfl) ?_; dsimp only)); refine box_event ?hg (N := 1) ?hd (cs := #[.int .u8 a0_0, .string a0_1, .int .i64 a0_2, .slice A0_3 l0_3.length c0_3, .slice A0_4 l0_4.length c0_4]) (t := 43) ?hr ?_; (case hd => rfl); (case hg => rfl); (case hr => first | (go_simp; done) | (go_simp; rfl)); intro gb190 hg w7 hbox hb; have n0_ := Aside0.mk (below_step (belS HB.out) hb); have n1_ := Aside0.mk (hbox); have n2_ := Aside0.mk ((by rw [hg]; exact (below_size (belS HB.out)) : w.heap.size ≤ gb190)); have n3_ := Aside0.mk ((by rw [hg]; exact (below_size (belS HB.out)) : w.heap.size ≤ gb190)); clear HB; have HB := n0_; have BK190 := n1_; have GW190 := n2_; have GE190 := n3_; clear n0_ n1_ n2_ n3_; clear hb hbox hg; obtain ⟨hcz8_0, hcz8_1, hcz8_2, hcz8_3, hcz8_4, hfz8_0, hfz8_1, hfz8_2, hfz8_3, hfz8_4⟩ := cells_5 BK190.out))
    go_ret
    exact ⟨by first | rfl | (simp [errW_none, errW_some] <;> rfl) | (simp [*, errW_none, errW_some] <;> rfl), by repeat (first | (with_reducible first | exact HB.out | apply below_alloc | apply pw_below_drewN | apply below_drew1 | refine below_set ?_ GE190.out) | exact HB.out)⟩
  ·rw [if_neg c3] at H
   have c3b0 : decide ((a0_1.size : Int) ≤ 4096) = false := decide_eq_false c3
   have c3b1 : decide (a0_1.size ≤ 4096) = false := decide_eq_false (by omega)
   clear c3
   obtain rfl := Option.some.inj H
   go_enter Tryz.func99, Tryz.ntmps99
   go_wp2_with (first | ((with_reducible refine gate_dst (N := 1) rfl ?_); (try (refine gate_guard (by rfl) ?_; dsimp only)); refine box_event ?hg (N := 1) ?hd (cs := #[.int .u8 a0_0, .string a0_1, .int .i64 a0_2, .slice A0_3 l0_3.length c0_3, .slice A0_4 l0_4.length c0_4]) (t := 43) ?hr ?_; (case hd => rfl); (case hg => rfl); (case hr => first | (go_simp; done) | (go_simp; rfl)); intro gb190 hg w9 hbox hb; have n0_ := Aside0.mk (below_step (belS HB.out) hb); have n1_ := Aside0.mk (hbox); have n2_ := Aside0.mk ((by rw [hg]; exact (below_size (belS HB.out)) : w.heap.size ≤ gb190)); have n3_ := Aside0.mk ((by rw [hg]; exact (below_size (belS HB.out)) : w.heap.size ≤ gb190)); clear HB; have HB := n0_; have BK190 := n1_; have GW190 := n2_; have GE190 := n3_; clear n0_ n1_ n2_ n3_; clear hb hbox hg; obtain ⟨hcz10_0, hcz10_1, hcz10_2, hcz10_3, hcz10_4, hfz10_0, hfz10_1, hfz10_2, hfz10_3, hfz10_4⟩ := cells_5 BK190.out))
   go_ret
   exact ⟨by first | rfl | (simp [errW_none, errW_some] <;> rfl) | (simp [*, errW_none, errW_some] <;> rfl), by repeat (first | (with_reducible first | exact HB.out | apply below_alloc | apply pw_below_drewN | apply below_drew1 | refine below_set ?_ GE190.out) | exact HB.out)⟩
 ·rw [if_neg c2] at H
  have c2b0 : (a0_0 == 1) = false := beq_eq_false_iff_ne.mpr c2
  have c2b1 : (a0_0 != 1) = true := bne_iff_ne.mpr c2
  by_cases c11 : a0_0 = 3
  ·rw [if_pos c11] at H
   have c11b0 : (a0_0 == 3) = true := beq_iff_eq.mpr c11
   have c11b1 : (a0_0 != 3) = false := bne_eq_false_iff_eq.mpr c11
   clear c11
   by_cases c12 : (Go.bits .andNot .i64 a0_2 1) = 0
   ·rw [if_pos c12] at H
    have c12b0 : ((Go.bits .andNot .i64 a0_2 1) == 0) = true := beq_iff_eq.mpr c12
    have c12b1 : ((Go.bits .andNot .i64 a0_2 1) != 0) = false := bne_eq_false_iff_eq.mpr c12
    clear c12
    by_cases c13 : a0_1.toList = ([] : List UInt8)
    ·rw [if_pos c13] at H
     have c13b0 : (a0_1.toList == ([] : List UInt8)) = true := beq_iff_eq.mpr c13
     have c13b1 : (a0_1.toList != ([] : List UInt8)) = false := bne_eq_false_iff_eq.mpr c13
     clear c13
     obtain rfl := Option.some.inj H
     go_enter Tryz.func99, Tryz.ntmps99
     go_wp2_with (first | ((with_reducible refine gate_dst (N := 1) rfl ?_); (try (refine gate_guard (by rfl) ?_; dsimp only)); refine box_event ?hg (N := 1) ?hd (cs := #[.int .u8 a0_0, .string a0_1, .int .i64 a0_2, .slice A0_3 l0_3.length c0_3, .slice A0_4 l0_4.length c0_4]) (t := 43) ?hr ?_; (case hd => rfl); (case hg => rfl); (case hr => first | (go_simp; done) | (go_simp; rfl)); intro gb190 hg w14 hbox hb; have n0_ := Aside0.mk (below_step (belS HB.out) hb); have n1_ := Aside0.mk (hbox); have n2_ := Aside0.mk ((by rw [hg]; exact (below_size (belS HB.out)) : w.heap.size ≤ gb190)); have n3_ := Aside0.mk ((by rw [hg]; exact (below_size (belS HB.out)) : w.heap.size ≤ gb190)); clear HB; have HB := n0_; have BK190 := n1_; have GW190 := n2_; have GE190 := n3_; clear n0_ n1_ n2_ n3_; clear hb hbox hg; obtain ⟨hcz15_0, hcz15_1, hcz15_2, hcz15_3, hcz15_4, hfz15_0, hfz15_1, hfz15_2, hfz15_3, hfz15_4⟩ := cells_5 BK190.out))
     go_ret
     exact ⟨by first | rfl | (simp [errW_none, errW_some] <;> rfl) | (simp [*, errW_none, errW_some] <;> rfl), by repeat (first | (with_reducible first | exact HB.out | apply below_alloc | apply pw_below_drewN | apply below_drew1 | refine below_set ?_ GE190.out) | exact HB.out)⟩
    ·rw [if_neg c13] at H
     have c13b0 : (a0_1.toList == ([] : List UInt8)) = false := beq_eq_false_iff_ne.mpr c13
     have c13b1 : (a0_1.toList != ([] : List UInt8)) = true := bne_iff_ne.mpr c13
     obtain rfl := Option.some.inj H
     go_enter Tryz.func99, Tryz.ntmps99
     go_wp2_with (first | ((with_reducible refine gate_dst (N := 1) rfl ?_); (try (refine gate_guard (by rfl) ?_; dsimp only)); refine box_event ?hg (N := 1) ?hd (cs := #[.int .u8 a0_0, .string a0_1, .int .i64 a0_2, .slice A0_3 l0_3.length c0_3, .slice A0_4 l0_4.length c0_4]) (t := 43) ?hr ?_; (case hd => rfl); (case hg => rfl); (case hr => first | (go_simp; done) | (go_simp; rfl)); intro gb190 hg w16 hbox hb; have n0_ := Aside0.mk (below_step (belS HB.out) hb); have n1_ := Aside0.mk (hbox); have n2_ := Aside0.mk ((by rw [hg]; exact (below_size (belS HB.out)) : w.heap.size ≤ gb190)); have n3_ := Aside0.mk ((by rw [hg]; exact (below_size (belS HB.out)) : w.heap.size ≤ gb190)); clear HB; have HB := n0_; have BK190 := n1_; have GW190 := n2_; have GE190 := n3_; clear n0_ n1_ n2_ n3_; clear hb hbox hg; obtain ⟨hcz17_0, hcz17_1, hcz17_2, hcz17_3, hcz17_4, hfz17_0, hfz17_1, hfz17_2, hfz17_3, hfz17_4⟩ := cells_5 BK190.out))
     go_ret
     exact ⟨by first | rfl | (simp [errW_none, errW_some] <;> rfl) | (simp [*, errW_none, errW_some] <;> rfl), by repeat (first | (with_reducible first | exact HB.out | apply below_alloc | apply pw_below_drewN | apply below_drew1 | refine below_set ?_ GE190.out) | exact HB.out)⟩
   ·rw [if_neg c12] at H
    have c12b0 : ((Go.bits .andNot .i64 a0_2 1) == 0) = false := beq_eq_false_iff_ne.mpr c12
    have c12b1 : ((Go.bits .andNot .i64 a0_2 1) != 0) = true := bne_iff_ne.mpr c12
    obtain rfl := Option.some.inj H
    go_enter Tryz.func99, Tryz.ntmps99
    go_wp2_with (first | ((with_reducible refine gate_dst (N := 1) rfl ?_); (try (refine gate_guard (by rfl) ?_; dsimp only)); refine box_event ?hg (N := 1) ?hd (cs := #[.int .u8 a0_0, .string a0_1, .int .i64 a0_2, .slice A0_3 l0_3.length c0_3, .slice A0_4 l0_4.length c0_4]) (t := 43) ?hr ?_; (case hd => rfl); (case hg => rfl); (case hr => first | (go_simp; done) | (go_simp; rfl)); intro gb190 hg w18 hbox hb; have n0_ := Aside0.mk (below_step (belS HB.out) hb); have n1_ := Aside0.mk (hbox); have n2_ := Aside0.mk ((by rw [hg]; exact (below_size (belS HB.out)) : w.heap.size ≤ gb190)); have n3_ := Aside0.mk ((by rw [hg]; exact (below_size (belS HB.out)) : w.heap.size ≤ gb190)); clear HB; have HB := n0_; have BK190 := n1_; have GW190 := n2_; have GE190 := n3_; clear n0_ n1_ n2_ n3_; clear hb hbox hg; obtain ⟨hcz19_0, hcz19_1, hcz19_2, hcz19_3, hcz19_4, hfz19_0, hfz19_1, hfz19_2, hfz19_3, hfz19_4⟩ := cells_5 BK190.out))
    go_ret
    exact ⟨by first | rfl | (simp [errW_none, errW_some] <;> rfl) | (simp [*, errW_none, errW_some] <;> rfl), by repeat (first | (with_reducible first | exact HB.out | apply below_alloc | apply pw_below_drewN | apply below_drew1 | refine below_set ?_ GE190.out) | exact HB.out)⟩
  ·rw [if_neg c11] at H
   have c11b0 : (a0_0 == 3) = false := beq_eq_false_iff_ne.mpr c11
   have c11b1 : (a0_0 != 3) = true := bne_iff_ne.mpr c11
   by_cases c20 : a0_0 = 2
   ·rw [if_pos c20] at H
    have c20b0 : (a0_0 == 2) = true := beq_iff_eq.mpr c20
    have c20b1 : (a0_0 != 2) = false := bne_eq_false_iff_eq.mpr c20
    clear c20
    by_cases c21 : a0_1.toList = ([] : List UInt8)
    ·rw [if_pos c21] at H
     have c21b0 : (a0_1.toList == ([] : List UInt8)) = true := beq_iff_eq.mpr c21
     have c21b1 : (a0_1.toList != ([] : List UInt8)) = false := bne_eq_false_iff_eq.mpr c21
     clear c21
     obtain rfl := Option.some.inj H
     go_enter Tryz.func99, Tryz.ntmps99
     go_wp2_with (first | ((with_reducible refine gate_dst (N := 1) rfl ?_); (try (refine gate_guard (by rfl) ?_; dsimp only)); refine box_event ?hg (N := 1) ?hd (cs := #[.int .u8 a0_0, .string a0_1, .int .i64 a0_2, .slice A0_3 l0_3.length c0_3, .slice A0_4 l0_4.length c0_4]) (t := 43) ?hr ?_; (case hd => rfl); (case hg => rfl); (case hr => first | (go_simp; done) | (go_simp; rfl)); intro gb190 hg w22 hbox hb; have n0_ := Aside0.mk (below_step (belS HB.out) hb); have n1_ := Aside0.mk (hbox); have n2_ := Aside0.mk ((by rw [hg]; exact (below_size (belS HB.out)) : w.heap.size ≤ gb190)); have n3_ := Aside0.mk ((by rw [hg]; exact (below_size (belS HB.out)) : w.heap.size ≤ gb190)); clear HB; have HB := n0_; have BK190 := n1_; have GW190 := n2_; have GE190 := n3_; clear n0_ n1_ n2_ n3_; clear hb hbox hg; obtain ⟨hcz23_0, hcz23_1, hcz23_2, hcz23_3, hcz23_4, hfz23_0, hfz23_1, hfz23_2, hfz23_3, hfz23_4⟩ := cells_5 BK190.out))
     go_ret
     exact ⟨by first | rfl | (simp [errW_none, errW_some] <;> rfl) | (simp [*, errW_none, errW_some] <;> rfl), by repeat (first | (with_reducible first | exact HB.out | apply below_alloc | apply pw_below_drewN | apply below_drew1 | refine below_set ?_ GE190.out) | exact HB.out)⟩
    ·rw [if_neg c21] at H
     have c21b0 : (a0_1.toList == ([] : List UInt8)) = false := beq_eq_false_iff_ne.mpr c21
     have c21b1 : (a0_1.toList != ([] : List UInt8)) = true := bne_iff_ne.mpr c21
     obtain rfl := Option.some.inj H
     go_enter Tryz.func99, Tryz.ntmps99
     go_wp2_with (first | ((with_reducible refine gate_dst (N := 1) rfl ?_); (try (refine gate_guard (by rfl) ?_; dsimp only)); refine box_event ?hg (N := 1) ?hd (cs := #[.int .u8 a0_0, .string a0_1, .int .i64 a0_2, .slice A0_3 l0_3.length c0_3, .slice A0_4 l0_4.length c0_4]) (t := 43) ?hr ?_; (case hd => rfl); (case hg => rfl); (case hr => first | (go_simp; done) | (go_simp; rfl)); intro gb190 hg w24 hbox hb; have n0_ := Aside0.mk (below_step (belS HB.out) hb); have n1_ := Aside0.mk (hbox); have n2_ := Aside0.mk ((by rw [hg]; exact (below_size (belS HB.out)) : w.heap.size ≤ gb190)); have n3_ := Aside0.mk ((by rw [hg]; exact (below_size (belS HB.out)) : w.heap.size ≤ gb190)); clear HB; have HB := n0_; have BK190 := n1_; have GW190 := n2_; have GE190 := n3_; clear n0_ n1_ n2_ n3_; clear hb hbox hg; obtain ⟨hcz25_0, hcz25_1, hcz25_2, hcz25_3, hcz25_4, hfz25_0, hfz25_1, hfz25_2, hfz25_3, hfz25_4⟩ := cells_5 BK190.out))
     go_ret
     exact ⟨by first | rfl | (simp [errW_none, errW_some] <;> rfl) | (simp [*, errW_none, errW_some] <;> rfl), by repeat (first | (with_reducible first | exact HB.out | apply below_alloc | apply pw_below_drewN | apply below_drew1 | refine below_set ?_ GE190.out) | exact HB.out)⟩
   ·rw [if_neg c20] at H
    have c20b0 : (a0_0 == 2) = false := beq_eq_false_iff_ne.mpr c20
    have c20b1 : (a0_0 != 2) = true := bne_iff_ne.mpr c20
    by_cases c26 : a0_0 = 5
    ·rw [if_pos c26] at H
     have c26b0 : (a0_0 == 5) = true := beq_iff_eq.mpr c26
     have c26b1 : (a0_0 != 5) = false := bne_eq_false_iff_eq.mpr c26
     clear c26
     by_cases c27 : a0_1.toList = ([] : List UInt8)
     ·rw [if_pos c27] at H
      have c27b0 : (a0_1.toList == ([] : List UInt8)) = true := beq_iff_eq.mpr c27
      have c27b1 : (a0_1.toList != ([] : List UInt8)) = false := bne_eq_false_iff_eq.mpr c27
      clear c27
      by_cases c28 : a0_2 = 0
      ·rw [if_pos c28] at H
       have c28b0 : (a0_2 == 0) = true := beq_iff_eq.mpr c28
       have c28b1 : (a0_2 != 0) = false := bne_eq_false_iff_eq.mpr c28
       clear c28
       by_cases c29 : (l0_4.length : Int) = (l0_3.length : Int)
       ·rw [if_pos c29] at H
        have c29b0 : ((l0_4.length : Int) == (l0_3.length : Int)) = true := beq_iff_eq.mpr c29
        have c29b1 : ((l0_4.length : Int) != (l0_3.length : Int)) = false := bne_eq_false_iff_eq.mpr c29
        have c29b2 : (l0_4.length == l0_3.length) = true := by first | simpa using c29 | (simp at c29 ⊢; omega)
        clear c29
        replace H := Option.bind_eq_some_iff.mp H
        obtain ⟨t191, A300, H⟩ := H
        replace H : (some t191) = some r := H
        have A30 := Aside0.mk A300
        clear A300
        obtain rfl := Option.some.inj H
        go_enter Tryz.func99, Tryz.ntmps99
        go_wp2_with (first | ((with_reducible refine gate_dst (N := 1) rfl ?_); (try (refine gate_guard (by rfl) ?_; dsimp only)); refine box_event ?hg (N := 1) ?hd (cs := #[.int .u8 a0_0, .string a0_1, .int .i64 a0_2, .slice A0_3 l0_3.length c0_3, .slice A0_4 l0_4.length c0_4]) (t := 43) ?hr ?_; (case hd => rfl); (case hg => rfl); (case hr => first | (go_simp; done) | (go_simp; rfl)); intro gb190 hg w31 hbox hb; have n0_ := Aside0.mk (below_step (belS HB.out) hb); have n1_ := Aside0.mk (hbox); have n2_ := Aside0.mk ((by rw [hg]; exact (below_size (belS HB.out)) : w.heap.size ≤ gb190)); have n3_ := Aside0.mk ((by rw [hg]; exact (below_size (belS HB.out)) : w.heap.size ≤ gb190)); clear HB; have HB := n0_; have BK190 := n1_; have GW190 := n2_; have GE190 := n3_; clear n0_ n1_ n2_ n3_; clear hb hbox hg; obtain ⟨hcz32_0, hcz32_1, hcz32_2, hcz32_3, hcz32_4, hfz32_0, hfz32_1, hfz32_2, hfz32_3, hfz32_4⟩ := cells_5 BK190.out) | (go_at_call 147; (with_reducible refine (value_rising.calls k _ _ l0_4 t191 _ ?side1 ?side2 A30.out).mono ?_); (case side1 => repeat (first | exact (Kd.C_below HR0_4.out HB.out) | (with_reducible refine Kd.C_alloc ?_ _) | (with_reducible refine Kd.C_drewN ?_ _) | (with_reducible refine Kd.C_drew ?_))); (case side2 => exact HC0_4.out); rintro e w' ⟨rfl, ⟨nd, rfl⟩⟩))
        go_ret
        exact ⟨by first | rfl | (simp [errW_none, errW_some] <;> rfl) | (simp [*, errW_none, errW_some] <;> rfl), by repeat (first | (with_reducible first | exact HB.out | apply below_alloc | apply pw_below_drewN | apply below_drew1 | refine below_set ?_ GE190.out) | exact HB.out)⟩
       ·rw [if_neg c29] at H
        have c29b0 : ((l0_4.length : Int) == (l0_3.length : Int)) = false := beq_eq_false_iff_ne.mpr c29
        have c29b1 : ((l0_4.length : Int) != (l0_3.length : Int)) = true := bne_iff_ne.mpr c29
        have c29b2 : (l0_4.length == l0_3.length) = false := by first | simpa using c29 | (simp at c29 ⊢; omega)
        obtain rfl := Option.some.inj H
        go_enter Tryz.func99, Tryz.ntmps99
        go_wp2_with (first | ((with_reducible refine gate_dst (N := 1) rfl ?_); (try (refine gate_guard (by rfl) ?_; dsimp only)); refine box_event ?hg (N := 1) ?hd (cs := #[.int .u8 a0_0, .string a0_1, .int .i64 a0_2, .slice A0_3 l0_3.length c0_3, .slice A0_4 l0_4.length c0_4]) (t := 43) ?hr ?_; (case hd => rfl); (case hg => rfl); (case hr => first | (go_simp; done) | (go_simp; rfl)); intro gb190 hg w33 hbox hb; have n0_ := Aside0.mk (below_step (belS HB.out) hb); have n1_ := Aside0.mk (hbox); have n2_ := Aside0.mk ((by rw [hg]; exact (below_size (belS HB.out)) : w.heap.size ≤ gb190)); have n3_ := Aside0.mk ((by rw [hg]; exact (below_size (belS HB.out)) : w.heap.size ≤ gb190)); clear HB; have HB := n0_; have BK190 := n1_; have GW190 := n2_; have GE190 := n3_; clear n0_ n1_ n2_ n3_; clear hb hbox hg; obtain ⟨hcz34_0, hcz34_1, hcz34_2, hcz34_3, hcz34_4, hfz34_0, hfz34_1, hfz34_2, hfz34_3, hfz34_4⟩ := cells_5 BK190.out))
        go_ret
        exact ⟨by first | rfl | (simp [errW_none, errW_some] <;> rfl) | (simp [*, errW_none, errW_some] <;> rfl), by repeat (first | (with_reducible first | exact HB.out | apply below_alloc | apply pw_below_drewN | apply below_drew1 | refine below_set ?_ GE190.out) | exact HB.out)⟩
      ·rw [if_neg c28] at H
       have c28b0 : (a0_2 == 0) = false := beq_eq_false_iff_ne.mpr c28
       have c28b1 : (a0_2 != 0) = true := bne_iff_ne.mpr c28
       obtain rfl := Option.some.inj H
       go_enter Tryz.func99, Tryz.ntmps99
       go_wp2_with (first | ((with_reducible refine gate_dst (N := 1) rfl ?_); (try (refine gate_guard (by rfl) ?_; dsimp only)); refine box_event ?hg (N := 1) ?hd (cs := #[.int .u8 a0_0, .string a0_1, .int .i64 a0_2, .slice A0_3 l0_3.length c0_3, .slice A0_4 l0_4.length c0_4]) (t := 43) ?hr ?_; (case hd => rfl); (case hg => rfl); (case hr => first | (go_simp; done) | (go_simp; rfl)); intro gb190 hg w35 hbox hb; have n0_ := Aside0.mk (below_step (belS HB.out) hb); have n1_ := Aside0.mk (hbox); have n2_ := Aside0.mk ((by rw [hg]; exact (below_size (belS HB.out)) : w.heap.size ≤ gb190)); have n3_ := Aside0.mk ((by rw [hg]; exact (below_size (belS HB.out)) : w.heap.size ≤ gb190)); clear HB; have HB := n0_; have BK190 := n1_; have GW190 := n2_; have GE190 := n3_; clear n0_ n1_ n2_ n3_; clear hb hbox hg; obtain ⟨hcz36_0, hcz36_1, hcz36_2, hcz36_3, hcz36_4, hfz36_0, hfz36_1, hfz36_2, hfz36_3, hfz36_4⟩ := cells_5 BK190.out))
       go_ret
       exact ⟨by first | rfl | (simp [errW_none, errW_some] <;> rfl) | (simp [*, errW_none, errW_some] <;> rfl), by repeat (first | (with_reducible first | exact HB.out | apply below_alloc | apply pw_below_drewN | apply below_drew1 | refine below_set ?_ GE190.out) | exact HB.out)⟩
     ·rw [if_neg c27] at H
      have c27b0 : (a0_1.toList == ([] : List UInt8)) = false := beq_eq_false_iff_ne.mpr c27
      have c27b1 : (a0_1.toList != ([] : List UInt8)) = true := bne_iff_ne.mpr c27
      obtain rfl := Option.some.inj H
      go_enter Tryz.func99, Tryz.ntmps99
      go_wp2_with (first | ((with_reducible refine gate_dst (N := 1) rfl ?_); (try (refine gate_guard (by rfl) ?_; dsimp only)); refine box_event ?hg (N := 1) ?hd (cs := #[.int .u8 a0_0, .string a0_1, .int .i64 a0_2, .slice A0_3 l0_3.length c0_3, .slice A0_4 l0_4.length c0_4]) (t := 43) ?hr ?_; (case hd => rfl); (case hg => rfl); (case hr => first | (go_simp; done) | (go_simp; rfl)); intro gb190 hg w37 hbox hb; have n0_ := Aside0.mk (below_step (belS HB.out) hb); have n1_ := Aside0.mk (hbox); have n2_ := Aside0.mk ((by rw [hg]; exact (below_size (belS HB.out)) : w.heap.size ≤ gb190)); have n3_ := Aside0.mk ((by rw [hg]; exact (below_size (belS HB.out)) : w.heap.size ≤ gb190)); clear HB; have HB := n0_; have BK190 := n1_; have GW190 := n2_; have GE190 := n3_; clear n0_ n1_ n2_ n3_; clear hb hbox hg; obtain ⟨hcz38_0, hcz38_1, hcz38_2, hcz38_3, hcz38_4, hfz38_0, hfz38_1, hfz38_2, hfz38_3, hfz38_4⟩ := cells_5 BK190.out))
      go_ret
      exact ⟨by first | rfl | (simp [errW_none, errW_some] <;> rfl) | (simp [*, errW_none, errW_some] <;> rfl), by repeat (first | (with_reducible first | exact HB.out | apply below_alloc | apply pw_below_drewN | apply below_drew1 | refine below_set ?_ GE190.out) | exact HB.out)⟩
    ·rw [if_neg c26] at H
     have c26b0 : (a0_0 == 5) = false := beq_eq_false_iff_ne.mpr c26
     have c26b1 : (a0_0 != 5) = true := bne_iff_ne.mpr c26
     by_cases c39 : a0_0 = 4
     ·rw [if_pos c39] at H
      have c39b0 : (a0_0 == 4) = true := beq_iff_eq.mpr c39
      have c39b1 : (a0_0 != 4) = false := bne_eq_false_iff_eq.mpr c39
      clear c39
      by_cases c40 : a0_1.toList = ([] : List UInt8)
      ·rw [if_pos c40] at H
       have c40b0 : (a0_1.toList == ([] : List UInt8)) = true := beq_iff_eq.mpr c40
       have c40b1 : (a0_1.toList != ([] : List UInt8)) = false := bne_eq_false_iff_eq.mpr c40
       clear c40
       by_cases c41 : a0_2 = 0
       ·rw [if_pos c41] at H
        have c41b0 : (a0_2 == 0) = true := beq_iff_eq.mpr c41
        have c41b1 : (a0_2 != 0) = false := bne_eq_false_iff_eq.mpr c41
        clear c41
        obtain rfl := Option.some.inj H
        go_enter Tryz.func99, Tryz.ntmps99
        go_wp2_with (first | ((with_reducible refine gate_dst (N := 1) rfl ?_); (try (refine gate_guard (by rfl) ?_; dsimp only)); refine box_event ?hg (N := 1) ?hd (cs := #[.int .u8 a0_0, .string a0_1, .int .i64 a0_2, .slice A0_3 l0_3.length c0_3, .slice A0_4 l0_4.length c0_4]) (t := 43) ?hr ?_; (case hd => rfl); (case hg => rfl); (case hr => first | (go_simp; done) | (go_simp; rfl)); intro gb190 hg w42 hbox hb; have n0_ := Aside0.mk (below_step (belS HB.out) hb); have n1_ := Aside0.mk (hbox); have n2_ := Aside0.mk ((by rw [hg]; exact (below_size (belS HB.out)) : w.heap.size ≤ gb190)); have n3_ := Aside0.mk ((by rw [hg]; exact (below_size (belS HB.out)) : w.heap.size ≤ gb190)); clear HB; have HB := n0_; have BK190 := n1_; have GW190 := n2_; have GE190 := n3_; clear n0_ n1_ n2_ n3_; clear hb hbox hg; obtain ⟨hcz43_0, hcz43_1, hcz43_2, hcz43_3, hcz43_4, hfz43_0, hfz43_1, hfz43_2, hfz43_3, hfz43_4⟩ := cells_5 BK190.out))
        go_ret
        exact ⟨by first | rfl | (simp [errW_none, errW_some] <;> rfl) | (simp [*, errW_none, errW_some] <;> rfl), by repeat (first | (with_reducible first | exact HB.out | apply below_alloc | apply pw_below_drewN | apply below_drew1 | refine below_set ?_ GE190.out) | exact HB.out)⟩
       ·rw [if_neg c41] at H
        have c41b0 : (a0_2 == 0) = false := beq_eq_false_iff_ne.mpr c41
        have c41b1 : (a0_2 != 0) = true := bne_iff_ne.mpr c41
        obtain rfl := Option.some.inj H
        go_enter Tryz.func99, Tryz.ntmps99
        go_wp2_with (first | ((with_reducible refine gate_dst (N := 1) rfl ?_); (try (refine gate_guard (by rfl) ?_; dsimp only)); refine box_event ?hg (N := 1) ?hd (cs := #[.int .u8 a0_0, .string a0_1, .int .i64 a0_2, .slice A0_3 l0_3.length c0_3, .slice A0_4 l0_4.length c0_4]) (t := 43) ?hr ?_; (case hd => rfl); (case hg => rfl); (case hr => first | (go_simp; done) | (go_simp; rfl)); intro gb190 hg w44 hbox hb; have n0_ := Aside0.mk (below_step (belS HB.out) hb); have n1_ := Aside0.mk (hbox); have n2_ := Aside0.mk ((by rw [hg]; exact (below_size (belS HB.out)) : w.heap.size ≤ gb190)); have n3_ := Aside0.mk ((by rw [hg]; exact (below_size (belS HB.out)) : w.heap.size ≤ gb190)); clear HB; have HB := n0_; have BK190 := n1_; have GW190 := n2_; have GE190 := n3_; clear n0_ n1_ n2_ n3_; clear hb hbox hg; obtain ⟨hcz45_0, hcz45_1, hcz45_2, hcz45_3, hcz45_4, hfz45_0, hfz45_1, hfz45_2, hfz45_3, hfz45_4⟩ := cells_5 BK190.out))
        go_ret
        exact ⟨by first | rfl | (simp [errW_none, errW_some] <;> rfl) | (simp [*, errW_none, errW_some] <;> rfl), by repeat (first | (with_reducible first | exact HB.out | apply below_alloc | apply pw_below_drewN | apply below_drew1 | refine below_set ?_ GE190.out) | exact HB.out)⟩
      ·rw [if_neg c40] at H
       have c40b0 : (a0_1.toList == ([] : List UInt8)) = false := beq_eq_false_iff_ne.mpr c40
       have c40b1 : (a0_1.toList != ([] : List UInt8)) = true := bne_iff_ne.mpr c40
       obtain rfl := Option.some.inj H
       go_enter Tryz.func99, Tryz.ntmps99
       go_wp2_with (first | ((with_reducible refine gate_dst (N := 1) rfl ?_); (try (refine gate_guard (by rfl) ?_; dsimp only)); refine box_event ?hg (N := 1) ?hd (cs := #[.int .u8 a0_0, .string a0_1, .int .i64 a0_2, .slice A0_3 l0_3.length c0_3, .slice A0_4 l0_4.length c0_4]) (t := 43) ?hr ?_; (case hd => rfl); (case hg => rfl); (case hr => first | (go_simp; done) | (go_simp; rfl)); intro gb190 hg w46 hbox hb; have n0_ := Aside0.mk (below_step (belS HB.out) hb); have n1_ := Aside0.mk (hbox); have n2_ := Aside0.mk ((by rw [hg]; exact (below_size (belS HB.out)) : w.heap.size ≤ gb190)); have n3_ := Aside0.mk ((by rw [hg]; exact (below_size (belS HB.out)) : w.heap.size ≤ gb190)); clear HB; have HB := n0_; have BK190 := n1_; have GW190 := n2_; have GE190 := n3_; clear n0_ n1_ n2_ n3_; clear hb hbox hg; obtain ⟨hcz47_0, hcz47_1, hcz47_2, hcz47_3, hcz47_4, hfz47_0, hfz47_1, hfz47_2, hfz47_3, hfz47_4⟩ := cells_5 BK190.out))
       go_ret
       exact ⟨by first | rfl | (simp [errW_none, errW_some] <;> rfl) | (simp [*, errW_none, errW_some] <;> rfl), by repeat (first | (with_reducible first | exact HB.out | apply below_alloc | apply pw_below_drewN | apply below_drew1 | refine below_set ?_ GE190.out) | exact HB.out)⟩
     ·rw [if_neg c39] at H
      have c39b0 : (a0_0 == 4) = false := beq_eq_false_iff_ne.mpr c39
      have c39b1 : (a0_0 != 4) = true := bne_iff_ne.mpr c39
      obtain rfl := Option.some.inj H
      go_enter Tryz.func99, Tryz.ntmps99
      go_wp2_with (first | ((with_reducible refine gate_dst (N := 1) rfl ?_); (try (refine gate_guard (by rfl) ?_; dsimp only)); refine box_event ?hg (N := 1) ?hd (cs := #[.int .u8 a0_0, .string a0_1, .int .i64 a0_2, .slice A0_3 l0_3.length c0_3, .slice A0_4 l0_4.length c0_4]) (t := 43) ?hr ?_; (case hd => rfl); (case hg => rfl); (case hr => first | (go_simp; done) | (go_simp; rfl)); intro gb190 hg w48 hbox hb; have n0_ := Aside0.mk (below_step (belS HB.out) hb); have n1_ := Aside0.mk (hbox); have n2_ := Aside0.mk ((by rw [hg]; exact (below_size (belS HB.out)) : w.heap.size ≤ gb190)); have n3_ := Aside0.mk ((by rw [hg]; exact (below_size (belS HB.out)) : w.heap.size ≤ gb190)); clear HB; have HB := n0_; have BK190 := n1_; have GW190 := n2_; have GE190 := n3_; clear n0_ n1_ n2_ n3_; clear hb hbox hg; obtain ⟨hcz49_0, hcz49_1, hcz49_2, hcz49_3, hcz49_4, hfz49_0, hfz49_1, hfz49_2, hfz49_3, hfz49_4⟩ := cells_5 BK190.out))
      go_ret
      exact ⟨by first | rfl | (simp [errW_none, errW_some] <;> rfl) | (simp [*, errW_none, errW_some] <;> rfl), by repeat (first | (with_reducible first | exact HB.out | apply below_alloc | apply pw_below_drewN | apply below_drew1 | refine below_set ?_ GE190.out) | exact HB.out)⟩
end Go.Proofs.YtniibpndgcndbaaGreatDoor.PB
namespace Go.Proofs.YtniibpndgcndbaaGreatDoor.Tpl
inductive Vals where
  | nil
  | cons (k : Nat) (t : S) (n : Int) (i : Vals) (m : List S) (r : Vals)
namespace Vals
def len : Vals → Nat | nil => 0 | cons _ _ _ _ _ r => r.len + 1
def cnt : Vals → Nat | nil => 0 | cons _ _ _ i _ r => 1 + i.cnt + r.cnt
def app : Vals → Vals → Vals | nil, y => y | cons k t n i m r, y => cons k t n i m (r.app y)
def drop : Vals → Nat → Vals
  | l, 0 => l
  | nil, _ + 1 => nil
  | cons _ _ _ _ _ r, i + 1 => r.drop i
def risingQ : Option S → List S → Bool
  | _, [] => true
  | p, s :: r => nameP s && (match p with | none => true | some q => decide (q < s)) && risingQ (some s) r
def risingP (l : List S) : Bool := risingQ none l
def leafV (k : Nat) (t : S) (n : Int) (items : Nat) (m : List S) : Bool :=
  if k = 1 then decide (t.length ≤ 4096) && n == 0 && items + m.length == 0
  else if k = 3 then (n == 0 || n == 1) && t.isEmpty && items + m.length == 0
  else if k = 2 then t.isEmpty && items + m.length == 0
  else if k = 5 then t.isEmpty && n == 0 && m.length == items && risingP m
  else if k = 4 then t.isEmpty && n == 0 && m.length == 0
  else false
def inV : Vals → Nat → Int × Bool → Int × Bool
  | nil, _, c => c
  | cons k t n i m r, lv, c => if c.2 then c else
      let c1 := if lv == 0 || decide (c.1 - 1 < 0) || !leafV k t n i.len m then (c.1 - 1, true) else inV i (lv - 1) (c.1 - 1, false)
      inV r lv c1
def okV : Vals → Nat → Bool
  | nil, _ => true
  | cons k t n i m r, lv => lv != 0 && leafV k t n i.len m && okV i (lv - 1) && okV r lv
theorem inV_bad (l : Vals) : ∀ lv c, c.2 = true → inV l lv c = c := by
  cases l with
  | nil => intro lv c _; rfl
  | cons k t n i m r => intro lv c h; unfold inV; rw [if_pos h]
theorem inV_ok (l : Vals) : ∀ lv x, (0 ≤ x) → (okV l lv = true ∧ (l.cnt : Int) ≤ x → inV l lv (x, false) = (x - l.cnt, false)) ∧ (¬ (okV l lv = true ∧ (l.cnt : Int) ≤ x) → (inV l lv (x, false)).2 = true) := by
  induction l with
  | nil => intro lv x hx; simp [inV, okV, cnt, hx]
  | cons k t n i m r ihi ihr =>
    intro lv x hx
    by_cases c1 : (lv == 0 || decide (x - 1 < 0) || !leafV k t n i.len m) = true
    · have e : inV (cons k t n i m r) lv (x, false) = (x - 1, true) := by
        unfold inV
        simp only [Bool.false_eq_true, if_false, c1, if_true]
        exact inV_bad r lv _ rfl
      rw [e]
      refine ⟨fun h => ?_, fun _ => rfl⟩
      simp only [okV, cnt, Bool.and_eq_true, bne_iff_ne] at h
      simp only [Bool.or_eq_true, beq_iff_eq, decide_eq_true_eq, Bool.not_eq_true'] at c1
      obtain ⟨⟨⟨⟨h1, h2⟩, h3⟩, h4⟩, h5⟩ := h
      rcases c1 with (c1 | c1) | c1
      · exact absurd c1 h1
      · omega
      · rw [h2] at c1; cases c1
    · have c1' : (lv == 0 || decide (x - 1 < 0) || !leafV k t n i.len m) = false := by simpa using c1
      have e : inV (cons k t n i m r) lv (x, false) = inV r lv (inV i (lv - 1) (x - 1, false)) := by
        conv => lhs; unfold inV
        simp only [Bool.false_eq_true, if_false, c1']
      simp only [Bool.or_eq_false_iff, beq_eq_false_iff_ne, decide_eq_false_iff_not, Bool.not_eq_false'] at c1'
      obtain ⟨⟨h1, h2⟩, h3⟩ := c1'
      rw [e]
      obtain ⟨a1, a2⟩ := ihi (lv - 1) (x - 1) (by omega)
      have h0 : (lv != 0) = true := by simpa using h1
      have hok : okV (cons k t n i m r) lv = (okV i (lv - 1) && okV r lv) := by simp only [okV, h0, h3, Bool.true_and]
      by_cases ca : okV i (lv - 1) = true ∧ (i.cnt : Int) ≤ x - 1
      · rw [a1 ca]
        obtain ⟨b1, b2⟩ := ihr lv (x - 1 - i.cnt) (by omega)
        rw [hok, ca.1, Bool.true_and]
        simp only [cnt]
        refine ⟨fun h => ?_, fun h => b2 (fun hb => h ⟨hb.1, by omega⟩)⟩
        rw [b1 ⟨h.1, by omega⟩]
        congr 1
        omega
      · have hb := a2 ca
        rw [inV_bad r lv _ hb]
        refine ⟨fun h => ?_, fun _ => hb⟩
        rw [hok] at h
        simp only [Bool.and_eq_true, cnt] at h
        exact absurd ⟨h.1.1, by omega⟩ ca
def fitsV (l : Vals) : Bool := okV l 8 && decide (l.cnt ≤ 256)
theorem inV_fits (l : Vals) : (inV l 8 (256, false)).2 = !fitsV l := by
  obtain ⟨h1, h2⟩ := inV_ok l 8 256 (by decide)
  unfold fitsV
  by_cases h : okV l 8 = true ∧ (l.cnt : Int) ≤ 256
  · rw [h1 h, h.1, decide_eq_true (by omega)]; rfl
  · rw [h2 h]
    have : (okV l 8 && decide (l.cnt ≤ 256)) = false := by
      rw [← Bool.not_eq_true, Bool.and_eq_true, decide_eq_true_eq]
      rintro ⟨g1, g2⟩
      exact h ⟨g1, by omega⟩
    rw [this]; rfl
def sm : Vals → Prop
  | nil => True
  | cons k t n i m r => k < 256 ∧ t.length ≤ 1048576 ∧ (-9223372036854775808 ≤ n ∧ n ≤ 9223372036854775807) ∧ i.len ≤ 1048576 ∧ m.length ≤ 1048576 ∧ (∀ s, s ∈ m → s.length ≤ 1048576) ∧ i.sm ∧ r.sm
end Vals
end Go.Proofs.YtniibpndgcndbaaGreatDoor.Tpl
namespace Go.Proofs.YtniibpndgcndbaaGreatDoor.Tpl
open Go.RowKit Go.Proofs.YtniibpndgcndbaaGreatDoor.PB Go.Proofs.YtniibpndgcndbaaGreatDoor.Short Go.Proofs.YtniibpndgcndbaaGreatDoorW.PrintWords Go.Proofs.YtniibpndgcndbaaGreatDoorW.PrintLast Go.Proofs.YtniibpndgcndbaaGreatDoorW.PrintMore
abbrev SN := S37
abbrev ST := S101
abbrev kN : Kd SN := k37
abbrev kT : Kd ST := k101
def bs (s : S) : ByteArray := ⟨s.toArray⟩
def sv (s : S) : Value := .string (bs s)
theorem bs_size (s : S) : (bs s).size = s.length := by simp [bs, ByteArray.size]
theorem bs_list (s : S) : (bs s).toList = s := by unfold bs; exact ByteArray.toList_mk s
namespace Nodes
def of : Nodes → List SN
  | nil => []
  | cons k t p a b r => ⟨k, bs t, p.map bs, a.of, b.of⟩ :: r.of
def drop : Nodes → Nat → Nodes
  | l, 0 => l
  | nil, _ + 1 => nil
  | cons _ _ _ _ _ r, i + 1 => r.drop i
theorem of_len (l : Nodes) : l.of.length = l.len := by
  induction l with
  | nil => rfl
  | cons k t p a b r _ _ ih => simp [of, len, ih]
theorem drop_zero (l : Nodes) : l.drop 0 = l := by cases l <;> rfl
theorem drop_len (l : Nodes) : ∀ i, (l.drop i).len = l.len - i := by
  induction l with
  | nil => intro i; cases i <;> simp [drop, len]
  | cons k t p a b r _ _ ih => intro i; cases i <;> simp [drop, len, ih]
theorem drop_step {l : Nodes} : ∀ {i k t p a b r}, l.drop i = cons k t p a b r → i < l.len ∧ l.drop (i + 1) = r ∧ rd_T37 l.of i = ⟨k, bs t, p.map bs, a.of, b.of⟩ := by
  induction l with
  | nil => intro i k t p a b r h; cases i <;> simp [drop] at h
  | cons k' t' p' a' b' r' _ _ ih =>
    intro i k t p a b r h
    cases i with
    | zero =>
      simp only [drop, cons.injEq] at h
      obtain ⟨rfl, rfl, rfl, rfl, rfl, rfl⟩ := h
      exact ⟨by simp [len], by simp [drop], rfl⟩
    | succ i =>
      obtain ⟨h1, h2, h3⟩ := ih h
      refine ⟨by simp [len]; exact h1, h2, ?_⟩
      rw [← h3]
      unfold rd_T37
      have e : ((i : Int) + 1).toNat = (i : Int).toNat + 1 := by omega
      simp [of, e]
theorem drop_nil {l : Nodes} {i : Nat} (h : l.drop i = nil) : l.len ≤ i := by
  have := drop_len l i
  rw [h] at this
  simp only [len] at this
  omega
theorem isNil_len (l : Nodes) : l.isNil = decide (l.len = 0) := by cases l <;> simp [isNil, len]
def sm : Nodes → Prop
  | nil => True
  | cons k t p a b r => k < 256 ∧ t.length ≤ 1048576 ∧ p.length ≤ 1048576 ∧ (∀ s, s ∈ p → s.length ≤ 1048576) ∧ a.len ≤ 1048576 ∧ b.len ≤ 1048576 ∧ a.sm ∧ b.sm ∧ r.sm
theorem sm_drop {l : Nodes} (h : l.sm) : ∀ i, (l.drop i).sm := by
  induction l with
  | nil => intro i; cases i <;> exact trivial
  | cons k t p a b r _ _ ih =>
    intro i
    cases i with
    | zero => exact h
    | succ i => exact ih h.2.2.2.2.2.2.2.2 i
theorem cnt_drop (l : Nodes) : ∀ i, (l.drop i).cnt ≤ l.cnt := by
  induction l with
  | nil => intro i; cases i <;> simp [drop]
  | cons k t p a b r _ _ ih =>
    intro i
    cases i with
    | zero => exact Nat.le_refl _
    | succ i => have := ih i; simp only [drop, cnt]; omega
def Rd (w : World) (A : Option Addr) (c : Nat) (l : Nodes) : Prop := kN.C w A l.len l.of ∧ l.len ≤ c
theorem Rd.below {w w1 : World} {A : Option Addr} {c : Nat} {l : Nodes} (h : Rd w A c l) (hb : Below w.heap.size w w1) : Rd w1 A c l := ⟨Kd.C_below h.1 hb, h.2⟩
theorem Rd.at {w : World} {A : Option Addr} {c : Nat} {l : Nodes} (h : Rd w A c l) {i : Nat} {k t p a b r} (hd : l.drop i = cons k t p a b r) :
    ∃ ad A2 c2 A3 c3 A4 c4, A = some ad ∧ w.cell? (ad.add (i * 5)) = some (.int .u8 k) ∧ w.cell? ⟨(ad.add (i * 5)).block, (ad.add (i * 5)).off + 1, none⟩ = some (.string (bs t)) ∧ w.cell? ⟨(ad.add (i * 5)).block, (ad.add (i * 5)).off + 2, none⟩ = some (.slice A2 p.length c2) ∧
      w.cell? ⟨(ad.add (i * 5)).block, (ad.add (i * 5)).off + 3, none⟩ = some (.slice A3 a.len c3) ∧ w.cell? ⟨(ad.add (i * 5)).block, (ad.add (i * 5)).off + 4, none⟩ = some (.slice A4 b.len c4) ∧
      Kd.string.C w A2 p.length (p.map bs) ∧ p.length ≤ c2 ∧ Rd w A3 c3 a ∧ Rd w A4 c4 b := by
  obtain ⟨h1, _, h3⟩ := drop_step hd
  have hq : ((i : Int) < l.len) := by omega
  obtain ⟨ad, A2, c2, A3, c3, A4, c4, e, x0, x1, x2, x3, x4, l2, i2, l3, i3, l4, i4⟩ := at_T37 h.1 (i : Int) (by omega) hq
  rw [h3] at x0 x1 x2 x3 x4 l2 i2 l3 i3 l4 i4
  simp only [Int.toNat_natCast, List.length_map, of_len] at x0 x1 x2 x3 x4 l2 i2 l3 i3 l4 i4
  exact ⟨ad, A2, c2, A3, c3, A4, c4, e, x0, x1, x2, x3, x4, i2, l2, ⟨i3, l3⟩, ⟨i4, l4⟩⟩
end Nodes
end Go.Proofs.YtniibpndgcndbaaGreatDoor.Tpl
namespace Go.Proofs.YtniibpndgcndbaaGreatDoor.Tpl
set_option linter.unusedSimpArgs false
open Go.RowKit Go.Proofs.YtniibpndgcndbaaGreatDoor.PB Go.Proofs.YtniibpndgcndbaaGreatDoor.Short Go.Proofs.YtniibpndgcndbaaGreatDoorW.PrintWords Go.Proofs.YtniibpndgcndbaaGreatDoorW.PrintLast Go.Proofs.YtniibpndgcndbaaGreatDoorW.PrintMore Nodes
theorem bt_bs (s : S) (i : Nat) (h : i < s.length) : bt (bs s) (i : Int) = ((s.getD i 0).toNat : Int) := by
  have h2 : i < (bs s).size := by rw [bs_size]; exact h
  unfold bt
  rw [dif_pos (by simpa using h2)]
  simp only [Int.toNat_natCast]
  congr 2
  show (bs s).data[i] = _
  simp [bs, List.getD, h]
theorem w64 (i : Nat) (h : i ≤ 1048577) : wrap64 ((i : Int) + 1) = ((i + 1 : Nat) : Int) := by unfold wrap64; omega
theorem drop_get (s : S) (i : Nat) (h : i < s.length) : s.drop i = s.getD i 0 :: s.drop (i + 1) := by
  rw [List.drop_eq_getElem_cons h]; simp [List.getD, h]
theorem nameC_t (n : UInt8) (f : Bool) : nameC f n = (decide ((97 : Int) ≤ n.toNat) && decide ((n.toNat : Int) ≤ 122) || (!f && (decide ((n.toNat : Int) = 95) || (decide ((48 : Int) ≤ n.toNat) && decide ((n.toNat : Int) ≤ 57))))) := by
  unfold nameC
  congr 1
  · congr 1 <;> (rw [decide_eq_decide]; omega)
  · congr 2
    · rw [Bool.eq_iff_iff]; simp; omega
    · congr 1 <;> (rw [decide_eq_decide]; omega)
theorem named_l0 (s : S) (hs : s.length ≤ 1048576) : ∀ d i, s.length - i = d → i ≤ s.length → bellmanref09_Named.l0 (d + 1) (bs s) (i : Int) = some (nameL (i == 0) (s.drop i) && (!s.isEmpty && decide (s.length ≤ 32))) := by
  intro d
  induction d with
  | zero =>
    intro i h1 h2
    obtain rfl : i = s.length := by omega
    unfold bellmanref09_Named.l0
    rw [if_neg (by rw [bs_size]; omega), List.drop_length]
    simp only [nameL, Bool.true_and, bs_list, bs_size]
    cases s with
    | nil => rfl
    | cons c r => rw [if_neg (by simp)]; simp only [List.isEmpty_cons, Bool.not_false, Bool.true_and]; congr 1; rw [decide_eq_decide]; omega
  | succ d ih =>
    intro i h1 h2
    have hi : i < s.length := by omega
    unfold bellmanref09_Named.l0
    rw [if_pos (by rw [bs_size]; omega), if_pos (by omega), bt_bs s i hi, w64 i (by omega), ih (i + 1) (by omega) (by omega), drop_get s i hi]
    simp only [nameL, show ((i + 1 == 0) : Bool) = false from by simp, nameC_t]
    generalize s.getD i 0 = n
    by_cases c0 : i = 0
    · subst c0
      by_cases c1 : (97 : Int) ≤ n.toNat
      · by_cases c2 : (n.toNat : Int) ≤ 122
        · simp [c1, c2]
        · simp [c1, c2]
      · simp [c1]
    · have c0' : ¬ ((i : Int) = 0) := by omega
      have c0'' : (i == 0) = false := by simp [c0]
      by_cases c1 : (97 : Int) ≤ n.toNat
      · by_cases c2 : (n.toNat : Int) ≤ 122
        · simp [c1, c2]
        · rcases (by omega : (n.toNat : Int) < 48 ∨ (48 : Int) ≤ n.toNat) with c6 | c6
          · have c6' : ¬ (48 : Int) ≤ n.toNat := by omega
            by_cases c5 : (n.toNat : Int) = 95
            · omega
            · simp [c0, c1, c2, c0', c0'', c5, c6, c6']
          · have c6' : ¬ (n.toNat : Int) < 48 := by omega
            have c6'' : (48 : Int) ≤ n.toNat := c6
            rcases (by omega : (57 : Int) < n.toNat ∨ (n.toNat : Int) ≤ 57) with c7 | c7
            · have c7' : ¬ (n.toNat : Int) ≤ 57 := by omega
              by_cases c5 : (n.toNat : Int) = 95
              · simp [c0, c1, c2, c0', c0'', c5]
              · simp [c0, c1, c2, c0', c0'', c5, c6', c6'', c7, c7']
            · have c7' : ¬ (57 : Int) < n.toNat := by omega
              have c7'' : (n.toNat : Int) ≤ 57 := c7
              by_cases c5 : (n.toNat : Int) = 95
              · omega
              · simp [c0, c1, c2, c0', c0'', c5, c6', c6'', c7', c7'']
      · rcases (by omega : (n.toNat : Int) < 48 ∨ (48 : Int) ≤ n.toNat) with c6 | c6
        · have c6' : ¬ (48 : Int) ≤ n.toNat := by omega
          by_cases c5 : (n.toNat : Int) = 95
          · omega
          · simp [c0, c1, c0', c0'', c5, c6, c6']
        · have c6' : ¬ (n.toNat : Int) < 48 := by omega
          have c6'' : (48 : Int) ≤ n.toNat := c6
          rcases (by omega : (57 : Int) < n.toNat ∨ (n.toNat : Int) ≤ 57) with c7 | c7
          · have c7' : ¬ (n.toNat : Int) ≤ 57 := by omega
            by_cases c5 : (n.toNat : Int) = 95
            · simp [c0, c1, c0', c0'', c5]
            · simp [c0, c1, c0', c0'', c5, c6', c6'', c7, c7']
          · have c7' : ¬ (57 : Int) < n.toNat := by omega
            have c7'' : (n.toNat : Int) ≤ 57 := c7
            by_cases c5 : (n.toNat : Int) = 95
            · omega
            · simp [c0, c1, c0', c0'', c5, c6', c6'', c7', c7'']
theorem named_f (s : S) (hs : s.length ≤ 1048576) : ∃ k, bellmanref09_Named.f k (bs s) = some (nameP s) := by
  refine ⟨s.length + 1, ?_⟩
  unfold bellmanref09_Named.f
  have := named_l0 s hs s.length 0 (by omega) (by omega)
  rw [show ((0 : Nat) : Int) = 0 from rfl] at this
  rw [this]
  unfold nameP
  simp only [beq_self_eq_true, List.drop_zero]
  congr 1
  cases nameL true s <;> simp
theorem name_l0 (s : S) (hs : s.length ≤ 1048576) : ∀ d i, s.length - i = d → i ≤ s.length → value_Name.l0 (2 * d + 1) (bs s) (s.length : Int) (i : Int) = some (if nameL (i == 0) (s.drop i) = true then 0 else 13) := by
  intro d
  induction d with
  | zero =>
    intro i h1 h2
    obtain rfl : i = s.length := by omega
    unfold value_Name.l0
    rw [if_neg (by omega), List.drop_length]
    simp [nameL]
  | succ d ih =>
    intro i h1 h2
    have hi : i < s.length := by omega
    have ih' := ih (i + 1) (by omega) (by omega)
    rw [show 2 * (d + 1) + 1 = (2 * d + 1 + 1) + 1 from by omega]
    unfold value_Name.l0
    rw [if_pos (by omega), if_pos (by omega), if_pos (by rw [bs_size]; omega), bt_bs s i hi, drop_get s i hi]
    simp only [value_Name.j2, w64 i (by omega), ih', nameL, show ((i + 1 == 0) : Bool) = false from by simp, nameC_t]
    generalize s.getD i 0 = n
    by_cases c0 : i = 0
    · subst c0
      by_cases c1 : (97 : Int) ≤ n.toNat
      · by_cases c2 : (n.toNat : Int) ≤ 122
        · simp [c1, c2]
        · simp [c1, c2]
      · simp [c1]
    · have c0' : (i : Int) > 0 := by omega
      have c0'' : (i == 0) = false := by simp [c0]
      have c3 : ¬ (i = 0) := c0
      by_cases c1 : (97 : Int) ≤ n.toNat
      · by_cases c2 : (n.toNat : Int) ≤ 122
        · simp [c1, c2]
        · have c4 : 0 < i := by omega
          rcases (by omega : (n.toNat : Int) < 48 ∨ (48 : Int) ≤ n.toNat) with c6 | c6
          · have c6' : ¬ (48 : Int) ≤ n.toNat := by omega
            by_cases c5 : (n.toNat : Int) = 95
            · omega
            · simp [c1, c2, c0', c0'', c4, c5, c6, c6']
          · have c6' : ¬ (n.toNat : Int) < 48 := by omega
            have c6'' : (48 : Int) ≤ n.toNat := c6
            rcases (by omega : (57 : Int) < n.toNat ∨ (n.toNat : Int) ≤ 57) with c7 | c7
            · have c7' : ¬ (n.toNat : Int) ≤ 57 := by omega
              by_cases c5 : (n.toNat : Int) = 95
              · simp [c1, c2, c0', c0'', c4, c5]
              · simp [c1, c2, c0', c0'', c4, c5, c6', c6'', c7, c7']
            · have c7' : ¬ (57 : Int) < n.toNat := by omega
              have c7'' : (n.toNat : Int) ≤ 57 := c7
              by_cases c5 : (n.toNat : Int) = 95
              · omega
              · simp [c1, c2, c0', c0'', c4, c5, c6', c6'', c7', c7'']
      · have c4 : 0 < i := by omega
        rcases (by omega : (n.toNat : Int) < 48 ∨ (48 : Int) ≤ n.toNat) with c6 | c6
        · have c6' : ¬ (48 : Int) ≤ n.toNat := by omega
          by_cases c5 : (n.toNat : Int) = 95
          · omega
          · simp [c1, c0', c0'', c4, c5, c6, c6']
        · have c6' : ¬ (n.toNat : Int) < 48 := by omega
          have c6'' : (48 : Int) ≤ n.toNat := c6
          rcases (by omega : (57 : Int) < n.toNat ∨ (n.toNat : Int) ≤ 57) with c7 | c7
          · have c7' : ¬ (n.toNat : Int) ≤ 57 := by omega
            by_cases c5 : (n.toNat : Int) = 95
            · simp [c1, c0', c0'', c4, c5]
            · simp [c1, c0', c0'', c4, c5, c6', c6'', c7, c7']
          · have c7' : ¬ (57 : Int) < n.toNat := by omega
            have c7'' : (n.toNat : Int) ≤ 57 := c7
            by_cases c5 : (n.toNat : Int) = 95
            · omega
            · simp [c1, c0', c0'', c4, c5, c6', c6'', c7', c7'']
theorem name_f (s : S) (hs : s.length ≤ 1048576) : ∃ k, value_Name.f k (bs s) = some (if nameP s = true then 0 else 13) := by
  refine ⟨2 * s.length + 2, ?_⟩
  unfold value_Name.f nameP
  simp only [bs_list, bs_size]
  have := name_l0 s hs s.length 0 (by omega) (by omega)
  rw [show ((0 : Nat) : Int) = 0 from rfl] at this
  cases s with
  | nil => simp [value_Name.j0]
  | cons c r =>
    rw [if_neg (by simp)]
    by_cases h : (c :: r).length ≤ 32
    · have h' : decide (((c :: r).length : Int) > 32) = false := by simp; simp at h; omega
      rw [h']
      simp only [value_Name.j0, Bool.false_eq_true, if_false, bs_size, this, beq_self_eq_true, List.drop_zero, List.isEmpty_cons, Bool.not_false, Bool.true_and, decide_eq_true h]
    · have h' : decide (((c :: r).length : Int) > 32) = true := by simp; simp at h; omega
      rw [h']
      simp only [value_Name.j0, if_true, List.isEmpty_cons, Bool.not_false, Bool.true_and, decide_eq_false h, Bool.false_and, Bool.false_eq_true, if_false]
def ownP (s : S) : Nat := if s = ifS then 3 else if s = elseS then 4 else if s = eachS then 5 else if s = endS then 6 else 2
theorem own_f (s : S) : scan_own.f 5 (bs s) = some (ownP s : Int) := by
  by_cases h1 : s = [105, 102]
  · subst h1; kernel_rfl
  by_cases h2 : s = [101, 108, 115, 101]
  · subst h2; kernel_rfl
  by_cases h3 : s = [101, 97, 99, 104]
  · subst h3; kernel_rfl
  by_cases h4 : s = [101, 110, 100]
  · subst h4; kernel_rfl
  unfold scan_own.f
  have e1 : ¬ (([105, 102] : S) = s) := fun h => h1 h.symm
  have e2 : ¬ (([101, 108, 115, 101] : S) = s) := fun h => h2 h.symm
  have e3 : ¬ (([101, 97, 99, 104] : S) = s) := fun h => h3 h.symm
  have e4 : ¬ (([101, 110, 100] : S) = s) := fun h => h4 h.symm
  have m1 : (⟨#[105, 102]⟩ : ByteArray).toList = [105, 102] := bs_list [105, 102]
  have m2 : (⟨#[101, 108, 115, 101]⟩ : ByteArray).toList = [101, 108, 115, 101] := bs_list _
  have m3 : (⟨#[101, 97, 99, 104]⟩ : ByteArray).toList = [101, 97, 99, 104] := bs_list _
  have m4 : (⟨#[101, 110, 100]⟩ : ByteArray).toList = [101, 110, 100] := bs_list _
  unfold scan_own.l0
  rw [if_pos (by decide)]
  simp only [scan_words.f, if_true, Option.bind_some, m1, bs_list, if_neg e1, show ((3 : Int) + 1) % 256 = 4 from by decide]
  unfold scan_own.l0
  rw [if_pos (by decide)]
  simp only [scan_words.f, show ((4 : Int) = 3) = False from by simp, show ((4 : Int) = 5) = False from by simp, if_false, if_true, Option.bind_some, m2, bs_list, if_neg e2, show ((4 : Int) + 1) % 256 = 5 from by decide]
  unfold scan_own.l0
  rw [if_pos (by decide)]
  simp only [scan_words.f, show ((5 : Int) = 3) = False from by simp, if_false, if_true, Option.bind_some, m3, bs_list, if_neg e3, show ((5 : Int) + 1) % 256 = 6 from by decide]
  unfold scan_own.l0
  rw [if_pos (by decide)]
  simp only [scan_words.f, show ((6 : Int) = 3) = False from by simp, show ((6 : Int) = 5) = False from by simp, show ((6 : Int) = 4) = False from by simp, if_false, if_true, Option.bind_some, m4, bs_list, if_neg e4, show ((6 : Int) + 1) % 256 = 7 from by decide]
  unfold scan_own.l0
  rw [if_neg (by decide)]
  unfold ownP ifS elseS eachS endS
  rw [if_neg h1, if_neg h2, if_neg h3, if_neg h4]
  rfl
theorem own_special (s : S) : special s = (ownP s != 2) := by
  unfold special ownP
  by_cases h1 : s = ifS
  · simp [h1]
  by_cases h2 : s = elseS
  · simp [h1, h2]; subst h2; decide
  by_cases h3 : s = eachS
  · subst h3; decide
  by_cases h4 : s = endS
  · subst h4; decide
  simp [h1, h2, h3, h4]
end Go.Proofs.YtniibpndgcndbaaGreatDoor.Tpl
namespace Go.Proofs.YtniibpndgcndbaaGreatDoor.Tpl
open Go.RowKit Go.Proofs.YtniibpndgcndbaaGreatDoor.PB Go.Proofs.YtniibpndgcndbaaGreatDoor.Short Go.Proofs.YtniibpndgcndbaaGreatDoorW.PrintWords Go.Proofs.YtniibpndgcndbaaGreatDoorW.PrintLast Go.Proofs.YtniibpndgcndbaaGreatDoorW.PrintMore Nodes
attribute [local go_sem ↓] Go.wp_at_zero Go.wp_at_succ
structure KeepP (ok : Nat → Prop) (w w' : World) : Prop where
  os : w'.os = w.os
  tape : w'.tape = w.tape
  output : w'.output = w.output
  size : w.heap.size ≤ w'.heap.size
  blk : ∀ i, i < w.heap.size → ¬ ok i → w'.heap[i]? = w.heap[i]?
namespace KeepP
variable {ok ok' : Nat → Prop} {w w1 w2 : World}
theorem refl (w : World) : KeepP ok w w := ⟨rfl, rfl, rfl, Nat.le_refl _, fun _ _ _ => rfl⟩
theorem trans (h : KeepP ok w w1) (k : KeepP ok w1 w2) : KeepP ok w w2 := ⟨k.os.trans h.os, k.tape.trans h.tape, k.output.trans h.output, Nat.le_trans h.size k.size, fun i hi hn => (k.blk i (Nat.lt_of_lt_of_le hi h.size) hn).trans (h.blk i hi hn)⟩
theorem mono (h : KeepP ok w w1) (hk : ∀ k, ok k → ok' k) : KeepP ok' w w1 := ⟨h.os, h.tape, h.output, h.size, fun i hi hn => h.blk i hi (fun c => hn (hk i c))⟩
theorem of_below (h : Below w.heap.size w w1) : KeepP ok w w1 := ⟨h.os, h.tape, h.output, h.size, fun i hi _ => h.block i hi⟩
theorem grown {row : Option Nat} (h : w.grownBy w1 row) (hr : ∀ k, row = some k → ok k) : KeepP ok w w1 := ⟨h.os, h.tape, h.output, h.size, fun i hi hn => h.block i hi (fun e => hn (hr i e.symm))⟩
theorem below (h : KeepP ok w w1) {B : Nat} (hB : ∀ k, ok k → B ≤ k) (hle : B ≤ w.heap.size) : Below B w w1 := ⟨h.os, h.tape, h.output, h.size, fun i hi => h.blk i (Nat.lt_of_lt_of_le hi hle) (fun c => by have := hB i c; omega)⟩
theorem blkOf (h : KeepP ok w w1) {g : Nat} {o : Obj} (hg : w.heap[g]? = some o) (hn : ¬ ok g) : w1.heap[g]? = some o := (h.blk g (blk_lt hg) hn).trans hg
end KeepP
theorem info_str : (Tryz.prog.info? 9).map (fun i => (i.zero, i.size, i.bytes)) = some (some (.string ⟨#[]⟩), 1, 16) := by kernel_rfl
set_option maxHeartbeats 1000000 in
set_option maxRecDepth 100000 in
/-- slices.Clone of texts -/
theorem clone_any (A : Option Addr) (c : Nat) (p : List ByteArray) (w : World) (hC : Kd.string.C w A p.length p) (hn : p.length ≤ 1048576) :
    Calls Tryz.prog 136 #[.slice A p.length c] w fun e w' => ∃ v', e = .returned v' ∧ Kd.string.R 9 w' w.heap.size (fun k => w.heap.size ≤ k) v' p ∧ Below w.heap.size w w' := by
  have q24 : ∀ (w : World) (a : Option Addr) (n c n' c' : Nat), (binOp .eql 23 (.slice a n c) (.slice none n' c')).run Tryz.prog w = .ok (.bool a.isNone) w := fun w a n c n' c' => Lib.run_eql_slice_nil w _ _ a n c n' c' Tryz.underlying23
  cases A with
  | none =>
    have h0 : p = [] := by
      cases p with
      | nil => rfl
      | cons x r => obtain ⟨ad, e, _⟩ := hC.2.2 (by simp); cases e
    subst h0
    go_enter Tryz.func136, Tryz.ntmps136
    go_wp2
    go_ret
    exact ⟨_, rfl, Kd.R_nil _ _ _ _ _, Below.refl _ _⟩
  | some ad =>
    obtain ⟨i0, hi, hz0, hz1, hz2⟩ := info_parts info_str
    have A := Aside0.mk hC
    clear hC
    go_enter Tryz.func136, Tryz.ntmps136
    go_wp2_with (at_builtin; refine wpList_append_own _ rfl _ _ 23 rfl w.heap.size 9 i0 (.string { data := #[] }) 1 16 Tryz.underlying23 hi hz0 hz1 hz2 rfl (by decide) _ _ _ rfl (World.ownsRow_made w #[] 0 (Nat.le_refl _) (Nat.zero_le _) rfl) ad p.length c (p.map (Value.string)) rfl ?qc1 ?qc2 ?qc3 ?qc4 ?qc5 ?qc6 ?_)
    case qc1 => simp
    case qc2 =>
      intro j u hj
      have hjn : j < p.length := by have := (List.getElem?_eq_some_iff.1 hj).1; simpa using this
      refine Lib.cell?_alloc_some _ ?_
      obtain ⟨ad', e, hc⟩ := A.out.2.2 (by omega)
      cases e
      obtain ⟨cs, hl, hk, hcell⟩ := hc j _ (List.getElem?_eq_getElem hjn)
      have hk' : cs = [.string p[j]] := hk
      subst hk'
      have h0 := hcell 0 _ rfl
      rw [List.getElem?_map, List.getElem?_eq_getElem hjn] at hj
      cases hj
      simpa [Kd.string, Kd.scalar] using h0
    case qc3 => intro u hu; obtain ⟨x, _, rfl⟩ := List.mem_map.1 hu; rfl
    case qc4 => unfold maxLen; omega
    case qc5 => omega
    case qc6 => simp
    intro v' w1 hown hgrow hnil
    go_wp2
    go_ret
    have ho : w1.ownsRow w.heap.size 9 1 v' p.length (encs Value.string p) := by simpa [encs] using hown
    exact ⟨v', rfl, Kd.R_of_own ho (fun k hk => own_base ho k hk), ((Below.refl _ w).alloc (Nat.le_refl _) _).grown hgrow (by simp) (by intro k hk; simp [Value.ownBlock] at hk; omega)⟩
theorem clone_S (A : Option Addr) (c : Nat) (p : List S) (w : World) (hC : Kd.string.C w A p.length (p.map bs)) (hn : p.length ≤ 1048576) :
    Calls Tryz.prog 136 #[.slice A p.length c] w fun e w' => ∃ Av cv, e = .returned (.slice Av p.length cv) ∧ Kd.string.R 9 w' w.heap.size (fun k => w.heap.size ≤ k) (.slice Av p.length cv) (p.map bs) ∧ Below w.heap.size w w' := by
  have h := clone_any A c (p.map bs) w (by simpa using hC) (by simpa using hn)
  rw [List.length_map] at h
  refine h.mono ?_
  rintro e w' ⟨v, rfl, hv, hb⟩
  obtain ⟨Av, cv, e⟩ := Kd.R_slice hv
  rw [List.length_map] at e
  subst e
  exact ⟨Av, cv, rfl, hv, hb⟩
def Tok.of (x : Tok) : ST := ⟨x.k, bs x.t, x.p.map bs⟩
def tokv (l : List Tok) : List ST := l.map Tok.of
theorem tokM (w : World) (base k : Nat) : kT.M w base (fun _ => False) (Tok.of ⟨k, [], []⟩) [.int .u8 k, .string ⟨#[]⟩, .slice none 0 0] := k101_mkM w base _ (Tok.of ⟨k, [], []⟩) (Kd.R_nil _ _ _ _ _)
theorem toks_len (l : Nodes) : (tokv l.toks).length ≤ 3 * l.cnt := by
  unfold tokv
  rw [List.length_map]
  induction l with
  | nil => simp [toks]
  | cons k t p a b r iha ihb ihr =>
    simp only [toks, cnt, List.length_cons, List.length_append]
    split
    · simp only [List.length_append, List.length_cons, List.length_nil]
      cases b with
      | nil => simp [isNil]; simp only [cnt, toks, List.length_nil] at *; omega
      | cons => simp only [isNil, Bool.false_eq_true, if_false, List.length_cons] at *; simp only [cnt] at *; omega
    · simp; omega
theorem put_bounds {ca cb cr cd la l2 l3 ta tb m cl : Nat} (h1 : 1 + ca + cb + cr = cd) (h2 : cd ≤ cl) (h3 : cl ≤ m + 1) (hx : cd * 3 + la ≤ 1048576) (h4 : ta ≤ 3 * ca) (h5 : tb ≤ 3 * cb) (h6 : l2 = la + 1) (h7 : l3 = l2 + ta) :
    (l3 + 1) * 48 ≤ 140737488355328 ∧ cb * 3 + (l3 + 1) ≤ 1048576 ∧ cr * 3 + (l3 + 1) ≤ 1048576 ∧ cr * 3 + (l3 + 1 + tb + 1) ≤ 1048576 ∧ cb ≤ m ∧ (l3 + 1 + tb + 1) * 48 ≤ 140737488355328 := by omega
theorem put_bounds1 {ca cb cr cd la m cl : Nat} (h1 : 1 + ca + cb + cr = cd) (h2 : cd ≤ cl) (h3 : cl ≤ m + 1) (hx : cd * 3 + la ≤ 1048576) : ca ≤ m ∧ ca * 3 + (la + 1) ≤ 1048576 ∧ cr * 3 + (la + 1) ≤ 1048576 := by omega
theorem le48 {n x : Nat} (h : x + n ≤ 1048576) : (n + 1) * 48 ≤ 140737488355328 := by omega
set_option maxHeartbeats 4000000 in
set_option maxRecDepth 100000 in
theorem put_any (w0 : World) (m : Nat) : ∀ (l : Nodes) (A : Option Addr) (c : Nat) (xs : List ST) (v : Value) (ok : Nat → Prop) (w : World), l.cnt ≤ m → l.cnt * 3 + xs.length ≤ 1048576 → l.sm → Rd w0 A c l → Below w0.heap.size w0 w → (∀ k, ok k → w0.heap.size ≤ k) → (∀ k, w.heap.size ≤ k → ok k) → kT.R 101 w w0.heap.size ok v xs →
    Calls Tryz.prog 92 #[v, .slice A l.len c] w fun e w' => ∃ v', e = .returned v' ∧ kT.R 101 w' w0.heap.size ok v' (xs ++ tokv l.toks) ∧ KeepP ok w w' := by
  induction m with
  | zero =>
    intro l A c xs v ok w hm
    cases l with
    | cons => simp [cnt] at hm
    | nil =>
      intro _ _ _ _ _ _ hR
      go_enter Tryz.func92, Tryz.ntmps92
      go_wp2
      refine wp_loop_rounds 1 ?_
      rw [rounds_succ]
      go_wp2
      go_ret
      exact ⟨_, rfl, by simpa [toks, tokv] using hR, KeepP.refl _⟩
  | succ m ih =>
    intro l A c xs v ok w hm hx hs hR hB hok hfr hO
    have HR := Aside0.mk hR
    have HS := Aside0.mk hs
    have HB := Aside0.mk hB
    have HM := Aside0.mk hm
    have HX := Aside0.mk hx
    have HO := Aside0.mk hO
    have HOK := Aside0.mk hok
    have HFR := Aside0.mk hfr
    have hll := hR.1.2.1
    clear hR hs hB hm hx hO hok hfr
    go_enter Tryz.func92, Tryz.ntmps92
    go_wp2
    go_loopw [0, 9] (fun v0 v9 wr => ∃ (i : Nat) (acc : List ST), v9 = .int .i64 i ∧ i ≤ l.len ∧ Aside0 (xs ++ tokv l.toks = acc ++ tokv (l.drop i).toks) ∧ Aside0 ((l.drop i).cnt * 3 + acc.length ≤ 1048576) ∧ Aside0 (kT.R 101 wr w0.heap.size ok v0 acc) ∧ Aside0 (KeepP ok w wr))
      (fun _ v _ => l.len - (intOf v).toNat)
    case atStart => exact ⟨0, xs, rfl, Nat.zero_le _, by rw [drop_zero]; exact ⟨rfl⟩, by rw [drop_zero]; exact HX, HO, ⟨KeepP.refl _⟩⟩
    case round =>
      clear HO HX
      obtain ⟨i, acc, rfl, hi, HE, HX, HO, HK⟩ := hrel
      cases hd : l.drop i with
      | nil =>
        have h1 := drop_nil hd
        obtain rfl : i = l.len := by omega
        rw [hd] at HE
        clear hd
        go_wp2
        go_ret
        exact ⟨_, rfl, by rw [HE.out]; simpa [toks, tokv] using HO.out, HK.out⟩
      | cons k t p a b r =>
        obtain ⟨h1, h2, _⟩ := drop_step hd
        have HBr := Aside0.mk (HB.out.trans (HK.out.below HOK.out HB.out.size))
        obtain ⟨ad, A2, c2, A3, c3, A4, c4, rfl, y0, y1, y2, y3, y4, i2, l2, R3, R4⟩ := HR.out.at hd
        replace y0 := (HBr.out.cell (World.block_lt_of_cell? _ _ y0)).trans y0
        replace y1 := (HBr.out.cell (World.block_lt_of_cell? _ _ y1)).trans y1
        replace y2 := (HBr.out.cell (World.block_lt_of_cell? _ _ y2)).trans y2
        replace y3 := (HBr.out.cell (World.block_lt_of_cell? _ _ y3)).trans y3
        replace y4 := (HBr.out.cell (World.block_lt_of_cell? _ _ y4)).trans y4
        obtain ⟨s1, s2, s3, s4, s5, s6, s7, s8, s9⟩ : (cons k t p a b r).sm := hd ▸ sm_drop HS.out i
        have HE' : xs ++ tokv l.toks = acc ++ tokv (cons k t p a b r).toks := hd ▸ HE.out
        have HD := Aside0.mk hd
        clear hd HE
        go_wp2_with fail
        obtain ⟨g, hg⟩ : ∃ g, wr.heap.size = g := ⟨_, rfl⟩
        have BK := Aside0.mk (blk_new wr (.cells #[.int .u8 k, .string (bs t), .slice A2 p.length c2, .slice A3 a.len c3, .slice A4 b.len c4] 37))
        have HBW := Aside0.mk (below_alloc HBr.out (.cells #[.int .u8 k, .string (bs t), .slice A2 p.length c2, .slice A3 a.len c3, .slice A4 b.len c4] 37))
        have HBw := Aside0.mk (below_alloc (Below.refl wr.heap.size wr) (.cells #[.int .u8 k, .string (bs t), .slice A2 p.length c2, .slice A3 a.len c3, .slice A4 b.len c4] 37))
        generalize hW : wr.alloc (.cells #[.int .u8 k, .string (bs t), .slice A2 p.length c2, .slice A3 a.len c3, .slice A4 b.len c4] 37) = W at BK HBW HBw ⊢
        rw [hg] at BK ⊢
        obtain ⟨m0, m1, m2, m3, m4, n0, n1, n2, n3, n4⟩ := cells_5 BK.out
        have hgW : g < W.heap.size := blk_lt BK.out
        have hwW : wr.heap.size ≤ W.heap.size := HBw.out.size
        have HOW : Aside0 (kT.R 101 W w0.heap.size (fun k => ok k ∧ k ≠ g) u0 acc) := ⟨Kd.R_types (Kd.R_below HO.out HBw.out) BK.out (by decide)⟩
        have HLT : Aside0 (∀ k, u0.ownBlock = some k → k < wr.heap.size) := ⟨by obtain ⟨inner, ho⟩ := Kd.R_own HO.out; exact own_lt ho⟩
        have Hs1 : w0.heap.size ≤ W.heap.size := HBW.out.size
        have HF : Aside0 (∀ k, W.heap.size ≤ k → ok k ∧ k ≠ g) := ⟨fun k hk => ⟨HFR.out k (by have := HK.out.size; omega), by omega⟩⟩
        have HP : Aside0 (∀ k, W.heap.size ≤ k → (ok k ∧ k ≠ g) ∧ some k ≠ u0.ownBlock) := ⟨fun k hk => ⟨HF.out k hk, fun e => by have := HLT.out k e.symm; omega⟩⟩
        have HL : (acc.length + 1) * 48 ≤ 140737488355328   := le48 HX.out
        have HNE : Aside0 (some g ≠ u0.ownBlock) := ⟨fun e => by have := HLT.out g e.symm; omega⟩
        go_region_held3 (fun w' => w'.cell? ⟨g, 0, none⟩ = some (.int .u8 k) ∧ w'.cell? ⟨g, 1, none⟩ = some (.string (bs t)) ∧ w'.cell? ⟨g, 2, none⟩ = some (.slice A2 p.length c2))
          (first
            | go_keep
            | (have q := cells_5 (blk_below (w := W.drew) BK.out hb1); exact ⟨q.1, q.2.1, q.2.2.1⟩)
            | (have q := cells_5 ((hg2.block g (Nat.lt_of_lt_of_le hgW hb1.size) HNE.out).trans (blk_below (w := W.drew) BK.out hb1)); exact ⟨q.1, q.2.1, q.2.2.1⟩))
          (first
            | ((go_at_call 136; refine (clone_S A2 c2 p _ (Kd.C_below i2 (by exact belS HBW.out)) s3).mono ?_; rintro e w1 ⟨Av1, cv1, rfl, hv1, hb1⟩))
            | ((refine Kd.R_append_step kT w0.heap.size (by first | rfl | assumption) _ _ 95 101 _ 48 (by rfl) Tryz.underlying95 info101 rfl (by decide) (by decide) u0 acc ⟨k, bs t, p.map bs⟩ [.int .u8 k, .string (bs t), .slice Av1 p.length cv1] (fun k => ok k ∧ k ≠ g) (fun k => W.heap.size ≤ k) (by rfl) (by rfl) (k101_mkM _ _ _ ⟨k, bs t, p.map bs⟩ (Kd.R_lower hv1 Hs1)) HP.out (fun k hk => HF.out k (Nat.le_trans hb1.size hk)) (Kd.R_below HOW.out (below_step (below_drew1 (Below.refl W.heap.size W)) hb1)) (below_step (below_drew1 HBW.out) hb1) (Nat.le_trans Hs1 hb1.size) HL ?_; intro v2 w2 hO2 hB2 hg2 hat2)))
        have hbD : Below wr.heap.size wr w1 := below_step (below_drew1 HBw.out) hb1
        have BK2 := Aside0.mk ((hg2.block g (Nat.lt_of_lt_of_le hgW hb1.size) HNE.out).trans (blk_below (w := W.drew) BK.out hb1))
        have HK2 : Aside0 (KeepP ok w w2) := ⟨HK.out.trans ((KeepP.of_below hbD).trans (KeepP.grown hg2 (fun k hk => (HOW.out.1 k hk).1)))⟩
        have HO2 := Aside0.mk hO2
        have HNK : ¬ (ok g ∧ g ≠ g) := fun h => h.2 rfl
        have hs2 : w1.heap.size ≤ w2.heap.size := hg2.size
        have hsW : W.heap.size ≤ w1.heap.size := hb1.size
        have hwr := HK.out.size
        clear hb1 hv1 hg2 hB2 hat2 hbD hO2 HOW BK HO m0 m1 m2 m3 m4 n0 n1 n2 n3 n4 HBw HBW HLT HP HBr HK hW
        obtain ⟨m0, m1, m2, m3, m4, n0, n1, n2, n3, n4⟩ := cells_5 BK2.out
        by_cases hk : k = 3 ∨ k = 5
        · have HH : xs ++ tokv l.toks = (acc ++ [⟨k, bs t, p.map bs⟩] ++ tokv a.toks) ++ (tokv ((if b.isNil then [] else elseTok :: toks b) ++ [endTok]) ++ tokv r.toks) := by rw [HE']; simp [toks, tokv, Tok.of, hk]
          have q3 : ((k : Int) != 3 && (k : Int) != 5) = false := by rcases hk with rfl | rfl <;> decide
          have hcnt : 1 + a.cnt + b.cnt + r.cnt = (l.drop i).cnt := by rw [HD.out]; simp only [cnt]
          have hcl := cnt_drop l i
          have hm := HM.out
          have hx := HX.out
          have hta := toks_len a
          have htb := toks_len b
          have HOK' : ∀ k, ok k ∧ k ≠ g → w0.heap.size ≤ k := fun k h => HOK.out k h.1
          have HB2 := Aside0.mk (HB.out.trans (HK2.out.below HOK.out HB.out.size))
          obtain ⟨acc2, ha2⟩ : ∃ acc2, acc ++ [⟨k, bs t, p.map bs⟩] = acc2 := ⟨_, rfl⟩
          rw [ha2] at HH
          have HO2' : Aside0 (kT.R 101 w2 w0.heap.size (fun k => ok k ∧ k ≠ g) v2 acc2) := ⟨ha2 ▸ HO2.out⟩
          have hla2 : acc2.length = acc.length + 1 := by rw [← ha2]; simp
          clear ha2 HO2
          have hba := put_bounds1 hcnt hcl hm hx
          rcases hk with rfl | rfl
          all_goals
            go_wp2_with fail
            refine (ih a A3 c3 acc2 v2 (fun k => ok k ∧ k ≠ g) w2 hba.1 (hla2 ▸ hba.2.1) s7 R3 HB2.out HOK' (fun k hk => HF.out k (Nat.le_trans hsW (Nat.le_trans hs2 hk))) HO2'.out).mono ?_
            rintro e w3 ⟨v3, rfl, hO3, hK3⟩
            have BK3 := Aside0.mk (hK3.blkOf BK2.out HNK)
            have HK3 : Aside0 (KeepP ok w w3) := ⟨HK2.out.trans (hK3.mono (fun _ h => h.1))⟩
            have hs3 := hK3.size
            have HB3 := Aside0.mk (HB.out.trans (HK3.out.below HOK.out HB.out.size))
            obtain ⟨acc3, ha3⟩ : ∃ acc3, acc2 ++ tokv a.toks = acc3 := ⟨_, rfl⟩
            rw [ha3] at HH hO3
            have hla3 : acc3.length = acc2.length + (tokv a.toks).length := by rw [← ha3, List.length_append]
            have HO3 := Aside0.mk hO3
            have HF3 : ∀ k, w3.heap.size ≤ k → ok k ∧ k ≠ g := fun k hk => HF.out k (Nat.le_trans hsW (Nat.le_trans hs2 (Nat.le_trans hs3 hk)))
            have hle3 : w0.heap.size ≤ w3.heap.size := HB3.out.size
            obtain ⟨HL3, hrel, hrel2, hrel3, hbm, HL5a⟩ := put_bounds hcnt hcl hm hx hta htb hla2 hla3
            clear m0 m1 m2 m3 m4 n0 n1 n2 n3 n4 hO3 hK3 ha3 hla3 hta htb hx hm hcl hcnt
            obtain ⟨m0, m1, m2, m3, m4, n0, n1, n2, n3, n4⟩ := cells_5 BK3.out
            have HN3 : some g ≠ v3.ownBlock := fun e => (HO3.out.1 g e.symm).2 rfl
            cases hb : b.isNil with
            | true =>
              have hb0 : b.len = 0 := by simpa [isNil_len] using hb
              rw [hb0] at m4
              rw [hb] at HH
              go_wp2_with (at_builtin; refine Kd.R_append kT w0.heap.size rfl _ _ 95 101 _ 48 rfl Tryz.underlying95 info101 rfl (by decide) (by decide) v3 acc3 (Tok.of ⟨6, [], []⟩) [.int .u8 6, .string ⟨#[]⟩, .slice none 0 0] (fun k => ok k ∧ k ≠ g) (fun _ => False) rfl rfl (tokM _ _ 6) (fun _ h => h.elim) HF3 HO3.out HB3.out hle3 HL3 ?_; intro v4 w4 hO4 hB4 hg4 hat4)
              go_roundw
              case rel => exact ⟨i + 1, _, by simp, by omega, ⟨by rw [HH, h2]; simp [tokv, endTok, Tok.of]⟩, ⟨by rw [h2]; simp only [List.length_append, List.length_singleton]; exact hrel2⟩, ⟨Kd.R_mono hO4 (fun _ h => h.1)⟩, ⟨HK3.out.trans (KeepP.grown hg4 (fun k hk => (HO3.out.1 k hk).1))⟩⟩
              case measure => simp [intOf]; omega
            | false =>
              have hb0 : 0 < b.len := by have := hb; rw [isNil_len] at this; simp at this; omega
              rw [hb] at HH
              go_wp2_with fail
              go_region_held3 (fun w' => w'.cell? ⟨g, 4, none⟩ = some (.slice A4 b.len c4))
                (first
                  | go_keep
                  | exact (cells_5 ((hg4.block g (blk_lt BK3.out) HN3).trans BK3.out)).2.2.2.2.1
                  | exact (cells_5 (hK5.blkOf ((hg4.block g (blk_lt BK3.out) HN3).trans BK3.out) HNK)).2.2.2.2.1)
                (first
                  | ((refine Kd.R_append_step (W := w3.drew) kT w0.heap.size (by first | rfl | assumption) _ _ 95 101 _ 48 (by rfl) Tryz.underlying95 info101 rfl (by decide) (by decide) v3 acc3 (Tok.of ⟨4, [], []⟩) [.int .u8 4, .string ⟨#[]⟩, .slice none 0 0] (fun k => ok k ∧ k ≠ g) (fun _ => False) (by rfl) (by rfl) (tokM _ _ 4) (fun _ h => h.elim) HF3 (Kd.R_below HO3.out (below_drew1 (Below.refl _ _))) (below_drew1 HB3.out) hle3 HL3 ?_; intro v4 w4 hO4 hB4 hg4 hat4))
                  | ((go_at_call 92; refine (ih b A4 c4 (acc3 ++ [Tok.of ⟨4, [], []⟩]) v4 (fun k => ok k ∧ k ≠ g) _ hbm (by simp only [List.length_append, List.length_singleton]; exact hrel) s8 R4 hB4 HOK' (fun k hk => HF3 k (Nat.le_trans hg4.size hk)) hO4).mono ?_; rintro e w5 ⟨v5, rfl, hO5, hK5⟩)))
              have BK5 := Aside0.mk (hK5.blkOf ((hg4.block g (blk_lt BK3.out) HN3).trans BK3.out) HNK)
              have HK5 : Aside0 (KeepP ok w w5) := ⟨HK3.out.trans ((KeepP.of_below (below_drew1 (Below.refl _ _))).trans ((KeepP.grown hg4 (fun k hk => (HO3.out.1 k hk).1)).trans (hK5.mono (fun _ h => h.1))))⟩
              have hs5 : w3.heap.size ≤ w5.heap.size := Nat.le_trans hg4.size hK5.size
              have HB5 := Aside0.mk (HB.out.trans (HK5.out.below HOK.out HB.out.size))
              have HO5 := Aside0.mk hO5
              have hla5 : (acc3 ++ [Tok.of ⟨4, [], []⟩] ++ tokv b.toks).length = acc3.length + 1 + (tokv b.toks).length := by rw [List.length_append, List.length_append, List.length_singleton]
              have HL5 : ((acc3 ++ [Tok.of ⟨4, [], []⟩] ++ tokv b.toks).length + 1) * 48 ≤ 140737488355328 := by rw [hla5]; exact HL5a
              have HF5 : ∀ k, w5.heap.size ≤ k → ok k ∧ k ≠ g := fun k hk => HF3 k (Nat.le_trans hs5 hk)
              have hle5 : w0.heap.size ≤ w5.heap.size := HB5.out.size
              clear hg4 hK5 hO5 hO4 hB4 hat4 m0 m1 m2 m3 m4 n0 n1 n2 n3 n4
              go_wp2_with (at_builtin; refine Kd.R_append kT w0.heap.size rfl _ _ 95 101 _ 48 rfl Tryz.underlying95 info101 rfl (by decide) (by decide) v5 (acc3 ++ [Tok.of ⟨4, [], []⟩] ++ tokv b.toks) (Tok.of ⟨6, [], []⟩) [.int .u8 6, .string ⟨#[]⟩, .slice none 0 0] (fun k => ok k ∧ k ≠ g) (fun _ => False) rfl rfl (tokM _ _ 6) (fun _ h => h.elim) HF5 HO5.out HB5.out hle5 HL5 ?_; intro v6 w6 hO6 hB6 hg6 hat6)
              go_roundw
              case rel => exact ⟨i + 1, _, by simp, by omega, ⟨by rw [HH, h2]; simp [tokv, endTok, elseTok, Tok.of]⟩, ⟨by rw [h2, List.length_append, hla5]; exact hrel3⟩, ⟨Kd.R_mono hO6 (fun _ h => h.1)⟩, ⟨HK5.out.trans (KeepP.grown hg6 (fun k hk => (HO5.out.1 k hk).1))⟩⟩
              case measure => simp [intOf]; omega
        · have q3 : ((k : Int) != 3) = true := by rw [bne_iff_ne]; omega
          have q5 : ((k : Int) != 5) = true := by rw [bne_iff_ne]; omega
          go_wp2
          go_roundw
          case rel => exact ⟨i + 1, acc ++ [⟨k, bs t, p.map bs⟩], by simp, by omega, ⟨by rw [HE', h2]; simp [toks, tokv, Tok.of, hk]⟩, ⟨by have hcnt : 1 + a.cnt + b.cnt + r.cnt = (l.drop i).cnt := (by rw [HD.out]; simp only [cnt]); rw [h2, List.length_append, List.length_singleton]; exact (put_bounds1 hcnt (cnt_drop l i) HM.out HX.out).2.2⟩, ⟨Kd.R_mono HO2.out (fun _ h => h.1)⟩, HK2⟩
          case measure => simp [intOf]; omega
end Go.Proofs.YtniibpndgcndbaaGreatDoor.Tpl
namespace Go.Proofs.YtniibpndgcndbaaGreatDoor.Tpl
open Go.RowKit Go.Proofs.YtniibpndgcndbaaGreatDoor.PB Go.Proofs.YtniibpndgcndbaaGreatDoor.Short Go.Proofs.YtniibpndgcndbaaGreatDoorW.PrintWords Go.Proofs.YtniibpndgcndbaaGreatDoorW.PrintLast Go.Proofs.YtniibpndgcndbaaGreatDoorW.PrintMore Nodes
theorem leaf_any (k : Nat) (t : S) (p : List S) (a b : Nodes) (hp : p.length ≤ 1048576) (ha : a.len ≤ 1048576) (hb : b.len ≤ 1048576) : tree_leaf.f k (bs t) (p.map bs) a.of b.of = some (leafP k t p.length a.len b.len) := by
  unfold tree_leaf.f leafP
  simp only [List.length_map, of_len, bs_list]
  have w1 : wrap64 (wrap64 ((p.length : Int) + a.len) + b.len) = p.length + a.len + b.len := by unfold wrap64; omega
  rw [w1]
  have q : (t == []) = t.isEmpty := by cases t <;> rfl
  by_cases k1 : k = 1
  · subst k1
    rw [if_pos (show ((1 : Nat) : Int) = 1 from rfl), if_pos (show (1 : Nat) = 1 from rfl)]
    congr 1
    rw [Bool.eq_iff_iff, beq_iff_eq, beq_iff_eq]
    omega
  by_cases k2 : k = 2
  · subst k2
    rw [if_neg (show ¬ ((2 : Nat) : Int) = 1 by decide), if_pos (show ((2 : Nat) : Int) = 2 from rfl), if_neg (show ¬ (2 : Nat) = 1 by decide), if_pos (show (2 : Nat) = 2 from rfl), q]
    by_cases ha0 : a.len = 0
    · by_cases hb0 : b.len = 0
      · simp [ha0, hb0]
      · rw [if_neg (by omega), if_pos (by omega)]; simp [hb0]
    · rw [if_pos (by omega)]; simp [ha0]
  by_cases k5 : k = 5
  · subst k5
    rw [if_neg (show ¬ ((5 : Nat) : Int) = 1 by decide), if_neg (show ¬ ((5 : Nat) : Int) = 2 by decide), if_pos (show ((5 : Nat) : Int) = 5 from rfl), if_neg (show ¬ (5 : Nat) = 1 by decide), if_neg (show ¬ (5 : Nat) = 2 by decide), if_pos (show (5 : Nat) = 5 from rfl), q]
    by_cases hb0 : b.len = 0
    · simp [hb0]
    · rw [if_pos (by omega)]; simp [hb0]
  rw [if_neg (by omega), if_neg (by omega), if_neg (by omega), if_neg k1, if_neg k2, if_neg k5, q]
  by_cases k3 : k = 3
  · rw [if_pos (by omega), if_pos k3]
  · rw [if_neg (by omega), if_neg k3]
set_option maxHeartbeats 4000000 in
set_option maxRecDepth 100000 in
theorem in_any (w0 : World) (g : Nat) (hg0 : w0.heap.size ≤ g) (m : Nat) : ∀ (l : Nodes) (A : Option Addr) (c lv : Nat) (x : Int) (bad : Bool) (w : World), l.cnt ≤ m → l.sm → Rd w0 A c l → l.len ≤ 1048576 → lv ≤ 8 → -1000000000 + l.cnt ≤ x → x ≤ 1000000000 → Below w0.heap.size w0 w → w.heap[g]? = some (.cells #[.int .i64 x, .bool bad] 193 (0, 0)) →
    Calls Tryz.prog 135 #[.pointer (some ⟨g, 0, none⟩), .slice A l.len c, .int .i64 lv] w fun e w' => e = .returned (.tuple #[]) ∧ w'.heap[g]? = some (.cells #[.int .i64 (inP l lv (x, bad)).1, .bool (inP l lv (x, bad)).2] 193 (0, 0)) ∧ Below w0.heap.size w0 w' ∧ KeepBut w w' g none := by
  induction m with
  | zero =>
    intro l A c lv x bad w hm
    cases l with
    | cons => simp [cnt] at hm
    | nil =>
      intro _ _ _ _ _ _ hB hg
      go_enter Tryz.func135, Tryz.ntmps135
      go_wp2
      refine wp_loop_rounds 1 ?_
      rw [rounds_succ]
      go_wp2
      go_end0
      exact ⟨rfl, hg, hB, KeepBut.refl _ _ _⟩
  | succ m ih =>
    intro l A c lv x bad w hm hs hR hll hlv hx0 hx1 hB hg
    have HR := Aside0.mk hR
    have HG := Aside0.mk hg
    have HS := Aside0.mk hs
    have HB := Aside0.mk hB
    have HX := Aside0.mk hx0
    have HM := Aside0.mk hm
    clear hR hg hs hB hx0 hm
    go_enter Tryz.func135, Tryz.ntmps135
    go_wp2
    go_loopw [10] (fun v wr => ∃ (i : Nat) (x1 : Int) (b1 : Bool), v = .int .i64 i ∧ i ≤ l.len ∧ x1 ≤ 1000000000 ∧ Aside0 (-1000000000 + (l.drop i).cnt ≤ x1) ∧ Aside0 (inP l lv (x, bad) = inP (l.drop i) lv (x1, b1)) ∧ Aside0 (wr.heap[g]? = some (.cells #[.int .i64 x1, .bool b1] 193 (0, 0))) ∧ Aside0 (Below w0.heap.size w0 wr) ∧ Aside0 (KeepBut w wr g none))
      (fun v _ => l.len - (intOf v).toNat)
    case atStart => exact ⟨0, x, bad, rfl, Nat.zero_le _, hx1, by rw [drop_zero]; exact HX, by rw [drop_zero]; exact ⟨rfl⟩, HG, HB, ⟨KeepBut.refl _ _ _⟩⟩
    case round =>
      clear HX HG HB
      obtain ⟨i, x1, b1, rfl, hi, hx2, HX, HE, HG, HB, HK⟩ := hrel
      cases hd : l.drop i with
      | nil =>
        have h1 := drop_nil hd
        obtain rfl : i = l.len := by omega
        rw [hd] at HE
        clear hd
        go_wp2
        go_end0
        exact ⟨rfl, by rw [HE.out]; exact HG.out, HB.out, HK.out⟩
      | cons k t p a b r =>
        obtain ⟨h1, h2, _⟩ := drop_step hd
        obtain ⟨ad, A2, c2, A3, c3, A4, c4, rfl, y0, y1, y2, y3, y4, i2, l2, R3, R4⟩ := HR.out.at hd
        replace y0 := (HB.out.cell (World.block_lt_of_cell? _ _ y0)).trans y0
        replace y1 := (HB.out.cell (World.block_lt_of_cell? _ _ y1)).trans y1
        replace y2 := (HB.out.cell (World.block_lt_of_cell? _ _ y2)).trans y2
        replace y3 := (HB.out.cell (World.block_lt_of_cell? _ _ y3)).trans y3
        replace y4 := (HB.out.cell (World.block_lt_of_cell? _ _ y4)).trans y4
        obtain ⟨s1, s2, s3, s4, s5, s6, s7, s8, s9⟩ : (cons k t p a b r).sm := hd ▸ sm_drop HS.out i
        have HE' : inP l lv (x, bad) = inP (cons k t p a b r) lv (x1, b1) := hd ▸ HE.out
        have hX : -1000000000 < x1 := by have h := HX.out; rw [hd] at h; simp only [cnt] at h; omega
        have HD := Aside0.mk hd
        clear hd HE
        obtain ⟨z0, z1, f0, f1⟩ := cells_2 HG.out
        have hgl : g < wr.heap.size := blk_lt HG.out
        by_cases cA : b1 = true ∨ lv = 0 ∨ x1 - 1 < 0
        · have e1 : inP (cons k t p a b r) lv (x1, b1) = (x1 - 1, true) := by
            conv => lhs; unfold inP
            rw [if_pos]; simp only [Bool.or_eq_true, beq_iff_eq, decide_eq_true_eq]; rcases cA with h | h | h <;> simp [h]
          rw [e1] at HE'
          clear e1
          have e2 : (x1 - 1, true) = inP l lv (x, bad) := HE'.symm
          rcases cA with rfl | rfl | hx
          · go_wp2
            refine bodyPost_ret (results_none rfl _ _ _) rfl ?_
            rw [← e2]
            exact ⟨rfl, blk_alloc (blk_put (blk_put HG.out 0 _ rfl) 1 _ rfl) _, below_alloc (below_set (below_set HB.out hg0) hg0) _, keep_alloc ((HK.out.set_ _ _).set_ _ _) _⟩
          · have hb : b1 = true ∨ b1 = false := by cases b1 <;> simp
            rcases hb with rfl | rfl
            all_goals
              go_wp2
              refine bodyPost_ret (results_none rfl _ _ _) rfl ?_
              rw [← e2]
              exact ⟨rfl, blk_alloc (blk_put (blk_put HG.out 0 _ rfl) 1 _ rfl) _, below_alloc (below_set (below_set HB.out hg0) hg0) _, keep_alloc ((HK.out.set_ _ _).set_ _ _) _⟩
          · have hb : b1 = true ∨ b1 = false := by cases b1 <;> simp
            have hl : ((lv : Int) == 0) = true ∨ ((lv : Int) == 0) = false := by cases ((lv : Int) == 0) <;> simp
            rcases hb with rfl | rfl
            · go_wp2
              refine bodyPost_ret (results_none rfl _ _ _) rfl ?_
              rw [← e2]
              exact ⟨rfl, blk_alloc (blk_put (blk_put HG.out 0 _ rfl) 1 _ rfl) _, below_alloc (below_set (below_set HB.out hg0) hg0) _, keep_alloc ((HK.out.set_ _ _).set_ _ _) _⟩
            · rcases hl with hl | hl
              all_goals
                go_wp2
                refine bodyPost_ret (results_none rfl _ _ _) rfl ?_
                rw [← e2]
                exact ⟨rfl, blk_alloc (blk_put (blk_put HG.out 0 _ rfl) 1 _ rfl) _, below_alloc (below_set (below_set HB.out hg0) hg0) _, keep_alloc ((HK.out.set_ _ _).set_ _ _) _⟩
        · simp only [not_or, Bool.not_eq_true] at cA
          obtain ⟨rfl, hlv0, hxx⟩ := cA
          have hl : ((lv : Int) == 0) = false := by rw [beq_eq_false_iff_ne]; omega
          have hx3 : 0 ≤ x1 - 1 := by omega
          go_wp2_with fail
          have HB1 := Aside0.mk (below_alloc (below_set (j := 0) (v := .int .i64 (x1 - 1)) HB.out hg0) (.cells #[.int .u8 k, .string (bs t), .slice A2 p.length c2, .slice A3 a.len c3, .slice A4 b.len c4] 37))
          have HG1 := Aside0.mk (blk_alloc (blk_put HG.out 0 (.int .i64 (x1 - 1)) rfl) (.cells #[.int .u8 k, .string (bs t), .slice A2 p.length c2, .slice A3 a.len c3, .slice A4 b.len c4] 37))
          have HN1 := Aside0.mk (blk_new (wr.setCell ⟨g, 0, none⟩ (.int .i64 (x1 - 1))) (.cells #[.int .u8 k, .string (bs t), .slice A2 p.length c2, .slice A3 a.len c3, .slice A4 b.len c4] 37))
          rw [World.size_setCell] at HN1
          generalize hW : (wr.setCell ⟨g, 0, none⟩ (.int .i64 (x1 - 1))).alloc (.cells #[.int .u8 k, .string (bs t), .slice A2 p.length c2, .slice A3 a.len c3, .slice A4 b.len c4] 37) = W at HB1 HG1 HN1 ⊢
          have cl := (tree_leaf.calls k (bs t) A2 c2 (p.map bs) A3 c3 a.of A4 c4 b.of _ W (by rw [List.length_map]; exact Kd.C_below i2 HB1.out) (by rw [List.length_map]; exact l2) (by rw [of_len]; exact Kd.C_below R3.1 HB1.out) (by rw [of_len]; exact R3.2) (by rw [of_len]; exact Kd.C_below R4.1 HB1.out) (by rw [of_len]; exact R4.2) (leaf_any k t p a b s3 s5 s6))
          simp only [List.length_map, of_len] at cl
          refine cl.mono ?_
          rintro e w1 ⟨rfl, hb1⟩
          clear cl
          replace HG1 := Aside0.mk (blk_below HG1.out hb1)
          replace HN1 := Aside0.mk (blk_below HN1.out hb1)
          replace HB1 := Aside0.mk (below_step HB1.out hb1)
          have HK1 := Aside0.mk (HK.out.trans (keep_alloc ((KeepBut.refl wr g none).set_ 0 (.int .i64 (x1 - 1))) (.cells #[.int .u8 k, .string (bs t), .slice A2 p.length c2, .slice A3 a.len c3, .slice A4 b.len c4] 37)) (.inl rfl))
          rw [hW] at HK1
          replace HK1 := Aside0.mk (HK1.out.trans (KeepBut.of_below hb1 g none) (.inl rfl))
          have hne : wr.heap.size ≠ g := by omega
          clear hb1 hW z0 z1 f0 f1
          obtain ⟨z0, z1, f0, f1⟩ := cells_2 HG1.out
          obtain ⟨m0, m1, m2, m3, m4, n0, n1, n2, n3, n4⟩ := cells_5 HN1.out
          have hgl1 : g < w1.heap.size := blk_lt HG1.out
          cases hlf : leafP k t p.length a.len b.len with
          | false =>
            have e2 : (x1 - 1, true) = inP l lv (x, bad) := by
              rw [HE']; conv => rhs; unfold inP
              rw [if_pos]; simp [hlf]
            go_wp2
            refine bodyPost_ret (results_none rfl _ _ _) rfl ?_
            rw [← e2]
            exact ⟨rfl, blk_put HG1.out 1 _ rfl, below_set HB1.out hg0, HK1.out.set_ _ _⟩
          | true =>
            have e2 : inP l lv (x, bad) = inP r lv (inP b (lv - 1) (inP a (lv - 1) (x1 - 1, false))) := by
              rw [HE']; conv => lhs; unfold inP
              rw [if_neg]; simp [hlf, hlv0]; omega
            have hlv1 : (lv : Int) - 1 = ((lv - 1 : Nat) : Int) := by omega
            have hcnt : a.cnt + b.cnt + r.cnt + 1 ≤ (l.drop i).cnt := by rw [HD.out]; simp only [cnt]; omega
            have hcl := cnt_drop l i
            have hm := HM.out
            have hxl := HX.out
            have hle1 := inP_le a (lv - 1) (x1 - 1, false)
            have hle2 := inP_le b (lv - 1) (inP a (lv - 1) (x1 - 1, false))
            simp only at hle1
            go_wp2_with fail
            refine (ih a A3 c3 (lv - 1) (x1 - 1) false _ (by omega) s7 R3 s5 (by omega) (by omega) (by omega) (below_set HB1.out hg0) (blk_put HG1.out 1 _ rfl)).mono ?_
            rintro e w2 ⟨rfl, hg2, hb2, hk2⟩
            have HN2 := hk2.blk (blk_far HN1.out (p := ⟨g, 1, none⟩) hne (.bool false)) hne (by simp)
            have HK2 := Aside0.mk ((HK1.out.set_ 1 (.bool false)).trans hk2 (.inl rfl))
            have HB2 := Aside0.mk hb2
            have HG2 := Aside0.mk hg2
            clear z0 z1 f0 f1 m0 m1 m2 m3 m4 n0 n1 n2 n3 n4 hg2 hb2 hk2 HG1 HB1 HK1 hgl1
            obtain ⟨z0, z1, f0, f1⟩ := cells_2 HG2.out
            obtain ⟨m0, m1, m2, m3, m4, n0, n1, n2, n3, n4⟩ := cells_5 HN2
            go_wp2_with fail
            refine (ih b A4 c4 (lv - 1) _ _ _ (by omega) s8 R4 s6 (by omega) (by omega) (by omega) HB2.out HG2.out).mono ?_
            rintro e w3 ⟨rfl, hg3, hb3, hk3⟩
            have HK3 := Aside0.mk (HK2.out.trans hk3 (.inl rfl))
            clear z0 z1 f0 f1 m0 m1 m2 m3 m4 n0 n1 n2 n3 n4 hk3
            have HB3 := Aside0.mk hb3
            have HG3 := Aside0.mk hg3
            clear hb3 hg3
            go_wp2
            go_roundw
            case rel => exact ⟨i + 1, (inP b (lv - 1) (inP a (lv - 1) (x1 - 1, false))).1, (inP b (lv - 1) (inP a (lv - 1) (x1 - 1, false))).2, by simp, by omega, by omega, ⟨by rw [h2]; omega⟩, ⟨by rw [e2, h2]⟩, HG3, HB3, HK3⟩
            case measure => simp [intOf]; omega
theorem fits_any (l : Nodes) (A : Option Addr) (c : Nat) (w : World) (hs : l.sm) (hR : Rd w A c l) (hl : l.len ≤ 1048576) (hc : l.cnt ≤ 1048576) :
    Calls Tryz.prog 91 #[.slice A l.len c] w fun e w' => e = .returned (.bool l.fitsP) ∧ Below w.heap.size w w' := by
  have HR := Aside0.mk hR
  have HS := Aside0.mk hs
  clear hR hs
  go_enter Tryz.func91, Tryz.ntmps91
  go_wp2_with fail
  have HB1 := Aside0.mk (below_alloc (Below.refl w.heap.size w) (.cells #[.int .i64 256, .bool false] 193))
  have HG1 := Aside0.mk (blk_new w (.cells #[.int .i64 256, .bool false] 193))
  refine (in_any w w.heap.size (Nat.le_refl _) l.cnt l A c 8 256 false _ (Nat.le_refl _) HS.out HR.out hl (by omega) (by omega) (by omega) HB1.out HG1.out).mono ?_
  rintro e w1 ⟨rfl, hg, hb, _⟩
  clear HB1 HG1
  obtain ⟨z0, z1, f0, f1⟩ := cells_2 hg
  rw [inP_fits] at z1
  go_wp2
  go_ret
  exact ⟨by simp, hb⟩
end Go.Proofs.YtniibpndgcndbaaGreatDoor.Tpl
namespace Go.Proofs.YtniibpndgcndbaaGreatDoor.Tpl
set_option linter.unusedSimpArgs false
open Go.RowKit Go.Proofs.YtniibpndgcndbaaGreatDoor.PB Go.Proofs.YtniibpndgcndbaaGreatDoor.Short Go.Proofs.YtniibpndgcndbaaGreatDoorW.PrintWords Go.Proofs.YtniibpndgcndbaaGreatDoorW.PrintLast Go.Proofs.YtniibpndgcndbaaGreatDoorW.PrintMore Nodes
theorem len_cnt (l : Nodes) : l.len ≤ l.cnt := by
  induction l with
  | nil => simp [len]
  | cons k t p a b r _ _ ihr => simp only [len, cnt]; omega
end Go.Proofs.YtniibpndgcndbaaGreatDoor.Tpl
namespace Go.Proofs.YtniibpndgcndbaaGreatDoor.Tpl
open Vals
structure Val where
  k : Nat
  t : S
  n : Int
  i : Vals
  m : List S
def Val.one (v : Val) : Vals := Vals.cons v.k v.t v.n v.i v.m Vals.nil
def Val.zero : Val := ⟨0, [], 0, Vals.nil, []⟩
def chkV (k : Nat) (t : S) (n : Int) (i : Vals) (m : List S) : Bool := fitsV (cons k t n i m Vals.nil)
def Val.ok (v : Val) : Bool := chkV v.k v.t v.n v.i v.m
def Val.sm (v : Val) : Prop := v.one.sm
def Vals.nth : Vals → Nat → Option Val
  | Vals.nil, _ => none
  | Vals.cons k t n i m _, 0 => some ⟨k, t, n, i, m⟩
  | Vals.cons _ _ _ _ _ r, j + 1 => r.nth j
def posS (m : List S) (s : S) : Nat := m.findIdx (· == s)
def findV : Val → List S → Option Val
  | v, [] => some v
  | v, s :: r => if v.m.contains s = true then (match v.i.nth (posS v.m s) with
    | some x => findV x r
    | none => none) else none
def optE (o : Option Val) : Except Int Val := match o with | some x => .ok x | none => .error 3
def FindP (v : Val) (path : List S) : Except Int Val := if v.ok = true then optE (findV v path) else .error 2
def upP (s : S) (r : List S) : List Val → Except Int Val
  | [] => .error 3
  | x :: q => match FindP x [s] with
    | .ok y => FindP y r
    | .error _ => upP s r q
def meansP (path : List S) (rd : List Val) : Except Int Val := match path with
  | [] => .error 3
  | s :: r => if s = thisS then (match rd with
      | x :: _ :: _ => FindP x r
      | _ => .error 3) else upP s r rd
def holdsV (k : Nat) (t : S) (n : Int) (i : Vals) (m : List S) : Bool := chkV k t n i m && (!t.isEmpty || n != 0 || decide (0 < i.len))
def holdsP (v : Val) : Bool := holdsV v.k v.t v.n v.i v.m
def yesS : S := [121, 101, 115]
def noS : S := [110, 111]
def showV (k : Nat) (t : S) (n : Int) (il : Nat) : S := if k = 1 then t else if k = 3 then (if n = 1 then yesS else noS) else if k = 2 then Lib.itoa n else Lib.itoa (il : Int)
def showP (v : Val) : S := if v.ok = true then showV v.k v.t v.n v.i.len else []
theorem Vals.nth_drop (l : Vals) : ∀ {j k t n i m r}, l.drop j = cons k t n i m r → l.nth j = some ⟨k, t, n, i, m⟩ := by
  induction l with
  | nil => intro j k t n i m r h; cases j <;> simp [Vals.drop] at h
  | cons k' t' n' i' m' r' _ ih =>
    intro j k t n i m r h
    cases j with
    | zero => simp only [Vals.drop, Vals.cons.injEq] at h; obtain ⟨rfl, rfl, rfl, rfl, rfl, rfl⟩ := h; rfl
    | succ j => exact ih h
theorem Vals.nth_some (l : Vals) : ∀ {j : Nat}, j < l.len → ∃ x r, l.nth j = some x ∧ l.drop j = cons x.k x.t x.n x.i x.m r := by
  induction l with
  | nil => intro j h; simp [Vals.len] at h
  | cons k' t' n' i' m' r' _ ih =>
    intro j h
    cases j with
    | zero => exact ⟨_, r', rfl, rfl⟩
    | succ j => exact ih (by simp [Vals.len] at h; omega)
theorem okV_nth (l : Vals) : ∀ {lv j x}, okV l lv = true → l.nth j = some x → lv ≠ 0 ∧ leafV x.k x.t x.n x.i.len x.m = true ∧ okV x.i (lv - 1) = true ∧ x.i.cnt + 1 ≤ l.cnt := by
  induction l with
  | nil => intro lv j x _ h; cases j <;> simp [Vals.nth] at h
  | cons k t n i m r _ ih =>
    intro lv j x h hx
    simp only [okV, Bool.and_eq_true, bne_iff_ne] at h
    obtain ⟨⟨⟨h1, h2⟩, h3⟩, h4⟩ := h
    cases j with
    | zero => simp only [Vals.nth, Option.some.injEq] at hx; subst hx; exact ⟨h1, h2, h3, by simp only [Vals.cnt]; omega⟩
    | succ j => obtain ⟨a, b, c, d⟩ := ih h4 hx; exact ⟨a, b, c, by simp only [Vals.cnt]; omega⟩
theorem okV_mono (l : Vals) : ∀ {a b : Nat}, a ≤ b → okV l a = true → okV l b = true := by
  induction l with
  | nil => intros; rfl
  | cons k t n i m r ihi ihr =>
    intro a b hab h
    simp only [okV, Bool.and_eq_true, bne_iff_ne] at h ⊢
    obtain ⟨⟨⟨h1, h2⟩, h3⟩, h4⟩ := h
    exact ⟨⟨⟨by omega, h2⟩, ihi (by omega) h3⟩, ihr hab h4⟩
theorem chkV_iff (k : Nat) (t : S) (n : Int) (i : Vals) (m : List S) : chkV k t n i m = true ↔ leafV k t n i.len m = true ∧ okV i 7 = true ∧ i.cnt ≤ 255 := by
  unfold chkV fitsV
  rw [Bool.and_eq_true, decide_eq_true_eq]
  simp only [okV, Vals.cnt, Bool.and_eq_true, and_true]
  constructor
  · rintro ⟨⟨⟨_, h2⟩, h3⟩, h4⟩; exact ⟨h2, h3, by omega⟩
  · rintro ⟨h2, h3, h4⟩; exact ⟨⟨⟨by decide, h2⟩, h3⟩, by omega⟩
theorem ok_nth {v x : Val} {j : Nat} (h : v.ok = true) (hx : v.i.nth j = some x) : x.ok = true := by
  obtain ⟨h1, h2, h3⟩ := (chkV_iff _ _ _ _ _).1 h
  obtain ⟨a, b, c, d⟩ := okV_nth v.i h2 hx
  exact (chkV_iff _ _ _ _ _).2 ⟨b, okV_mono _ (by omega) c, by omega⟩
theorem sm_nth (l : Vals) : ∀ {j x}, l.sm → l.nth j = some x → x.sm := by
  induction l with
  | nil => intro j x _ h; cases j <;> simp [Vals.nth] at h
  | cons k t n i m r _ ih =>
    intro j x h hx
    obtain ⟨h1, h2, h3, h4, h5, h6, h7, h8⟩ := h
    cases j with
    | zero => simp only [Vals.nth, Option.some.injEq] at hx; subst hx; exact ⟨h1, h2, h3, h4, h5, h6, h7, trivial⟩
    | succ j => exact ih h8 hx
theorem find_ok : ∀ (p : List S) {v x : Val}, v.ok = true → v.sm → findV v p = some x → x.ok = true ∧ x.sm := by
  intro p
  induction p with
  | nil => intro v x h hs e; simp only [findV, Option.some.injEq] at e; subst e; exact ⟨h, hs⟩
  | cons s r ih =>
    intro v x h hs e
    unfold findV at e
    split at e
    · cases hn : v.i.nth (posS v.m s) with
      | none => rw [hn] at e; cases e
      | some y =>
        rw [hn] at e
        exact ih (ok_nth h hn) (sm_nth v.i hs.2.2.2.2.2.2.1 hn) e
    · cases e
theorem FindP_ok {v x : Val} {p : List S} (hs : v.sm) (h : FindP v p = .ok x) : x.ok = true ∧ x.sm := by
  unfold FindP optE at h
  split at h
  · rename_i hv
    cases hf : findV v p with
    | none => rw [hf] at h; cases h
    | some y => rw [hf] at h; cases h; exact find_ok p hv hs hf
  · cases h
theorem FindP_err {v : Val} {p : List S} {e : Int} (h : FindP v p = .error e) : e = 3 ∨ e = 2 := by
  unfold FindP optE at h
  split at h
  · cases hf : findV v p with
    | none => rw [hf] at h; cases h; exact .inl rfl
    | some y => rw [hf] at h; cases h
  · cases h; exact .inr rfl
theorem upP_ok (s : S) (r : List S) : ∀ (rd : List Val) {x : Val}, (∀ v, v ∈ rd → v.sm) → upP s r rd = .ok x → x.ok = true ∧ x.sm := by
  intro rd
  induction rd with
  | nil => intro x _ h; cases h
  | cons v q ih =>
    intro x hs h
    unfold upP at h
    cases hf : FindP v [s] with
    | error e => rw [hf] at h; exact ih (fun v hv => hs v (List.mem_cons_of_mem _ hv)) h
    | ok y => rw [hf] at h; exact FindP_ok (FindP_ok (hs v List.mem_cons_self) hf).2 h
theorem upP_err (s : S) (r : List S) : ∀ (rd : List Val) {e : Int}, upP s r rd = .error e → e = 3 ∨ e = 2 := by
  intro rd
  induction rd with
  | nil => intro e h; cases h; exact .inl rfl
  | cons v q ih =>
    intro e h
    unfold upP at h
    cases hf : FindP v [s] with
    | error e => rw [hf] at h; exact ih h
    | ok y => rw [hf] at h; exact FindP_err h
theorem means_ok {p : List S} {rd : List Val} {x : Val} (hs : ∀ v, v ∈ rd → v.sm) (h : meansP p rd = .ok x) : x.ok = true ∧ x.sm := by
  unfold meansP at h
  split at h
  · cases h
  · split at h
    · split at h
      · rename_i v _ _; exact FindP_ok (hs v List.mem_cons_self) h
      · cases h
    · exact upP_ok _ _ _ hs h
theorem means_err {p : List S} {rd : List Val} {e : Int} (h : meansP p rd = .error e) : e = 3 ∨ e = 2 := by
  unfold meansP at h
  split at h
  · cases h; exact .inl rfl
  · split at h
    · split at h
      · exact FindP_err h
      · cases h; exact .inl rfl
    · exact upP_err _ _ _ h
theorem meansP_one (p : List S) (x : Val) : meansP (thisS :: p) [x] = .error 3 := by unfold meansP; simp
theorem meansP_this (p : List S) (x y : Val) (r : List Val) : meansP (thisS :: p) (x :: y :: r) = FindP x p := by unfold meansP; simp
theorem meansP_up {s : S} (h : s ≠ thisS) (p : List S) (rd : List Val) : meansP (s :: p) rd = upP s p rd := by unfold meansP; simp [h]
end Go.Proofs.YtniibpndgcndbaaGreatDoor.Tpl
namespace Go.Proofs.YtniibpndgcndbaaGreatDoor.Tpl
open Vals Nodes
abbrev Pen := S × Int
def addP (most : Int) (st : Pen) (s : S) : Except Int Pen := if (s.length : Int) > most - st.1.length then .error 12 else .ok (st.1 ++ s, st.2)
def thenE (x : Except Int Pen) (f : Pen → Except Int Pen) : Except Int Pen := match x with | .ok st' => f st' | .error e => .error e
theorem thenE_ok (p : Pen) (f : Pen → Except Int Pen) : thenE (.ok p) f = f p := rfl
def eachP (f : Val → Pen → Except Int Pen) : Vals → Pen → Except Int Pen
  | Vals.nil, st => .ok st
  | Vals.cons k t n i m r, st => thenE (f ⟨k, t, n, i, m⟩ st) (eachP f r)
def fillP (E F : S → S) (most : Int) : Nodes → List Val → Pen → Except Int Pen
  | Nodes.nil, _, st => .ok st
  | Nodes.cons k t p a b r, rd, st =>
    thenE (if st.2 - 1 < 0 then .error 12
      else if k = 1 then addP most (st.1, st.2 - 1) (E t)
      else match meansP p rd with
        | .ok v => if k = 3 then (if holdsP v = true then fillP E F most a rd (st.1, st.2 - 1) else fillP E F most b rd (st.1, st.2 - 1))
          else if k = 5 then (if v.k = 4 then eachP (fun x st => fillP E F most a (x :: rd) st) v.i (st.1, st.2 - 1) else .error 7)
          else addP most (st.1, st.2 - 1) (F (showP v))
        | .error e => if k = 3 then fillP E F most b rd (st.1, st.2 - 1) else .error e) (fillP E F most r rd)
def oneP (E F : S → S) (most : Int) (k : Nat) (t : S) (p : List S) (a b : Nodes) (rd : List Val) (st : Pen) : Except Int Pen :=
  if st.2 - 1 < 0 then .error 12
  else if k = 1 then addP most (st.1, st.2 - 1) (E t)
  else match meansP p rd with
    | .ok v => if k = 3 then (if holdsP v = true then fillP E F most a rd (st.1, st.2 - 1) else fillP E F most b rd (st.1, st.2 - 1))
      else if k = 5 then (if v.k = 4 then eachP (fun x st => fillP E F most a (x :: rd) st) v.i (st.1, st.2 - 1) else .error 7)
      else addP most (st.1, st.2 - 1) (F (showP v))
    | .error e => if k = 3 then fillP E F most b rd (st.1, st.2 - 1) else .error e
theorem fillP_cons (E F : S → S) (most : Int) (k : Nat) (t : S) (p : List S) (a b r : Nodes) (rd : List Val) (st : Pen) :
    fillP E F most (Nodes.cons k t p a b r) rd st = thenE (oneP E F most k t p a b rd st) (fillP E F most r rd) := by
  rw [fillP]; rfl
theorem fillP_app (E F : S → S) (most : Int) (a b : Nodes) (rd : List Val) : ∀ st, fillP E F most (a.app b) rd st = thenE (fillP E F most a rd st) (fillP E F most b rd) := by
  induction a with
  | nil => intro st; rfl
  | cons k t p x y r _ _ ih =>
    intro st
    show fillP E F most (Nodes.cons k t p x y (r.app b)) rd st = _
    rw [fillP_cons, fillP_cons]
    cases oneP E F most k t p x y rd st with
    | error e => rfl
    | ok st' => exact ih st'
def Both (s : S) (x y : Except Int Pen) : Prop := y = .error 12 ∨ match x with
  | .error e => y = .error e
  | .ok p => ∃ k, y = .ok (s ++ p.1, k) ∧ k ≤ p.2
theorem addP_both (most : Int) (s : S) (p : Pen) (k : Int) (hk : k ≤ p.2) (t : S) : Both s (addP most p t) (addP most (s ++ p.1, k) t) := by
  unfold addP
  by_cases h : (t.length : Int) > most - (s ++ p.1).length
  · simp only [h, if_true]; exact .inl rfl
  · have h2 : ¬ (t.length : Int) > most - p.1.length := by rw [List.length_append] at h; omega
    simp only [h, h2, if_false]
    exact .inr ⟨k, by rw [List.append_assoc], hk⟩
theorem Both.bind {s : S} {x y : Except Int Pen} {f : Pen → Except Int Pen} (h : Both s x y) (hf : ∀ p k, k ≤ p.2 → Both s (f p) (f (s ++ p.1, k))) :
    Both s (thenE x f) (thenE y f) := by
  rcases h with h | h
  · subst h; exact .inl rfl
  · cases x with
    | error e => simp only at h; subst h; exact .inr rfl
    | ok p => obtain ⟨k, rfl, hk⟩ := h; exact hf p k hk
theorem eachP_both {s : S} {f : Val → Pen → Except Int Pen} (hf : ∀ v p k, k ≤ p.2 → Both s (f v p) (f v (s ++ p.1, k))) (l : Vals) : ∀ (p : Pen) k, k ≤ p.2 → Both s (eachP f l p) (eachP f l (s ++ p.1, k)) := by
  induction l with
  | nil => intro p k hk; exact .inr ⟨k, rfl, hk⟩
  | cons a t n i m r _ ih => intro p k hk; exact (hf _ p k hk).bind (fun p k hk => ih p k hk)
theorem fillP_both (E F : S → S) (most : Int) (s : S) (l : Nodes) : ∀ (rd : List Val) (p : Pen) (k : Int), k ≤ p.2 → Both s (fillP E F most l rd p) (fillP E F most l rd (s ++ p.1, k)) := by
  induction l with
  | nil => intro rd p k hk; exact .inr ⟨k, rfl, hk⟩
  | cons c t q a b r iha ihb ihr =>
    intro rd p k hk
    rw [fillP_cons, fillP_cons]
    refine Both.bind ?_ (fun p k hk => ihr rd p k hk)
    unfold oneP
    simp only
    by_cases h1 : k - 1 < 0
    · rw [if_pos h1]; exact .inl rfl
    rw [if_neg h1, if_neg (by omega)]
    split
    · exact addP_both most s (p.1, p.2 - 1) (k - 1) (by simp only; omega) _
    split
    · split
      · split
        · exact iha rd (p.1, p.2 - 1) (k - 1) (by simp only; omega)
        · exact ihb rd (p.1, p.2 - 1) (k - 1) (by simp only; omega)
      · split
        · split
          · exact eachP_both (fun v p k hk => iha (v :: rd) p k hk) _ (p.1, p.2 - 1) (k - 1) (by simp only; omega)
          · exact .inr rfl
        · exact addP_both most s (p.1, p.2 - 1) (k - 1) (by simp only; omega) _
    · split
      · exact ihb rd (p.1, p.2 - 1) (k - 1) (by simp only; omega)
      · exact .inr rfl
theorem addP_keeps {most : Int} {p q : Pen} {t : S} {G : UInt8 → Prop} (hp : (p.1.length : Int) ≤ most ∧ ∀ x ∈ p.1, G x) (ht : ∀ x ∈ t, G x) (h : addP most p t = .ok q) : (q.1.length : Int) ≤ most ∧ ∀ x ∈ q.1, G x := by
  unfold addP at h
  split at h
  · cases h
  · cases h
    refine ⟨by rw [List.length_append]; omega, fun x hx => ?_⟩
    rcases List.mem_append.1 hx with h | h
    · exact hp.2 x h
    · exact ht x h
theorem eachP_keeps {P : Pen → Prop} {f : Val → Pen → Except Int Pen} (hf : ∀ v p q, P p → f v p = .ok q → P q) (l : Vals) : ∀ p q, P p → eachP f l p = .ok q → P q := by
  induction l with
  | nil => intro p q hp h; cases h; exact hp
  | cons a t n i m r _ ih =>
    intro p q hp h
    rw [eachP] at h
    cases hx : f ⟨a, t, n, i, m⟩ p with
    | error e => rw [hx] at h; cases h
    | ok p' => rw [hx] at h; exact ih p' q (hf _ _ _ hp hx) h
theorem fillP_keeps {E F : S → S} {most : Int} {G : UInt8 → Prop} (hE : ∀ s, ∀ x ∈ E s, G x) (hF : ∀ s, ∀ x ∈ F s, G x) (l : Nodes) : ∀ (rd : List Val) (p q : Pen), ((p.1.length : Int) ≤ most ∧ ∀ x ∈ p.1, G x) → fillP E F most l rd p = .ok q → (q.1.length : Int) ≤ most ∧ ∀ x ∈ q.1, G x := by
  induction l with
  | nil => intro rd p q hp h; cases h; exact hp
  | cons c t w a b r iha ihb ihr =>
    intro rd p q hp h
    rw [fillP_cons] at h
    cases ho : oneP E F most c t w a b rd p with
    | error e => rw [ho] at h; cases h
    | ok p' =>
      rw [ho] at h
      refine ihr rd p' q ?_ h
      unfold oneP at ho
      split at ho
      · cases ho
      split at ho
      · exact addP_keeps (p := (p.1, p.2 - 1)) hp (hE t) ho
      split at ho
      · split at ho
        · split at ho
          · exact iha rd (p.1, p.2 - 1) _ hp ho
          · exact ihb rd (p.1, p.2 - 1) _ hp ho
        · split at ho
          · split at ho
            · exact eachP_keeps (P := fun p => (p.1.length : Int) ≤ most ∧ ∀ x ∈ p.1, G x) (fun v p q hp h => iha (v :: rd) p q hp h) _ (p.1, p.2 - 1) p' hp ho
            · cases ho
          · exact addP_keeps (p := (p.1, p.2 - 1)) hp (hF _) ho
      · split at ho
        · exact ihb rd (p.1, p.2 - 1) _ hp ho
        · cases ho
theorem fillP_left {E F : S → S} {most : Int} (l : Nodes) : ∀ (rd : List Val) (p q : Pen), fillP E F most l rd p = .ok q → q.2 ≤ p.2 := by
  have key : ∀ (rd : List Val) (p q : Pen), fillP E F most l rd p = .ok q → (q.2 ≤ p.2) := by
    induction l with
    | nil => intro rd p q h; cases h; exact Int.le_refl _
    | cons c t w a b r iha ihb ihr =>
      intro rd p q h
      rw [fillP_cons] at h
      cases ho : oneP E F most c t w a b rd p with
      | error e => rw [ho] at h; cases h
      | ok p' =>
        rw [ho] at h
        refine Int.le_trans (ihr rd p' q h) ?_
        have hadd : ∀ {p q : Pen} {s : S}, addP most p s = .ok q → q.2 ≤ p.2 := by
          intro p q s h; unfold addP at h; split at h
          · cases h
          · cases h; exact Int.le_refl _
        unfold oneP at ho
        split at ho
        · cases ho
        have hd : (p.1, p.2 - 1).2 ≤ p.2 := by simp only; omega
        split at ho
        · exact Int.le_trans (hadd ho) hd
        split at ho
        · split at ho
          · split at ho
            · exact Int.le_trans (iha rd _ _ ho) hd
            · exact Int.le_trans (ihb rd _ _ ho) hd
          · split at ho
            · split at ho
              · refine Int.le_trans ?_ hd
                exact eachP_keeps (P := fun z => z.2 ≤ p.2 - 1) (fun v x y hx h => Int.le_trans (iha (v :: rd) x y h) hx) _ (p.1, p.2 - 1) p' (Int.le_refl _) ho
              · cases ho
            · exact Int.le_trans (hadd ho) hd
        · split at ho
          · exact Int.le_trans (ihb rd _ _ ho) hd
          · cases ho
  exact key
theorem fillP_err {E F : S → S} {most : Int} (l : Nodes) : ∀ (rd : List Val) (p : Pen) (e : Int), fillP E F most l rd p = .error e → e = 12 ∨ e = 3 ∨ e = 2 ∨ e = 7 := by
  have hadd : ∀ {p : Pen} {s : S} {e : Int}, addP most p s = .error e → e = 12 := by
    intro p s e h; unfold addP at h; split at h
    · cases h; rfl
    · cases h
  have heach : ∀ {f : Val → Pen → Except Int Pen}, (∀ v p e, f v p = .error e → e = 12 ∨ e = 3 ∨ e = 2 ∨ e = 7) → ∀ (l : Vals) p e, eachP f l p = .error e → e = 12 ∨ e = 3 ∨ e = 2 ∨ e = 7 := by
    intro f hf l
    induction l with
    | nil => intro p e h; cases h
    | cons a t n i m r _ ih =>
      intro p e h
      rw [eachP] at h
      cases hx : f ⟨a, t, n, i, m⟩ p with
      | error e' => rw [hx] at h; cases h; exact hf _ _ _ hx
      | ok p' => rw [hx] at h; exact ih p' e h
  induction l with
  | nil => intro rd p e h; cases h
  | cons c t w a b r iha ihb ihr =>
    intro rd p e h
    rw [fillP_cons] at h
    cases ho : oneP E F most c t w a b rd p with
    | ok p' => rw [ho] at h; exact ihr rd p' e h
    | error e' =>
      rw [ho] at h
      cases h
      unfold oneP at ho
      split at ho
      · cases ho; exact .inl rfl
      split at ho
      · exact .inl (hadd ho)
      split at ho
      · split at ho
        · split at ho
          · exact iha rd _ _ ho
          · exact ihb rd _ _ ho
        · split at ho
          · split at ho
            · exact heach (fun v p e h => iha (v :: rd) p e h) _ _ _ ho
            · cases ho; exact .inr (.inr (.inr rfl))
          · exact .inl (hadd ho)
      · rename_i e2 hm
        split at ho
        · exact ihb rd _ _ ho
        · cases ho
          rcases means_err hm with h | h
          · exact .inr (.inl h)
          · exact .inr (.inr (.inl h))
end Go.Proofs.YtniibpndgcndbaaGreatDoor.Tpl
namespace Go.Proofs.YtniibpndgcndbaaGreatDoor.Tpl
open Vals Nodes
def mostC (c : Nat) : Int := if c = 1 then 256 else if c = 2 then 2048 else 160
def FillP (T : Nat → S → S) (l : Nodes) (v : Val) (c : Nat) : Except Int S :=
  if l.chk = true ∧ v.ok = true then
    (if 1 ≤ c ∧ c ≤ 3 then (match fillP (if c = 2 then id else T c) (T c) (mostC c) l [v] ([], 4096) with | .ok q => .ok q.1 | .error e => .error e) else .error 1)
  else .error 2
theorem FillP_parts (T : Nat → S → S) (a b : Nodes) (v : Val) (c : Nat) (ha : a.chk = true) (hb : b.chk = true) (hab : (a.app b).chk = true) :
    (∀ e, FillP T a v c = .error e → FillP T (a.app b) v c = .error e) ∧
    (∀ s, FillP T a v c = .ok s →
      (∀ e, FillP T b v c = .error e → FillP T (a.app b) v c = .error e ∨ FillP T (a.app b) v c = .error 12) ∧
      (∀ t, FillP T b v c = .ok t → FillP T (a.app b) v c = .ok (s ++ t) ∨ FillP T (a.app b) v c = .error 12)) := by
  unfold FillP
  simp only [ha, hb, hab, true_and]
  by_cases hv : v.ok = true
  · simp only [if_pos hv]
    by_cases hc : 1 ≤ c ∧ c ≤ 3
    · simp only [if_pos hc]
      rw [fillP_app]
      cases h1 : fillP (if c = 2 then id else T c) (T c) (mostC c) a [v] ([], 4096) with
      | error e => simp [thenE]
      | ok q =>
        have hq := fillP_left a [v] ([], 4096) q h1
        have hB := fillP_both (if c = 2 then id else T c) (T c) (mostC c) q.1 b [v] ([], 4096) q.2 hq
        simp only [List.append_nil] at hB
        simp only [thenE_ok]
        have e0 : fillP (if c = 2 then id else T c) (T c) (mostC c) b [v] q = fillP (if c = 2 then id else T c) (T c) (mostC c) b [v] (q.1, q.2) := rfl
        rw [e0]
        refine ⟨fun e h => ?_, fun s hs => ?_⟩
        cases h
        cases hs
        rcases hB with hB | hB
        · rw [hB]; exact ⟨fun e _ => .inr rfl, fun t _ => .inr rfl⟩
        · cases h2 : fillP (if c = 2 then id else T c) (T c) (mostC c) b [v] ([], 4096) with
          | error e => rw [h2] at hB; simp only at hB; rw [hB]; refine ⟨fun e he => .inl he, fun t ht => ?_⟩; cases ht
          | ok p => rw [h2] at hB; obtain ⟨k, hk, _⟩ := hB; rw [hk]; refine ⟨fun e he => ?_, fun t ht => ?_⟩; (cases he); (cases ht; exact .inl rfl)
    · simp only [if_neg hc]
      refine ⟨fun e h => h, fun s h => ?_⟩; cases h
  · simp only [if_neg hv]
    refine ⟨fun e h => h, fun s h => ?_⟩; cases h
theorem FillP_safe (T : Nat → S → S) (hT : ∀ s, ∀ x ∈ T 3 s, 32 ≤ x.toNat ∧ x.toNat ≤ 126) (l : Nodes) (v : Val) (c : Nat) (s : S) (h : FillP T l v c = .ok s) :
    1 ≤ c ∧ c ≤ 3 ∧ (s.length : Int) ≤ mostC c ∧ (c = 3 → ∀ x ∈ s, 32 ≤ x.toNat ∧ x.toNat ≤ 126) := by
  unfold FillP at h
  split at h
  · split at h
    · rename_i hc
      cases hf : fillP (if c = 2 then id else T c) (T c) (mostC c) l [v] ([], 4096) with
      | error e => rw [hf] at h; cases h
      | ok q =>
        rw [hf] at h
        cases h
        have hm : (0 : Int) ≤ mostC c := by unfold mostC; split; decide; split <;> decide
        refine ⟨hc.1, hc.2, ?_, fun h3 => ?_⟩
        · exact (fillP_keeps (G := fun _ => True) (fun _ _ _ => trivial) (fun _ _ _ => trivial) l [v] ([], 4096) q ⟨by simpa using hm, fun _ _ => trivial⟩ hf).1
        · subst h3
          refine (fillP_keeps (G := fun x => 32 ≤ x.toNat ∧ x.toNat ≤ 126) (fun s x hx => ?_) (fun s x hx => hT s x hx) l [v] ([], 4096) q ⟨by simpa using hm, fun x hx => by simp at hx⟩ hf).2
          rw [if_neg (by decide)] at hx
          exact hT s x hx
    · cases h
  · cases h
theorem FillP_err (T : Nat → S → S) (l : Nodes) (v : Val) (c : Nat) (e : Int) (h : FillP T l v c = .error e) : e = 1 ∨ e = 2 ∨ e = 3 ∨ e = 7 ∨ e = 12 := by
  unfold FillP at h
  split at h
  · split at h
    · cases hf : fillP (if c = 2 then id else T c) (T c) (mostC c) l [v] ([], 4096) with
      | ok q => rw [hf] at h; cases h
      | error e' => rw [hf] at h; cases h; rcases fillP_err l _ _ _ hf with h | h | h | h <;> simp [h]
    · cases h; simp
  · cases h; simp
end Go.Proofs.YtniibpndgcndbaaGreatDoor.Tpl
