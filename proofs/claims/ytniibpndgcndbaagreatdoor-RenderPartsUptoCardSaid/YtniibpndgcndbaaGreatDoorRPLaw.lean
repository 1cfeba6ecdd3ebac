/- The statement RenderParts in its second form: for every input of bulk at most 1048576 the Go law answers true, and its arguments read behind the call as they did. -/
import Derived.Test.YtniibpndgcndbaaGreatDoorRP2
import Derived.Test.YtniibpndgcndbaaGreatDoorCards
import Derived.Test.YtniibpndgcndbaaGreatDoorProg
import Derived.Test.YtniibpndgcndbaaGreatDoorRows
import Derived.Test.YtniibpndgcndbaaGreatDoorTie
import Derived.Below
import Derived.ChangeOld
import Derived.Deep.DeepHandedRow
import Derived.Deep.DeepWitnessRowRef
import Derived.LaidMore
import Derived.Lay
import Derived.OpenShut
import Derived.ProofKit
import Derived.SevenTiedAt
import Derived.ShutString
import Derived.SizedLaws
import Derived.WalkKit
namespace Go.Proofs.YtniibpndgcndbaaGreatDoor.renderPartsUpto
open Go.ChangeShapes Go.WideShapes Go.ChangeAt Go.RowKit Go.Proofs.YtniibpndgcndbaaGreatDoor.Tpl
open Go.ChangeMaps (open_string shut_string)
theorem own : ownKnob Tryz.prog.godebug = none := by kernel_rfl
theorem laidOut : laidOutB Tryz.prog = true := by kernel_rfl
theorem laid_met (os : Os) : laidMetH Tryz.prog Rows.renderPartsUptoRow.laid ((rendW os).forCall (fun _ _ => 0) ⟨#[], #[.slice none 0 0, .slice none 0 0, .agg #[.int .u8 0, .string ByteArray.empty, .int .i64 0, .slice none 0 0, .slice none 0 0], .int .u8 0], []⟩).memory :=
  rendW_met os _
theorem reads (os : Os) {H : Type} (enc : TypeId × Value → H) : ∃ places, DataW.whole enc Tryz.prog ((rendW os).forCall (fun _ _ => 0) ⟨#[], #[.slice none 0 0, .slice none 0 0, .agg #[.int .u8 0, .string ByteArray.empty, .int .i64 0, .slice none 0 0, .slice none 0 0], .int .u8 0], []⟩).memory Tryz.f9.params.toList Rows.renderPartsSpec.vars false (#[.slice none 0 0, .slice none 0 0, .agg #[.int .u8 0, .string ByteArray.empty, .int .i64 0, .slice none 0 0, .slice none 0 0], .int .u8 0] : Array Value).toList 8 = some ([.nil, .nil, .agg [.lit (.int .u8 0), .lit (.string []), .lit (.int .i64 0), .nil, .nil], .lit (.int .u8 0)], [], places) :=
  ⟨[], by kernel_rfl⟩
set_option maxRecDepth 100000 in
theorem lifted (os : Os) (started : os.Started) (H : Type) (enc : TypeId × Value → H) (F : Stop.Interp) :
    ReturnsInHanded {} Tryz.checked os 9 .any ((Rows.OpenSpec.upto Rows.renderPartsSpec).preRow enc Tryz.prog Tryz.f9 Rows.renderPartsUptoRow.domain false Rows.renderPartsUptoRow.laid) (((Rows.OpenSpec.upto Rows.renderPartsSpec).at F).post enc Tryz.prog Tryz.f9 false true false false) := by
  obtain ⟨places, hx⟩ := reads os enc
  refine returnsInHanded_of_row (C := Tryz.checked) (s := Rows.OpenSpec.upto Rows.renderPartsSpec) own started (by kernel_rfl) Tryz.func9
    (witness_row_atRef (enc := enc) (C := Tryz.checked) false (rendW os) #[.slice none 0 0, .slice none 0 0, .agg #[.int .u8 0, .string ByteArray.empty, .int .i64 0, .slice none 0 0, .slice none 0 0], .int .u8 0] (rendW_os os) (by kernel_rfl) (by kernel_rfl) (by kernel_rfl)
      (OpenSpec.preRow_of_cond 8 hx (by kernel_rfl) (fun k hk => by cases hk; kernel_rfl) (by kernel_rfl) (laid_met os))) ?_
  intro W base args ds gs before hval0 hW _ hcond _ hL hSh _
  have hk := of_decide_eq_true (hcond _ rfl)
  have hval : ∀ (j : Nat) t v, Tryz.f9.params[j]? = some t → args[j]? = some v → Value.okWide Tryz.prog W .any base t v := hval0
  have hW' := hW
  obtain ⟨p, q, hA0, hV, rfl, hfz, hnd⟩ := hW
  have hA : DataW.TrodAll enc Tryz.prog W 0 (fun _ => true) true Tryz.f9.params.toList args.toList ds p := hA0
  rw [Tryz.params9] at hA hval
  obtain ⟨v0, vs0, d0, ds0, p0, q0, hargs, rfl, rfl, h0, r0⟩ := trodAll_cons hA
  obtain ⟨v1, vs1, d1, ds1, p1, q1, rfl, rfl, rfl, h1, r1⟩ := trodAll_cons r0
  obtain ⟨v2, vs2, d2, ds2, p2, q2, rfl, rfl, rfl, h2, r2⟩ := trodAll_cons r1
  obtain ⟨v3, vs3, d3, ds3, p3, q3, rfl, rfl, rfl, h3, r3⟩ := trodAll_cons r2
  obtain ⟨rfl, rfl, rfl⟩ := trodAll_nil r3
  obtain rfl : args = #[v0, v1, v2, v3] := by cases args; simp_all
  obtain ⟨rfl, rfl⟩ := trodVars_none hV
  obtain ⟨A0, n0, c0, rfl⟩ := okWide_slice Tryz.underlying22 (hval 0 22 v0 rfl rfl)
  have k0 := h0
  have lt0 : ∀ x ∈ p0, x.block < W.heap.size := by obtain ⟨m, hm⟩ := k0; exact DataW.trod_lt m _ _ _ hm
  obtain ⟨fuel0, hf0⟩ := h0
  obtain ⟨A0', c0', l0, e0, R0, s0, b0⟩ := open_nodes _ _ _ hf0
  have l1_0 := cnt_len l0
  obtain ⟨rfl, rfl, rfl⟩ : A0 = A0' ∧ n0 = _ ∧ c0 = c0' := by simpa [Value.cells] using e0
  obtain ⟨A1, n1, c1, rfl⟩ := okWide_slice Tryz.underlying22 (hval 1 22 v1 rfl rfl)
  have k1 := h1
  have lt1 : ∀ x ∈ p1, x.block < W.heap.size := by obtain ⟨m, hm⟩ := k1; exact DataW.trod_lt m _ _ _ hm
  obtain ⟨fuel1, hf1⟩ := h1
  obtain ⟨A1', c1', l1, e1, R1, s1, b1⟩ := open_nodes _ _ _ hf1
  have l1_1 := cnt_len l1
  obtain ⟨rfl, rfl, rfl⟩ : A1 = A1' ∧ n1 = _ ∧ c1 = c1' := by simpa [Value.cells] using e1
  obtain ⟨vc2, rfl, vz2⟩ := okWide_struct Tryz.underlying43 (hval 2 43 v2 rfl rfl)
  have k2 := h2
  have lt2 : ∀ x ∈ p2, x.block < W.heap.size := by obtain ⟨m, hm⟩ := k2; exact DataW.trod_lt m _ _ _ hm
  obtain ⟨fuel2, hf2⟩ := h2
  obtain ⟨x2, A3_2, c3_2, A4_2, c4_2, e2, R2, s2⟩ := open_val hf2
  obtain rfl : vc2 = #[.int .u8 x2.k, .string (bs x2.t), .int .i64 x2.n, .slice A3_2 x2.i.len c3_2, .slice A4_2 x2.m.length c4_2] := by apply Array.toList_inj.1; simpa [Value.cells] using e2
  obtain ⟨a3, rfl, rfl, rfl, w3⟩ := open_int Tryz.underlying44 (hval 3 44 v3 rfl rfl) h3
  have y3 : 0 ≤ a3 ∧ a3 < 256 := by have := w3; simp [Lit.wf, (by decide : IntKind.u8.min = 0), (by decide : IntKind.u8.max = 255)] at this; omega
  obtain ⟨n3, rfl⟩ : ∃ q : Nat, a3 = q := ⟨a3.toNat, by omega⟩
  simp only [List.append_nil, Rows.uptoBulkAll] at hk
  have b0' : _ ≤ Rows.uptoBulk d0 := b0
  have b1' : _ ≤ Rows.uptoBulk d1 := b1
  clear hA0 hval0 hcond
  refine (parts_walk l0 A0 c0 l1 A1 c1 x2 A3_2 c3_2 A4_2 c4_2 n3 W (globR_of_laid hSh hL) (s0 (show Rows.uptoBulk d0 ≤ 1048576 by omega)) R0 (by omega) (by omega) (s1 (show Rows.uptoBulk d1 ≤ 1048576 by omega)) R1 (by omega) (by omega) (by omega) (s2 (show Rows.uptoBulk d2 ≤ 1048576 by omega)) R2).mono fun e W' ⟨he, bel⟩ => ?_
  subst he
  exact ⟨_, rfl, _, _, _, [], _, [], hW', trodAll_mk1 (shut_bool Tryz.underlying4 _), (trodAll_cons_mk (Below.trod laidOut (by kernel_rfl) (of_decide_eq_true (by kernel_rfl)) k0 bel lt0) (trodAll_cons_mk (Below.trod laidOut (by kernel_rfl) (of_decide_eq_true (by kernel_rfl)) k1 bel lt1) (trodAll_cons_mk (Below.trod laidOut (by kernel_rfl) (of_decide_eq_true (by kernel_rfl)) k2 bel lt2) (trodAll_cons_mk (shut_int Tryz.underlying44 w3) trodAll_mk0)))), rfl, bel.frame _, fun h => by cases h⟩
theorem over : Rows.RenderPartsUptoSaid :=
  OpenClaim.holds_of_cond 9 Tryz.f9 rfl rfl rfl rfl rfl rfl rfl ⟨rfl, rfl, rfl, rfl, rfl⟩ rfl rfl rfl rfl rfl (by kernel_rfl) Tryz.func9 (by kernel_rfl)
    (of_decide_eq_true (by kernel_rfl)) (by unfold Func.isWrapper; first | (rw [if_pos (by decide +kernel)]; kernel_rfl) | (rw [if_neg (by decide +kernel)]; exact ⟨rfl, rfl⟩))
    (fun os started H enc _ F => by rw [OpenClaim.pre_eq_preRow]; exact lifted os started H enc F)
theorem card_holds : Rows.RenderPartsUptoCardSaid :=
  Claim7.holds_tied_plain_at .later [] _ _ _ _
    over (fun _ h => by cases h) (by kernel_rfl) (fun _ h => by cases h) renderPartsUpto_row_tie rfl ⟨rfl, rfl⟩ (by kernel_rfl) rfl
    (fun f fn hf hfn => by
      obtain rfl : f = 9 := Option.some.inj ((show Tryz.prog.funcNamed "bellman/bellmanlaw14.RenderParts" = some 9 by kernel_rfl).symm.trans hf) |>.symm
      obtain rfl : fn = Tryz.f9 := (Option.some.inj (Tryz.func9.symm.trans hfn)).symm
      exact ⟨by kernel_rfl, fun j t ht => by
        rw [Tryz.params9] at ht
        have hm : t ∈ [22, 43, 44] := by simpa using Array.mem_of_getElem? ht
        have hall : ([22, 43, 44].all fun u => !Tryz.prog.wantsStandIn u) = true := by kernel_rfl
        exact (show Tryz.prog.wantsStandIn t = false by simpa using List.all_eq_true.1 hall t hm)⟩)
    (by kernel_rfl)
end Go.Proofs.YtniibpndgcndbaaGreatDoor.renderPartsUpto
namespace Go.Proofs.YtniibpndgcndbaaGreatDoor
/-- The card, under a short name, for the claim. -/
theorem renderPartsUpto_card : Rows.RenderPartsUptoCardSaid := renderPartsUpto.card_holds
#print axioms renderPartsUpto_card
end Go.Proofs.YtniibpndgcndbaaGreatDoor
