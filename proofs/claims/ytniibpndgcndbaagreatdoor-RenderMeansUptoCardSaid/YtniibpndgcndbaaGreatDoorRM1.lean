/- Part 1 of the proof (texts of this claim, merged in build order; what the claim does not need has been left out). -/
import Derived.Test.YtniibpndgcndbaaGreatDoorRM0
set_option linter.unusedVariables false
set_option linter.unusedSimpArgs false
namespace Go.Proofs.YtniibpndgcndbaaGreatDoor.PB
open Go.RowKit Go.Proofs.YtniibpndgcndbaaGreatDoorW.PrintWords Go.Proofs.YtniibpndgcndbaaGreatDoorW.PrintLast Go.Proofs.YtniibpndgcndbaaGreatDoorW.PrintMore Go.Proofs.YtniibpndgcndbaaGreatDoor.Short
attribute [local go_sem] max2_int min2_int max_two min_two max_three min_three max_four min_four   -- for this text's walks alone
set_option linter.unusedVariables false
set_option linter.unusedSimpArgs false
mutual
def bellmanref09_find.l0 : Nat → List ByteArray → List ByteArray → Int → Int → Int → ByteArray → Int → List (S43) → List ByteArray → Option (Int × ByteArray × Int × (List (S43)) × List ByteArray × Int)
 | 0, _, _, _, _, _, _, _, _, _ => none
 | k + 1, x1, x14, x15, x16, x228000, x228001, x228002, x228003, x228004 => if x16 < x15 then (if 0 ≤ x16 then (if x16 < (x14.length : Int) then (if 0 < (x1.length : Int) then (if (rdOf ByteArray.empty x14 x16).toList = (rdOf ByteArray.empty x1 0).toList then (if x16 < (x228003.length : Int) then (if 1 ≤ (x1.length : Int) then ((bellmanref09_find.f k ((rd_T43 x228003 x16).f0) ((rd_T43 x228003 x16).f1) ((rd_T43 x228003 x16).f2) ((rd_T43 x228003 x16).f3) ((rd_T43 x228003 x16).f4) (x1.drop 1)).bind fun bt242 => (some (bt242.1, bt242.2.1, bt242.2.2.1, bt242.2.2.2.1, bt242.2.2.2.2.1, bt242.2.2.2.2.2))) else (none)) else (none)) else (bellmanref09_find.l0 k x1 x14 x15 (wrap64 (x16 + 1)) x228000 x228001 x228002 x228003 x228004)) else (none)) else (none)) else (none)) else (some (0, (⟨#[]⟩ : ByteArray), 0, ([] : List (S43)), ([] : List ByteArray), 3))
def bellmanref09_find.f : Nat → Int → ByteArray → Int → List (S43) → List ByteArray → List ByteArray → Option (Int × ByteArray × Int × (List (S43)) × List ByteArray × Int)
 | 0, _, _, _, _, _, _ => none
 | k + 1, a0_0, a0_1, a0_2, l0_3, l0_4, l1 => if (l1.length : Int) = 0 then ((bellmanref09_Copy.f k a0_0 a0_1 a0_2 l0_3 l0_4).bind fun bt229 => (some (bt229.1, bt229.2.1, bt229.2.2.1, bt229.2.2.2.1, bt229.2.2.2.2, 0))) else (bellmanref09_find.l0 k l1 l0_4 (l0_4.length : Int) 0 a0_0 a0_1 a0_2 l0_3 l0_4)
end
def bellmanref09_find.T7 : Bool × List (List Nat × List Nat) := (true, [([], []), ([0], [0]), ([], []), ([1, 2], [1, 2]), ([3], [3]), ([], []), ([5], [5]), ([4, 6], [4, 6]), ([7], [7]), ([7], [7]), ([8, 7, 0, 1, 2, 3, 4, 5, 6, 7, 8, 9], [8]), ([9, 10, 0, 1, 2, 3, 4, 5, 6, 7, 8, 9, 10], [9])])
def bellmanref09_find.B7 : List Nat := [0, 1, 0, 7, 15, 0, 32, 127, 255, 255, 1023, 2047]
theorem bellmanref09_find.tab7 : rtab .any (opsOf Tryz.f134 7) = bellmanref09_find.T7 := by kernel_rfl
theorem bellmanref09_find.bits7 : waitsOk bellmanref09_find.T7.2 bellmanref09_find.B7 = true := by kernel_rfl
set_option maxHeartbeats 8000000 in
set_option maxRecDepth 100000 in
theorem bellmanref09_find.calls (k : Nat) : ∀ (a0_0 : Int) (a0_1 : ByteArray) (a0_2 : Int) (A0_3 : Option Addr) (c0_3 : Nat) (l0_3 : List (S43)) (A0_4 : Option Addr) (c0_4 : Nat) (l0_4 : List ByteArray) (A1 : Option Addr) (c1 : Nat) (l1 : List ByteArray) (r1 : Int) (r2 : ByteArray) (r3 : Int) (r4 : List (S43)) (r5 : List ByteArray) (r6 : Int) (w : World) (hr0_3 : Kd.C k43 w A0_3 l0_3.length l0_3) (hc0_3 : l0_3.length ≤ c0_3) (hr0_4 : Kd.C Kd.string w A0_4 l0_4.length l0_4) (hc0_4 : l0_4.length ≤ c0_4) (hr1 : Kd.C Kd.string w A1 l1.length l1) (hc1 : l1.length ≤ c1) (h : bellmanref09_find.f k a0_0 a0_1 a0_2 l0_3 l0_4 l1 = some (r1, r2, r3, r4, r5, r6)),
  Calls Tryz.prog 134 #[.agg #[.int .u8 a0_0, .string a0_1, .int .i64 a0_2, .slice A0_3 l0_3.length c0_3, .slice A0_4 l0_4.length c0_4], .slice A1 l1.length c1] w fun e w' => ∃ v3_ v4_ : Value, e = .returned (.tuple #[.agg #[.int .u8 r1, .string r2, .int .i64 r3, v3_, v4_], .int .i64 r6]) ∧ Kd.R k43 43 w' w.heap.size (fun k_ => some k_ ≠ (v4_ : Value).ownBlock) v3_ r4 ∧ Kd.R Kd.string 9 w' w.heap.size (fun _ => True) v4_ r5 ∧ Below w.heap.size w w' := by
 induction k using Nat.strongRecOn with
 | _ k ih =>
 intro a0_0 a0_1 a0_2 A0_3 c0_3 l0_3 A0_4 c0_4 l0_4 A1 c1 l1 r1 r2 r3 r4 r5 r6 w hr0_3 hc0_3 hr0_4 hc0_4 hr1 hc1 h
 cases k with
 | zero => exact absurd h (by simp [bellmanref09_find.f])
 | succ k =>
 simp only [bellmanref09_find.f] at h
 have hu43 := Tryz.underlying43
 have HR0_3 := Aside0.mk hr0_3
 have HC0_3 := Aside0.mk hc0_3
 clear hr0_3 hc0_3
 have HR0_4 := Aside0.mk hr0_4
 have HC0_4 := Aside0.mk hc0_4
 clear hr0_4 hc0_4
 have HR1 := Aside0.mk hr1
 have HC1 := Aside0.mk hc1
 clear hr1 hc1
 have HB := Aside0.mk (Below.refl w.heap.size w)
 have H : (if (l1.length : Int) = 0 then ((bellmanref09_Copy.f k a0_0 a0_1 a0_2 l0_3 l0_4).bind fun bt229 => (some (bt229.1, bt229.2.1, bt229.2.2.1, bt229.2.2.2.1, bt229.2.2.2.2, 0))) else (bellmanref09_find.l0 k l1 l0_4 (l0_4.length : Int) 0 a0_0 a0_1 a0_2 l0_3 l0_4)) = some (r1, r2, r3, r4, r5, r6) := h
 clear h
 by_cases c3 : (l1.length : Int) = 0
 ·rw [if_pos c3] at H
  have c3b0 : ((l1.length : Int) == 0) = true := beq_iff_eq.mpr c3
  have c3b1 : ((l1.length : Int) != 0) = false := bne_eq_false_iff_eq.mpr c3
  clear c3
  replace H := Option.bind_eq_some_iff.mp H
  obtain ⟨⟨t229, t230, t231, t232, t235⟩, A40, H⟩ := H
  replace H : (some (t229, t230, t231, t232, t235, 0)) = some (r1, r2, r3, r4, r5, r6) := H
  have A4 := Aside0.mk A40
  clear A40
  simp only [Option.some.injEq, Prod.mk.injEq] at H
  obtain ⟨rfl, rfl, rfl, rfl, rfl, rfl⟩ := H
  go_enter Tryz.func134, Tryz.ntmps134
  go_wp2_with (first | ((with_reducible refine gate_dst (N := 2) rfl ?_); refine box_event ?hg (N := 2) ?hd (cs := #[.int .u8 a0_0, .string a0_1, .int .i64 a0_2, .slice A0_3 l0_3.length c0_3, .slice A0_4 l0_4.length c0_4]) (t := 43) ?hr ?_; (case hd => rfl); (case hg => rfl); (case hr => first | (go_simp; done) | (go_simp; rfl)); intro gb227 hg w5 hbox hb; have n0_ := Aside0.mk (below_step (belS HB.out) hb); have n1_ := Aside0.mk (hbox); have n2_ := Aside0.mk ((by rw [hg]; exact (below_size (belS HB.out)) : w.heap.size ≤ gb227)); have n3_ := Aside0.mk ((by rw [hg]; exact (below_size (belS HB.out)) : w.heap.size ≤ gb227)); clear HB; have HB := n0_; have BK227 := n1_; have GW227 := n2_; have GE227 := n3_; clear n0_ n1_ n2_ n3_; clear hb hbox hg) | ((with_reducible refine gate_dst (N := 4) rfl ?_); refine box_event ?hg (N := 4) ?hd (cs := #[.int .u8 0, .string (⟨#[]⟩ : ByteArray), .int .i64 0, .slice none 0 0, .slice none 0 0]) (t := 43) ?hr ?_; (case hd => rfl); (case hg => rfl); (case hr => first | (go_simp; done) | (go_simp; rfl)); intro gb228 hg w6 hbox hb; have n0_ := Aside0.mk (blk_below (g := gb227) (o := .cells #[.int .u8 a0_0, .string a0_1, .int .i64 a0_2, .slice A0_3 l0_3.length c0_3, .slice A0_4 l0_4.length c0_4] 43 (0, 0)) (blkS BK227.out) hb); have n1_ := Aside0.mk (below_step (by repeat (first | (with_reducible first | exact HB.out | apply below_alloc | apply pw_below_drewN | apply below_drew1 | refine below_set ?_ GE227.out) | exact HB.out)) hb); have n2_ := Aside0.mk (hbox); have n3_ := Aside0.mk ((by rw [hg]; exact (below_size (by repeat (first | (with_reducible first | exact HB.out | apply below_alloc | apply pw_below_drewN | apply below_drew1 | refine below_set ?_ GE227.out) | exact HB.out))) : w.heap.size ≤ gb228)); have n4_ := Aside0.mk ((by rw [hg]; exact (below_size (by repeat (first | (with_reducible first | exact HB.out | apply below_alloc | apply pw_below_drewN | apply below_drew1 | refine below_set ?_ GE227.out) | exact HB.out))) : w.heap.size ≤ gb228)); have n5_ := Aside0.mk ((by rw [hg]; exact Nat.ne_of_lt (blk_lt (g := gb227) (o := .cells #[.int .u8 a0_0, .string a0_1, .int .i64 a0_2, .slice A0_3 l0_3.length c0_3, .slice A0_4 l0_4.length c0_4] 43 (0, 0)) (blkS BK227.out)) : gb227 ≠ gb228)); have n6_ := Aside0.mk ((by rw [hg]; exact Nat.ne_of_gt (blk_lt (g := gb227) (o := .cells #[.int .u8 a0_0, .string a0_1, .int .i64 a0_2, .slice A0_3 l0_3.length c0_3, .slice A0_4 l0_4.length c0_4] 43 (0, 0)) (blkS BK227.out)) : gb228 ≠ gb227)); clear BK227; clear HB; have BK227 := n0_; have HB := n1_; have BK228 := n2_; have GW228 := n3_; have GE228 := n4_; have NB227_228 := n5_; have NB228_227 := n6_; clear n0_ n1_ n2_ n3_ n4_ n5_ n6_; clear hb hbox hg; have hnb7 := NB227_228.out; have hnc7 := NB228_227.out; obtain ⟨hcz8_0, hcz8_1, hcz8_2, hcz8_3, hcz8_4, hfz8_0, hfz8_1, hfz8_2, hfz8_3, hfz8_4⟩ := cells_5 BK227.out) | ((with_reducible refine gate_callee (f := 166) rfl ?_); refine goesL_ (some 12) rfl rfl Tryz.func166 (by kernel_rfl) rfl #[.agg #[.int .u8 a0_0, .string a0_1, .int .i64 a0_2, .slice A0_3 l0_3.length c0_3, .slice A0_4 l0_4.length c0_4]] rfl (by (try simp only [List.map_toArray, List.map_cons, List.map_nil]); first | done | rfl) ?_; (with_reducible refine (bellmanref09_Copy.calls k a0_0 a0_1 a0_2 _ _ l0_3 _ _ l0_4 t229 t230 t231 t232 t235 _ ?side1 ?side2 ?side3 ?side4 A4.out).mono ?_); (case side1 => repeat (first | exact (Kd.C_below HR0_3.out HB.out) | (with_reducible refine Kd.C_alloc ?_ _) | (with_reducible refine Kd.C_drewN ?_ _) | (with_reducible refine Kd.C_drew ?_))); (case side2 => exact HC0_3.out); (case side3 => repeat (first | exact (Kd.C_below HR0_4.out HB.out) | (with_reducible refine Kd.C_alloc ?_ _) | (with_reducible refine Kd.C_drewN ?_ _) | (with_reducible refine Kd.C_drew ?_))); (case side4 => exact HC0_4.out); rintro e w9 ⟨v233, v236, rfl, ho0, ho1, hb⟩; refine ⟨_, rfl, ?_⟩; have n0_ := Aside0.mk (Kd.R_lower (Kd.R_newB (Kd.R_newB ho0 (g := gb227) (o := .cells #[.int .u8 a0_0, .string a0_1, .int .i64 a0_2, .slice A0_3 l0_3.length c0_3, .slice A0_4 l0_4.length c0_4] 43 (0, 0)) (blkS BK227.out)) (g := gb228) (o := .cells #[.int .u8 0, .string (⟨#[]⟩ : ByteArray), .int .i64 0, .slice none 0 0, .slice none 0 0] 43 (0, 0)) (blkS BK228.out)) (below_size (by repeat (first | (with_reducible first | exact HB.out | apply below_alloc | apply pw_below_drewN | apply below_drew1 | refine below_set ?_ GE227.out | refine below_set ?_ GE228.out) | exact HB.out)))); have n1_ := Aside0.mk (Kd.R_lower ho1 (below_size (by repeat (first | (with_reducible first | exact HB.out | apply below_alloc | apply pw_below_drewN | apply below_drew1 | refine below_set ?_ GE227.out | refine below_set ?_ GE228.out) | exact HB.out)))); have n2_ := Aside0.mk (blk_below (g := gb227) (o := .cells #[.int .u8 a0_0, .string a0_1, .int .i64 a0_2, .slice A0_3 l0_3.length c0_3, .slice A0_4 l0_4.length c0_4] 43 (0, 0)) (blkS BK227.out) hb); have n3_ := Aside0.mk (blk_below (g := gb228) (o := .cells #[.int .u8 0, .string (⟨#[]⟩ : ByteArray), .int .i64 0, .slice none 0 0, .slice none 0 0] 43 (0, 0)) (blkS BK228.out) hb); have n4_ := Aside0.mk (below_step (by repeat (first | (with_reducible first | exact HB.out | apply below_alloc | apply pw_below_drewN | apply below_drew1 | refine below_set ?_ GE227.out | refine below_set ?_ GE228.out) | exact HB.out)) hb); clear BK227; clear BK228; clear HB; have HO234 := n0_; have HO237 := n1_; have BK227 := n2_; have BK228 := n3_; have HB := n4_; clear n0_ n1_ n2_ n3_ n4_; (try clear hb); (try clear hb2); (try clear hk); (try clear hi); (try clear ho0); (try clear ho1); obtain ⟨hcz10_0, hcz10_1, hcz10_2, hcz10_3, hcz10_4, hfz10_0, hfz10_1, hfz10_2, hfz10_3, hfz10_4⟩ := cells_5 BK228.out; obtain ⟨Ao11, co11, eo11⟩ := Kd.R_slice HO234.out; subst eo11; obtain ⟨Ao12, co12, eo12⟩ := Kd.R_slice HO237.out; subst eo12))
  refine bodyPost_ret (results_ct rfl _ _ gb228 43 #[.int .u8 t229, .string t230, .int .i64 t231, .slice Ao11 t232.length co11, .slice Ao12 t235.length co12] (0, 0) _ rfl (by (with_reducible repeat (first | refine blk_drewN ?_ _ | refine blk_drew ?_ | refine blk_alloc ?_ _)); refine blk_put (cs := #[.int .u8 t229, .string t230, .int .i64 t231, .slice Ao11 t232.length co11, .slice none 0 0]) ?_ 4 _ rfl; (with_reducible repeat (first | refine blk_drewN ?_ _ | refine blk_drew ?_ | refine blk_alloc ?_ _)); refine blk_put (cs := #[.int .u8 t229, .string t230, .int .i64 t231, .slice none 0 0, .slice none 0 0]) ?_ 3 _ rfl; (with_reducible repeat (first | refine blk_drewN ?_ _ | refine blk_drew ?_ | refine blk_alloc ?_ _)); refine blk_put (cs := #[.int .u8 t229, .string t230, .int .i64 0, .slice none 0 0, .slice none 0 0]) ?_ 2 _ rfl; (with_reducible repeat (first | refine blk_drewN ?_ _ | refine blk_drew ?_ | refine blk_alloc ?_ _)); refine blk_put (cs := #[.int .u8 t229, .string (⟨#[]⟩ : ByteArray), .int .i64 0, .slice none 0 0, .slice none 0 0]) ?_ 1 _ rfl; (with_reducible repeat (first | refine blk_drewN ?_ _ | refine blk_drew ?_ | refine blk_alloc ?_ _)); refine blk_put (cs := #[.int .u8 0, .string (⟨#[]⟩ : ByteArray), .int .i64 0, .slice none 0 0, .slice none 0 0]) ?_ 0 _ rfl; (with_reducible repeat (first | refine blk_drewN ?_ _ | refine blk_drew ?_ | refine blk_alloc ?_ _)); exact BK228.out) Tryz.underlying43 rfl (by kernel_rfl)) rfl ?_
  exact ⟨_, _, by first | rfl | (simp [errW_none, errW_some] <;> rfl) | (simp [*, errW_none, errW_some] <;> rfl), by (with_reducible repeat (first | apply Kd.R_alloc | apply Kd.R_drewN | apply Kd.R_drew)); exact Kd.R_mono (Kd.R_far (p := ⟨gb228, 4, none⟩) (Kd.R_far (p := ⟨gb228, 3, none⟩) (Kd.R_far (p := ⟨gb228, 2, none⟩) (Kd.R_far (p := ⟨gb228, 1, none⟩) (Kd.R_far (p := ⟨gb228, 0, none⟩) (Kd.R_mono HO234.out (fun k_ hk => (⟨hk, hk.2⟩ : _ ∧ k_ ≠ gb228))) (fun _ hk => hk.2) (.int .u8 t229)) (fun _ hk => hk.2) (.string t230)) (fun _ hk => hk.2) (.int .i64 t231)) (fun _ hk => hk.2) (.slice Ao11 t232.length co11)) (fun _ hk => hk.2) (.slice Ao12 t235.length co12)) (fun _ hk => hk.1.1.1), by (with_reducible repeat (first | apply Kd.R_alloc | apply Kd.R_drewN | apply Kd.R_drew)); exact Kd.R_mono (Kd.R_far (p := ⟨gb228, 4, none⟩) (Kd.R_far (p := ⟨gb228, 3, none⟩) (Kd.R_far (p := ⟨gb228, 2, none⟩) (Kd.R_far (p := ⟨gb228, 1, none⟩) (Kd.R_far (p := ⟨gb228, 0, none⟩) (Kd.R_types HO237.out BK228.out (by decide)) (fun _ hk => hk.2) (.int .u8 t229)) (fun _ hk => hk.2) (.string t230)) (fun _ hk => hk.2) (.int .i64 t231)) (fun _ hk => hk.2) (.slice Ao11 t232.length co11)) (fun _ hk => hk.2) (.slice Ao12 t235.length co12)) (fun _ hk => trivial), by repeat (first | (with_reducible first | exact HB.out | apply below_alloc | apply pw_below_drewN | apply below_drew1 | refine below_set ?_ GE227.out | refine below_set ?_ GE228.out) | exact HB.out)⟩
 ·rw [if_neg c3] at H
  have c3b0 : ((l1.length : Int) == 0) = false := beq_eq_false_iff_ne.mpr c3
  have c3b1 : ((l1.length : Int) != 0) = true := bne_iff_ne.mpr c3
  have c3b2 : ¬ (l1 = []) := fun h_ => c3 (by rw [h_]; rfl)
  have H' := Aside0.mk H
  clear H
  go_enter Tryz.func134, Tryz.ntmps134
  go_wp2_with (first | ((with_reducible refine gate_dst (N := 2) rfl ?_); refine box_event ?hg (N := 2) ?hd (cs := #[.int .u8 a0_0, .string a0_1, .int .i64 a0_2, .slice A0_3 l0_3.length c0_3, .slice A0_4 l0_4.length c0_4]) (t := 43) ?hr ?_; (case hd => rfl); (case hg => rfl); (case hr => first | (go_simp; done) | (go_simp; rfl)); intro gb227 hg w13 hbox hb; have n0_ := Aside0.mk (below_step (belS HB.out) hb); have n1_ := Aside0.mk (hbox); have n2_ := Aside0.mk ((by rw [hg]; exact (below_size (belS HB.out)) : w.heap.size ≤ gb227)); have n3_ := Aside0.mk ((by rw [hg]; exact (below_size (belS HB.out)) : w.heap.size ≤ gb227)); clear HB; have HB := n0_; have BK227 := n1_; have GW227 := n2_; have GE227 := n3_; clear n0_ n1_ n2_ n3_; clear hb hbox hg) | ((with_reducible refine gate_dst (N := 4) rfl ?_); refine box_event ?hg (N := 4) ?hd (cs := #[.int .u8 0, .string (⟨#[]⟩ : ByteArray), .int .i64 0, .slice none 0 0, .slice none 0 0]) (t := 43) ?hr ?_; (case hd => rfl); (case hg => rfl); (case hr => first | (go_simp; done) | (go_simp; rfl)); intro gb228 hg w14 hbox hb; have n0_ := Aside0.mk (blk_below (g := gb227) (o := .cells #[.int .u8 a0_0, .string a0_1, .int .i64 a0_2, .slice A0_3 l0_3.length c0_3, .slice A0_4 l0_4.length c0_4] 43 (0, 0)) (blkS BK227.out) hb); have n1_ := Aside0.mk (below_step (by repeat (first | (with_reducible first | exact HB.out | apply below_alloc | apply pw_below_drewN | apply below_drew1 | refine below_set ?_ GE227.out) | exact HB.out)) hb); have n2_ := Aside0.mk (hbox); have n3_ := Aside0.mk ((by rw [hg]; exact (below_size (by repeat (first | (with_reducible first | exact HB.out | apply below_alloc | apply pw_below_drewN | apply below_drew1 | refine below_set ?_ GE227.out) | exact HB.out))) : w.heap.size ≤ gb228)); have n4_ := Aside0.mk ((by rw [hg]; exact (below_size (by repeat (first | (with_reducible first | exact HB.out | apply below_alloc | apply pw_below_drewN | apply below_drew1 | refine below_set ?_ GE227.out) | exact HB.out))) : w.heap.size ≤ gb228)); have n5_ := Aside0.mk ((by rw [hg]; exact Nat.ne_of_lt (blk_lt (g := gb227) (o := .cells #[.int .u8 a0_0, .string a0_1, .int .i64 a0_2, .slice A0_3 l0_3.length c0_3, .slice A0_4 l0_4.length c0_4] 43 (0, 0)) (blkS BK227.out)) : gb227 ≠ gb228)); have n6_ := Aside0.mk ((by rw [hg]; exact Nat.ne_of_gt (blk_lt (g := gb227) (o := .cells #[.int .u8 a0_0, .string a0_1, .int .i64 a0_2, .slice A0_3 l0_3.length c0_3, .slice A0_4 l0_4.length c0_4] 43 (0, 0)) (blkS BK227.out)) : gb228 ≠ gb227)); clear BK227; clear HB; have BK227 := n0_; have HB := n1_; have BK228 := n2_; have GW228 := n3_; have GE228 := n4_; have NB227_228 := n5_; have NB228_227 := n6_; clear n0_ n1_ n2_ n3_ n4_ n5_ n6_; clear hb hbox hg; have hnb15 := NB227_228.out; have hnc15 := NB228_227.out; obtain ⟨hcz16_0, hcz16_1, hcz16_2, hcz16_3, hcz16_4, hfz16_0, hfz16_1, hfz16_2, hfz16_3, hfz16_4⟩ := cells_5 BK227.out))
  go_loopg [16] k (fun kq v16 w' => ∃ (x16_1 : Int) (x229000_1 : Int) (x229001_1 : ByteArray) (x229002_1 : Int), v16 = .int .i64 x16_1 ∧ Aside0 (bellmanref09_find.l0 kq l1 l0_4 (l0_4.length : Int) x16_1 a0_0 a0_1 a0_2 l0_3 l0_4 = some (r1, r2, r3, r4, r5, r6)) ∧ Aside0 (kq ≤ k) ∧ Aside0 (w'.heap[gb227]? = some (.cells #[.int .u8 a0_0, .string a0_1, .int .i64 a0_2, (.slice A0_3 l0_3.length c0_3), (.slice A0_4 l0_4.length c0_4)] 43 (0, 0))) ∧ Aside0 (w'.heap[gb228]? = some (.cells #[.int .u8 x229000_1, .string x229001_1, .int .i64 x229002_1, (.slice none 0 0), (.slice none 0 0)] 43 (0, 0))) ∧ Aside0 (Below w.heap.size w w'))
  case atStart => exact ⟨(0), (0), ((⟨#[]⟩ : ByteArray)), (0), (by first | rfl | (simp; done) | (simp [*]; done)), H', ⟨Nat.le_refl _⟩, ⟨by (with_reducible repeat (first | refine blk_drewN ?_ _ | refine blk_drew ?_ | refine blk_alloc ?_ _)); exact BK227.out⟩, ⟨by (with_reducible repeat (first | refine blk_drewN ?_ _ | refine blk_drew ?_ | refine blk_alloc ?_ _)); exact BK228.out⟩, ⟨by repeat (first | (with_reducible first | exact HB.out | apply below_alloc | apply pw_below_drewN | apply below_drew1 | refine below_set ?_ GE227.out | refine below_set ?_ GE228.out) | exact HB.out)⟩⟩
  case round =>
   clear H'
   try clear c1
   try clear p2
   try clear c3
   try clear c3b0
   try clear c3b1
   try clear c3b2
   try clear c7
   try clear c13
   try clear c15
   try clear c16
   try clear hcz10_0
   try clear hcz10_1
   try clear hcz10_2
   try clear hcz10_3
   try clear hcz10_4
   try clear hcz16_0
   try clear hcz16_1
   try clear hcz16_2
   try clear hcz16_3
   try clear hcz16_4
   try clear hcz8_0
   try clear hcz8_1
   try clear hcz8_2
   try clear hcz8_3
   try clear hcz8_4
   try clear hfz10_0
   try clear hfz10_1
   try clear hfz10_2
   try clear hfz10_3
   try clear hfz10_4
   try clear hfz16_0
   try clear hfz16_1
   try clear hfz16_2
   try clear hfz16_3
   try clear hfz16_4
   try clear hfz8_0
   try clear hfz8_1
   try clear hfz8_2
   try clear hfz8_3
   try clear hfz8_4
   obtain ⟨x16_1, x229000_1, x229001_1, x229002_1, rfl, HA, HK1, BK227, BK228, HB⟩ := hrel
   cases gk with
   | zero => exact absurd HA.out (by simp [bellmanref09_find.l0])
   | succ k1 =>
    have H := HA.out
    clear HA
    simp only [bellmanref09_find.l0] at H
    by_cases c17 : x16_1 < (l0_4.length : Int)
    ·rw [if_pos c17] at H
     have c17b0 : decide (x16_1 < (l0_4.length : Int)) = true := decide_eq_true c17
     clear c17
     by_cases c18 : 0 ≤ x16_1
     ·rw [if_pos c18] at H
      have c18b0 : decide (0 ≤ x16_1) = true := decide_eq_true c18
      clear c18
      by_cases c19 : x16_1 < (l0_4.length : Int)
      ·rw [if_pos c19] at H
       have c19b0 : decide (x16_1 < (l0_4.length : Int)) = true := decide_eq_true c19
       clear c19
       by_cases c20 : 0 < (l1.length : Int)
       ·rw [if_pos c20] at H
        have c20b0 : decide (0 < (l1.length : Int)) = true := decide_eq_true c20
        have c20b1 : decide (0 < l1.length) = true := decide_eq_true (by omega)
        clear c20
        by_cases c21 : (rdOf ByteArray.empty l0_4 x16_1).toList = (rdOf ByteArray.empty l1 0).toList
        ·rw [if_pos c21] at H
         have c21b0 : ((rdOf ByteArray.empty l0_4 x16_1).toList == (rdOf ByteArray.empty l1 0).toList) = true := beq_iff_eq.mpr c21
         have c21b1 : ((rdOf ByteArray.empty l0_4 x16_1).toList != (rdOf ByteArray.empty l1 0).toList) = false := bne_eq_false_iff_eq.mpr c21
         clear c21
         by_cases c22 : x16_1 < (l0_3.length : Int)
         ·rw [if_pos c22] at H
          have c22b0 : decide (x16_1 < (l0_3.length : Int)) = true := decide_eq_true c22
          clear c22
          by_cases c23 : 1 ≤ (l1.length : Int)
          ·rw [if_pos c23] at H
           have c23b0 := eq_true c23
           have c23b1 : decide (1 ≤ (l1.length : Int)) = true := decide_eq_true c23
           clear c23
           replace H := Option.bind_eq_some_iff.mp H
           obtain ⟨⟨t242, t243, t244, t245, t248, t251⟩, A240, H⟩ := H
           replace H : (some (t242, t243, t244, t245, t248, t251)) = some (r1, r2, r3, r4, r5, r6) := H
           have A24 := Aside0.mk A240
           clear A240
           simp only [Option.some.injEq, Prod.mk.injEq] at H
           obtain ⟨rfl, rfl, rfl, rfl, rfl, rfl⟩ := H
           have p238 : 0 ≤ (x16_1 : Int) := of_decide_eq_true (by first | (with_reducible assumption) | assumption)
           have q238 : x16_1 < (l0_4.length : Int) := of_decide_eq_true (by first | (with_reducible assumption) | assumption)
           obtain ⟨ad238, e238, hx238_0⟩ := Kd.at_string HR0_4.out x16_1 p238 q238
           cases e238
           replace hx238_0 := (HB.out.cell (World.block_lt_of_cell? w _ hx238_0)).trans hx238_0
           replace p238 := eq_true p238
           replace q238 := eq_true q238
           have p239 : 0 ≤ (0 : Int) := (by omega)
           have q239 : 0 < (l1.length : Int) := of_decide_eq_true (by first | (with_reducible assumption) | assumption)
           obtain ⟨ad239, e239, hx239_0⟩ := Kd.at_string HR1.out 0 p239 q239
           cases e239
           have qi239 : (0 < l1.length) = True := eq_true (by omega)
           (try rw [show ((0 : Int)).toNat = 0 from rfl] at hx239_0)
           (try rw [Addr.add_zero'] at hx239_0)
           replace hx239_0 := (HB.out.cell (World.block_lt_of_cell? w _ hx239_0)).trans hx239_0
           replace p239 := eq_true p239
           replace q239 := eq_true q239
           try go_wp2
           have n0_ := Aside0.mk (blk_drew BK227.out)
           have n1_ := Aside0.mk (blk_drew BK228.out)
           have n2_ := Aside0.mk (below_drew1 HB.out)
           clear BK227
           clear BK228
           clear HB
           have BK227 := n0_
           have BK228 := n1_
           have HB := n2_
           clear n0_ n1_ n2_
           have p240 : 0 ≤ (x16_1 : Int) := of_decide_eq_true (by first | (with_reducible assumption) | assumption)
           have q240 : x16_1 < (l0_3.length : Int) := of_decide_eq_true (by first | (with_reducible assumption) | assumption)
           obtain ⟨ad240, A240_3, c240_3, A240_4, c240_4, e240, hx240_0, hx240_1, hx240_2, hx240_3, hx240_4, hl240_3, hi240_3, hl240_4, hi240_4⟩ := at_T43 HR0_3.out x16_1 p240 q240
           have hw240_4 := hx240_4
           have hw240_3 := hx240_3
           have hw240_2 := hx240_2
           have hw240_1 := hx240_1
           have hw240_0 := hx240_0
           cases e240
           replace hx240_0 := (HB.out.cell (World.block_lt_of_cell? w _ hx240_0)).trans hx240_0
           replace hx240_1 := (HB.out.cell (World.block_lt_of_cell? w _ hx240_1)).trans hx240_1
           replace hx240_2 := (HB.out.cell (World.block_lt_of_cell? w _ hx240_2)).trans hx240_2
           replace hx240_3 := (HB.out.cell (World.block_lt_of_cell? w _ hx240_3)).trans hx240_3
           replace hx240_4 := (HB.out.cell (World.block_lt_of_cell? w _ hx240_4)).trans hx240_4
           have HR240_3 := Aside0.mk hi240_3
           have HC240_3 := Aside0.mk hl240_3
           clear hi240_3 hl240_3
           have HR240_4 := Aside0.mk hi240_4
           have HC240_4 := Aside0.mk hl240_4
           clear hi240_4 hl240_4
           replace p240 := eq_true p240
           replace q240 := eq_true q240
           obtain ⟨i026, hi026, _, hsz26, _⟩ := info_parts info9
           obtain ⟨A26, hcut26, hA26, hC26⟩ := print_drop_of (P := Tryz.prog) Value.string (⟨#[]⟩ : ByteArray) 23 9 .i64 Tryz.underlying23 hi026 hsz26 (some ad239) c1 l1 1 (by omega) (of_decide_eq_true (by first | (with_reducible assumption) | assumption)) HC1.out
           have HR241 := Aside0.mk (Kd.C_of_reads (h1 := fun _ => rfl) (hA26 _ (Kd.reads_of_C HR1.out)))
           have HC241 := Aside0.mk hC26
           clear hA26 hC26 hi026 hsz26
           refine start_ (n := 12) (S := fun w' => w'.cell? ⟨gb227, 0, none⟩ = some (.int .u8 a0_0) ∧ w'.cell? ⟨gb227, 1, none⟩ = some (.string a0_1) ∧ w'.cell? ⟨gb227, 2, none⟩ = some (.int .i64 a0_2) ∧ w'.cell? ⟨gb227, 3, none⟩ = some (.slice (some ad240) l0_3.length c0_3) ∧ w'.cell? ⟨gb227, 4, none⟩ = some (.slice (some ad238) l0_4.length c0_4) ∧ w'.cell? (ad240.add ((x16_1).toNat * 5)) = some (.int .u8 ((rd_T43 l0_3 x16_1).f0)) ∧ w'.cell? ⟨(ad240.add ((x16_1).toNat * 5)).block, (ad240.add ((x16_1).toNat * 5)).off + 1, none⟩ = some (.string ((rd_T43 l0_3 x16_1).f1)) ∧ w'.cell? ⟨(ad240.add ((x16_1).toNat * 5)).block, (ad240.add ((x16_1).toNat * 5)).off + 2, none⟩ = some (.int .i64 ((rd_T43 l0_3 x16_1).f2)) ∧ w'.cell? ⟨(ad240.add ((x16_1).toNat * 5)).block, (ad240.add ((x16_1).toNat * 5)).off + 3, none⟩ = some (.slice A240_3 ((rd_T43 l0_3 x16_1).f3).length c240_3) ∧ w'.cell? ⟨(ad240.add ((x16_1).toNat * 5)).block, (ad240.add ((x16_1).toNat * 5)).off + 4, none⟩ = some (.slice A240_4 ((rd_T43 l0_3 x16_1).f4).length c240_4)) (ds := []) #[false, false, false, false, false, false, false, false, false, false, false, false] (by kernel_rfl) rfl rfl ⟨(blk_cell BK227.out 0).trans rfl, (blk_cell BK227.out 1).trans rfl, (blk_cell BK227.out 2).trans rfl, (blk_cell BK227.out 3).trans rfl, (blk_cell BK227.out 4).trans rfl, ((HB.out.cell (World.block_lt_of_cell? w _ hw240_0)).trans hw240_0), ((HB.out.cell (World.block_lt_of_cell? w _ hw240_1)).trans hw240_1), ((HB.out.cell (World.block_lt_of_cell? w _ hw240_2)).trans hw240_2), ((HB.out.cell (World.block_lt_of_cell? w _ hw240_3)).trans hw240_3), ((HB.out.cell (World.block_lt_of_cell? w _ hw240_4)).trans hw240_4)⟩ (fun hHeld => ?_); refine with_tabW bellmanref09_find.tab7 bellmanref09_find.bits7 (fun HT_ HW_ => ?_)
           generalize wr.drew = w25 at BK227 BK228 HB HR240_3 HR240_4 HR241 hx240_0 hx240_1 hx240_2 hx240_3 hx240_4 hHeld ⊢
           refine pure_ (i := 0) (N := some 26) (v := ?_) (a' := ?_) #[true, false, false, false, false, false, false, false, false, false, false, false] rfl rfl (any_of HT_.out (by kernel_rfl)) (fun _ _ _ h => h) (Or.inl ⟨by rfl, ?_⟩) ?_ ?_
           rotate_left
           ·intro w'
            go_simp
            with_reducible rfl
           rotate_left
           ·simp only [Act.put, List.setIfInBounds_toArray, List.set_cons_zero, List.set_cons_succ, i64_w, i32_w]
            rfl
           refine pure_ (i := 2) (N := some 28) (v := ?_) (a' := ?_) #[true, false, true, false, false, false, false, false, false, false, false, false] rfl rfl (any_of HT_.out (by kernel_rfl)) (fun _ _ _ h => h) (Or.inl ⟨by rfl, ?_⟩) ?_ ?_
           rotate_left
           ·intro w'
            go_simp
            with_reducible rfl
           rotate_left
           ·simp only [Act.put, List.setIfInBounds_toArray, List.set_cons_zero, List.set_cons_succ, i64_w, i32_w]
            rfl
           refine pure_ (i := 5) (N := some 31) (v := ?_) (a' := ?_) #[true, false, true, false, false, true, false, false, false, false, false, false] rfl rfl (any_of HT_.out (by kernel_rfl)) (fun _ _ _ h => h) (Or.inl ⟨by rfl, ?_⟩) ?_ ?_
           rotate_left
           ·intro w'
            go_simp
            with_reducible rfl
           rotate_left
           ·simp only [Act.put, List.setIfInBounds_toArray, List.set_cons_zero, List.set_cons_succ, i64_w, i32_w]
            rfl
           refine pure_ (i := 6) (N := some 32) (v := ?_) (a' := ?_) #[true, false, true, false, false, true, true, false, false, false, false, false] rfl rfl (any_of HT_.out (by kernel_rfl)) (fun _ _ _ h => h) (Or.inl ⟨by rfl, ?_⟩) ?_ ?_
           rotate_left
           ·intro w'
            go_simp
            with_reducible rfl
           rotate_left
           ·simp only [Act.put, List.setIfInBounds_toArray, List.set_cons_zero, List.set_cons_succ, i64_w, i32_w]
            rfl
           refine take_ (i := 1) (N := some 27) (v := ?_) (a' := ?_) #[true, true, true, false, false, true, true, false, false, false, false, false] rfl rfl (take_ofW HT_.out HW_.out (by kernel_rfl)) (fun _ _ _ h => h) (Or.inl ⟨by rfl, ?_⟩) hHeld ?_ ?_
           rotate_left
           ·rintro w' ⟨s0, s1, s2, s3, s4, s5, s6, s7, s8, s9⟩
            go_simp
            with_reducible rfl
           rotate_left
           ·simp only [Act.put, List.setIfInBounds_toArray, List.set_cons_zero, List.set_cons_succ, i64_w, i32_w]
            rfl
           refine pure_ (i := 3) (N := some 29) (v := ?_) (a' := ?_) #[true, true, true, true, false, true, true, false, false, false, false, false] rfl rfl (any_of HT_.out (by kernel_rfl)) (fun _ _ _ h => h) (Or.inl ⟨by rfl, ?_⟩) ?_ ?_
           rotate_left
           ·intro w'
            go_simp
            with_reducible rfl
           rotate_left
           ·simp only [Act.put, List.setIfInBounds_toArray, List.set_cons_zero, List.set_cons_succ, i64_w, i32_w]
            rfl
           refine take_ (i := 4) (N := some 30) (v := ?_) (a' := ?_) #[true, true, true, true, true, true, true, false, false, false, false, false] rfl rfl (take_ofW HT_.out HW_.out (by kernel_rfl)) (fun _ _ _ h => h) (Or.inl ⟨by rfl, ?_⟩) hHeld ?_ ?_
           rotate_left
           ·rintro w' ⟨s0, s1, s2, s3, s4, s5, s6, s7, s8, s9⟩
            go_simp
            with_reducible rfl
           rotate_left
           ·simp only [Act.put, List.setIfInBounds_toArray, List.set_cons_zero, List.set_cons_succ, i64_w, i32_w]
            rfl
           refine one_ (i := 7) (N := some 33) #[true, true, true, true, true, true, true, true, false, false, false, false] rfl rfl (one_of HT_.out (by kernel_rfl)) (by decide) (fun K hK => ?_)
           refine goes_ Tryz.func134 (by kernel_rfl) rfl #[.agg #[.int .u8 ((rd_T43 l0_3 x16_1).f0), .string ((rd_T43 l0_3 x16_1).f1), .int .i64 ((rd_T43 l0_3 x16_1).f2), .slice A240_3 ((rd_T43 l0_3 x16_1).f3).length c240_3, .slice A240_4 ((rd_T43 l0_3 x16_1).f4).length c240_4], .slice A26 (l1.drop 1).length (c1 - 1)] (by rfl) rfl rfl (by (try simp only [List.map_toArray, List.map_cons, List.map_nil]); first | done | (rw [show (l1.drop 1).length = (l1.length - 1) from List.length_drop] <;> rfl) | rfl | (simp only [List.length_drop, List.length_take]; rfl)) ?_
           with_reducible refine (ih k1 (by have := HK1.out; omega) ((rd_T43 l0_3 x16_1).f0) ((rd_T43 l0_3 x16_1).f1) ((rd_T43 l0_3 x16_1).f2) _ _ ((rd_T43 l0_3 x16_1).f3) _ _ ((rd_T43 l0_3 x16_1).f4) _ _ (l1.drop 1) t242 t243 t244 t245 t248 t251 _ ?side1 ?side2 ?side3 ?side4 ?side5 ?side6 A24.out).mono ?_
           (case side1 => repeat (first | exact (Kd.C_below HR240_3.out HB.out) | (with_reducible refine Kd.C_alloc ?_ _) | (with_reducible refine Kd.C_drewN ?_ _) | (with_reducible refine Kd.C_drew ?_)))
           (case side2 => exact HC240_3.out)
           (case side3 => repeat (first | exact (Kd.C_below HR240_4.out HB.out) | (with_reducible refine Kd.C_alloc ?_ _) | (with_reducible refine Kd.C_drewN ?_ _) | (with_reducible refine Kd.C_drew ?_)))
           (case side4 => exact HC240_4.out)
           (case side5 => repeat (first | exact (Kd.C_below HR241.out HB.out) | (with_reducible refine Kd.C_alloc ?_ _) | (with_reducible refine Kd.C_drewN ?_ _) | (with_reducible refine Kd.C_drew ?_)))
           (case side6 => exact HC241.out)
           rintro e w27 ⟨v246, v249, rfl, ho0, ho1, hb⟩
           refine ⟨_, rfl, ?_⟩
           have n0_ := Aside0.mk (Kd.R_lower (Kd.R_newB (Kd.R_newB ho0 (g := gb227) (o := .cells #[.int .u8 a0_0, .string a0_1, .int .i64 a0_2, .slice (some ad240) l0_3.length c0_3, .slice (some ad238) l0_4.length c0_4] 43 (0, 0)) (blkS BK227.out)) (g := gb228) (o := .cells #[.int .u8 x229000_1, .string x229001_1, .int .i64 x229002_1, .slice none 0 0, .slice none 0 0] 43 (0, 0)) (blkS BK228.out)) (below_size (by repeat (first | (with_reducible first | exact HB.out | apply below_alloc | apply pw_below_drewN | apply below_drew1 | refine below_set ?_ GE227.out | refine below_set ?_ GE228.out) | exact HB.out))))
           have n1_ := Aside0.mk (Kd.R_lower ho1 (below_size (by repeat (first | (with_reducible first | exact HB.out | apply below_alloc | apply pw_below_drewN | apply below_drew1 | refine below_set ?_ GE227.out | refine below_set ?_ GE228.out) | exact HB.out))))
           have n2_ := Aside0.mk (blk_below (g := gb227) (o := .cells #[.int .u8 a0_0, .string a0_1, .int .i64 a0_2, .slice (some ad240) l0_3.length c0_3, .slice (some ad238) l0_4.length c0_4] 43 (0, 0)) (blkS BK227.out) hb)
           have n3_ := Aside0.mk (blk_below (g := gb228) (o := .cells #[.int .u8 x229000_1, .string x229001_1, .int .i64 x229002_1, .slice none 0 0, .slice none 0 0] 43 (0, 0)) (blkS BK228.out) hb)
           have n4_ := Aside0.mk (below_step (by repeat (first | (with_reducible first | exact HB.out | apply below_alloc | apply pw_below_drewN | apply below_drew1 | refine below_set ?_ GE227.out | refine below_set ?_ GE228.out) | exact HB.out)) hb)
           clear BK227
           clear BK228
           clear HB
           have HO247 := n0_
           have HO250 := n1_
           have BK227 := n2_
           have BK228 := n3_
           have HB := n4_
           clear n0_ n1_ n2_ n3_ n4_
           (try clear hb)
           (try clear hb2)
           (try clear hk)
           (try clear hi)
           (try clear ho0)
           (try clear ho1)
           obtain ⟨Ao31, co31, eo31⟩ := Kd.R_slice HO247.out
           (first | subst eo31 | (injection eo31 with f1_ f2_ f3_; have f4_ := f1_.symm; have f5_ := f3_.symm; clear f1_ f2_ f3_; subst f4_; subst f5_))
           obtain ⟨Ao33, co33, eo33⟩ := Kd.R_slice HO250.out
           (first | subst eo33 | (injection eo33 with f1_ f2_ f3_; have f4_ := f1_.symm; have f5_ := f3_.symm; clear f1_ f2_ f3_; subst f4_; subst f5_))
           refine hK.out _ _ ⟨(blk_cell BK227.out 0).trans rfl, (blk_cell BK227.out 1).trans rfl, (blk_cell BK227.out 2).trans rfl, (blk_cell BK227.out 3).trans rfl, (blk_cell BK227.out 4).trans rfl, ((HB.out.cell (World.block_lt_of_cell? w _ hw240_0)).trans hw240_0), ((HB.out.cell (World.block_lt_of_cell? w _ hw240_1)).trans hw240_1), ((HB.out.cell (World.block_lt_of_cell? w _ hw240_2)).trans hw240_2), ((HB.out.cell (World.block_lt_of_cell? w _ hw240_3)).trans hw240_3), ((HB.out.cell (World.block_lt_of_cell? w _ hw240_4)).trans hw240_4)⟩ (fun hHeld => ?_)
           clear hK K
           refine norm_ (a' := ?_) ?_ ?_
           rotate_left
           ·show Act.put _ (some 33) _ = _
            simp only [Act.put, List.setIfInBounds_toArray, List.set_cons_zero, List.set_cons_succ, i64_w, i32_w]
            rfl
           refine pure_ (i := 8) (N := some 34) (v := ?_) (a' := ?_) #[true, true, true, true, true, true, true, true, true, false, false, false] rfl rfl (any_of HT_.out (by kernel_rfl)) (fun _ _ _ h => h) (Or.inl ⟨by rfl, ?_⟩) ?_ ?_
           rotate_left
           ·intro w'
            go_simp
            with_reducible rfl
           rotate_left
           ·simp only [Act.put, List.setIfInBounds_toArray, List.set_cons_zero, List.set_cons_succ, i64_w, i32_w]
            rfl
           refine pure_ (i := 9) (N := some 35) (v := ?_) (a' := ?_) #[true, true, true, true, true, true, true, true, true, true, false, false] rfl rfl (any_of HT_.out (by kernel_rfl)) (fun _ _ _ h => h) (Or.inl ⟨by rfl, ?_⟩) ?_ ?_
           rotate_left
           ·intro w'
            go_simp
            with_reducible rfl
           rotate_left
           ·simp only [Act.put, List.setIfInBounds_toArray, List.set_cons_zero, List.set_cons_succ, i64_w, i32_w]
            rfl
           refine one_ (i := 10) (N := none) #[true, true, true, true, true, true, true, true, true, true, true, false] rfl rfl (one_of HT_.out (by kernel_rfl)) (by decide) (fun K hK => ?_)
           have hs28 : w27.cell? ⟨gb228, 0, none⟩ = some (.int .u8 x229000_1) := (blk_cell BK228.out 0).trans rfl
           have hfs28 := blk_frozen BK228.out 0
           have hns28_0 := NB227_228.out
           have hms28_0 := NB228_227.out
           have hs29 : w27.cell? ⟨gb228, 1, none⟩ = some (.string x229001_1) := (blk_cell BK228.out 1).trans rfl
           have hfs29 := blk_frozen BK228.out 1
           have hns29_0 := NB227_228.out
           have hms29_0 := NB228_227.out
           have hs30 : w27.cell? ⟨gb228, 2, none⟩ = some (.int .i64 x229002_1) := (blk_cell BK228.out 2).trans rfl
           have hfs30 := blk_frozen BK228.out 2
           have hns30_0 := NB227_228.out
           have hms30_0 := NB228_227.out
           have hs32 : w27.cell? ⟨gb228, 3, none⟩ = some (.slice none 0 0) := (blk_cell BK228.out 3).trans rfl
           have hfs32 := blk_frozen BK228.out 3
           have hns32_0 := NB227_228.out
           have hms32_0 := NB228_227.out
           have hs34 : w27.cell? ⟨gb228, 4, none⟩ = some (.slice none 0 0) := (blk_cell BK228.out 4).trans rfl
           have hfs34 := blk_frozen BK228.out 4
           have hns34_0 := NB227_228.out
           have hms34_0 := NB228_227.out
           refine skip_ (w1 := ?_) (by rfl) rfl ?_ ?_
           rotate_left
           ·go_simp
            rfl
           refine hK.out _ _ ⟨((cell_far (p := ⟨gb228, _, none⟩) NB227_228.out _).trans (((cell_far (p := ⟨gb228, _, none⟩) NB227_228.out _).trans (((cell_far (p := ⟨gb228, _, none⟩) NB227_228.out _).trans (((cell_far (p := ⟨gb228, _, none⟩) NB227_228.out _).trans (((cell_far (p := ⟨gb228, _, none⟩) NB227_228.out _).trans (hHeld.1)))))))))), ((cell_far (p := ⟨gb228, _, none⟩) NB227_228.out _).trans (((cell_far (p := ⟨gb228, _, none⟩) NB227_228.out _).trans (((cell_far (p := ⟨gb228, _, none⟩) NB227_228.out _).trans (((cell_far (p := ⟨gb228, _, none⟩) NB227_228.out _).trans (((cell_far (p := ⟨gb228, _, none⟩) NB227_228.out _).trans (hHeld.2.1)))))))))), ((cell_far (p := ⟨gb228, _, none⟩) NB227_228.out _).trans (((cell_far (p := ⟨gb228, _, none⟩) NB227_228.out _).trans (((cell_far (p := ⟨gb228, _, none⟩) NB227_228.out _).trans (((cell_far (p := ⟨gb228, _, none⟩) NB227_228.out _).trans (((cell_far (p := ⟨gb228, _, none⟩) NB227_228.out _).trans (hHeld.2.2.1)))))))))), ((cell_far (p := ⟨gb228, _, none⟩) NB227_228.out _).trans (((cell_far (p := ⟨gb228, _, none⟩) NB227_228.out _).trans (((cell_far (p := ⟨gb228, _, none⟩) NB227_228.out _).trans (((cell_far (p := ⟨gb228, _, none⟩) NB227_228.out _).trans (((cell_far (p := ⟨gb228, _, none⟩) NB227_228.out _).trans (hHeld.2.2.2.1)))))))))), ((cell_far (p := ⟨gb228, _, none⟩) NB227_228.out _).trans (((cell_far (p := ⟨gb228, _, none⟩) NB227_228.out _).trans (((cell_far (p := ⟨gb228, _, none⟩) NB227_228.out _).trans (((cell_far (p := ⟨gb228, _, none⟩) NB227_228.out _).trans (((cell_far (p := ⟨gb228, _, none⟩) NB227_228.out _).trans (hHeld.2.2.2.2.1)))))))))), ((cell_far (p := ⟨gb228, _, none⟩) (by first | exact Nat.ne_of_lt (Nat.lt_of_lt_of_le (by have := World.block_lt_of_cell? _ _ hw240_0; first | rwa [add_block] at this | exact this) GW228.out) | (rw [add_block]; exact Nat.ne_of_lt (Nat.lt_of_lt_of_le (by have := World.block_lt_of_cell? _ _ hw240_0; first | rwa [add_block] at this | exact this) GW228.out)) | (show (Addr.add _ _).block ≠ _; rw [add_block]; exact Nat.ne_of_lt (Nat.lt_of_lt_of_le (by have := World.block_lt_of_cell? _ _ hw240_0; first | rwa [add_block] at this | exact this) GW228.out)) | (dsimp only; exact Nat.ne_of_lt (Nat.lt_of_lt_of_le (by have := World.block_lt_of_cell? _ _ hw240_0; first | rwa [add_block] at this | exact this) GW228.out))) _).trans (((cell_far (p := ⟨gb228, _, none⟩) (by first | exact Nat.ne_of_lt (Nat.lt_of_lt_of_le (by have := World.block_lt_of_cell? _ _ hw240_0; first | rwa [add_block] at this | exact this) GW228.out) | (rw [add_block]; exact Nat.ne_of_lt (Nat.lt_of_lt_of_le (by have := World.block_lt_of_cell? _ _ hw240_0; first | rwa [add_block] at this | exact this) GW228.out)) | (show (Addr.add _ _).block ≠ _; rw [add_block]; exact Nat.ne_of_lt (Nat.lt_of_lt_of_le (by have := World.block_lt_of_cell? _ _ hw240_0; first | rwa [add_block] at this | exact this) GW228.out)) | (dsimp only; exact Nat.ne_of_lt (Nat.lt_of_lt_of_le (by have := World.block_lt_of_cell? _ _ hw240_0; first | rwa [add_block] at this | exact this) GW228.out))) _).trans (((cell_far (p := ⟨gb228, _, none⟩) (by first | exact Nat.ne_of_lt (Nat.lt_of_lt_of_le (by have := World.block_lt_of_cell? _ _ hw240_0; first | rwa [add_block] at this | exact this) GW228.out) | (rw [add_block]; exact Nat.ne_of_lt (Nat.lt_of_lt_of_le (by have := World.block_lt_of_cell? _ _ hw240_0; first | rwa [add_block] at this | exact this) GW228.out)) | (show (Addr.add _ _).block ≠ _; rw [add_block]; exact Nat.ne_of_lt (Nat.lt_of_lt_of_le (by have := World.block_lt_of_cell? _ _ hw240_0; first | rwa [add_block] at this | exact this) GW228.out)) | (dsimp only; exact Nat.ne_of_lt (Nat.lt_of_lt_of_le (by have := World.block_lt_of_cell? _ _ hw240_0; first | rwa [add_block] at this | exact this) GW228.out))) _).trans (((cell_far (p := ⟨gb228, _, none⟩) (by first | exact Nat.ne_of_lt (Nat.lt_of_lt_of_le (by have := World.block_lt_of_cell? _ _ hw240_0; first | rwa [add_block] at this | exact this) GW228.out) | (rw [add_block]; exact Nat.ne_of_lt (Nat.lt_of_lt_of_le (by have := World.block_lt_of_cell? _ _ hw240_0; first | rwa [add_block] at this | exact this) GW228.out)) | (show (Addr.add _ _).block ≠ _; rw [add_block]; exact Nat.ne_of_lt (Nat.lt_of_lt_of_le (by have := World.block_lt_of_cell? _ _ hw240_0; first | rwa [add_block] at this | exact this) GW228.out)) | (dsimp only; exact Nat.ne_of_lt (Nat.lt_of_lt_of_le (by have := World.block_lt_of_cell? _ _ hw240_0; first | rwa [add_block] at this | exact this) GW228.out))) _).trans (((cell_far (p := ⟨gb228, _, none⟩) (by first | exact Nat.ne_of_lt (Nat.lt_of_lt_of_le (by have := World.block_lt_of_cell? _ _ hw240_0; first | rwa [add_block] at this | exact this) GW228.out) | (rw [add_block]; exact Nat.ne_of_lt (Nat.lt_of_lt_of_le (by have := World.block_lt_of_cell? _ _ hw240_0; first | rwa [add_block] at this | exact this) GW228.out)) | (show (Addr.add _ _).block ≠ _; rw [add_block]; exact Nat.ne_of_lt (Nat.lt_of_lt_of_le (by have := World.block_lt_of_cell? _ _ hw240_0; first | rwa [add_block] at this | exact this) GW228.out)) | (dsimp only; exact Nat.ne_of_lt (Nat.lt_of_lt_of_le (by have := World.block_lt_of_cell? _ _ hw240_0; first | rwa [add_block] at this | exact this) GW228.out))) _).trans (hHeld.2.2.2.2.2.1)))))))))), ((cell_far (p := ⟨gb228, _, none⟩) (by first | exact Nat.ne_of_lt (Nat.lt_of_lt_of_le (by have := World.block_lt_of_cell? _ _ hw240_1; first | rwa [add_block] at this | exact this) GW228.out) | (rw [add_block]; exact Nat.ne_of_lt (Nat.lt_of_lt_of_le (by have := World.block_lt_of_cell? _ _ hw240_1; first | rwa [add_block] at this | exact this) GW228.out)) | (show (Addr.add _ _).block ≠ _; rw [add_block]; exact Nat.ne_of_lt (Nat.lt_of_lt_of_le (by have := World.block_lt_of_cell? _ _ hw240_1; first | rwa [add_block] at this | exact this) GW228.out)) | (dsimp only; exact Nat.ne_of_lt (Nat.lt_of_lt_of_le (by have := World.block_lt_of_cell? _ _ hw240_1; first | rwa [add_block] at this | exact this) GW228.out))) _).trans (((cell_far (p := ⟨gb228, _, none⟩) (by first | exact Nat.ne_of_lt (Nat.lt_of_lt_of_le (by have := World.block_lt_of_cell? _ _ hw240_1; first | rwa [add_block] at this | exact this) GW228.out) | (rw [add_block]; exact Nat.ne_of_lt (Nat.lt_of_lt_of_le (by have := World.block_lt_of_cell? _ _ hw240_1; first | rwa [add_block] at this | exact this) GW228.out)) | (show (Addr.add _ _).block ≠ _; rw [add_block]; exact Nat.ne_of_lt (Nat.lt_of_lt_of_le (by have := World.block_lt_of_cell? _ _ hw240_1; first | rwa [add_block] at this | exact this) GW228.out)) | (dsimp only; exact Nat.ne_of_lt (Nat.lt_of_lt_of_le (by have := World.block_lt_of_cell? _ _ hw240_1; first | rwa [add_block] at this | exact this) GW228.out))) _).trans (((cell_far (p := ⟨gb228, _, none⟩) (by first | exact Nat.ne_of_lt (Nat.lt_of_lt_of_le (by have := World.block_lt_of_cell? _ _ hw240_1; first | rwa [add_block] at this | exact this) GW228.out) | (rw [add_block]; exact Nat.ne_of_lt (Nat.lt_of_lt_of_le (by have := World.block_lt_of_cell? _ _ hw240_1; first | rwa [add_block] at this | exact this) GW228.out)) | (show (Addr.add _ _).block ≠ _; rw [add_block]; exact Nat.ne_of_lt (Nat.lt_of_lt_of_le (by have := World.block_lt_of_cell? _ _ hw240_1; first | rwa [add_block] at this | exact this) GW228.out)) | (dsimp only; exact Nat.ne_of_lt (Nat.lt_of_lt_of_le (by have := World.block_lt_of_cell? _ _ hw240_1; first | rwa [add_block] at this | exact this) GW228.out))) _).trans (((cell_far (p := ⟨gb228, _, none⟩) (by first | exact Nat.ne_of_lt (Nat.lt_of_lt_of_le (by have := World.block_lt_of_cell? _ _ hw240_1; first | rwa [add_block] at this | exact this) GW228.out) | (rw [add_block]; exact Nat.ne_of_lt (Nat.lt_of_lt_of_le (by have := World.block_lt_of_cell? _ _ hw240_1; first | rwa [add_block] at this | exact this) GW228.out)) | (show (Addr.add _ _).block ≠ _; rw [add_block]; exact Nat.ne_of_lt (Nat.lt_of_lt_of_le (by have := World.block_lt_of_cell? _ _ hw240_1; first | rwa [add_block] at this | exact this) GW228.out)) | (dsimp only; exact Nat.ne_of_lt (Nat.lt_of_lt_of_le (by have := World.block_lt_of_cell? _ _ hw240_1; first | rwa [add_block] at this | exact this) GW228.out))) _).trans (((cell_far (p := ⟨gb228, _, none⟩) (by first | exact Nat.ne_of_lt (Nat.lt_of_lt_of_le (by have := World.block_lt_of_cell? _ _ hw240_1; first | rwa [add_block] at this | exact this) GW228.out) | (rw [add_block]; exact Nat.ne_of_lt (Nat.lt_of_lt_of_le (by have := World.block_lt_of_cell? _ _ hw240_1; first | rwa [add_block] at this | exact this) GW228.out)) | (show (Addr.add _ _).block ≠ _; rw [add_block]; exact Nat.ne_of_lt (Nat.lt_of_lt_of_le (by have := World.block_lt_of_cell? _ _ hw240_1; first | rwa [add_block] at this | exact this) GW228.out)) | (dsimp only; exact Nat.ne_of_lt (Nat.lt_of_lt_of_le (by have := World.block_lt_of_cell? _ _ hw240_1; first | rwa [add_block] at this | exact this) GW228.out))) _).trans (hHeld.2.2.2.2.2.2.1)))))))))), ((cell_far (p := ⟨gb228, _, none⟩) (by first | exact Nat.ne_of_lt (Nat.lt_of_lt_of_le (by have := World.block_lt_of_cell? _ _ hw240_2; first | rwa [add_block] at this | exact this) GW228.out) | (rw [add_block]; exact Nat.ne_of_lt (Nat.lt_of_lt_of_le (by have := World.block_lt_of_cell? _ _ hw240_2; first | rwa [add_block] at this | exact this) GW228.out)) | (show (Addr.add _ _).block ≠ _; rw [add_block]; exact Nat.ne_of_lt (Nat.lt_of_lt_of_le (by have := World.block_lt_of_cell? _ _ hw240_2; first | rwa [add_block] at this | exact this) GW228.out)) | (dsimp only; exact Nat.ne_of_lt (Nat.lt_of_lt_of_le (by have := World.block_lt_of_cell? _ _ hw240_2; first | rwa [add_block] at this | exact this) GW228.out))) _).trans (((cell_far (p := ⟨gb228, _, none⟩) (by first | exact Nat.ne_of_lt (Nat.lt_of_lt_of_le (by have := World.block_lt_of_cell? _ _ hw240_2; first | rwa [add_block] at this | exact this) GW228.out) | (rw [add_block]; exact Nat.ne_of_lt (Nat.lt_of_lt_of_le (by have := World.block_lt_of_cell? _ _ hw240_2; first | rwa [add_block] at this | exact this) GW228.out)) | (show (Addr.add _ _).block ≠ _; rw [add_block]; exact Nat.ne_of_lt (Nat.lt_of_lt_of_le (by have := World.block_lt_of_cell? _ _ hw240_2; first | rwa [add_block] at this | exact this) GW228.out)) | (dsimp only; exact Nat.ne_of_lt (Nat.lt_of_lt_of_le (by have := World.block_lt_of_cell? _ _ hw240_2; first | rwa [add_block] at this | exact this) GW228.out))) _).trans (((cell_far (p := ⟨gb228, _, none⟩) (by first | exact Nat.ne_of_lt (Nat.lt_of_lt_of_le (by have := World.block_lt_of_cell? _ _ hw240_2; first | rwa [add_block] at this | exact this) GW228.out) | (rw [add_block]; exact Nat.ne_of_lt (Nat.lt_of_lt_of_le (by have := World.block_lt_of_cell? _ _ hw240_2; first | rwa [add_block] at this | exact this) GW228.out)) | (show (Addr.add _ _).block ≠ _; rw [add_block]; exact Nat.ne_of_lt (Nat.lt_of_lt_of_le (by have := World.block_lt_of_cell? _ _ hw240_2; first | rwa [add_block] at this | exact this) GW228.out)) | (dsimp only; exact Nat.ne_of_lt (Nat.lt_of_lt_of_le (by have := World.block_lt_of_cell? _ _ hw240_2; first | rwa [add_block] at this | exact this) GW228.out))) _).trans (((cell_far (p := ⟨gb228, _, none⟩) (by first | exact Nat.ne_of_lt (Nat.lt_of_lt_of_le (by have := World.block_lt_of_cell? _ _ hw240_2; first | rwa [add_block] at this | exact this) GW228.out) | (rw [add_block]; exact Nat.ne_of_lt (Nat.lt_of_lt_of_le (by have := World.block_lt_of_cell? _ _ hw240_2; first | rwa [add_block] at this | exact this) GW228.out)) | (show (Addr.add _ _).block ≠ _; rw [add_block]; exact Nat.ne_of_lt (Nat.lt_of_lt_of_le (by have := World.block_lt_of_cell? _ _ hw240_2; first | rwa [add_block] at this | exact this) GW228.out)) | (dsimp only; exact Nat.ne_of_lt (Nat.lt_of_lt_of_le (by have := World.block_lt_of_cell? _ _ hw240_2; first | rwa [add_block] at this | exact this) GW228.out))) _).trans (((cell_far (p := ⟨gb228, _, none⟩) (by first | exact Nat.ne_of_lt (Nat.lt_of_lt_of_le (by have := World.block_lt_of_cell? _ _ hw240_2; first | rwa [add_block] at this | exact this) GW228.out) | (rw [add_block]; exact Nat.ne_of_lt (Nat.lt_of_lt_of_le (by have := World.block_lt_of_cell? _ _ hw240_2; first | rwa [add_block] at this | exact this) GW228.out)) | (show (Addr.add _ _).block ≠ _; rw [add_block]; exact Nat.ne_of_lt (Nat.lt_of_lt_of_le (by have := World.block_lt_of_cell? _ _ hw240_2; first | rwa [add_block] at this | exact this) GW228.out)) | (dsimp only; exact Nat.ne_of_lt (Nat.lt_of_lt_of_le (by have := World.block_lt_of_cell? _ _ hw240_2; first | rwa [add_block] at this | exact this) GW228.out))) _).trans (hHeld.2.2.2.2.2.2.2.1)))))))))), ((cell_far (p := ⟨gb228, _, none⟩) (by first | exact Nat.ne_of_lt (Nat.lt_of_lt_of_le (by have := World.block_lt_of_cell? _ _ hw240_3; first | rwa [add_block] at this | exact this) GW228.out) | (rw [add_block]; exact Nat.ne_of_lt (Nat.lt_of_lt_of_le (by have := World.block_lt_of_cell? _ _ hw240_3; first | rwa [add_block] at this | exact this) GW228.out)) | (show (Addr.add _ _).block ≠ _; rw [add_block]; exact Nat.ne_of_lt (Nat.lt_of_lt_of_le (by have := World.block_lt_of_cell? _ _ hw240_3; first | rwa [add_block] at this | exact this) GW228.out)) | (dsimp only; exact Nat.ne_of_lt (Nat.lt_of_lt_of_le (by have := World.block_lt_of_cell? _ _ hw240_3; first | rwa [add_block] at this | exact this) GW228.out))) _).trans (((cell_far (p := ⟨gb228, _, none⟩) (by first | exact Nat.ne_of_lt (Nat.lt_of_lt_of_le (by have := World.block_lt_of_cell? _ _ hw240_3; first | rwa [add_block] at this | exact this) GW228.out) | (rw [add_block]; exact Nat.ne_of_lt (Nat.lt_of_lt_of_le (by have := World.block_lt_of_cell? _ _ hw240_3; first | rwa [add_block] at this | exact this) GW228.out)) | (show (Addr.add _ _).block ≠ _; rw [add_block]; exact Nat.ne_of_lt (Nat.lt_of_lt_of_le (by have := World.block_lt_of_cell? _ _ hw240_3; first | rwa [add_block] at this | exact this) GW228.out)) | (dsimp only; exact Nat.ne_of_lt (Nat.lt_of_lt_of_le (by have := World.block_lt_of_cell? _ _ hw240_3; first | rwa [add_block] at this | exact this) GW228.out))) _).trans (((cell_far (p := ⟨gb228, _, none⟩) (by first | exact Nat.ne_of_lt (Nat.lt_of_lt_of_le (by have := World.block_lt_of_cell? _ _ hw240_3; first | rwa [add_block] at this | exact this) GW228.out) | (rw [add_block]; exact Nat.ne_of_lt (Nat.lt_of_lt_of_le (by have := World.block_lt_of_cell? _ _ hw240_3; first | rwa [add_block] at this | exact this) GW228.out)) | (show (Addr.add _ _).block ≠ _; rw [add_block]; exact Nat.ne_of_lt (Nat.lt_of_lt_of_le (by have := World.block_lt_of_cell? _ _ hw240_3; first | rwa [add_block] at this | exact this) GW228.out)) | (dsimp only; exact Nat.ne_of_lt (Nat.lt_of_lt_of_le (by have := World.block_lt_of_cell? _ _ hw240_3; first | rwa [add_block] at this | exact this) GW228.out))) _).trans (((cell_far (p := ⟨gb228, _, none⟩) (by first | exact Nat.ne_of_lt (Nat.lt_of_lt_of_le (by have := World.block_lt_of_cell? _ _ hw240_3; first | rwa [add_block] at this | exact this) GW228.out) | (rw [add_block]; exact Nat.ne_of_lt (Nat.lt_of_lt_of_le (by have := World.block_lt_of_cell? _ _ hw240_3; first | rwa [add_block] at this | exact this) GW228.out)) | (show (Addr.add _ _).block ≠ _; rw [add_block]; exact Nat.ne_of_lt (Nat.lt_of_lt_of_le (by have := World.block_lt_of_cell? _ _ hw240_3; first | rwa [add_block] at this | exact this) GW228.out)) | (dsimp only; exact Nat.ne_of_lt (Nat.lt_of_lt_of_le (by have := World.block_lt_of_cell? _ _ hw240_3; first | rwa [add_block] at this | exact this) GW228.out))) _).trans (((cell_far (p := ⟨gb228, _, none⟩) (by first | exact Nat.ne_of_lt (Nat.lt_of_lt_of_le (by have := World.block_lt_of_cell? _ _ hw240_3; first | rwa [add_block] at this | exact this) GW228.out) | (rw [add_block]; exact Nat.ne_of_lt (Nat.lt_of_lt_of_le (by have := World.block_lt_of_cell? _ _ hw240_3; first | rwa [add_block] at this | exact this) GW228.out)) | (show (Addr.add _ _).block ≠ _; rw [add_block]; exact Nat.ne_of_lt (Nat.lt_of_lt_of_le (by have := World.block_lt_of_cell? _ _ hw240_3; first | rwa [add_block] at this | exact this) GW228.out)) | (dsimp only; exact Nat.ne_of_lt (Nat.lt_of_lt_of_le (by have := World.block_lt_of_cell? _ _ hw240_3; first | rwa [add_block] at this | exact this) GW228.out))) _).trans (hHeld.2.2.2.2.2.2.2.2.1)))))))))), ((cell_far (p := ⟨gb228, _, none⟩) (by first | exact Nat.ne_of_lt (Nat.lt_of_lt_of_le (by have := World.block_lt_of_cell? _ _ hw240_4; first | rwa [add_block] at this | exact this) GW228.out) | (rw [add_block]; exact Nat.ne_of_lt (Nat.lt_of_lt_of_le (by have := World.block_lt_of_cell? _ _ hw240_4; first | rwa [add_block] at this | exact this) GW228.out)) | (show (Addr.add _ _).block ≠ _; rw [add_block]; exact Nat.ne_of_lt (Nat.lt_of_lt_of_le (by have := World.block_lt_of_cell? _ _ hw240_4; first | rwa [add_block] at this | exact this) GW228.out)) | (dsimp only; exact Nat.ne_of_lt (Nat.lt_of_lt_of_le (by have := World.block_lt_of_cell? _ _ hw240_4; first | rwa [add_block] at this | exact this) GW228.out))) _).trans (((cell_far (p := ⟨gb228, _, none⟩) (by first | exact Nat.ne_of_lt (Nat.lt_of_lt_of_le (by have := World.block_lt_of_cell? _ _ hw240_4; first | rwa [add_block] at this | exact this) GW228.out) | (rw [add_block]; exact Nat.ne_of_lt (Nat.lt_of_lt_of_le (by have := World.block_lt_of_cell? _ _ hw240_4; first | rwa [add_block] at this | exact this) GW228.out)) | (show (Addr.add _ _).block ≠ _; rw [add_block]; exact Nat.ne_of_lt (Nat.lt_of_lt_of_le (by have := World.block_lt_of_cell? _ _ hw240_4; first | rwa [add_block] at this | exact this) GW228.out)) | (dsimp only; exact Nat.ne_of_lt (Nat.lt_of_lt_of_le (by have := World.block_lt_of_cell? _ _ hw240_4; first | rwa [add_block] at this | exact this) GW228.out))) _).trans (((cell_far (p := ⟨gb228, _, none⟩) (by first | exact Nat.ne_of_lt (Nat.lt_of_lt_of_le (by have := World.block_lt_of_cell? _ _ hw240_4; first | rwa [add_block] at this | exact this) GW228.out) | (rw [add_block]; exact Nat.ne_of_lt (Nat.lt_of_lt_of_le (by have := World.block_lt_of_cell? _ _ hw240_4; first | rwa [add_block] at this | exact this) GW228.out)) | (show (Addr.add _ _).block ≠ _; rw [add_block]; exact Nat.ne_of_lt (Nat.lt_of_lt_of_le (by have := World.block_lt_of_cell? _ _ hw240_4; first | rwa [add_block] at this | exact this) GW228.out)) | (dsimp only; exact Nat.ne_of_lt (Nat.lt_of_lt_of_le (by have := World.block_lt_of_cell? _ _ hw240_4; first | rwa [add_block] at this | exact this) GW228.out))) _).trans (((cell_far (p := ⟨gb228, _, none⟩) (by first | exact Nat.ne_of_lt (Nat.lt_of_lt_of_le (by have := World.block_lt_of_cell? _ _ hw240_4; first | rwa [add_block] at this | exact this) GW228.out) | (rw [add_block]; exact Nat.ne_of_lt (Nat.lt_of_lt_of_le (by have := World.block_lt_of_cell? _ _ hw240_4; first | rwa [add_block] at this | exact this) GW228.out)) | (show (Addr.add _ _).block ≠ _; rw [add_block]; exact Nat.ne_of_lt (Nat.lt_of_lt_of_le (by have := World.block_lt_of_cell? _ _ hw240_4; first | rwa [add_block] at this | exact this) GW228.out)) | (dsimp only; exact Nat.ne_of_lt (Nat.lt_of_lt_of_le (by have := World.block_lt_of_cell? _ _ hw240_4; first | rwa [add_block] at this | exact this) GW228.out))) _).trans (((cell_far (p := ⟨gb228, _, none⟩) (by first | exact Nat.ne_of_lt (Nat.lt_of_lt_of_le (by have := World.block_lt_of_cell? _ _ hw240_4; first | rwa [add_block] at this | exact this) GW228.out) | (rw [add_block]; exact Nat.ne_of_lt (Nat.lt_of_lt_of_le (by have := World.block_lt_of_cell? _ _ hw240_4; first | rwa [add_block] at this | exact this) GW228.out)) | (show (Addr.add _ _).block ≠ _; rw [add_block]; exact Nat.ne_of_lt (Nat.lt_of_lt_of_le (by have := World.block_lt_of_cell? _ _ hw240_4; first | rwa [add_block] at this | exact this) GW228.out)) | (dsimp only; exact Nat.ne_of_lt (Nat.lt_of_lt_of_le (by have := World.block_lt_of_cell? _ _ hw240_4; first | rwa [add_block] at this | exact this) GW228.out))) _).trans (hHeld.2.2.2.2.2.2.2.2.2))))))))))⟩ (fun hHeld => ?_)
           clear hK K
           refine pure_ (i := 11) (N := some 5) (v := ?_) (a' := ?_) #[true, true, true, true, true, true, true, true, true, true, true, true] rfl rfl (any_of HT_.out (by kernel_rfl)) (fun _ _ _ h => h) (Or.inl ⟨by rfl, ?_⟩) ?_ ?_
           rotate_left
           ·intro w'
            go_simp
            with_reducible rfl
           rotate_left
           ·simp only [Act.put, List.setIfInBounds_toArray, List.set_cons_zero, List.set_cons_succ, i64_w, i32_w]
            rfl
           refine done_ (done_of HT_.out (by kernel_rfl)) ?_
           try go_wp2
           refine bodyPost_ret (results_ct rfl _ _ gb228 43 #[.int .u8 t242, .string t243, .int .i64 t244, .slice Ao31 t245.length co31, .slice Ao33 t248.length co33] (0, 0) _ rfl (by (with_reducible repeat (first | refine blk_drewN ?_ _ | refine blk_drew ?_ | refine blk_alloc ?_ _)); refine blk_put (cs := #[.int .u8 t242, .string t243, .int .i64 t244, .slice Ao31 t245.length co31, .slice none 0 0]) ?_ 4 _ rfl; (with_reducible repeat (first | refine blk_drewN ?_ _ | refine blk_drew ?_ | refine blk_alloc ?_ _)); refine blk_put (cs := #[.int .u8 t242, .string t243, .int .i64 t244, .slice none 0 0, .slice none 0 0]) ?_ 3 _ rfl; (with_reducible repeat (first | refine blk_drewN ?_ _ | refine blk_drew ?_ | refine blk_alloc ?_ _)); refine blk_put (cs := #[.int .u8 t242, .string t243, .int .i64 x229002_1, .slice none 0 0, .slice none 0 0]) ?_ 2 _ rfl; (with_reducible repeat (first | refine blk_drewN ?_ _ | refine blk_drew ?_ | refine blk_alloc ?_ _)); refine blk_put (cs := #[.int .u8 t242, .string x229001_1, .int .i64 x229002_1, .slice none 0 0, .slice none 0 0]) ?_ 1 _ rfl; (with_reducible repeat (first | refine blk_drewN ?_ _ | refine blk_drew ?_ | refine blk_alloc ?_ _)); refine blk_put (cs := #[.int .u8 x229000_1, .string x229001_1, .int .i64 x229002_1, .slice none 0 0, .slice none 0 0]) ?_ 0 _ rfl; (with_reducible repeat (first | refine blk_drewN ?_ _ | refine blk_drew ?_ | refine blk_alloc ?_ _)); exact BK228.out) Tryz.underlying43 rfl (by kernel_rfl)) rfl ?_
           exact ⟨_, _, by first | rfl | (simp [errW_none, errW_some] <;> rfl) | (simp [*, errW_none, errW_some] <;> rfl), by (with_reducible repeat (first | apply Kd.R_alloc | apply Kd.R_drewN | apply Kd.R_drew)); exact Kd.R_mono (Kd.R_far (p := ⟨gb228, 4, none⟩) (Kd.R_far (p := ⟨gb228, 3, none⟩) (Kd.R_far (p := ⟨gb228, 2, none⟩) (Kd.R_far (p := ⟨gb228, 1, none⟩) (Kd.R_far (p := ⟨gb228, 0, none⟩) (Kd.R_mono HO247.out (fun k_ hk => (⟨hk, hk.2⟩ : _ ∧ k_ ≠ gb228))) (fun _ hk => hk.2) (.int .u8 t242)) (fun _ hk => hk.2) (.string t243)) (fun _ hk => hk.2) (.int .i64 t244)) (fun _ hk => hk.2) (.slice Ao31 t245.length co31)) (fun _ hk => hk.2) (.slice Ao33 t248.length co33)) (fun _ hk => hk.1.1.1), by (with_reducible repeat (first | apply Kd.R_alloc | apply Kd.R_drewN | apply Kd.R_drew)); exact Kd.R_mono (Kd.R_far (p := ⟨gb228, 4, none⟩) (Kd.R_far (p := ⟨gb228, 3, none⟩) (Kd.R_far (p := ⟨gb228, 2, none⟩) (Kd.R_far (p := ⟨gb228, 1, none⟩) (Kd.R_far (p := ⟨gb228, 0, none⟩) (Kd.R_types HO250.out BK228.out (by decide)) (fun _ hk => hk.2) (.int .u8 t242)) (fun _ hk => hk.2) (.string t243)) (fun _ hk => hk.2) (.int .i64 t244)) (fun _ hk => hk.2) (.slice Ao31 t245.length co31)) (fun _ hk => hk.2) (.slice Ao33 t248.length co33)) (fun _ hk => trivial), by repeat (first | (with_reducible first | exact HB.out | apply below_alloc | apply pw_below_drewN | apply below_drew1 | refine below_set ?_ GE227.out | refine below_set ?_ GE228.out) | exact HB.out)⟩
          ·rw [if_neg c23] at H
           exact absurd H (by simp)
         ·rw [if_neg c22] at H
          exact absurd H (by simp)
        ·rw [if_neg c21] at H
         have c21b0 : ((rdOf ByteArray.empty l0_4 x16_1).toList == (rdOf ByteArray.empty l1 0).toList) = false := beq_eq_false_iff_ne.mpr c21
         have c21b1 : ((rdOf ByteArray.empty l0_4 x16_1).toList != (rdOf ByteArray.empty l1 0).toList) = true := bne_iff_ne.mpr c21
         have H' := Aside0.mk H
         clear H
         have p238 : 0 ≤ (x16_1 : Int) := of_decide_eq_true (by first | (with_reducible assumption) | assumption)
         have q238 : x16_1 < (l0_4.length : Int) := of_decide_eq_true (by first | (with_reducible assumption) | assumption)
         obtain ⟨ad238, e238, hx238_0⟩ := Kd.at_string HR0_4.out x16_1 p238 q238
         cases e238
         replace hx238_0 := (HB.out.cell (World.block_lt_of_cell? w _ hx238_0)).trans hx238_0
         replace p238 := eq_true p238
         replace q238 := eq_true q238
         have p239 : 0 ≤ (0 : Int) := (by omega)
         have q239 : 0 < (l1.length : Int) := of_decide_eq_true (by first | (with_reducible assumption) | assumption)
         obtain ⟨ad239, e239, hx239_0⟩ := Kd.at_string HR1.out 0 p239 q239
         cases e239
         have qi239 : (0 < l1.length) = True := eq_true (by omega)
         (try rw [show ((0 : Int)).toNat = 0 from rfl] at hx239_0)
         (try rw [Addr.add_zero'] at hx239_0)
         replace hx239_0 := (HB.out.cell (World.block_lt_of_cell? w _ hx239_0)).trans hx239_0
         replace p239 := eq_true p239
         replace q239 := eq_true q239
         go_wp2
         go_roundg k1
         case measure => have := HK1.out; omega
         case rel => exact ⟨(wrap64 (x16_1 + 1)), (x229000_1), (x229001_1), (x229002_1), (by first | rfl | (simp; done) | (simp [*]; done)), H', ⟨by have := HK1.out; omega⟩, ⟨by (with_reducible repeat (first | refine blk_drewN ?_ _ | refine blk_drew ?_ | refine blk_alloc ?_ _)); exact BK227.out⟩, ⟨by (with_reducible repeat (first | refine blk_drewN ?_ _ | refine blk_drew ?_ | refine blk_alloc ?_ _)); exact BK228.out⟩, ⟨by repeat (first | (with_reducible first | exact HB.out | apply below_alloc | apply pw_below_drewN | apply below_drew1 | refine below_set ?_ GE227.out | refine below_set ?_ GE228.out) | exact HB.out)⟩⟩
       ·rw [if_neg c20] at H
        exact absurd H (by simp)
      ·rw [if_neg c19] at H
       exact absurd H (by simp)
     ·rw [if_neg c18] at H
      exact absurd H (by simp)
    ·rw [if_neg c17] at H
     have c17b0 : decide (x16_1 < (l0_4.length : Int)) = false := decide_eq_false c17
     clear c17
     simp only [Option.some.injEq, Prod.mk.injEq] at H
     obtain ⟨rfl, rfl, rfl, rfl, rfl, rfl⟩ := H
     have hnb35 := NB228_227.out
     have hnc35 := NB227_228.out
     have hcz36_0 : wr.cell? ⟨gb228, 0, none⟩ = some (.int .u8 x229000_1) := (blk_cell BK228.out 0).trans rfl
     have hcz36_1 : wr.cell? ⟨gb228, 1, none⟩ = some (.string x229001_1) := (blk_cell BK228.out 1).trans rfl
     have hcz36_2 : wr.cell? ⟨gb228, 2, none⟩ = some (.int .i64 x229002_1) := (blk_cell BK228.out 2).trans rfl
     have hcz36_3 : wr.cell? ⟨gb228, 3, none⟩ = some (.slice none 0 0) := (blk_cell BK228.out 3).trans rfl
     have hcz36_4 : wr.cell? ⟨gb228, 4, none⟩ = some (.slice none 0 0) := (blk_cell BK228.out 4).trans rfl
     have hfz36_0 := blk_frozen BK228.out 0
     have hfz36_1 := blk_frozen BK228.out 1
     have hfz36_2 := blk_frozen BK228.out 2
     have hfz36_3 := blk_frozen BK228.out 3
     have hfz36_4 := blk_frozen BK228.out 4
     go_wp2
     refine bodyPost_ret (results_ct rfl _ _ gb228 43 #[.int .u8 0, .string (⟨#[]⟩ : ByteArray), .int .i64 0, .slice none 0 0, .slice none 0 0] (0, 0) _ rfl (by (with_reducible repeat (first | refine blk_drewN ?_ _ | refine blk_drew ?_ | refine blk_alloc ?_ _)); refine blk_put (cs := #[.int .u8 0, .string (⟨#[]⟩ : ByteArray), .int .i64 0, .slice none 0 0, .slice none 0 0]) ?_ 4 _ rfl; (with_reducible repeat (first | refine blk_drewN ?_ _ | refine blk_drew ?_ | refine blk_alloc ?_ _)); refine blk_put (cs := #[.int .u8 0, .string (⟨#[]⟩ : ByteArray), .int .i64 0, .slice none 0 0, .slice none 0 0]) ?_ 3 _ rfl; (with_reducible repeat (first | refine blk_drewN ?_ _ | refine blk_drew ?_ | refine blk_alloc ?_ _)); refine blk_put (cs := #[.int .u8 0, .string (⟨#[]⟩ : ByteArray), .int .i64 x229002_1, .slice none 0 0, .slice none 0 0]) ?_ 2 _ rfl; (with_reducible repeat (first | refine blk_drewN ?_ _ | refine blk_drew ?_ | refine blk_alloc ?_ _)); refine blk_put (cs := #[.int .u8 0, .string x229001_1, .int .i64 x229002_1, .slice none 0 0, .slice none 0 0]) ?_ 1 _ rfl; (with_reducible repeat (first | refine blk_drewN ?_ _ | refine blk_drew ?_ | refine blk_alloc ?_ _)); refine blk_put (cs := #[.int .u8 x229000_1, .string x229001_1, .int .i64 x229002_1, .slice none 0 0, .slice none 0 0]) ?_ 0 _ rfl; (with_reducible repeat (first | refine blk_drewN ?_ _ | refine blk_drew ?_ | refine blk_alloc ?_ _)); exact BK228.out) Tryz.underlying43 rfl (by kernel_rfl)) rfl ?_
     exact ⟨_, _, by first | rfl | (simp [errW_none, errW_some] <;> rfl) | (simp [*, errW_none, errW_some] <;> rfl), by first | exact Kd.R_nil _ _ _ _ _ | exact Kd.N_nil _ _ _ _ _ | exact Kd.V_nil _ _ _ _ _ | exact Kd.Q_nil _ _ _ _ _ | exact Kd.S_nil _ _ _ _ _, by first | exact Kd.R_nil _ _ _ _ _ | exact Kd.N_nil _ _ _ _ _ | exact Kd.V_nil _ _ _ _ _ | exact Kd.Q_nil _ _ _ _ _ | exact Kd.S_nil _ _ _ _ _, by repeat (first | (with_reducible first | exact HB.out | apply below_alloc | apply pw_below_drewN | apply below_drew1 | refine below_set ?_ GE227.out | refine below_set ?_ GE228.out) | exact HB.out)⟩
def bellmanref09_Find.f (k : Nat) (a0_0 : Int) (a0_1 : ByteArray) (a0_2 : Int) (l0_3 : List (S43)) (l0_4 : List ByteArray) (l1 : List ByteArray) : Option (Int × ByteArray × Int × (List (S43)) × List ByteArray × Int) := (bellmanref09_Check.f k a0_0 a0_1 a0_2 l0_3 l0_4).bind fun t254 => (if t254 = 0 then ((bellmanref09_find.f k a0_0 a0_1 a0_2 l0_3 l0_4 l1).bind fun bt255 => (some (bt255.1, bt255.2.1, bt255.2.2.1, bt255.2.2.2.1, bt255.2.2.2.2.1, bt255.2.2.2.2.2))) else (some (0, (⟨#[]⟩ : ByteArray), 0, ([] : List (S43)), ([] : List ByteArray), 2)))
set_option maxHeartbeats 8000000 in
set_option maxRecDepth 100000 in
theorem bellmanref09_Find.calls (k : Nat) (a0_0 : Int) (a0_1 : ByteArray) (a0_2 : Int) (A0_3 : Option Addr) (c0_3 : Nat) (l0_3 : List (S43)) (A0_4 : Option Addr) (c0_4 : Nat) (l0_4 : List ByteArray) (A1 : Option Addr) (c1 : Nat) (l1 : List ByteArray) (r1 : Int) (r2 : ByteArray) (r3 : Int) (r4 : List (S43)) (r5 : List ByteArray) (r6 : Int) (w : World) (hr0_3 : Kd.C k43 w A0_3 l0_3.length l0_3) (hc0_3 : l0_3.length ≤ c0_3) (hr0_4 : Kd.C Kd.string w A0_4 l0_4.length l0_4) (hc0_4 : l0_4.length ≤ c0_4) (hr1 : Kd.C Kd.string w A1 l1.length l1) (hc1 : l1.length ≤ c1) (h : bellmanref09_Find.f k a0_0 a0_1 a0_2 l0_3 l0_4 l1 = some (r1, r2, r3, r4, r5, r6)) :
  Calls Tryz.prog 90 #[.agg #[.int .u8 a0_0, .string a0_1, .int .i64 a0_2, .slice A0_3 l0_3.length c0_3, .slice A0_4 l0_4.length c0_4], .slice A1 l1.length c1] w fun e w' => ∃ v3_ v4_ : Value, e = .returned (.tuple #[.agg #[.int .u8 r1, .string r2, .int .i64 r3, v3_, v4_], .int .i64 r6]) ∧ Kd.R k43 43 w' w.heap.size (fun k_ => some k_ ≠ (v4_ : Value).ownBlock) v3_ r4 ∧ Kd.R Kd.string 9 w' w.heap.size (fun _ => True) v4_ r5 ∧ Below w.heap.size w w' := by
 have hu43 := Tryz.underlying43
 have HR0_3 := Aside0.mk hr0_3
 have HC0_3 := Aside0.mk hc0_3
 clear hr0_3 hc0_3
 have HR0_4 := Aside0.mk hr0_4
 have HC0_4 := Aside0.mk hc0_4
 clear hr0_4 hc0_4
 have HR1 := Aside0.mk hr1
 have HC1 := Aside0.mk hc1
 clear hr1 hc1
 have HB := Aside0.mk (Below.refl w.heap.size w)
 have H : ((bellmanref09_Check.f k a0_0 a0_1 a0_2 l0_3 l0_4).bind fun t254 => (if t254 = 0 then ((bellmanref09_find.f k a0_0 a0_1 a0_2 l0_3 l0_4 l1).bind fun bt255 => (some (bt255.1, bt255.2.1, bt255.2.2.1, bt255.2.2.2.1, bt255.2.2.2.2.1, bt255.2.2.2.2.2))) else (some (0, (⟨#[]⟩ : ByteArray), 0, ([] : List (S43)), ([] : List ByteArray), 2)))) = some (r1, r2, r3, r4, r5, r6) := h
 clear h
 replace H := Option.bind_eq_some_iff.mp H
 obtain ⟨t254, A30, H⟩ := H
 (try dsimp only at H)
 have A3 := Aside0.mk A30
 clear A30
 by_cases c4 : t254 = 0
 ·rw [if_pos c4] at H
  have c4b0 : (t254 == 0) = true := beq_iff_eq.mpr c4
  have c4b1 : (t254 != 0) = false := bne_eq_false_iff_eq.mpr c4
  clear c4
  replace H := Option.bind_eq_some_iff.mp H
  obtain ⟨⟨t255, t256, t257, t258, t261, t264⟩, A50, H⟩ := H
  replace H : (some (t255, t256, t257, t258, t261, t264)) = some (r1, r2, r3, r4, r5, r6) := H
  have A5 := Aside0.mk A50
  clear A50
  simp only [Option.some.injEq, Prod.mk.injEq] at H
  obtain ⟨rfl, rfl, rfl, rfl, rfl, rfl⟩ := H
  go_enter Tryz.func90, Tryz.ntmps90
  go_wp2_with (first | ((with_reducible refine gate_dst (N := 2) rfl ?_); refine box_event ?hg (N := 2) ?hd (cs := #[.int .u8 a0_0, .string a0_1, .int .i64 a0_2, .slice A0_3 l0_3.length c0_3, .slice A0_4 l0_4.length c0_4]) (t := 43) ?hr ?_; (case hd => rfl); (case hg => rfl); (case hr => first | (go_simp; done) | (go_simp; rfl)); intro gb252 hg w6 hbox hb; have n0_ := Aside0.mk (below_step (belS HB.out) hb); have n1_ := Aside0.mk (hbox); have n2_ := Aside0.mk ((by rw [hg]; exact (below_size (belS HB.out)) : w.heap.size ≤ gb252)); have n3_ := Aside0.mk ((by rw [hg]; exact (below_size (belS HB.out)) : w.heap.size ≤ gb252)); clear HB; have HB := n0_; have BK252 := n1_; have GW252 := n2_; have GE252 := n3_; clear n0_ n1_ n2_ n3_; clear hb hbox hg) | ((with_reducible refine gate_dst (N := 4) rfl ?_); refine box_event ?hg (N := 4) ?hd (cs := #[.int .u8 0, .string (⟨#[]⟩ : ByteArray), .int .i64 0, .slice none 0 0, .slice none 0 0]) (t := 43) ?hr ?_; (case hd => rfl); (case hg => rfl); (case hr => first | (go_simp; done) | (go_simp; rfl)); intro gb253 hg w7 hbox hb; have n0_ := Aside0.mk (blk_below (g := gb252) (o := .cells #[.int .u8 a0_0, .string a0_1, .int .i64 a0_2, .slice A0_3 l0_3.length c0_3, .slice A0_4 l0_4.length c0_4] 43 (0, 0)) (blkS BK252.out) hb); have n1_ := Aside0.mk (below_step (by repeat (first | (with_reducible first | exact HB.out | apply below_alloc | apply pw_below_drewN | apply below_drew1 | refine below_set ?_ GE252.out) | exact HB.out)) hb); have n2_ := Aside0.mk (hbox); have n3_ := Aside0.mk ((by rw [hg]; exact (below_size (by repeat (first | (with_reducible first | exact HB.out | apply below_alloc | apply pw_below_drewN | apply below_drew1 | refine below_set ?_ GE252.out) | exact HB.out))) : w.heap.size ≤ gb253)); have n4_ := Aside0.mk ((by rw [hg]; exact (below_size (by repeat (first | (with_reducible first | exact HB.out | apply below_alloc | apply pw_below_drewN | apply below_drew1 | refine below_set ?_ GE252.out) | exact HB.out))) : w.heap.size ≤ gb253)); have n5_ := Aside0.mk ((by rw [hg]; exact Nat.ne_of_lt (blk_lt (g := gb252) (o := .cells #[.int .u8 a0_0, .string a0_1, .int .i64 a0_2, .slice A0_3 l0_3.length c0_3, .slice A0_4 l0_4.length c0_4] 43 (0, 0)) (blkS BK252.out)) : gb252 ≠ gb253)); have n6_ := Aside0.mk ((by rw [hg]; exact Nat.ne_of_gt (blk_lt (g := gb252) (o := .cells #[.int .u8 a0_0, .string a0_1, .int .i64 a0_2, .slice A0_3 l0_3.length c0_3, .slice A0_4 l0_4.length c0_4] 43 (0, 0)) (blkS BK252.out)) : gb253 ≠ gb252)); clear BK252; clear HB; have BK252 := n0_; have HB := n1_; have BK253 := n2_; have GW253 := n3_; have GE253 := n4_; have NB252_253 := n5_; have NB253_252 := n6_; clear n0_ n1_ n2_ n3_ n4_ n5_ n6_; clear hb hbox hg; have hnb8 := NB252_253.out; have hnc8 := NB253_252.out; obtain ⟨hcz9_0, hcz9_1, hcz9_2, hcz9_3, hcz9_4, hfz9_0, hfz9_1, hfz9_2, hfz9_3, hfz9_4⟩ := cells_5 BK252.out) | ((with_reducible refine gate_callee (f := 58) rfl ?_); refine goesL_ (some 7) rfl rfl Tryz.func58 (by kernel_rfl) rfl #[.agg #[.int .u8 a0_0, .string a0_1, .int .i64 a0_2, .slice A0_3 l0_3.length c0_3, .slice A0_4 l0_4.length c0_4]] rfl (by (try simp only [List.map_toArray, List.map_cons, List.map_nil]); first | done | rfl) ?_; (with_reducible refine (bellmanref09_Check.calls k a0_0 a0_1 a0_2 _ _ l0_3 _ _ l0_4 t254 _ ?side1 ?side2 ?side3 ?side4 A3.out).mono ?_); (case side1 => repeat (first | exact (Kd.C_below HR0_3.out HB.out) | (with_reducible refine Kd.C_alloc ?_ _) | (with_reducible refine Kd.C_drewN ?_ _) | (with_reducible refine Kd.C_drew ?_))); (case side2 => exact HC0_3.out); (case side3 => repeat (first | exact (Kd.C_below HR0_4.out HB.out) | (with_reducible refine Kd.C_alloc ?_ _) | (with_reducible refine Kd.C_drewN ?_ _) | (with_reducible refine Kd.C_drew ?_))); (case side4 => exact HC0_4.out); rintro e w10 ⟨rfl, hb⟩; refine ⟨_, rfl, ?_⟩; have n0_ := Aside0.mk (blk_below (g := gb252) (o := .cells #[.int .u8 a0_0, .string a0_1, .int .i64 a0_2, .slice A0_3 l0_3.length c0_3, .slice A0_4 l0_4.length c0_4] 43 (0, 0)) (blkS BK252.out) hb); have n1_ := Aside0.mk (blk_below (g := gb253) (o := .cells #[.int .u8 0, .string (⟨#[]⟩ : ByteArray), .int .i64 0, .slice none 0 0, .slice none 0 0] 43 (0, 0)) (blkS BK253.out) hb); have n2_ := Aside0.mk (below_step (by repeat (first | (with_reducible first | exact HB.out | apply below_alloc | apply pw_below_drewN | apply below_drew1 | refine below_set ?_ GE252.out | refine below_set ?_ GE253.out) | exact HB.out)) hb); clear BK252; clear BK253; clear HB; have BK252 := n0_; have BK253 := n1_; have HB := n2_; clear n0_ n1_ n2_; (try clear hb); (try clear hb2); (try clear hk); (try clear hi); obtain ⟨hcz11_0, hcz11_1, hcz11_2, hcz11_3, hcz11_4, hfz11_0, hfz11_1, hfz11_2, hfz11_3, hfz11_4⟩ := cells_5 BK252.out) | ((with_reducible refine gate_callee (f := 134) rfl ?_); refine goesL_ (some 12) rfl rfl Tryz.func134 (by kernel_rfl) rfl #[.agg #[.int .u8 a0_0, .string a0_1, .int .i64 a0_2, .slice A0_3 l0_3.length c0_3, .slice A0_4 l0_4.length c0_4], .slice A1 l1.length c1] rfl (by (try simp only [List.map_toArray, List.map_cons, List.map_nil]); first | done | rfl) ?_; (with_reducible refine (bellmanref09_find.calls k a0_0 a0_1 a0_2 _ _ l0_3 _ _ l0_4 _ _ l1 t255 t256 t257 t258 t261 t264 _ ?side1 ?side2 ?side3 ?side4 ?side5 ?side6 A5.out).mono ?_); (case side1 => repeat (first | exact (Kd.C_below HR0_3.out HB.out) | (with_reducible refine Kd.C_alloc ?_ _) | (with_reducible refine Kd.C_drewN ?_ _) | (with_reducible refine Kd.C_drew ?_))); (case side2 => exact HC0_3.out); (case side3 => repeat (first | exact (Kd.C_below HR0_4.out HB.out) | (with_reducible refine Kd.C_alloc ?_ _) | (with_reducible refine Kd.C_drewN ?_ _) | (with_reducible refine Kd.C_drew ?_))); (case side4 => exact HC0_4.out); (case side5 => repeat (first | exact (Kd.C_below HR1.out HB.out) | (with_reducible refine Kd.C_alloc ?_ _) | (with_reducible refine Kd.C_drewN ?_ _) | (with_reducible refine Kd.C_drew ?_))); (case side6 => exact HC1.out); rintro e w12 ⟨v259, v262, rfl, ho0, ho1, hb⟩; refine ⟨_, rfl, ?_⟩; have n0_ := Aside0.mk (Kd.R_lower (Kd.R_newB (Kd.R_newB ho0 (g := gb252) (o := .cells #[.int .u8 a0_0, .string a0_1, .int .i64 a0_2, .slice A0_3 l0_3.length c0_3, .slice A0_4 l0_4.length c0_4] 43 (0, 0)) (blkS BK252.out)) (g := gb253) (o := .cells #[.int .u8 0, .string (⟨#[]⟩ : ByteArray), .int .i64 0, .slice none 0 0, .slice none 0 0] 43 (0, 0)) (blkS BK253.out)) (below_size (by repeat (first | (with_reducible first | exact HB.out | apply below_alloc | apply pw_below_drewN | apply below_drew1 | refine below_set ?_ GE252.out | refine below_set ?_ GE253.out) | exact HB.out)))); have n1_ := Aside0.mk (Kd.R_lower ho1 (below_size (by repeat (first | (with_reducible first | exact HB.out | apply below_alloc | apply pw_below_drewN | apply below_drew1 | refine below_set ?_ GE252.out | refine below_set ?_ GE253.out) | exact HB.out)))); have n2_ := Aside0.mk (blk_below (g := gb252) (o := .cells #[.int .u8 a0_0, .string a0_1, .int .i64 a0_2, .slice A0_3 l0_3.length c0_3, .slice A0_4 l0_4.length c0_4] 43 (0, 0)) (blkS BK252.out) hb); have n3_ := Aside0.mk (blk_below (g := gb253) (o := .cells #[.int .u8 0, .string (⟨#[]⟩ : ByteArray), .int .i64 0, .slice none 0 0, .slice none 0 0] 43 (0, 0)) (blkS BK253.out) hb); have n4_ := Aside0.mk (below_step (by repeat (first | (with_reducible first | exact HB.out | apply below_alloc | apply pw_below_drewN | apply below_drew1 | refine below_set ?_ GE252.out | refine below_set ?_ GE253.out) | exact HB.out)) hb); clear BK252; clear BK253; clear HB; have HO260 := n0_; have HO263 := n1_; have BK252 := n2_; have BK253 := n3_; have HB := n4_; clear n0_ n1_ n2_ n3_ n4_; (try clear hb); (try clear hb2); (try clear hk); (try clear hi); (try clear ho0); (try clear ho1); obtain ⟨hcz13_0, hcz13_1, hcz13_2, hcz13_3, hcz13_4, hfz13_0, hfz13_1, hfz13_2, hfz13_3, hfz13_4⟩ := cells_5 BK253.out; obtain ⟨Ao14, co14, eo14⟩ := Kd.R_slice HO260.out; subst eo14; obtain ⟨Ao15, co15, eo15⟩ := Kd.R_slice HO263.out; subst eo15))
  refine bodyPost_ret (results_ct rfl _ _ gb253 43 #[.int .u8 t255, .string t256, .int .i64 t257, .slice Ao14 t258.length co14, .slice Ao15 t261.length co15] (0, 0) _ rfl (by (with_reducible repeat (first | refine blk_drewN ?_ _ | refine blk_drew ?_ | refine blk_alloc ?_ _)); refine blk_put (cs := #[.int .u8 t255, .string t256, .int .i64 t257, .slice Ao14 t258.length co14, .slice none 0 0]) ?_ 4 _ rfl; (with_reducible repeat (first | refine blk_drewN ?_ _ | refine blk_drew ?_ | refine blk_alloc ?_ _)); refine blk_put (cs := #[.int .u8 t255, .string t256, .int .i64 t257, .slice none 0 0, .slice none 0 0]) ?_ 3 _ rfl; (with_reducible repeat (first | refine blk_drewN ?_ _ | refine blk_drew ?_ | refine blk_alloc ?_ _)); refine blk_put (cs := #[.int .u8 t255, .string t256, .int .i64 0, .slice none 0 0, .slice none 0 0]) ?_ 2 _ rfl; (with_reducible repeat (first | refine blk_drewN ?_ _ | refine blk_drew ?_ | refine blk_alloc ?_ _)); refine blk_put (cs := #[.int .u8 t255, .string (⟨#[]⟩ : ByteArray), .int .i64 0, .slice none 0 0, .slice none 0 0]) ?_ 1 _ rfl; (with_reducible repeat (first | refine blk_drewN ?_ _ | refine blk_drew ?_ | refine blk_alloc ?_ _)); refine blk_put (cs := #[.int .u8 0, .string (⟨#[]⟩ : ByteArray), .int .i64 0, .slice none 0 0, .slice none 0 0]) ?_ 0 _ rfl; (with_reducible repeat (first | refine blk_drewN ?_ _ | refine blk_drew ?_ | refine blk_alloc ?_ _)); exact BK253.out) Tryz.underlying43 rfl (by kernel_rfl)) rfl ?_
  exact ⟨_, _, by first | rfl | (simp [errW_none, errW_some] <;> rfl) | (simp [*, errW_none, errW_some] <;> rfl), by (with_reducible repeat (first | apply Kd.R_alloc | apply Kd.R_drewN | apply Kd.R_drew)); exact Kd.R_mono (Kd.R_far (p := ⟨gb253, 4, none⟩) (Kd.R_far (p := ⟨gb253, 3, none⟩) (Kd.R_far (p := ⟨gb253, 2, none⟩) (Kd.R_far (p := ⟨gb253, 1, none⟩) (Kd.R_far (p := ⟨gb253, 0, none⟩) (Kd.R_mono HO260.out (fun k_ hk => (⟨hk, hk.2⟩ : _ ∧ k_ ≠ gb253))) (fun _ hk => hk.2) (.int .u8 t255)) (fun _ hk => hk.2) (.string t256)) (fun _ hk => hk.2) (.int .i64 t257)) (fun _ hk => hk.2) (.slice Ao14 t258.length co14)) (fun _ hk => hk.2) (.slice Ao15 t261.length co15)) (fun _ hk => hk.1.1.1), by (with_reducible repeat (first | apply Kd.R_alloc | apply Kd.R_drewN | apply Kd.R_drew)); exact Kd.R_mono (Kd.R_far (p := ⟨gb253, 4, none⟩) (Kd.R_far (p := ⟨gb253, 3, none⟩) (Kd.R_far (p := ⟨gb253, 2, none⟩) (Kd.R_far (p := ⟨gb253, 1, none⟩) (Kd.R_far (p := ⟨gb253, 0, none⟩) (Kd.R_types HO263.out BK253.out (by decide)) (fun _ hk => hk.2) (.int .u8 t255)) (fun _ hk => hk.2) (.string t256)) (fun _ hk => hk.2) (.int .i64 t257)) (fun _ hk => hk.2) (.slice Ao14 t258.length co14)) (fun _ hk => hk.2) (.slice Ao15 t261.length co15)) (fun _ hk => trivial), by repeat (first | (with_reducible first | exact HB.out | apply below_alloc | apply pw_below_drewN | apply below_drew1 | refine below_set ?_ GE252.out | refine below_set ?_ GE253.out) | exact HB.out)⟩
 ·rw [if_neg c4] at H
  have c4b0 : (t254 == 0) = false := beq_eq_false_iff_ne.mpr c4
  have c4b1 : (t254 != 0) = true := bne_iff_ne.mpr c4
  simp only [Option.some.injEq, Prod.mk.injEq] at H
  obtain ⟨rfl, rfl, rfl, rfl, rfl, rfl⟩ := H
  go_enter Tryz.func90, Tryz.ntmps90
  go_wp2_with (first | ((with_reducible refine gate_dst (N := 2) rfl ?_); refine box_event ?hg (N := 2) ?hd (cs := #[.int .u8 a0_0, .string a0_1, .int .i64 a0_2, .slice A0_3 l0_3.length c0_3, .slice A0_4 l0_4.length c0_4]) (t := 43) ?hr ?_; (case hd => rfl); (case hg => rfl); (case hr => first | (go_simp; done) | (go_simp; rfl)); intro gb252 hg w16 hbox hb; have n0_ := Aside0.mk (below_step (belS HB.out) hb); have n1_ := Aside0.mk (hbox); have n2_ := Aside0.mk ((by rw [hg]; exact (below_size (belS HB.out)) : w.heap.size ≤ gb252)); have n3_ := Aside0.mk ((by rw [hg]; exact (below_size (belS HB.out)) : w.heap.size ≤ gb252)); clear HB; have HB := n0_; have BK252 := n1_; have GW252 := n2_; have GE252 := n3_; clear n0_ n1_ n2_ n3_; clear hb hbox hg) | ((with_reducible refine gate_dst (N := 4) rfl ?_); refine box_event ?hg (N := 4) ?hd (cs := #[.int .u8 0, .string (⟨#[]⟩ : ByteArray), .int .i64 0, .slice none 0 0, .slice none 0 0]) (t := 43) ?hr ?_; (case hd => rfl); (case hg => rfl); (case hr => first | (go_simp; done) | (go_simp; rfl)); intro gb253 hg w17 hbox hb; have n0_ := Aside0.mk (blk_below (g := gb252) (o := .cells #[.int .u8 a0_0, .string a0_1, .int .i64 a0_2, .slice A0_3 l0_3.length c0_3, .slice A0_4 l0_4.length c0_4] 43 (0, 0)) (blkS BK252.out) hb); have n1_ := Aside0.mk (below_step (by repeat (first | (with_reducible first | exact HB.out | apply below_alloc | apply pw_below_drewN | apply below_drew1 | refine below_set ?_ GE252.out) | exact HB.out)) hb); have n2_ := Aside0.mk (hbox); have n3_ := Aside0.mk ((by rw [hg]; exact (below_size (by repeat (first | (with_reducible first | exact HB.out | apply below_alloc | apply pw_below_drewN | apply below_drew1 | refine below_set ?_ GE252.out) | exact HB.out))) : w.heap.size ≤ gb253)); have n4_ := Aside0.mk ((by rw [hg]; exact (below_size (by repeat (first | (with_reducible first | exact HB.out | apply below_alloc | apply pw_below_drewN | apply below_drew1 | refine below_set ?_ GE252.out) | exact HB.out))) : w.heap.size ≤ gb253)); have n5_ := Aside0.mk ((by rw [hg]; exact Nat.ne_of_lt (blk_lt (g := gb252) (o := .cells #[.int .u8 a0_0, .string a0_1, .int .i64 a0_2, .slice A0_3 l0_3.length c0_3, .slice A0_4 l0_4.length c0_4] 43 (0, 0)) (blkS BK252.out)) : gb252 ≠ gb253)); have n6_ := Aside0.mk ((by rw [hg]; exact Nat.ne_of_gt (blk_lt (g := gb252) (o := .cells #[.int .u8 a0_0, .string a0_1, .int .i64 a0_2, .slice A0_3 l0_3.length c0_3, .slice A0_4 l0_4.length c0_4] 43 (0, 0)) (blkS BK252.out)) : gb253 ≠ gb252)); clear BK252; clear HB; have BK252 := n0_; have HB := n1_; have BK253 := n2_; have GW253 := n3_; have GE253 := n4_; have NB252_253 := n5_; have NB253_252 := n6_; clear n0_ n1_ n2_ n3_ n4_ n5_ n6_; clear hb hbox hg; have hnb18 := NB252_253.out; have hnc18 := NB253_252.out; obtain ⟨hcz19_0, hcz19_1, hcz19_2, hcz19_3, hcz19_4, hfz19_0, hfz19_1, hfz19_2, hfz19_3, hfz19_4⟩ := cells_5 BK252.out) | ((with_reducible refine gate_callee (f := 58) rfl ?_); refine goesL_ (some 7) rfl rfl Tryz.func58 (by kernel_rfl) rfl #[.agg #[.int .u8 a0_0, .string a0_1, .int .i64 a0_2, .slice A0_3 l0_3.length c0_3, .slice A0_4 l0_4.length c0_4]] rfl (by (try simp only [List.map_toArray, List.map_cons, List.map_nil]); first | done | rfl) ?_; (with_reducible refine (bellmanref09_Check.calls k a0_0 a0_1 a0_2 _ _ l0_3 _ _ l0_4 t254 _ ?side1 ?side2 ?side3 ?side4 A3.out).mono ?_); (case side1 => repeat (first | exact (Kd.C_below HR0_3.out HB.out) | (with_reducible refine Kd.C_alloc ?_ _) | (with_reducible refine Kd.C_drewN ?_ _) | (with_reducible refine Kd.C_drew ?_))); (case side2 => exact HC0_3.out); (case side3 => repeat (first | exact (Kd.C_below HR0_4.out HB.out) | (with_reducible refine Kd.C_alloc ?_ _) | (with_reducible refine Kd.C_drewN ?_ _) | (with_reducible refine Kd.C_drew ?_))); (case side4 => exact HC0_4.out); rintro e w20 ⟨rfl, hb⟩; refine ⟨_, rfl, ?_⟩; have n0_ := Aside0.mk (blk_below (g := gb252) (o := .cells #[.int .u8 a0_0, .string a0_1, .int .i64 a0_2, .slice A0_3 l0_3.length c0_3, .slice A0_4 l0_4.length c0_4] 43 (0, 0)) (blkS BK252.out) hb); have n1_ := Aside0.mk (blk_below (g := gb253) (o := .cells #[.int .u8 0, .string (⟨#[]⟩ : ByteArray), .int .i64 0, .slice none 0 0, .slice none 0 0] 43 (0, 0)) (blkS BK253.out) hb); have n2_ := Aside0.mk (below_step (by repeat (first | (with_reducible first | exact HB.out | apply below_alloc | apply pw_below_drewN | apply below_drew1 | refine below_set ?_ GE252.out | refine below_set ?_ GE253.out) | exact HB.out)) hb); clear BK252; clear BK253; clear HB; have BK252 := n0_; have BK253 := n1_; have HB := n2_; clear n0_ n1_ n2_; (try clear hb); (try clear hb2); (try clear hk); (try clear hi); obtain ⟨hcz21_0, hcz21_1, hcz21_2, hcz21_3, hcz21_4, hfz21_0, hfz21_1, hfz21_2, hfz21_3, hfz21_4⟩ := cells_5 BK253.out))
  refine bodyPost_ret (results_ct rfl _ _ gb253 43 #[.int .u8 0, .string (⟨#[]⟩ : ByteArray), .int .i64 0, .slice none 0 0, .slice none 0 0] (0, 0) _ rfl (by (with_reducible repeat (first | refine blk_drewN ?_ _ | refine blk_drew ?_ | refine blk_alloc ?_ _)); refine blk_put (cs := #[.int .u8 0, .string (⟨#[]⟩ : ByteArray), .int .i64 0, .slice none 0 0, .slice none 0 0]) ?_ 4 _ rfl; (with_reducible repeat (first | refine blk_drewN ?_ _ | refine blk_drew ?_ | refine blk_alloc ?_ _)); refine blk_put (cs := #[.int .u8 0, .string (⟨#[]⟩ : ByteArray), .int .i64 0, .slice none 0 0, .slice none 0 0]) ?_ 3 _ rfl; (with_reducible repeat (first | refine blk_drewN ?_ _ | refine blk_drew ?_ | refine blk_alloc ?_ _)); refine blk_put (cs := #[.int .u8 0, .string (⟨#[]⟩ : ByteArray), .int .i64 0, .slice none 0 0, .slice none 0 0]) ?_ 2 _ rfl; (with_reducible repeat (first | refine blk_drewN ?_ _ | refine blk_drew ?_ | refine blk_alloc ?_ _)); refine blk_put (cs := #[.int .u8 0, .string (⟨#[]⟩ : ByteArray), .int .i64 0, .slice none 0 0, .slice none 0 0]) ?_ 1 _ rfl; (with_reducible repeat (first | refine blk_drewN ?_ _ | refine blk_drew ?_ | refine blk_alloc ?_ _)); refine blk_put (cs := #[.int .u8 0, .string (⟨#[]⟩ : ByteArray), .int .i64 0, .slice none 0 0, .slice none 0 0]) ?_ 0 _ rfl; (with_reducible repeat (first | refine blk_drewN ?_ _ | refine blk_drew ?_ | refine blk_alloc ?_ _)); exact BK253.out) Tryz.underlying43 rfl (by kernel_rfl)) rfl ?_
  exact ⟨_, _, by first | rfl | (simp [errW_none, errW_some] <;> rfl) | (simp [*, errW_none, errW_some] <;> rfl), by first | exact Kd.R_nil _ _ _ _ _ | exact Kd.N_nil _ _ _ _ _ | exact Kd.V_nil _ _ _ _ _ | exact Kd.Q_nil _ _ _ _ _ | exact Kd.S_nil _ _ _ _ _, by first | exact Kd.R_nil _ _ _ _ _ | exact Kd.N_nil _ _ _ _ _ | exact Kd.V_nil _ _ _ _ _ | exact Kd.Q_nil _ _ _ _ _ | exact Kd.S_nil _ _ _ _ _, by repeat (first | (with_reducible first | exact HB.out | apply below_alloc | apply pw_below_drewN | apply below_drew1 | refine below_set ?_ GE252.out | refine below_set ?_ GE253.out) | exact HB.out)⟩
end Go.Proofs.YtniibpndgcndbaaGreatDoor.PB
namespace Go.Proofs.YtniibpndgcndbaaGreatDoor.PB
open Go.RowKit Go.Proofs.YtniibpndgcndbaaGreatDoorW.PrintWords Go.Proofs.YtniibpndgcndbaaGreatDoorW.PrintLast Go.Proofs.YtniibpndgcndbaaGreatDoorW.PrintMore Go.Proofs.YtniibpndgcndbaaGreatDoor.Short
attribute [local go_sem] max2_int min2_int max_two min_two max_three min_three max_four min_four   -- for this text's walks alone
set_option linter.unusedVariables false
set_option linter.unusedSimpArgs false
mutual
def bellmanref12_lost.l0 : Nat → List (S37) → Int → Int → Option (Bool)
 | 0, _, _, _ => none
 | k + 1, x5, x6, x7 => if x7 < x6 then (if 0 ≤ x7 then (if x7 < (x5.length : Int) then (if (((rd_T37 x5 x7).f2).length : Int) > 0 then (if 0 < (((rd_T37 x5 x7).f2).length : Int) then (bellmanref12_lost.j1 k x5 x6 x7 ((rdOf ByteArray.empty ((rd_T37 x5 x7).f2) 0).toList == ([116, 104, 105, 115] : List UInt8)) ((rd_T37 x5 x7).f0) ((rd_T37 x5 x7).f1) ((rd_T37 x5 x7).f2) ((rd_T37 x5 x7).f3) ((rd_T37 x5 x7).f4)) else (none)) else (bellmanref12_lost.j1 k x5 x6 x7 false ((rd_T37 x5 x7).f0) ((rd_T37 x5 x7).f1) ((rd_T37 x5 x7).f2) ((rd_T37 x5 x7).f3) ((rd_T37 x5 x7).f4))) else (none)) else (none)) else (some false)
def bellmanref12_lost.j1 : Nat → List (S37) → Int → Int → Bool → Int → ByteArray → List ByteArray → List (S37) → List (S37) → Option (Bool)
 | 0, _, _, _, _, _, _, _, _, _ => none
 | k + 1, x5, x6, x7, x21, x162000, x162001, x162002, x162003, x162004 => if x21 = true then (some true) else (if x162000 = 5 then (bellmanref12_lost.l0 k x5 x6 (wrap64 (x7 + 1))) else ((bellmanref12_lost.f k x162003).bind fun t163 => (if t163 = true then (some true) else ((bellmanref12_lost.f k x162004).bind fun t164 => (if t164 = true then (some true) else (bellmanref12_lost.l0 k x5 x6 (wrap64 (x7 + 1))))))))
def bellmanref12_lost.f : Nat → List (S37) → Option (Bool)
 | 0, _ => none
 | k + 1, l0 => bellmanref12_lost.l0 k l0 (l0.length : Int) 0
end
theorem bellmanref12_lost.mono_l : ∀ k, (∀ y0, LeO (bellmanref12_lost.f k y0) (bellmanref12_lost.f (k + 1) y0)) ∧ (∀ y0 y1 y2, LeO (bellmanref12_lost.l0 k y0 y1 y2) (bellmanref12_lost.l0 (k + 1) y0 y1 y2)) ∧ (∀ y0 y1 y2 y3 y4 y5 y6 y7 y8, LeO (bellmanref12_lost.j1 k y0 y1 y2 y3 y4 y5 y6 y7 y8) (bellmanref12_lost.j1 (k + 1) y0 y1 y2 y3 y4 y5 y6 y7 y8))
 | 0 => ⟨fun _ r h => by simp [bellmanref12_lost.f] at h, fun _ _ _ r h => by simp [bellmanref12_lost.l0] at h, fun _ _ _ _ _ _ _ _ _ r h => by simp [bellmanref12_lost.j1] at h⟩
 | k + 1 => by
  obtain ⟨ih0, ih1, ih2⟩ := bellmanref12_lost.mono_l k
  refine ⟨?_, ?_, ?_⟩
  ·intro y0
   unfold bellmanref12_lost.f
   repeat' first
   | (with_reducible exact ih0 _)
   | (with_reducible exact ih1 _ _ _)
   | (with_reducible exact ih2 _ _ _ _ _ _ _ _ _)
   | (with_reducible exact LeO.refl _)
   | (with_reducible exact LeO.none _)
   | (with_reducible refine LeO.ite ?_ ?_)
   | (with_reducible refine LeO.bind ?_ (fun _ => ?_))
   | exact ih0 _
   | exact ih1 _ _ _
   | exact ih2 _ _ _ _ _ _ _ _ _
   | exact LeO.none _
   | refine LeO.ite ?_ ?_
   | refine LeO.bind ?_ (fun _ => ?_)
  ·intro y0 y1 y2
   unfold bellmanref12_lost.l0
   repeat' first
   | (with_reducible exact ih0 _)
   | (with_reducible exact ih1 _ _ _)
   | (with_reducible exact ih2 _ _ _ _ _ _ _ _ _)
   | (with_reducible exact LeO.refl _)
   | (with_reducible exact LeO.none _)
   | (with_reducible refine LeO.ite ?_ ?_)
   | (with_reducible refine LeO.bind ?_ (fun _ => ?_))
   | exact ih0 _
   | exact ih1 _ _ _
   | exact ih2 _ _ _ _ _ _ _ _ _
   | exact LeO.none _
   | refine LeO.ite ?_ ?_
   | refine LeO.bind ?_ (fun _ => ?_)
  ·intro y0 y1 y2 y3 y4 y5 y6 y7 y8
   unfold bellmanref12_lost.j1
   repeat' first
   | (with_reducible exact ih0 _)
   | (with_reducible exact ih1 _ _ _)
   | (with_reducible exact ih2 _ _ _ _ _ _ _ _ _)
   | (with_reducible exact LeO.refl _)
   | (with_reducible exact LeO.none _)
   | (with_reducible refine LeO.ite ?_ ?_)
   | (with_reducible refine LeO.bind ?_ (fun _ => ?_))
   | exact ih0 _
   | exact ih1 _ _ _
   | exact ih2 _ _ _ _ _ _ _ _ _
   | exact LeO.none _
   | refine LeO.ite ?_ ?_
   | refine LeO.bind ?_ (fun _ => ?_)
def bellmanref01_SameTexts.l0 : Nat → List ByteArray → List ByteArray → Int → Int → Option (Bool)
 | 0, _, _, _, _ => none
 | k + 1, x0, x1, x12, x13 => if x13 < x12 then (if 0 ≤ x13 then (if x13 < (x0.length : Int) then (if x13 < (x1.length : Int) then (if (rdOf ByteArray.empty x0 x13).toList = (rdOf ByteArray.empty x1 x13).toList then (bellmanref01_SameTexts.l0 k x0 x1 x12 (wrap64 (x13 + 1))) else (some false)) else (none)) else (none)) else (none)) else (some true)
def bellmanref01_SameTexts.f (k : Nat) (l0 : List ByteArray) (l1 : List ByteArray) : Option (Bool) := if (l0.length : Int) = (l1.length : Int) then (bellmanref01_SameTexts.l0 k l0 l1 (l0.length : Int) 0) else (some false)
theorem bellmanref01_SameTexts.mono_l : ∀ k, (∀ y0 y1 y2 y3, LeO (bellmanref01_SameTexts.l0 k y0 y1 y2 y3) (bellmanref01_SameTexts.l0 (k + 1) y0 y1 y2 y3))
 | 0 => fun _ _ _ _ r h => by simp [bellmanref01_SameTexts.l0] at h
 | k + 1 => by
  have ih0 := bellmanref01_SameTexts.mono_l k
  ·intro y0 y1 y2 y3
   unfold bellmanref01_SameTexts.l0
   repeat' first
   | (with_reducible exact ih0 _ _ _ _)
   | (with_reducible exact LeO.refl _)
   | (with_reducible exact LeO.none _)
   | (with_reducible refine LeO.ite ?_ ?_)
   | (with_reducible refine LeO.bind ?_ (fun _ => ?_))
   | exact ih0 _ _ _ _
   | exact LeO.none _
   | refine LeO.ite ?_ ?_
   | refine LeO.bind ?_ (fun _ => ?_)
theorem bellmanref01_SameTexts.mono : ∀ a0 a1 k, LeO (bellmanref01_SameTexts.f k a0 a1) (bellmanref01_SameTexts.f (k + 1) a0 a1) := by
 intro a0 a1 k
 have ih0 := bellmanref01_SameTexts.mono_l k
 unfold bellmanref01_SameTexts.f
 repeat' first
   | (with_reducible exact ih0 _ _ _ _)
   | (with_reducible exact LeO.refl _)
   | (with_reducible exact LeO.none _)
   | (with_reducible refine LeO.ite ?_ ?_)
   | (with_reducible refine LeO.bind ?_ (fun _ => ?_))
   | exact ih0 _ _ _ _
   | exact LeO.none _
   | refine LeO.ite ?_ ?_
   | refine LeO.bind ?_ (fun _ => ?_)
set_option maxHeartbeats 8000000 in
set_option maxRecDepth 100000 in
theorem bellmanref01_SameTexts.calls (k : Nat) (A0 : Option Addr) (c0 : Nat) (l0 : List ByteArray) (A1 : Option Addr) (c1 : Nat) (l1 : List ByteArray) (r : Bool) (w : World) (hr0 : Kd.C Kd.string w A0 l0.length l0) (hc0 : l0.length ≤ c0) (hr1 : Kd.C Kd.string w A1 l1.length l1) (hc1 : l1.length ≤ c1) (h : bellmanref01_SameTexts.f k l0 l1 = some r) :
  Calls Tryz.prog 21 #[.slice A0 l0.length c0, .slice A1 l1.length c1] w fun e w' => e = .returned (.bool r) ∧ Drawn0 w w' := by
 have HR0 := Aside0.mk hr0
 have HC0 := Aside0.mk hc0
 clear hr0 hc0
 have HR1 := Aside0.mk hr1
 have HC1 := Aside0.mk hc1
 clear hr1 hc1
 have H : (if (l0.length : Int) = (l1.length : Int) then (bellmanref01_SameTexts.l0 k l0 l1 (l0.length : Int) 0) else (some false)) = some r := h
 clear h
 by_cases c3 : (l0.length : Int) = (l1.length : Int)
 ·rw [if_pos c3] at H
  have c3b0 : ((l0.length : Int) == (l1.length : Int)) = true := beq_iff_eq.mpr c3
  have c3b1 : ((l0.length : Int) != (l1.length : Int)) = false := bne_eq_false_iff_eq.mpr c3
  have c3b2 : (l0.length == l1.length) = true := by first | simpa using c3 | (simp at c3 ⊢; omega)
  clear c3
  have H' := Aside0.mk H
  clear H
  go_enter Tryz.func21, Tryz.ntmps21
  go_wp2
  repeat (go_quiet (fail); try go_wp2)
  go_loopg [13] k (fun kq v13 w' => ∃ (x13_1 : Int), v13 = .int .i64 x13_1 ∧ Aside0 (bellmanref01_SameTexts.l0 kq l0 l1 (l0.length : Int) x13_1 = some r) ∧ Aside0 (kq ≤ k) ∧ Drawn0 w w')
  case atStart => exact ⟨(0), (by first | rfl | (simp; done) | (simp [*]; done)), H', ⟨Nat.le_refl _⟩, by repeat (first | exact Drawn0.refl _ | apply Drawn0.step)⟩
  case round =>
   clear H'
   try clear c1
   try clear c2
   try clear p2
   try clear c3
   try clear c3b0
   try clear c3b1
   try clear c3b2
   obtain ⟨x13_1, rfl, HA, HK1, ⟨m1, rfl⟩⟩ := hrel
   cases gk with
   | zero => exact absurd HA.out (by simp [bellmanref01_SameTexts.l0])
   | succ k1 =>
    have H := HA.out
    clear HA
    simp only [bellmanref01_SameTexts.l0] at H
    by_cases c4 : x13_1 < (l0.length : Int)
    ·rw [if_pos c4] at H
     have c4b0 : decide (x13_1 < (l0.length : Int)) = true := decide_eq_true c4
     clear c4
     by_cases c5 : 0 ≤ x13_1
     ·rw [if_pos c5] at H
      have c5b0 : decide (0 ≤ x13_1) = true := decide_eq_true c5
      clear c5
      by_cases c6 : x13_1 < (l0.length : Int)
      ·rw [if_pos c6] at H
       have c6b0 : decide (x13_1 < (l0.length : Int)) = true := decide_eq_true c6
       clear c6
       by_cases c7 : x13_1 < (l1.length : Int)
       ·rw [if_pos c7] at H
        have c7b0 : decide (x13_1 < (l1.length : Int)) = true := decide_eq_true c7
        clear c7
        by_cases c8 : (rdOf ByteArray.empty l0 x13_1).toList = (rdOf ByteArray.empty l1 x13_1).toList
        ·rw [if_pos c8] at H
         have c8b0 : ((rdOf ByteArray.empty l0 x13_1).toList == (rdOf ByteArray.empty l1 x13_1).toList) = true := beq_iff_eq.mpr c8
         have c8b1 : ((rdOf ByteArray.empty l0 x13_1).toList != (rdOf ByteArray.empty l1 x13_1).toList) = false := bne_eq_false_iff_eq.mpr c8
         clear c8
         have H' := Aside0.mk H
         clear H
         have p165 : 0 ≤ (x13_1 : Int) := of_decide_eq_true (by first | (with_reducible assumption) | assumption)
         have q165 : x13_1 < (l0.length : Int) := of_decide_eq_true (by first | (with_reducible assumption) | assumption)
         obtain ⟨ad165, e165, hx165_0⟩ := Kd.at_string HR0.out x13_1 p165 q165
         cases e165
         replace p165 := eq_true p165
         replace q165 := eq_true q165
         have p166 : 0 ≤ (x13_1 : Int) := of_decide_eq_true (by first | (with_reducible assumption) | assumption)
         have q166 : x13_1 < (l1.length : Int) := of_decide_eq_true (by first | (with_reducible assumption) | assumption)
         obtain ⟨ad166, e166, hx166_0⟩ := Kd.at_string HR1.out x13_1 p166 q166
         cases e166
         replace p166 := eq_true p166
         replace q166 := eq_true q166
         go_wp2
         repeat (go_quiet (fail); try go_wp2)
         go_roundg k1
         case measure => have := HK1.out; omega
         case rel => exact ⟨(wrap64 (x13_1 + 1)), (by first | rfl | (simp; done) | (simp [*]; done)), H', ⟨by have := HK1.out; omega⟩, by repeat (first | exact Drawn0.refl _ | apply Drawn0.step)⟩
        ·rw [if_neg c8] at H
         have c8b0 : ((rdOf ByteArray.empty l0 x13_1).toList == (rdOf ByteArray.empty l1 x13_1).toList) = false := beq_eq_false_iff_ne.mpr c8
         have c8b1 : ((rdOf ByteArray.empty l0 x13_1).toList != (rdOf ByteArray.empty l1 x13_1).toList) = true := bne_iff_ne.mpr c8
         obtain rfl := Option.some.inj H
         have p165 : 0 ≤ (x13_1 : Int) := of_decide_eq_true (by first | (with_reducible assumption) | assumption)
         have q165 : x13_1 < (l0.length : Int) := of_decide_eq_true (by first | (with_reducible assumption) | assumption)
         obtain ⟨ad165, e165, hx165_0⟩ := Kd.at_string HR0.out x13_1 p165 q165
         cases e165
         replace p165 := eq_true p165
         replace q165 := eq_true q165
         have p166 : 0 ≤ (x13_1 : Int) := of_decide_eq_true (by first | (with_reducible assumption) | assumption)
         have q166 : x13_1 < (l1.length : Int) := of_decide_eq_true (by first | (with_reducible assumption) | assumption)
         obtain ⟨ad166, e166, hx166_0⟩ := Kd.at_string HR1.out x13_1 p166 q166
         cases e166
         replace p166 := eq_true p166
         replace q166 := eq_true q166
         go_wp2
         repeat (go_quiet (fail); try go_wp2)
         go_ret
         exact ⟨by first | rfl | (simp; done) | (simp [*]; done), by repeat (first | exact Drawn0.refl _ | apply Drawn0.step)⟩
       ·rw [if_neg c7] at H
        exact absurd H (by simp)
      ·rw [if_neg c6] at H
       exact absurd H (by simp)
     ·rw [if_neg c5] at H
      exact absurd H (by simp)
    ·rw [if_neg c4] at H
     have c4b0 : decide (x13_1 < (l0.length : Int)) = false := decide_eq_false c4
     clear c4
     obtain rfl := Option.some.inj H
     go_wp2
     repeat (go_quiet (fail); try go_wp2)
     go_ret
     exact ⟨by first | rfl | (simp; done) | (simp [*]; done), by repeat (first | exact Drawn0.refl _ | apply Drawn0.step)⟩
 ·rw [if_neg c3] at H
  have c3b0 : ((l0.length : Int) == (l1.length : Int)) = false := beq_eq_false_iff_ne.mpr c3
  have c3b1 : ((l0.length : Int) != (l1.length : Int)) = true := bne_iff_ne.mpr c3
  have c3b2 : (l0.length == l1.length) = false := by first | simpa using c3 | (simp at c3 ⊢; omega)
  obtain rfl := Option.some.inj H
  go_enter Tryz.func21, Tryz.ntmps21
  go_wp2
  repeat (go_quiet (fail); try go_wp2)
  go_ret
  exact ⟨by first | rfl | (simp; done) | (simp [*]; done), by repeat (first | exact Drawn0.refl _ | apply Drawn0.step)⟩
def IsS141 (w0 W : World) (g : Nat) (f0 : List (S101)) : Prop := ∃ A0 c0, W.heap[g]? = some (.cells #[.slice A0 f0.length c0] 141 (0, 0)) ∧ w0.heap.size ≤ g ∧ Kd.C k101 w0 A0 f0.length f0
theorem IsS141.grown {w0 W : World} {g : Nat} {f0 : List (S101)} {W1 : World} {row : Option Nat} (h : IsS141 w0 W g f0) (hw : W.grownBy W1 row) (hne : some g ≠ row) : IsS141 w0 W1 g f0 := by
 obtain ⟨A0, c0, hb, hg, hr0⟩ := h
 exact ⟨A0, c0, blk_grown hb hw hne, hg, hr0⟩
theorem IsS141.fresh {w0 W : World} {g : Nat} {f0 : List (S101)} (h : IsS141 w0 W g f0) : ∀ k, W.heap.size ≤ k → k ≠ g := by
 obtain ⟨A0, c0, hb, hg, hr0⟩ := h
 exact Kd.freshB hb
theorem IsS141.kept {w0 W : World} {g : Nat} {f0 : List (S101)} {W1 : World} {S : Nat → Prop} (h : IsS141 w0 W g f0) (hk : Kept W W1 S) (hne : ¬ S g) : IsS141 w0 W1 g f0 := by
 obtain ⟨A0, c0, hb, hg, hr0⟩ := h
 exact ⟨A0, c0, blk_kept hb hk hne, hg, hr0⟩
theorem IsS141.below {w0 W : World} {g : Nat} {f0 : List (S101)} {W1 : World} (h : IsS141 w0 W g f0) (hw : Below W.heap.size W W1) : IsS141 w0 W1 g f0 := h.grown (grown_of_below hw none) (by simp)
theorem IsS141.alloc {w0 W : World} {g : Nat} {f0 : List (S101)} (h : IsS141 w0 W g f0) (o : Obj) : IsS141 w0 (W.alloc o) g f0 := h.below (below_alloc (Below.refl _ _) o)
theorem IsS141.drewN {w0 W : World} {g : Nat} {f0 : List (S101)} (h : IsS141 w0 W g f0) (m : Nat) : IsS141 w0 (W.drewN m) g f0 := h
theorem IsS141.drew {w0 W : World} {g : Nat} {f0 : List (S101)} (h : IsS141 w0 W g f0) : IsS141 w0 W.drew g f0 := h
theorem IsS141.at_ {w0 W : World} {g : Nat} {f0 : List (S101)} {w' : World} {m : Nat} (hq : W.drewN m = w') (h : IsS141 w0 W g f0) : IsS141 w0 w' g f0 := by subst hq; exact IsS141.drewN h m
theorem IsS141.apart {w0 W : World} {g : Nat} {f0 : List (S101)} {α : Type} {d : Kd α} {e : Nat} {base : Nat} {ok : Nat → Prop} {v : Value} {xs : List α} (h : IsS141 w0 W g f0) (ho : d.R e W base ok v xs) (ht : ∀ q, q ∈ e :: d.E → q ≠ 141) : d.R e W base (fun k => ok k ∧ k ≠ g) v xs := by
 obtain ⟨A0, c0, hb, hg, hr0⟩ := h
 exact Kd.R_types ho hb ht
theorem IsS141.own_ne {w0 W : World} {g : Nat} {f0 : List (S101)} {α : Type} {d : Kd α} {e : Nat} {base : Nat} {ok : Nat → Prop} {v : Value} {xs : List α} (h : IsS141 w0 W g f0) (ho : d.R e W base ok v xs) (ht : e ≠ 141) : some g ≠ v.ownBlock := by
 obtain ⟨A0, c0, hb, hg, hr0⟩ := h
 exact Kd.R_ne ho hb ht
theorem IsS141.lt {w0 W : World} {g : Nat} {f0 : List (S101)} (h : IsS141 w0 W g f0) : g < W.heap.size := by
 obtain ⟨A0, c0, hb, hg, hr0⟩ := h
 exact blk_lt hb
theorem IsS141.ge {w0 W : World} {g : Nat} {f0 : List (S101)} (h : IsS141 w0 W g f0) : w0.heap.size ≤ g := by
 obtain ⟨A0, c0, hb, hg, hr0⟩ := h
 exact hg
end Go.Proofs.YtniibpndgcndbaaGreatDoor.PB
namespace Go.Proofs.YtniibpndgcndbaaGreatDoor.PB
open Go.RowKit Go.Proofs.YtniibpndgcndbaaGreatDoorW.PrintWords Go.Proofs.YtniibpndgcndbaaGreatDoorW.PrintLast Go.Proofs.YtniibpndgcndbaaGreatDoorW.PrintMore Go.Proofs.YtniibpndgcndbaaGreatDoor.Short
attribute [local go_sem] max2_int min2_int max_two min_two max_three min_three max_four min_four   -- for this text's walks alone
set_option linter.unusedVariables false
set_option linter.unusedSimpArgs false
mutual
def bellmanref09_Same.j0 : Nat → Bool → Int → ByteArray → Int → List (S43) → List ByteArray → Int → ByteArray → Int → List (S43) → List ByteArray → Option (Bool)
 | 0, _, _, _, _, _, _, _, _, _, _, _ => none
 | k + 1, x41, x278000, x278001, x278002, x278003, x278004, x279000, x279001, x279002, x279003, x279004 => if x41 = true then (some false) else (bellmanref09_Same.l0 k (x278003.length : Int) 0 x278000 x278001 x278002 x278003 x278004 x279000 x279001 x279002 x279003 x279004)
def bellmanref09_Same.l0 : Nat → Int → Int → Int → ByteArray → Int → List (S43) → List ByteArray → Int → ByteArray → Int → List (S43) → List ByteArray → Option (Bool)
 | 0, _, _, _, _, _, _, _, _, _, _, _, _ => none
 | k + 1, x44, x45, x278000, x278001, x278002, x278003, x278004, x279000, x279001, x279002, x279003, x279004 => if x45 < x44 then (if 0 ≤ x45 then (if x45 < (x278003.length : Int) then (if x45 < (x279003.length : Int) then ((bellmanref09_Same.f k ((rd_T43 x278003 x45).f0) ((rd_T43 x278003 x45).f1) ((rd_T43 x278003 x45).f2) ((rd_T43 x278003 x45).f3) ((rd_T43 x278003 x45).f4) ((rd_T43 x279003 x45).f0) ((rd_T43 x279003 x45).f1) ((rd_T43 x279003 x45).f2) ((rd_T43 x279003 x45).f3) ((rd_T43 x279003 x45).f4)).bind fun t282 => (if t282 = true then (bellmanref09_Same.l0 k x44 (wrap64 (x45 + 1)) x278000 x278001 x278002 x278003 x278004 x279000 x279001 x279002 x279003 x279004) else (some false))) else (none)) else (none)) else (none)) else (some true)
def bellmanref09_Same.f : Nat → Int → ByteArray → Int → List (S43) → List ByteArray → Int → ByteArray → Int → List (S43) → List ByteArray → Option (Bool)
 | 0, _, _, _, _, _, _, _, _, _, _ => none
 | k + 1, a0_0, a0_1, a0_2, l0_3, l0_4, a1_0, a1_1, a1_2, l1_3, l1_4 => if a0_0 = a1_0 then (if a0_1.toList = a1_1.toList then (if a0_2 = a1_2 then (if (l0_3.length : Int) = (l1_3.length : Int) then ((bellmanref01_SameTexts.f k l0_4 l1_4).bind fun t279 => (bellmanref09_Same.j0 k (!t279) a0_0 a0_1 a0_2 l0_3 l0_4 a1_0 a1_1 a1_2 l1_3 l1_4)) else (bellmanref09_Same.j0 k true a0_0 a0_1 a0_2 l0_3 l0_4 a1_0 a1_1 a1_2 l1_3 l1_4)) else (bellmanref09_Same.j0 k true a0_0 a0_1 a0_2 l0_3 l0_4 a1_0 a1_1 a1_2 l1_3 l1_4)) else (bellmanref09_Same.j0 k true a0_0 a0_1 a0_2 l0_3 l0_4 a1_0 a1_1 a1_2 l1_3 l1_4)) else (bellmanref09_Same.j0 k true a0_0 a0_1 a0_2 l0_3 l0_4 a1_0 a1_1 a1_2 l1_3 l1_4)
end
def bellmanref09_Same.T6 : Bool × List (List Nat × List Nat) := (true, [([], []), ([0], [0]), ([], []), ([1, 2], [1, 2]), ([3], [3]), ([], []), ([5], [5]), ([], []), ([6, 7], [6, 7]), ([8], [8]), ([4, 9], [4, 9]), ([10], [10])])
def bellmanref09_Same.B6 : List Nat := [0, 1, 0, 7, 15, 0, 32, 0, 224, 480, 1023, 2047]
theorem bellmanref09_Same.tab6 : rtab .any (opsOf Tryz.f33 6) = bellmanref09_Same.T6 := by kernel_rfl
theorem bellmanref09_Same.bits6 : waitsOk bellmanref09_Same.T6.2 bellmanref09_Same.B6 = true := by kernel_rfl
set_option maxHeartbeats 8000000 in
set_option maxRecDepth 100000 in
theorem bellmanref09_Same.calls (k : Nat) : ∀ (a0_0 : Int) (a0_1 : ByteArray) (a0_2 : Int) (A0_3 : Option Addr) (c0_3 : Nat) (l0_3 : List (S43)) (A0_4 : Option Addr) (c0_4 : Nat) (l0_4 : List ByteArray) (a1_0 : Int) (a1_1 : ByteArray) (a1_2 : Int) (A1_3 : Option Addr) (c1_3 : Nat) (l1_3 : List (S43)) (A1_4 : Option Addr) (c1_4 : Nat) (l1_4 : List ByteArray) (r : Bool) (w : World) (hr0_3 : Kd.C k43 w A0_3 l0_3.length l0_3) (hc0_3 : l0_3.length ≤ c0_3) (hr0_4 : Kd.C Kd.string w A0_4 l0_4.length l0_4) (hc0_4 : l0_4.length ≤ c0_4) (hr1_3 : Kd.C k43 w A1_3 l1_3.length l1_3) (hc1_3 : l1_3.length ≤ c1_3) (hr1_4 : Kd.C Kd.string w A1_4 l1_4.length l1_4) (hc1_4 : l1_4.length ≤ c1_4) (h : bellmanref09_Same.f k a0_0 a0_1 a0_2 l0_3 l0_4 a1_0 a1_1 a1_2 l1_3 l1_4 = some r),
  Calls Tryz.prog 33 #[.agg #[.int .u8 a0_0, .string a0_1, .int .i64 a0_2, .slice A0_3 l0_3.length c0_3, .slice A0_4 l0_4.length c0_4], .agg #[.int .u8 a1_0, .string a1_1, .int .i64 a1_2, .slice A1_3 l1_3.length c1_3, .slice A1_4 l1_4.length c1_4]] w fun e w' => e = .returned (.bool r) ∧ Below w.heap.size w w' := by
 induction k using Nat.strongRecOn with
 | _ k ih =>
 intro a0_0 a0_1 a0_2 A0_3 c0_3 l0_3 A0_4 c0_4 l0_4 a1_0 a1_1 a1_2 A1_3 c1_3 l1_3 A1_4 c1_4 l1_4 r w hr0_3 hc0_3 hr0_4 hc0_4 hr1_3 hc1_3 hr1_4 hc1_4 h
 cases k with
 | zero => exact absurd h (by simp [bellmanref09_Same.f])
 | succ k =>
 simp only [bellmanref09_Same.f] at h
 have hu43 := Tryz.underlying43
 have HR0_3 := Aside0.mk hr0_3
 have HC0_3 := Aside0.mk hc0_3
 clear hr0_3 hc0_3
 have HR0_4 := Aside0.mk hr0_4
 have HC0_4 := Aside0.mk hc0_4
 clear hr0_4 hc0_4
 have HR1_3 := Aside0.mk hr1_3
 have HC1_3 := Aside0.mk hc1_3
 clear hr1_3 hc1_3
 have HR1_4 := Aside0.mk hr1_4
 have HC1_4 := Aside0.mk hc1_4
 clear hr1_4 hc1_4
 have HB := Aside0.mk (Below.refl w.heap.size w)
 have H : (if a0_0 = a1_0 then (if a0_1.toList = a1_1.toList then (if a0_2 = a1_2 then (if (l0_3.length : Int) = (l1_3.length : Int) then ((bellmanref01_SameTexts.f k l0_4 l1_4).bind fun t279 => (bellmanref09_Same.j0 k (!t279) a0_0 a0_1 a0_2 l0_3 l0_4 a1_0 a1_1 a1_2 l1_3 l1_4)) else (bellmanref09_Same.j0 k true a0_0 a0_1 a0_2 l0_3 l0_4 a1_0 a1_1 a1_2 l1_3 l1_4)) else (bellmanref09_Same.j0 k true a0_0 a0_1 a0_2 l0_3 l0_4 a1_0 a1_1 a1_2 l1_3 l1_4)) else (bellmanref09_Same.j0 k true a0_0 a0_1 a0_2 l0_3 l0_4 a1_0 a1_1 a1_2 l1_3 l1_4)) else (bellmanref09_Same.j0 k true a0_0 a0_1 a0_2 l0_3 l0_4 a1_0 a1_1 a1_2 l1_3 l1_4)) = some r := h
 clear h
 have HC3 := Aside0.mk H
 clear H
 go_enter Tryz.func33, Tryz.ntmps33
 go_upto_region 1 with (first | ((with_reducible refine gate_dst (N := 2) rfl ?_); (try (refine gate_guard (by rfl) ?_; dsimp only)); refine box_event ?hg (N := 2) ?hd (cs := #[.int .u8 a0_0, .string a0_1, .int .i64 a0_2, .slice A0_3 l0_3.length c0_3, .slice A0_4 l0_4.length c0_4]) (t := 43) ?hr ?_; (case hd => rfl); (case hg => rfl); (case hr => first | (go_simp; done) | (go_simp; rfl)); intro gb277 hg w4 hbox hb; have n0_ := Aside0.mk (below_step (belS HB.out) hb); have n1_ := Aside0.mk (hbox); have n2_ := Aside0.mk ((by rw [hg]; exact (below_size (belS HB.out)) : w.heap.size ≤ gb277)); have n3_ := Aside0.mk ((by rw [hg]; exact (below_size (belS HB.out)) : w.heap.size ≤ gb277)); clear HB; have HB := n0_; have BK277 := n1_; have GW277 := n2_; have GE277 := n3_; clear n0_ n1_ n2_ n3_; clear hb hbox hg) | ((with_reducible refine gate_dst (N := 3) rfl ?_); (try (refine gate_guard (by rfl) ?_; dsimp only)); refine box_event ?hg (N := 3) ?hd (cs := #[.int .u8 a1_0, .string a1_1, .int .i64 a1_2, .slice A1_3 l1_3.length c1_3, .slice A1_4 l1_4.length c1_4]) (t := 43) ?hr ?_; (case hd => rfl); (case hg => rfl); (case hr => first | (go_simp; done) | (go_simp; rfl)); intro gb278 hg w5 hbox hb; have n0_ := Aside0.mk (blk_below (g := gb277) (o := .cells #[.int .u8 a0_0, .string a0_1, .int .i64 a0_2, .slice A0_3 l0_3.length c0_3, .slice A0_4 l0_4.length c0_4] 43 (0, 0)) (blkS BK277.out) hb); have n1_ := Aside0.mk (below_step (by repeat (first | (with_reducible first | exact HB.out | apply below_alloc | apply pw_below_drewN | apply below_drew1 | refine below_set ?_ GE277.out) | exact HB.out)) hb); have n2_ := Aside0.mk (hbox); have n3_ := Aside0.mk ((by rw [hg]; exact (below_size (by repeat (first | (with_reducible first | exact HB.out | apply below_alloc | apply pw_below_drewN | apply below_drew1 | refine below_set ?_ GE277.out) | exact HB.out))) : w.heap.size ≤ gb278)); have n4_ := Aside0.mk ((by rw [hg]; exact (below_size (by repeat (first | (with_reducible first | exact HB.out | apply below_alloc | apply pw_below_drewN | apply below_drew1 | refine below_set ?_ GE277.out) | exact HB.out))) : w.heap.size ≤ gb278)); have n5_ := Aside0.mk ((by rw [hg]; exact Nat.ne_of_lt (blk_lt (g := gb277) (o := .cells #[.int .u8 a0_0, .string a0_1, .int .i64 a0_2, .slice A0_3 l0_3.length c0_3, .slice A0_4 l0_4.length c0_4] 43 (0, 0)) (blkS BK277.out)) : gb277 ≠ gb278)); have n6_ := Aside0.mk ((by rw [hg]; exact Nat.ne_of_gt (blk_lt (g := gb277) (o := .cells #[.int .u8 a0_0, .string a0_1, .int .i64 a0_2, .slice A0_3 l0_3.length c0_3, .slice A0_4 l0_4.length c0_4] 43 (0, 0)) (blkS BK277.out)) : gb278 ≠ gb277)); clear BK277; clear HB; have BK277 := n0_; have HB := n1_; have BK278 := n2_; have GW278 := n3_; have GE278 := n4_; have NB277_278 := n5_; have NB278_277 := n6_; clear n0_ n1_ n2_ n3_ n4_ n5_ n6_; clear hb hbox hg))
 (try simp only [Act.put, List.setIfInBounds_toArray, List.set_cons_zero, List.set_cons_succ])
 go_cut [41] (fun v41 wc => ∃ (kq : Nat) (x41_2 : Bool), v41 = .bool x41_2 ∧ Aside0 (bellmanref09_Same.j0 kq x41_2 a0_0 a0_1 a0_2 l0_3 l0_4 a1_0 a1_1 a1_2 l1_3 l1_4 = some r) ∧ Aside0 (kq ≤ k) ∧ Aside0 (wc.heap[gb277]? = some (.cells #[.int .u8 a0_0, .string a0_1, .int .i64 a0_2, (.slice A0_3 l0_3.length c0_3), (.slice A0_4 l0_4.length c0_4)] 43 (0, 0))) ∧ Aside0 (wc.heap[gb278]? = some (.cells #[.int .u8 a1_0, .string a1_1, .int .i64 a1_2, (.slice A1_3 l1_3.length c1_3), (.slice A1_4 l1_4.length c1_4)] 43 (0, 0))) ∧ Aside0 (Below w.heap.size w wc))
 case first =>
  have H := HC3.out
  clear HC3
  by_cases c6 : a0_0 = a1_0
  ·rw [if_pos c6] at H
   have c6b0 : (a0_0 == a1_0) = true := beq_iff_eq.mpr c6
   have c6b1 : (a0_0 != a1_0) = false := bne_eq_false_iff_eq.mpr c6
   clear c6
   (first | rw [c6b0] | (simp only [i64_w, i32_w]; rw [c6b0]) | skip)
   by_cases c7 : a0_1.toList = a1_1.toList
   ·rw [if_pos c7] at H
    have c7b0 : (a0_1.toList == a1_1.toList) = true := beq_iff_eq.mpr c7
    have c7b1 : (a0_1.toList != a1_1.toList) = false := bne_eq_false_iff_eq.mpr c7
    clear c7
    by_cases c8 : a0_2 = a1_2
    ·rw [if_pos c8] at H
     have c8b0 : (a0_2 == a1_2) = true := beq_iff_eq.mpr c8
     have c8b1 : (a0_2 != a1_2) = false := bne_eq_false_iff_eq.mpr c8
     clear c8
     by_cases c9 : (l0_3.length : Int) = (l1_3.length : Int)
     ·rw [if_pos c9] at H
      have c9b0 : ((l0_3.length : Int) == (l1_3.length : Int)) = true := beq_iff_eq.mpr c9
      have c9b1 : ((l0_3.length : Int) != (l1_3.length : Int)) = false := bne_eq_false_iff_eq.mpr c9
      have c9b2 : (l0_3.length == l1_3.length) = true := by first | simpa using c9 | (simp at c9 ⊢; omega)
      clear c9
      replace H := Option.bind_eq_some_iff.mp H
      obtain ⟨t279, A100, H⟩ := H
      replace H : (bellmanref09_Same.j0 k (!t279) a0_0 a0_1 a0_2 l0_3 l0_4 a1_0 a1_1 a1_2 l1_3 l1_4) = some r := H
      have A10 := Aside0.mk A100
      clear A100
      have H' := Aside0.mk H
      clear H
      have hnb11 := NB277_278.out
      have hnc11 := NB278_277.out
      have hcz12_0 : w5.cell? ⟨gb277, 0, none⟩ = some (.int .u8 a0_0) := (blk_cell BK277.out 0).trans rfl
      have hcz12_1 : w5.cell? ⟨gb277, 1, none⟩ = some (.string a0_1) := (blk_cell BK277.out 1).trans rfl
      have hcz12_2 : w5.cell? ⟨gb277, 2, none⟩ = some (.int .i64 a0_2) := (blk_cell BK277.out 2).trans rfl
      have hcz12_3 : w5.cell? ⟨gb277, 3, none⟩ = some (.slice A0_3 l0_3.length c0_3) := (blk_cell BK277.out 3).trans rfl
      have hcz12_4 : w5.cell? ⟨gb277, 4, none⟩ = some (.slice A0_4 l0_4.length c0_4) := (blk_cell BK277.out 4).trans rfl
      have hfz12_0 := blk_frozen BK277.out 0
      have hfz12_1 := blk_frozen BK277.out 1
      have hfz12_2 := blk_frozen BK277.out 2
      have hfz12_3 := blk_frozen BK277.out 3
      have hfz12_4 := blk_frozen BK277.out 4
      have hcz13_0 : w5.cell? ⟨gb278, 0, none⟩ = some (.int .u8 a1_0) := (blk_cell BK278.out 0).trans rfl
      have hcz13_1 : w5.cell? ⟨gb278, 1, none⟩ = some (.string a1_1) := (blk_cell BK278.out 1).trans rfl
      have hcz13_2 : w5.cell? ⟨gb278, 2, none⟩ = some (.int .i64 a1_2) := (blk_cell BK278.out 2).trans rfl
      have hcz13_3 : w5.cell? ⟨gb278, 3, none⟩ = some (.slice A1_3 l1_3.length c1_3) := (blk_cell BK278.out 3).trans rfl
      have hcz13_4 : w5.cell? ⟨gb278, 4, none⟩ = some (.slice A1_4 l1_4.length c1_4) := (blk_cell BK278.out 4).trans rfl
      have hfz13_0 := blk_frozen BK278.out 0
      have hfz13_1 := blk_frozen BK278.out 1
      have hfz13_2 := blk_frozen BK278.out 2
      have hfz13_3 := blk_frozen BK278.out 3
      have hfz13_4 := blk_frozen BK278.out 4
      go_wp2_with (first | (go_at_call 21; (with_reducible refine (bellmanref01_SameTexts.calls k _ _ l0_4 _ _ l1_4 t279 _ ?side1 ?side2 ?side3 ?side4 A10.out).mono ?_); (case side1 => repeat (first | exact (Kd.C_below HR0_4.out HB.out) | (with_reducible refine Kd.C_alloc ?_ _) | (with_reducible refine Kd.C_drewN ?_ _) | (with_reducible refine Kd.C_drew ?_))); (case side2 => exact HC0_4.out); (case side3 => repeat (first | exact (Kd.C_below HR1_4.out HB.out) | (with_reducible refine Kd.C_alloc ?_ _) | (with_reducible refine Kd.C_drewN ?_ _) | (with_reducible refine Kd.C_drew ?_))); (case side4 => exact HC1_4.out); rintro e w' ⟨rfl, ⟨nd, rfl⟩⟩))
      go_meet
      case rel => exact ⟨_, (!t279), (by first | rfl | (simp; done) | (simp [*]; done)), H', ⟨by first | omega | exact Nat.le_refl _⟩, ⟨by (with_reducible repeat (first | refine blk_drewN ?_ _ | refine blk_drew ?_ | refine blk_alloc ?_ _)); exact BK277.out⟩, ⟨by (with_reducible repeat (first | refine blk_drewN ?_ _ | refine blk_drew ?_ | refine blk_alloc ?_ _)); exact BK278.out⟩, ⟨by repeat (first | (with_reducible first | exact HB.out | apply below_alloc | apply pw_below_drewN | apply below_drew1 | refine below_set ?_ GE277.out | refine below_set ?_ GE278.out) | exact HB.out)⟩⟩
     ·rw [if_neg c9] at H
      have c9b0 : ((l0_3.length : Int) == (l1_3.length : Int)) = false := beq_eq_false_iff_ne.mpr c9
      have c9b1 : ((l0_3.length : Int) != (l1_3.length : Int)) = true := bne_iff_ne.mpr c9
      have c9b2 : (l0_3.length == l1_3.length) = false := by first | simpa using c9 | (simp at c9 ⊢; omega)
      have H' := Aside0.mk H
      clear H
      have hnb14 := NB277_278.out
      have hnc14 := NB278_277.out
      have hcz15_0 : w5.cell? ⟨gb277, 0, none⟩ = some (.int .u8 a0_0) := (blk_cell BK277.out 0).trans rfl
      have hcz15_1 : w5.cell? ⟨gb277, 1, none⟩ = some (.string a0_1) := (blk_cell BK277.out 1).trans rfl
      have hcz15_2 : w5.cell? ⟨gb277, 2, none⟩ = some (.int .i64 a0_2) := (blk_cell BK277.out 2).trans rfl
      have hcz15_3 : w5.cell? ⟨gb277, 3, none⟩ = some (.slice A0_3 l0_3.length c0_3) := (blk_cell BK277.out 3).trans rfl
      have hcz15_4 : w5.cell? ⟨gb277, 4, none⟩ = some (.slice A0_4 l0_4.length c0_4) := (blk_cell BK277.out 4).trans rfl
      have hfz15_0 := blk_frozen BK277.out 0
      have hfz15_1 := blk_frozen BK277.out 1
      have hfz15_2 := blk_frozen BK277.out 2
      have hfz15_3 := blk_frozen BK277.out 3
      have hfz15_4 := blk_frozen BK277.out 4
      have hcz16_0 : w5.cell? ⟨gb278, 0, none⟩ = some (.int .u8 a1_0) := (blk_cell BK278.out 0).trans rfl
      have hcz16_1 : w5.cell? ⟨gb278, 1, none⟩ = some (.string a1_1) := (blk_cell BK278.out 1).trans rfl
      have hcz16_2 : w5.cell? ⟨gb278, 2, none⟩ = some (.int .i64 a1_2) := (blk_cell BK278.out 2).trans rfl
      have hcz16_3 : w5.cell? ⟨gb278, 3, none⟩ = some (.slice A1_3 l1_3.length c1_3) := (blk_cell BK278.out 3).trans rfl
      have hcz16_4 : w5.cell? ⟨gb278, 4, none⟩ = some (.slice A1_4 l1_4.length c1_4) := (blk_cell BK278.out 4).trans rfl
      have hfz16_0 := blk_frozen BK278.out 0
      have hfz16_1 := blk_frozen BK278.out 1
      have hfz16_2 := blk_frozen BK278.out 2
      have hfz16_3 := blk_frozen BK278.out 3
      have hfz16_4 := blk_frozen BK278.out 4
      go_wp2
      go_meet
      case rel => exact ⟨_, (true), (by first | rfl | (simp; done) | (simp [*]; done)), H', ⟨by first | omega | exact Nat.le_refl _⟩, ⟨by (with_reducible repeat (first | refine blk_drewN ?_ _ | refine blk_drew ?_ | refine blk_alloc ?_ _)); exact BK277.out⟩, ⟨by (with_reducible repeat (first | refine blk_drewN ?_ _ | refine blk_drew ?_ | refine blk_alloc ?_ _)); exact BK278.out⟩, ⟨by repeat (first | (with_reducible first | exact HB.out | apply below_alloc | apply pw_below_drewN | apply below_drew1 | refine below_set ?_ GE277.out | refine below_set ?_ GE278.out) | exact HB.out)⟩⟩
    ·rw [if_neg c8] at H
     have c8b0 : (a0_2 == a1_2) = false := beq_eq_false_iff_ne.mpr c8
     have c8b1 : (a0_2 != a1_2) = true := bne_iff_ne.mpr c8
     have H' := Aside0.mk H
     clear H
     have hnb17 := NB277_278.out
     have hnc17 := NB278_277.out
     have hcz18_0 : w5.cell? ⟨gb277, 0, none⟩ = some (.int .u8 a0_0) := (blk_cell BK277.out 0).trans rfl
     have hcz18_1 : w5.cell? ⟨gb277, 1, none⟩ = some (.string a0_1) := (blk_cell BK277.out 1).trans rfl
     have hcz18_2 : w5.cell? ⟨gb277, 2, none⟩ = some (.int .i64 a0_2) := (blk_cell BK277.out 2).trans rfl
     have hcz18_3 : w5.cell? ⟨gb277, 3, none⟩ = some (.slice A0_3 l0_3.length c0_3) := (blk_cell BK277.out 3).trans rfl
     have hcz18_4 : w5.cell? ⟨gb277, 4, none⟩ = some (.slice A0_4 l0_4.length c0_4) := (blk_cell BK277.out 4).trans rfl
     have hfz18_0 := blk_frozen BK277.out 0
     have hfz18_1 := blk_frozen BK277.out 1
     have hfz18_2 := blk_frozen BK277.out 2
     have hfz18_3 := blk_frozen BK277.out 3
     have hfz18_4 := blk_frozen BK277.out 4
     have hcz19_0 : w5.cell? ⟨gb278, 0, none⟩ = some (.int .u8 a1_0) := (blk_cell BK278.out 0).trans rfl
     have hcz19_1 : w5.cell? ⟨gb278, 1, none⟩ = some (.string a1_1) := (blk_cell BK278.out 1).trans rfl
     have hcz19_2 : w5.cell? ⟨gb278, 2, none⟩ = some (.int .i64 a1_2) := (blk_cell BK278.out 2).trans rfl
     have hcz19_3 : w5.cell? ⟨gb278, 3, none⟩ = some (.slice A1_3 l1_3.length c1_3) := (blk_cell BK278.out 3).trans rfl
     have hcz19_4 : w5.cell? ⟨gb278, 4, none⟩ = some (.slice A1_4 l1_4.length c1_4) := (blk_cell BK278.out 4).trans rfl
     have hfz19_0 := blk_frozen BK278.out 0
     have hfz19_1 := blk_frozen BK278.out 1
     have hfz19_2 := blk_frozen BK278.out 2
     have hfz19_3 := blk_frozen BK278.out 3
     have hfz19_4 := blk_frozen BK278.out 4
     go_wp2
     go_meet
     case rel => exact ⟨_, (true), (by first | rfl | (simp; done) | (simp [*]; done)), H', ⟨by first | omega | exact Nat.le_refl _⟩, ⟨by (with_reducible repeat (first | refine blk_drewN ?_ _ | refine blk_drew ?_ | refine blk_alloc ?_ _)); exact BK277.out⟩, ⟨by (with_reducible repeat (first | refine blk_drewN ?_ _ | refine blk_drew ?_ | refine blk_alloc ?_ _)); exact BK278.out⟩, ⟨by repeat (first | (with_reducible first | exact HB.out | apply below_alloc | apply pw_below_drewN | apply below_drew1 | refine below_set ?_ GE277.out | refine below_set ?_ GE278.out) | exact HB.out)⟩⟩
   ·rw [if_neg c7] at H
    have c7b0 : (a0_1.toList == a1_1.toList) = false := beq_eq_false_iff_ne.mpr c7
    have c7b1 : (a0_1.toList != a1_1.toList) = true := bne_iff_ne.mpr c7
    have H' := Aside0.mk H
    clear H
    have hnb20 := NB277_278.out
    have hnc20 := NB278_277.out
    have hcz21_0 : w5.cell? ⟨gb277, 0, none⟩ = some (.int .u8 a0_0) := (blk_cell BK277.out 0).trans rfl
    have hcz21_1 : w5.cell? ⟨gb277, 1, none⟩ = some (.string a0_1) := (blk_cell BK277.out 1).trans rfl
    have hcz21_2 : w5.cell? ⟨gb277, 2, none⟩ = some (.int .i64 a0_2) := (blk_cell BK277.out 2).trans rfl
    have hcz21_3 : w5.cell? ⟨gb277, 3, none⟩ = some (.slice A0_3 l0_3.length c0_3) := (blk_cell BK277.out 3).trans rfl
    have hcz21_4 : w5.cell? ⟨gb277, 4, none⟩ = some (.slice A0_4 l0_4.length c0_4) := (blk_cell BK277.out 4).trans rfl
    have hfz21_0 := blk_frozen BK277.out 0
    have hfz21_1 := blk_frozen BK277.out 1
    have hfz21_2 := blk_frozen BK277.out 2
    have hfz21_3 := blk_frozen BK277.out 3
    have hfz21_4 := blk_frozen BK277.out 4
    have hcz22_0 : w5.cell? ⟨gb278, 0, none⟩ = some (.int .u8 a1_0) := (blk_cell BK278.out 0).trans rfl
    have hcz22_1 : w5.cell? ⟨gb278, 1, none⟩ = some (.string a1_1) := (blk_cell BK278.out 1).trans rfl
    have hcz22_2 : w5.cell? ⟨gb278, 2, none⟩ = some (.int .i64 a1_2) := (blk_cell BK278.out 2).trans rfl
    have hcz22_3 : w5.cell? ⟨gb278, 3, none⟩ = some (.slice A1_3 l1_3.length c1_3) := (blk_cell BK278.out 3).trans rfl
    have hcz22_4 : w5.cell? ⟨gb278, 4, none⟩ = some (.slice A1_4 l1_4.length c1_4) := (blk_cell BK278.out 4).trans rfl
    have hfz22_0 := blk_frozen BK278.out 0
    have hfz22_1 := blk_frozen BK278.out 1
    have hfz22_2 := blk_frozen BK278.out 2
    have hfz22_3 := blk_frozen BK278.out 3
    have hfz22_4 := blk_frozen BK278.out 4
    go_wp2
    go_meet
    case rel => exact ⟨_, (true), (by first | rfl | (simp; done) | (simp [*]; done)), H', ⟨by first | omega | exact Nat.le_refl _⟩, ⟨by (with_reducible repeat (first | refine blk_drewN ?_ _ | refine blk_drew ?_ | refine blk_alloc ?_ _)); exact BK277.out⟩, ⟨by (with_reducible repeat (first | refine blk_drewN ?_ _ | refine blk_drew ?_ | refine blk_alloc ?_ _)); exact BK278.out⟩, ⟨by repeat (first | (with_reducible first | exact HB.out | apply below_alloc | apply pw_below_drewN | apply below_drew1 | refine below_set ?_ GE277.out | refine below_set ?_ GE278.out) | exact HB.out)⟩⟩
  ·rw [if_neg c6] at H
   have c6b0 : (a0_0 == a1_0) = false := beq_eq_false_iff_ne.mpr c6
   have c6b1 : (a0_0 != a1_0) = true := bne_iff_ne.mpr c6
   (first | rw [c6b0] | (simp only [i64_w, i32_w]; rw [c6b0]) | skip)
   have H' := Aside0.mk H
   clear H
   have hnb23 := NB277_278.out
   have hnc23 := NB278_277.out
   have hcz24_0 : w5.cell? ⟨gb277, 0, none⟩ = some (.int .u8 a0_0) := (blk_cell BK277.out 0).trans rfl
   have hcz24_1 : w5.cell? ⟨gb277, 1, none⟩ = some (.string a0_1) := (blk_cell BK277.out 1).trans rfl
   have hcz24_2 : w5.cell? ⟨gb277, 2, none⟩ = some (.int .i64 a0_2) := (blk_cell BK277.out 2).trans rfl
   have hcz24_3 : w5.cell? ⟨gb277, 3, none⟩ = some (.slice A0_3 l0_3.length c0_3) := (blk_cell BK277.out 3).trans rfl
   have hcz24_4 : w5.cell? ⟨gb277, 4, none⟩ = some (.slice A0_4 l0_4.length c0_4) := (blk_cell BK277.out 4).trans rfl
   have hfz24_0 := blk_frozen BK277.out 0
   have hfz24_1 := blk_frozen BK277.out 1
   have hfz24_2 := blk_frozen BK277.out 2
   have hfz24_3 := blk_frozen BK277.out 3
   have hfz24_4 := blk_frozen BK277.out 4
   have hcz25_0 : w5.cell? ⟨gb278, 0, none⟩ = some (.int .u8 a1_0) := (blk_cell BK278.out 0).trans rfl
   have hcz25_1 : w5.cell? ⟨gb278, 1, none⟩ = some (.string a1_1) := (blk_cell BK278.out 1).trans rfl
   have hcz25_2 : w5.cell? ⟨gb278, 2, none⟩ = some (.int .i64 a1_2) := (blk_cell BK278.out 2).trans rfl
   have hcz25_3 : w5.cell? ⟨gb278, 3, none⟩ = some (.slice A1_3 l1_3.length c1_3) := (blk_cell BK278.out 3).trans rfl
   have hcz25_4 : w5.cell? ⟨gb278, 4, none⟩ = some (.slice A1_4 l1_4.length c1_4) := (blk_cell BK278.out 4).trans rfl
   have hfz25_0 := blk_frozen BK278.out 0
   have hfz25_1 := blk_frozen BK278.out 1
   have hfz25_2 := blk_frozen BK278.out 2
   have hfz25_3 := blk_frozen BK278.out 3
   have hfz25_4 := blk_frozen BK278.out 4
   go_wp2
   go_meet
   case rel => exact ⟨_, (true), (by first | rfl | (simp; done) | (simp [*]; done)), H', ⟨by first | omega | exact Nat.le_refl _⟩, ⟨by (with_reducible repeat (first | refine blk_drewN ?_ _ | refine blk_drew ?_ | refine blk_alloc ?_ _)); exact BK277.out⟩, ⟨by (with_reducible repeat (first | refine blk_drewN ?_ _ | refine blk_drew ?_ | refine blk_alloc ?_ _)); exact BK278.out⟩, ⟨by repeat (first | (with_reducible first | exact HB.out | apply below_alloc | apply pw_below_drewN | apply below_drew1 | refine below_set ?_ GE277.out | refine below_set ?_ GE278.out) | exact HB.out)⟩⟩
 case rest =>
  clear HC3
  try clear c1
  try clear c2
  try clear p2
  try clear c3
  try clear c6
  try clear c6b0
  try clear c6b1
  try clear c7
  try clear c7b0
  try clear c7b1
  try clear c8
  try clear c8b0
  try clear c8b1
  try clear c9
  try clear c9b0
  try clear c9b1
  try clear c9b2
  try clear c11
  try clear c14
  try clear c17
  try clear c20
  try clear c23
  try clear hcz12_0
  try clear hcz12_1
  try clear hcz12_2
  try clear hcz12_3
  try clear hcz12_4
  try clear hcz13_0
  try clear hcz13_1
  try clear hcz13_2
  try clear hcz13_3
  try clear hcz13_4
  try clear hcz15_0
  try clear hcz15_1
  try clear hcz15_2
  try clear hcz15_3
  try clear hcz15_4
  try clear hcz16_0
  try clear hcz16_1
  try clear hcz16_2
  try clear hcz16_3
  try clear hcz16_4
  try clear hcz18_0
  try clear hcz18_1
  try clear hcz18_2
  try clear hcz18_3
  try clear hcz18_4
  try clear hcz19_0
  try clear hcz19_1
  try clear hcz19_2
  try clear hcz19_3
  try clear hcz19_4
  try clear hcz21_0
  try clear hcz21_1
  try clear hcz21_2
  try clear hcz21_3
  try clear hcz21_4
  try clear hcz22_0
  try clear hcz22_1
  try clear hcz22_2
  try clear hcz22_3
  try clear hcz22_4
  try clear hcz24_0
  try clear hcz24_1
  try clear hcz24_2
  try clear hcz24_3
  try clear hcz24_4
  try clear hcz25_0
  try clear hcz25_1
  try clear hcz25_2
  try clear hcz25_3
  try clear hcz25_4
  try clear hfz12_0
  try clear hfz12_1
  try clear hfz12_2
  try clear hfz12_3
  try clear hfz12_4
  try clear hfz13_0
  try clear hfz13_1
  try clear hfz13_2
  try clear hfz13_3
  try clear hfz13_4
  try clear hfz15_0
  try clear hfz15_1
  try clear hfz15_2
  try clear hfz15_3
  try clear hfz15_4
  try clear hfz16_0
  try clear hfz16_1
  try clear hfz16_2
  try clear hfz16_3
  try clear hfz16_4
  try clear hfz18_0
  try clear hfz18_1
  try clear hfz18_2
  try clear hfz18_3
  try clear hfz18_4
  try clear hfz19_0
  try clear hfz19_1
  try clear hfz19_2
  try clear hfz19_3
  try clear hfz19_4
  try clear hfz21_0
  try clear hfz21_1
  try clear hfz21_2
  try clear hfz21_3
  try clear hfz21_4
  try clear hfz22_0
  try clear hfz22_1
  try clear hfz22_2
  try clear hfz22_3
  try clear hfz22_4
  try clear hfz24_0
  try clear hfz24_1
  try clear hfz24_2
  try clear hfz24_3
  try clear hfz24_4
  try clear hfz25_0
  try clear hfz25_1
  try clear hfz25_2
  try clear hfz25_3
  try clear hfz25_4
  obtain ⟨kq, x41_2, rfl, HA, HJ2, BK277, BK278, HB⟩ := hcut
  cases kq with
  | zero => exact absurd HA.out (by simp [bellmanref09_Same.j0])
  | succ kj2 =>
   have H := HA.out
   clear HA
   simp only [bellmanref09_Same.j0] at H
   by_cases c26 : x41_2 = true
   ·subst c26
    have H1 : (some false) = some r := by rw [if_pos rfl] at H; exact H
    clear H
    have H := H1
    clear H1
    obtain rfl := Option.some.inj H
    go_wp2
    go_ret
    exact ⟨by first | rfl | (simp [errW_none, errW_some] <;> rfl) | (simp [*, errW_none, errW_some] <;> rfl), by repeat (first | (with_reducible first | exact HB.out | apply below_alloc | apply pw_below_drewN | apply below_drew1 | refine below_set ?_ GE277.out | refine below_set ?_ GE278.out) | exact HB.out)⟩
   ·replace c26 := Bool.eq_false_iff.mpr c26
    subst c26
    have H1 : (bellmanref09_Same.l0 kj2 (l0_3.length : Int) 0 a0_0 a0_1 a0_2 l0_3 l0_4 a1_0 a1_1 a1_2 l1_3 l1_4) = some r := by rw [if_neg (show ¬ (false = true) by decide)] at H; exact H
    clear H
    have H := H1
    clear H1
    have H' := Aside0.mk H
    clear H
    have hnb27 := NB277_278.out
    have hnc27 := NB278_277.out
    have hcz28_0 : wc.cell? ⟨gb277, 0, none⟩ = some (.int .u8 a0_0) := (blk_cell BK277.out 0).trans rfl
    have hcz28_1 : wc.cell? ⟨gb277, 1, none⟩ = some (.string a0_1) := (blk_cell BK277.out 1).trans rfl
    have hcz28_2 : wc.cell? ⟨gb277, 2, none⟩ = some (.int .i64 a0_2) := (blk_cell BK277.out 2).trans rfl
    have hcz28_3 : wc.cell? ⟨gb277, 3, none⟩ = some (.slice A0_3 l0_3.length c0_3) := (blk_cell BK277.out 3).trans rfl
    have hcz28_4 : wc.cell? ⟨gb277, 4, none⟩ = some (.slice A0_4 l0_4.length c0_4) := (blk_cell BK277.out 4).trans rfl
    have hfz28_0 := blk_frozen BK277.out 0
    have hfz28_1 := blk_frozen BK277.out 1
    have hfz28_2 := blk_frozen BK277.out 2
    have hfz28_3 := blk_frozen BK277.out 3
    have hfz28_4 := blk_frozen BK277.out 4
    go_wp2
    go_loopg [45] kj2 (fun kq v45 w' => ∃ (x45_2 : Int), v45 = .int .i64 x45_2 ∧ Aside0 (bellmanref09_Same.l0 kq (l0_3.length : Int) x45_2 a0_0 a0_1 a0_2 l0_3 l0_4 a1_0 a1_1 a1_2 l1_3 l1_4 = some r) ∧ Aside0 (kq ≤ kj2) ∧ Aside0 (w'.heap[gb277]? = some (.cells #[.int .u8 a0_0, .string a0_1, .int .i64 a0_2, (.slice A0_3 l0_3.length c0_3), (.slice A0_4 l0_4.length c0_4)] 43 (0, 0))) ∧ Aside0 (w'.heap[gb278]? = some (.cells #[.int .u8 a1_0, .string a1_1, .int .i64 a1_2, (.slice A1_3 l1_3.length c1_3), (.slice A1_4 l1_4.length c1_4)] 43 (0, 0))) ∧ Aside0 (Below w.heap.size w w'))
    case atStart => exact ⟨(0), (by first | rfl | (simp; done) | (simp [*]; done)), H', ⟨Nat.le_refl _⟩, ⟨by (with_reducible repeat (first | refine blk_drewN ?_ _ | refine blk_drew ?_ | refine blk_alloc ?_ _)); exact BK277.out⟩, ⟨by (with_reducible repeat (first | refine blk_drewN ?_ _ | refine blk_drew ?_ | refine blk_alloc ?_ _)); exact BK278.out⟩, ⟨by repeat (first | (with_reducible first | exact HB.out | apply below_alloc | apply pw_below_drewN | apply below_drew1 | refine below_set ?_ GE277.out | refine below_set ?_ GE278.out) | exact HB.out)⟩⟩
    case round =>
     clear H'
     try clear c1
     try clear c2
     try clear p2
     try clear c3
     try clear c6
     try clear c6b0
     try clear c6b1
     try clear c7
     try clear c7b0
     try clear c7b1
     try clear c8
     try clear c8b0
     try clear c8b1
     try clear c9
     try clear c9b0
     try clear c9b1
     try clear c9b2
     try clear c11
     try clear c14
     try clear c17
     try clear c20
     try clear c23
     try clear c26
     try clear c27
     try clear hcz12_0
     try clear hcz12_1
     try clear hcz12_2
     try clear hcz12_3
     try clear hcz12_4
     try clear hcz13_0
     try clear hcz13_1
     try clear hcz13_2
     try clear hcz13_3
     try clear hcz13_4
     try clear hcz15_0
     try clear hcz15_1
     try clear hcz15_2
     try clear hcz15_3
     try clear hcz15_4
     try clear hcz16_0
     try clear hcz16_1
     try clear hcz16_2
     try clear hcz16_3
     try clear hcz16_4
     try clear hcz18_0
     try clear hcz18_1
     try clear hcz18_2
     try clear hcz18_3
     try clear hcz18_4
     try clear hcz19_0
     try clear hcz19_1
     try clear hcz19_2
     try clear hcz19_3
     try clear hcz19_4
     try clear hcz21_0
     try clear hcz21_1
     try clear hcz21_2
     try clear hcz21_3
     try clear hcz21_4
     try clear hcz22_0
     try clear hcz22_1
     try clear hcz22_2
     try clear hcz22_3
     try clear hcz22_4
     try clear hcz24_0
     try clear hcz24_1
     try clear hcz24_2
     try clear hcz24_3
     try clear hcz24_4
     try clear hcz25_0
     try clear hcz25_1
     try clear hcz25_2
     try clear hcz25_3
     try clear hcz25_4
     try clear hcz28_0
     try clear hcz28_1
     try clear hcz28_2
     try clear hcz28_3
     try clear hcz28_4
     try clear hfz12_0
     try clear hfz12_1
     try clear hfz12_2
     try clear hfz12_3
     try clear hfz12_4
     try clear hfz13_0
     try clear hfz13_1
     try clear hfz13_2
     try clear hfz13_3
     try clear hfz13_4
     try clear hfz15_0
     try clear hfz15_1
     try clear hfz15_2
     try clear hfz15_3
     try clear hfz15_4
     try clear hfz16_0
     try clear hfz16_1
     try clear hfz16_2
     try clear hfz16_3
     try clear hfz16_4
     try clear hfz18_0
     try clear hfz18_1
     try clear hfz18_2
     try clear hfz18_3
     try clear hfz18_4
     try clear hfz19_0
     try clear hfz19_1
     try clear hfz19_2
     try clear hfz19_3
     try clear hfz19_4
     try clear hfz21_0
     try clear hfz21_1
     try clear hfz21_2
     try clear hfz21_3
     try clear hfz21_4
     try clear hfz22_0
     try clear hfz22_1
     try clear hfz22_2
     try clear hfz22_3
     try clear hfz22_4
     try clear hfz24_0
     try clear hfz24_1
     try clear hfz24_2
     try clear hfz24_3
     try clear hfz24_4
     try clear hfz25_0
     try clear hfz25_1
     try clear hfz25_2
     try clear hfz25_3
     try clear hfz25_4
     try clear hfz28_0
     try clear hfz28_1
     try clear hfz28_2
     try clear hfz28_3
     try clear hfz28_4
     try clear p2
     obtain ⟨x45_2, rfl, HA, HK2, BK277, BK278, HB⟩ := hrel
     cases gk with
     | zero => exact absurd HA.out (by simp [bellmanref09_Same.l0])
     | succ k2 =>
      have H := HA.out
      clear HA
      simp only [bellmanref09_Same.l0] at H
      by_cases c29 : x45_2 < (l0_3.length : Int)
      ·rw [if_pos c29] at H
       have c29b0 : decide (x45_2 < (l0_3.length : Int)) = true := decide_eq_true c29
       clear c29
       by_cases c30 : 0 ≤ x45_2
       ·rw [if_pos c30] at H
        have c30b0 : decide (0 ≤ x45_2) = true := decide_eq_true c30
        clear c30
        by_cases c31 : x45_2 < (l0_3.length : Int)
        ·rw [if_pos c31] at H
         have c31b0 : decide (x45_2 < (l0_3.length : Int)) = true := decide_eq_true c31
         clear c31
         by_cases c32 : x45_2 < (l1_3.length : Int)
         ·rw [if_pos c32] at H
          have c32b0 : decide (x45_2 < (l1_3.length : Int)) = true := decide_eq_true c32
          clear c32
          replace H := Option.bind_eq_some_iff.mp H
          obtain ⟨t282, A330, H⟩ := H
          (try dsimp only at H)
          have A33 := Aside0.mk A330
          clear A330
          by_cases c34 : t282 = true
          ·subst c34
           rw [if_pos rfl] at H
           have H' := Aside0.mk H
           clear H
           try go_wp2
           have n0_ := Aside0.mk (blk_drew BK277.out)
           have n1_ := Aside0.mk (blk_drew BK278.out)
           have n2_ := Aside0.mk (below_drew1 HB.out)
           clear BK277
           clear BK278
           clear HB
           have BK277 := n0_
           have BK278 := n1_
           have HB := n2_
           clear n0_ n1_ n2_
           have p280 : 0 ≤ (x45_2 : Int) := of_decide_eq_true (by first | (with_reducible assumption) | assumption)
           have q280 : x45_2 < (l0_3.length : Int) := of_decide_eq_true (by first | (with_reducible assumption) | assumption)
           obtain ⟨ad280, A280_3, c280_3, A280_4, c280_4, e280, hx280_0, hx280_1, hx280_2, hx280_3, hx280_4, hl280_3, hi280_3, hl280_4, hi280_4⟩ := at_T43 HR0_3.out x45_2 p280 q280
           have hw280_4 := hx280_4
           have hw280_3 := hx280_3
           have hw280_2 := hx280_2
           have hw280_1 := hx280_1
           have hw280_0 := hx280_0
           cases e280
           replace hx280_0 := (HB.out.cell (World.block_lt_of_cell? w _ hx280_0)).trans hx280_0
           replace hx280_1 := (HB.out.cell (World.block_lt_of_cell? w _ hx280_1)).trans hx280_1
           replace hx280_2 := (HB.out.cell (World.block_lt_of_cell? w _ hx280_2)).trans hx280_2
           replace hx280_3 := (HB.out.cell (World.block_lt_of_cell? w _ hx280_3)).trans hx280_3
           replace hx280_4 := (HB.out.cell (World.block_lt_of_cell? w _ hx280_4)).trans hx280_4
           have HR280_3 := Aside0.mk hi280_3
           have HC280_3 := Aside0.mk hl280_3
           clear hi280_3 hl280_3
           have HR280_4 := Aside0.mk hi280_4
           have HC280_4 := Aside0.mk hl280_4
           clear hi280_4 hl280_4
           replace p280 := eq_true p280
           replace q280 := eq_true q280
           have p281 : 0 ≤ (x45_2 : Int) := of_decide_eq_true (by first | (with_reducible assumption) | assumption)
           have q281 : x45_2 < (l1_3.length : Int) := of_decide_eq_true (by first | (with_reducible assumption) | assumption)
           obtain ⟨ad281, A281_3, c281_3, A281_4, c281_4, e281, hx281_0, hx281_1, hx281_2, hx281_3, hx281_4, hl281_3, hi281_3, hl281_4, hi281_4⟩ := at_T43 HR1_3.out x45_2 p281 q281
           have hw281_4 := hx281_4
           have hw281_3 := hx281_3
           have hw281_2 := hx281_2
           have hw281_1 := hx281_1
           have hw281_0 := hx281_0
           cases e281
           replace hx281_0 := (HB.out.cell (World.block_lt_of_cell? w _ hx281_0)).trans hx281_0
           replace hx281_1 := (HB.out.cell (World.block_lt_of_cell? w _ hx281_1)).trans hx281_1
           replace hx281_2 := (HB.out.cell (World.block_lt_of_cell? w _ hx281_2)).trans hx281_2
           replace hx281_3 := (HB.out.cell (World.block_lt_of_cell? w _ hx281_3)).trans hx281_3
           replace hx281_4 := (HB.out.cell (World.block_lt_of_cell? w _ hx281_4)).trans hx281_4
           have HR281_3 := Aside0.mk hi281_3
           have HC281_3 := Aside0.mk hl281_3
           clear hi281_3 hl281_3
           have HR281_4 := Aside0.mk hi281_4
           have HC281_4 := Aside0.mk hl281_4
           clear hi281_4 hl281_4
           replace p281 := eq_true p281
           replace q281 := eq_true q281
           refine start_ (n := 12) (S := fun w' => w'.cell? ⟨gb277, 0, none⟩ = some (.int .u8 a0_0) ∧ w'.cell? ⟨gb277, 1, none⟩ = some (.string a0_1) ∧ w'.cell? ⟨gb277, 2, none⟩ = some (.int .i64 a0_2) ∧ w'.cell? ⟨gb277, 3, none⟩ = some (.slice (some ad280) l0_3.length c0_3) ∧ w'.cell? ⟨gb277, 4, none⟩ = some (.slice A0_4 l0_4.length c0_4) ∧ w'.cell? ⟨gb278, 0, none⟩ = some (.int .u8 a1_0) ∧ w'.cell? ⟨gb278, 1, none⟩ = some (.string a1_1) ∧ w'.cell? ⟨gb278, 2, none⟩ = some (.int .i64 a1_2) ∧ w'.cell? ⟨gb278, 3, none⟩ = some (.slice (some ad281) l1_3.length c1_3) ∧ w'.cell? ⟨gb278, 4, none⟩ = some (.slice A1_4 l1_4.length c1_4) ∧ w'.cell? (ad280.add ((x45_2).toNat * 5)) = some (.int .u8 ((rd_T43 l0_3 x45_2).f0)) ∧ w'.cell? ⟨(ad280.add ((x45_2).toNat * 5)).block, (ad280.add ((x45_2).toNat * 5)).off + 1, none⟩ = some (.string ((rd_T43 l0_3 x45_2).f1)) ∧ w'.cell? ⟨(ad280.add ((x45_2).toNat * 5)).block, (ad280.add ((x45_2).toNat * 5)).off + 2, none⟩ = some (.int .i64 ((rd_T43 l0_3 x45_2).f2)) ∧ w'.cell? ⟨(ad280.add ((x45_2).toNat * 5)).block, (ad280.add ((x45_2).toNat * 5)).off + 3, none⟩ = some (.slice A280_3 ((rd_T43 l0_3 x45_2).f3).length c280_3) ∧ w'.cell? ⟨(ad280.add ((x45_2).toNat * 5)).block, (ad280.add ((x45_2).toNat * 5)).off + 4, none⟩ = some (.slice A280_4 ((rd_T43 l0_3 x45_2).f4).length c280_4) ∧ w'.cell? (ad281.add ((x45_2).toNat * 5)) = some (.int .u8 ((rd_T43 l1_3 x45_2).f0)) ∧ w'.cell? ⟨(ad281.add ((x45_2).toNat * 5)).block, (ad281.add ((x45_2).toNat * 5)).off + 1, none⟩ = some (.string ((rd_T43 l1_3 x45_2).f1)) ∧ w'.cell? ⟨(ad281.add ((x45_2).toNat * 5)).block, (ad281.add ((x45_2).toNat * 5)).off + 2, none⟩ = some (.int .i64 ((rd_T43 l1_3 x45_2).f2)) ∧ w'.cell? ⟨(ad281.add ((x45_2).toNat * 5)).block, (ad281.add ((x45_2).toNat * 5)).off + 3, none⟩ = some (.slice A281_3 ((rd_T43 l1_3 x45_2).f3).length c281_3) ∧ w'.cell? ⟨(ad281.add ((x45_2).toNat * 5)).block, (ad281.add ((x45_2).toNat * 5)).off + 4, none⟩ = some (.slice A281_4 ((rd_T43 l1_3 x45_2).f4).length c281_4)) (ds := []) #[false, false, false, false, false, false, false, false, false, false, false, false] (by kernel_rfl) rfl rfl ⟨(blk_cell BK277.out 0).trans rfl, (blk_cell BK277.out 1).trans rfl, (blk_cell BK277.out 2).trans rfl, (blk_cell BK277.out 3).trans rfl, (blk_cell BK277.out 4).trans rfl, (blk_cell BK278.out 0).trans rfl, (blk_cell BK278.out 1).trans rfl, (blk_cell BK278.out 2).trans rfl, (blk_cell BK278.out 3).trans rfl, (blk_cell BK278.out 4).trans rfl, ((HB.out.cell (World.block_lt_of_cell? w _ hw280_0)).trans hw280_0), ((HB.out.cell (World.block_lt_of_cell? w _ hw280_1)).trans hw280_1), ((HB.out.cell (World.block_lt_of_cell? w _ hw280_2)).trans hw280_2), ((HB.out.cell (World.block_lt_of_cell? w _ hw280_3)).trans hw280_3), ((HB.out.cell (World.block_lt_of_cell? w _ hw280_4)).trans hw280_4), ((HB.out.cell (World.block_lt_of_cell? w _ hw281_0)).trans hw281_0), ((HB.out.cell (World.block_lt_of_cell? w _ hw281_1)).trans hw281_1), ((HB.out.cell (World.block_lt_of_cell? w _ hw281_2)).trans hw281_2), ((HB.out.cell (World.block_lt_of_cell? w _ hw281_3)).trans hw281_3), ((HB.out.cell (World.block_lt_of_cell? w _ hw281_4)).trans hw281_4)⟩ (fun hHeld => ?_); refine with_tabW bellmanref09_Same.tab6 bellmanref09_Same.bits6 (fun HT_ HW_ => ?_)
           generalize wr.drew = w35 at BK277 BK278 HB HR280_3 HR280_4 HR281_3 HR281_4 hx280_0 hx280_1 hx280_2 hx280_3 hx280_4 hx281_0 hx281_1 hx281_2 hx281_3 hx281_4 hHeld ⊢
           refine pure_ (i := 0) (N := some 48) (v := ?_) (a' := ?_) #[true, false, false, false, false, false, false, false, false, false, false, false] rfl rfl (any_of HT_.out (by kernel_rfl)) (fun _ _ _ h => h) (Or.inl ⟨by rfl, ?_⟩) ?_ ?_
           rotate_left
           ·intro w'
            go_simp
            with_reducible rfl
           rotate_left
           ·simp only [Act.put, List.setIfInBounds_toArray, List.set_cons_zero, List.set_cons_succ, i64_w, i32_w]
            rfl
           refine pure_ (i := 2) (N := some 50) (v := ?_) (a' := ?_) #[true, false, true, false, false, false, false, false, false, false, false, false] rfl rfl (any_of HT_.out (by kernel_rfl)) (fun _ _ _ h => h) (Or.inl ⟨by rfl, ?_⟩) ?_ ?_
           rotate_left
           ·intro w'
            go_simp
            with_reducible rfl
           rotate_left
           ·simp only [Act.put, List.setIfInBounds_toArray, List.set_cons_zero, List.set_cons_succ, i64_w, i32_w]
            rfl
           refine pure_ (i := 5) (N := some 53) (v := ?_) (a' := ?_) #[true, false, true, false, false, true, false, false, false, false, false, false] rfl rfl (any_of HT_.out (by kernel_rfl)) (fun _ _ _ h => h) (Or.inl ⟨by rfl, ?_⟩) ?_ ?_
           rotate_left
           ·intro w'
            go_simp
            with_reducible rfl
           rotate_left
           ·simp only [Act.put, List.setIfInBounds_toArray, List.set_cons_zero, List.set_cons_succ, i64_w, i32_w]
            rfl
           refine pure_ (i := 7) (N := some 55) (v := ?_) (a' := ?_) #[true, false, true, false, false, true, false, true, false, false, false, false] rfl rfl (any_of HT_.out (by kernel_rfl)) (fun _ _ _ h => h) (Or.inl ⟨by rfl, ?_⟩) ?_ ?_
           rotate_left
           ·intro w'
            go_simp
            with_reducible rfl
           rotate_left
           ·simp only [Act.put, List.setIfInBounds_toArray, List.set_cons_zero, List.set_cons_succ, i64_w, i32_w]
            rfl
           refine take_ (i := 1) (N := some 49) (v := ?_) (a' := ?_) #[true, true, true, false, false, true, false, true, false, false, false, false] rfl rfl (take_ofW HT_.out HW_.out (by kernel_rfl)) (fun _ _ _ h => h) (Or.inl ⟨by rfl, ?_⟩) hHeld ?_ ?_
           rotate_left
           ·rintro w' ⟨s0, s1, s2, s3, s4, s5, s6, s7, s8, s9, s10, s11, s12, s13, s14, s15, s16, s17, s18, s19⟩
            go_simp
            with_reducible rfl
           rotate_left
           ·simp only [Act.put, List.setIfInBounds_toArray, List.set_cons_zero, List.set_cons_succ, i64_w, i32_w]
            rfl
           refine pure_ (i := 3) (N := some 51) (v := ?_) (a' := ?_) #[true, true, true, true, false, true, false, true, false, false, false, false] rfl rfl (any_of HT_.out (by kernel_rfl)) (fun _ _ _ h => h) (Or.inl ⟨by rfl, ?_⟩) ?_ ?_
           rotate_left
           ·intro w'
            go_simp
            with_reducible rfl
           rotate_left
           ·simp only [Act.put, List.setIfInBounds_toArray, List.set_cons_zero, List.set_cons_succ, i64_w, i32_w]
            rfl
           refine take_ (i := 4) (N := some 52) (v := ?_) (a' := ?_) #[true, true, true, true, true, true, false, true, false, false, false, false] rfl rfl (take_ofW HT_.out HW_.out (by kernel_rfl)) (fun _ _ _ h => h) (Or.inl ⟨by rfl, ?_⟩) hHeld ?_ ?_
           rotate_left
           ·rintro w' ⟨s0, s1, s2, s3, s4, s5, s6, s7, s8, s9, s10, s11, s12, s13, s14, s15, s16, s17, s18, s19⟩
            go_simp
            with_reducible rfl
           rotate_left
           ·simp only [Act.put, List.setIfInBounds_toArray, List.set_cons_zero, List.set_cons_succ, i64_w, i32_w]
            rfl
           refine take_ (i := 6) (N := some 54) (v := ?_) (a' := ?_) #[true, true, true, true, true, true, true, true, false, false, false, false] rfl rfl (take_ofW HT_.out HW_.out (by kernel_rfl)) (fun _ _ _ h => h) (Or.inl ⟨by rfl, ?_⟩) hHeld ?_ ?_
           rotate_left
           ·rintro w' ⟨s0, s1, s2, s3, s4, s5, s6, s7, s8, s9, s10, s11, s12, s13, s14, s15, s16, s17, s18, s19⟩
            go_simp
            with_reducible rfl
           rotate_left
           ·simp only [Act.put, List.setIfInBounds_toArray, List.set_cons_zero, List.set_cons_succ, i64_w, i32_w]
            rfl
           refine pure_ (i := 8) (N := some 56) (v := ?_) (a' := ?_) #[true, true, true, true, true, true, true, true, true, false, false, false] rfl rfl (any_of HT_.out (by kernel_rfl)) (fun _ _ _ h => h) (Or.inl ⟨by rfl, ?_⟩) ?_ ?_
           rotate_left
           ·intro w'
            go_simp
            with_reducible rfl
           rotate_left
           ·simp only [Act.put, List.setIfInBounds_toArray, List.set_cons_zero, List.set_cons_succ, i64_w, i32_w]
            rfl
           refine take_ (i := 9) (N := some 57) (v := ?_) (a' := ?_) #[true, true, true, true, true, true, true, true, true, true, false, false] rfl rfl (take_ofW HT_.out HW_.out (by kernel_rfl)) (fun _ _ _ h => h) (Or.inl ⟨by rfl, ?_⟩) hHeld ?_ ?_
           rotate_left
           ·rintro w' ⟨s0, s1, s2, s3, s4, s5, s6, s7, s8, s9, s10, s11, s12, s13, s14, s15, s16, s17, s18, s19⟩
            go_simp
            with_reducible rfl
           rotate_left
           ·simp only [Act.put, List.setIfInBounds_toArray, List.set_cons_zero, List.set_cons_succ, i64_w, i32_w]
            rfl
           refine one_ (i := 10) (N := some 58) #[true, true, true, true, true, true, true, true, true, true, true, false] rfl rfl (one_of HT_.out (by kernel_rfl)) (by decide) (fun K hK => ?_)
           refine goes_ Tryz.func33 (by kernel_rfl) rfl #[.agg #[.int .u8 ((rd_T43 l0_3 x45_2).f0), .string ((rd_T43 l0_3 x45_2).f1), .int .i64 ((rd_T43 l0_3 x45_2).f2), .slice A280_3 ((rd_T43 l0_3 x45_2).f3).length c280_3, .slice A280_4 ((rd_T43 l0_3 x45_2).f4).length c280_4], .agg #[.int .u8 ((rd_T43 l1_3 x45_2).f0), .string ((rd_T43 l1_3 x45_2).f1), .int .i64 ((rd_T43 l1_3 x45_2).f2), .slice A281_3 ((rd_T43 l1_3 x45_2).f3).length c281_3, .slice A281_4 ((rd_T43 l1_3 x45_2).f4).length c281_4]] (by rfl) rfl rfl (by (try simp only [List.map_toArray, List.map_cons, List.map_nil]); first | done | rfl) ?_
           with_reducible refine (ih k2 (by have := HJ2.out; have := HK2.out; omega) ((rd_T43 l0_3 x45_2).f0) ((rd_T43 l0_3 x45_2).f1) ((rd_T43 l0_3 x45_2).f2) _ _ ((rd_T43 l0_3 x45_2).f3) _ _ ((rd_T43 l0_3 x45_2).f4) ((rd_T43 l1_3 x45_2).f0) ((rd_T43 l1_3 x45_2).f1) ((rd_T43 l1_3 x45_2).f2) _ _ ((rd_T43 l1_3 x45_2).f3) _ _ ((rd_T43 l1_3 x45_2).f4) true _ ?side1 ?side2 ?side3 ?side4 ?side5 ?side6 ?side7 ?side8 A33.out).mono ?_
           (case side1 => repeat (first | exact (Kd.C_below HR280_3.out HB.out) | (with_reducible refine Kd.C_alloc ?_ _) | (with_reducible refine Kd.C_drewN ?_ _) | (with_reducible refine Kd.C_drew ?_)))
           (case side2 => exact HC280_3.out)
           (case side3 => repeat (first | exact (Kd.C_below HR280_4.out HB.out) | (with_reducible refine Kd.C_alloc ?_ _) | (with_reducible refine Kd.C_drewN ?_ _) | (with_reducible refine Kd.C_drew ?_)))
           (case side4 => exact HC280_4.out)
           (case side5 => repeat (first | exact (Kd.C_below HR281_3.out HB.out) | (with_reducible refine Kd.C_alloc ?_ _) | (with_reducible refine Kd.C_drewN ?_ _) | (with_reducible refine Kd.C_drew ?_)))
           (case side6 => exact HC281_3.out)
           (case side7 => repeat (first | exact (Kd.C_below HR281_4.out HB.out) | (with_reducible refine Kd.C_alloc ?_ _) | (with_reducible refine Kd.C_drewN ?_ _) | (with_reducible refine Kd.C_drew ?_)))
           (case side8 => exact HC281_4.out)
           rintro e w36 ⟨rfl, hb⟩
           refine ⟨_, rfl, ?_⟩
           have n0_ := Aside0.mk (blk_below (g := gb277) (o := .cells #[.int .u8 a0_0, .string a0_1, .int .i64 a0_2, .slice (some ad280) l0_3.length c0_3, .slice A0_4 l0_4.length c0_4] 43 (0, 0)) (blkS BK277.out) hb)
           have n1_ := Aside0.mk (blk_below (g := gb278) (o := .cells #[.int .u8 a1_0, .string a1_1, .int .i64 a1_2, .slice (some ad281) l1_3.length c1_3, .slice A1_4 l1_4.length c1_4] 43 (0, 0)) (blkS BK278.out) hb)
           have n2_ := Aside0.mk (below_step (by repeat (first | (with_reducible first | exact HB.out | apply below_alloc | apply pw_below_drewN | apply below_drew1 | refine below_set ?_ GE277.out | refine below_set ?_ GE278.out) | exact HB.out)) hb)
           clear BK277
           clear BK278
           clear HB
           have BK277 := n0_
           have BK278 := n1_
           have HB := n2_
           clear n0_ n1_ n2_
           (try clear hb)
           (try clear hb2)
           (try clear hk)
           (try clear hi)
           refine hK.out _ _ ⟨(blk_cell BK277.out 0).trans rfl, (blk_cell BK277.out 1).trans rfl, (blk_cell BK277.out 2).trans rfl, (blk_cell BK277.out 3).trans rfl, (blk_cell BK277.out 4).trans rfl, (blk_cell BK278.out 0).trans rfl, (blk_cell BK278.out 1).trans rfl, (blk_cell BK278.out 2).trans rfl, (blk_cell BK278.out 3).trans rfl, (blk_cell BK278.out 4).trans rfl, ((HB.out.cell (World.block_lt_of_cell? w _ hw280_0)).trans hw280_0), ((HB.out.cell (World.block_lt_of_cell? w _ hw280_1)).trans hw280_1), ((HB.out.cell (World.block_lt_of_cell? w _ hw280_2)).trans hw280_2), ((HB.out.cell (World.block_lt_of_cell? w _ hw280_3)).trans hw280_3), ((HB.out.cell (World.block_lt_of_cell? w _ hw280_4)).trans hw280_4), ((HB.out.cell (World.block_lt_of_cell? w _ hw281_0)).trans hw281_0), ((HB.out.cell (World.block_lt_of_cell? w _ hw281_1)).trans hw281_1), ((HB.out.cell (World.block_lt_of_cell? w _ hw281_2)).trans hw281_2), ((HB.out.cell (World.block_lt_of_cell? w _ hw281_3)).trans hw281_3), ((HB.out.cell (World.block_lt_of_cell? w _ hw281_4)).trans hw281_4)⟩ (fun hHeld => ?_)
           clear hK K
           refine norm_ (a' := ?_) ?_ ?_
           rotate_left
           ·show Act.put _ (some 58) _ = _
            simp only [Act.put, List.setIfInBounds_toArray, List.set_cons_zero, List.set_cons_succ, i64_w, i32_w]
            rfl
           refine pure_ (i := 11) (N := some 59) (v := ?_) (a' := ?_) #[true, true, true, true, true, true, true, true, true, true, true, true] rfl rfl (any_of HT_.out (by kernel_rfl)) (fun _ _ _ h => h) (Or.inl ⟨by rfl, ?_⟩) ?_ ?_
           rotate_left
           ·intro w'
            go_simp
            with_reducible rfl
           rotate_left
           ·simp only [Act.put, List.setIfInBounds_toArray, List.set_cons_zero, List.set_cons_succ, i64_w, i32_w]
            rfl
           refine done_ (done_of HT_.out (by kernel_rfl)) ?_
           try go_wp2
           go_roundg k2
           case measure => have := HJ2.out; have := HK2.out; omega
           case rel => exact ⟨(wrap64 (x45_2 + 1)), (by first | rfl | (simp; done) | (simp [*]; done)), H', ⟨by have := HJ2.out; have := HK2.out; omega⟩, ⟨by (with_reducible repeat (first | refine blk_drewN ?_ _ | refine blk_drew ?_ | refine blk_alloc ?_ _)); exact BK277.out⟩, ⟨by (with_reducible repeat (first | refine blk_drewN ?_ _ | refine blk_drew ?_ | refine blk_alloc ?_ _)); exact BK278.out⟩, ⟨by repeat (first | (with_reducible first | exact HB.out | apply below_alloc | apply pw_below_drewN | apply below_drew1 | refine below_set ?_ GE277.out | refine below_set ?_ GE278.out) | exact HB.out)⟩⟩
          ·replace c34 := Bool.eq_false_iff.mpr c34
           subst c34
           have H1 : (some false) = some r := by rw [if_neg (show ¬ (false = true) by decide)] at H; exact H
           clear H
           have H := H1
           clear H1
           obtain rfl := Option.some.inj H
           try go_wp2
           have n0_ := Aside0.mk (blk_drew BK277.out)
           have n1_ := Aside0.mk (blk_drew BK278.out)
           have n2_ := Aside0.mk (below_drew1 HB.out)
           clear BK277
           clear BK278
           clear HB
           have BK277 := n0_
           have BK278 := n1_
           have HB := n2_
           clear n0_ n1_ n2_
           have p280 : 0 ≤ (x45_2 : Int) := of_decide_eq_true (by first | (with_reducible assumption) | assumption)
           have q280 : x45_2 < (l0_3.length : Int) := of_decide_eq_true (by first | (with_reducible assumption) | assumption)
           obtain ⟨ad280, A280_3, c280_3, A280_4, c280_4, e280, hx280_0, hx280_1, hx280_2, hx280_3, hx280_4, hl280_3, hi280_3, hl280_4, hi280_4⟩ := at_T43 HR0_3.out x45_2 p280 q280
           have hw280_4 := hx280_4
           have hw280_3 := hx280_3
           have hw280_2 := hx280_2
           have hw280_1 := hx280_1
           have hw280_0 := hx280_0
           cases e280
           replace hx280_0 := (HB.out.cell (World.block_lt_of_cell? w _ hx280_0)).trans hx280_0
           replace hx280_1 := (HB.out.cell (World.block_lt_of_cell? w _ hx280_1)).trans hx280_1
           replace hx280_2 := (HB.out.cell (World.block_lt_of_cell? w _ hx280_2)).trans hx280_2
           replace hx280_3 := (HB.out.cell (World.block_lt_of_cell? w _ hx280_3)).trans hx280_3
           replace hx280_4 := (HB.out.cell (World.block_lt_of_cell? w _ hx280_4)).trans hx280_4
           have HR280_3 := Aside0.mk hi280_3
           have HC280_3 := Aside0.mk hl280_3
           clear hi280_3 hl280_3
           have HR280_4 := Aside0.mk hi280_4
           have HC280_4 := Aside0.mk hl280_4
           clear hi280_4 hl280_4
           replace p280 := eq_true p280
           replace q280 := eq_true q280
           have p281 : 0 ≤ (x45_2 : Int) := of_decide_eq_true (by first | (with_reducible assumption) | assumption)
           have q281 : x45_2 < (l1_3.length : Int) := of_decide_eq_true (by first | (with_reducible assumption) | assumption)
           obtain ⟨ad281, A281_3, c281_3, A281_4, c281_4, e281, hx281_0, hx281_1, hx281_2, hx281_3, hx281_4, hl281_3, hi281_3, hl281_4, hi281_4⟩ := at_T43 HR1_3.out x45_2 p281 q281
           have hw281_4 := hx281_4
           have hw281_3 := hx281_3
           have hw281_2 := hx281_2
           have hw281_1 := hx281_1
           have hw281_0 := hx281_0
           cases e281
           replace hx281_0 := (HB.out.cell (World.block_lt_of_cell? w _ hx281_0)).trans hx281_0
           replace hx281_1 := (HB.out.cell (World.block_lt_of_cell? w _ hx281_1)).trans hx281_1
           replace hx281_2 := (HB.out.cell (World.block_lt_of_cell? w _ hx281_2)).trans hx281_2
           replace hx281_3 := (HB.out.cell (World.block_lt_of_cell? w _ hx281_3)).trans hx281_3
           replace hx281_4 := (HB.out.cell (World.block_lt_of_cell? w _ hx281_4)).trans hx281_4
           have HR281_3 := Aside0.mk hi281_3
           have HC281_3 := Aside0.mk hl281_3
           clear hi281_3 hl281_3
           have HR281_4 := Aside0.mk hi281_4
           have HC281_4 := Aside0.mk hl281_4
           clear hi281_4 hl281_4
           replace p281 := eq_true p281
           replace q281 := eq_true q281
           refine start_ (n := 12) (S := fun w' => w'.cell? ⟨gb277, 0, none⟩ = some (.int .u8 a0_0) ∧ w'.cell? ⟨gb277, 1, none⟩ = some (.string a0_1) ∧ w'.cell? ⟨gb277, 2, none⟩ = some (.int .i64 a0_2) ∧ w'.cell? ⟨gb277, 3, none⟩ = some (.slice (some ad280) l0_3.length c0_3) ∧ w'.cell? ⟨gb277, 4, none⟩ = some (.slice A0_4 l0_4.length c0_4) ∧ w'.cell? ⟨gb278, 0, none⟩ = some (.int .u8 a1_0) ∧ w'.cell? ⟨gb278, 1, none⟩ = some (.string a1_1) ∧ w'.cell? ⟨gb278, 2, none⟩ = some (.int .i64 a1_2) ∧ w'.cell? ⟨gb278, 3, none⟩ = some (.slice (some ad281) l1_3.length c1_3) ∧ w'.cell? ⟨gb278, 4, none⟩ = some (.slice A1_4 l1_4.length c1_4) ∧ w'.cell? (ad280.add ((x45_2).toNat * 5)) = some (.int .u8 ((rd_T43 l0_3 x45_2).f0)) ∧ w'.cell? ⟨(ad280.add ((x45_2).toNat * 5)).block, (ad280.add ((x45_2).toNat * 5)).off + 1, none⟩ = some (.string ((rd_T43 l0_3 x45_2).f1)) ∧ w'.cell? ⟨(ad280.add ((x45_2).toNat * 5)).block, (ad280.add ((x45_2).toNat * 5)).off + 2, none⟩ = some (.int .i64 ((rd_T43 l0_3 x45_2).f2)) ∧ w'.cell? ⟨(ad280.add ((x45_2).toNat * 5)).block, (ad280.add ((x45_2).toNat * 5)).off + 3, none⟩ = some (.slice A280_3 ((rd_T43 l0_3 x45_2).f3).length c280_3) ∧ w'.cell? ⟨(ad280.add ((x45_2).toNat * 5)).block, (ad280.add ((x45_2).toNat * 5)).off + 4, none⟩ = some (.slice A280_4 ((rd_T43 l0_3 x45_2).f4).length c280_4) ∧ w'.cell? (ad281.add ((x45_2).toNat * 5)) = some (.int .u8 ((rd_T43 l1_3 x45_2).f0)) ∧ w'.cell? ⟨(ad281.add ((x45_2).toNat * 5)).block, (ad281.add ((x45_2).toNat * 5)).off + 1, none⟩ = some (.string ((rd_T43 l1_3 x45_2).f1)) ∧ w'.cell? ⟨(ad281.add ((x45_2).toNat * 5)).block, (ad281.add ((x45_2).toNat * 5)).off + 2, none⟩ = some (.int .i64 ((rd_T43 l1_3 x45_2).f2)) ∧ w'.cell? ⟨(ad281.add ((x45_2).toNat * 5)).block, (ad281.add ((x45_2).toNat * 5)).off + 3, none⟩ = some (.slice A281_3 ((rd_T43 l1_3 x45_2).f3).length c281_3) ∧ w'.cell? ⟨(ad281.add ((x45_2).toNat * 5)).block, (ad281.add ((x45_2).toNat * 5)).off + 4, none⟩ = some (.slice A281_4 ((rd_T43 l1_3 x45_2).f4).length c281_4)) (ds := []) #[false, false, false, false, false, false, false, false, false, false, false, false] (by kernel_rfl) rfl rfl ⟨(blk_cell BK277.out 0).trans rfl, (blk_cell BK277.out 1).trans rfl, (blk_cell BK277.out 2).trans rfl, (blk_cell BK277.out 3).trans rfl, (blk_cell BK277.out 4).trans rfl, (blk_cell BK278.out 0).trans rfl, (blk_cell BK278.out 1).trans rfl, (blk_cell BK278.out 2).trans rfl, (blk_cell BK278.out 3).trans rfl, (blk_cell BK278.out 4).trans rfl, ((HB.out.cell (World.block_lt_of_cell? w _ hw280_0)).trans hw280_0), ((HB.out.cell (World.block_lt_of_cell? w _ hw280_1)).trans hw280_1), ((HB.out.cell (World.block_lt_of_cell? w _ hw280_2)).trans hw280_2), ((HB.out.cell (World.block_lt_of_cell? w _ hw280_3)).trans hw280_3), ((HB.out.cell (World.block_lt_of_cell? w _ hw280_4)).trans hw280_4), ((HB.out.cell (World.block_lt_of_cell? w _ hw281_0)).trans hw281_0), ((HB.out.cell (World.block_lt_of_cell? w _ hw281_1)).trans hw281_1), ((HB.out.cell (World.block_lt_of_cell? w _ hw281_2)).trans hw281_2), ((HB.out.cell (World.block_lt_of_cell? w _ hw281_3)).trans hw281_3), ((HB.out.cell (World.block_lt_of_cell? w _ hw281_4)).trans hw281_4)⟩ (fun hHeld => ?_); refine with_tabW bellmanref09_Same.tab6 bellmanref09_Same.bits6 (fun HT_ HW_ => ?_)
           generalize wr.drew = w37 at BK277 BK278 HB HR280_3 HR280_4 HR281_3 HR281_4 hx280_0 hx280_1 hx280_2 hx280_3 hx280_4 hx281_0 hx281_1 hx281_2 hx281_3 hx281_4 hHeld ⊢
           refine pure_ (i := 0) (N := some 48) (v := ?_) (a' := ?_) #[true, false, false, false, false, false, false, false, false, false, false, false] rfl rfl (any_of HT_.out (by kernel_rfl)) (fun _ _ _ h => h) (Or.inl ⟨by rfl, ?_⟩) ?_ ?_
           rotate_left
           ·intro w'
            go_simp
            with_reducible rfl
           rotate_left
           ·simp only [Act.put, List.setIfInBounds_toArray, List.set_cons_zero, List.set_cons_succ, i64_w, i32_w]
            rfl
           refine pure_ (i := 2) (N := some 50) (v := ?_) (a' := ?_) #[true, false, true, false, false, false, false, false, false, false, false, false] rfl rfl (any_of HT_.out (by kernel_rfl)) (fun _ _ _ h => h) (Or.inl ⟨by rfl, ?_⟩) ?_ ?_
           rotate_left
           ·intro w'
            go_simp
            with_reducible rfl
           rotate_left
           ·simp only [Act.put, List.setIfInBounds_toArray, List.set_cons_zero, List.set_cons_succ, i64_w, i32_w]
            rfl
           refine pure_ (i := 5) (N := some 53) (v := ?_) (a' := ?_) #[true, false, true, false, false, true, false, false, false, false, false, false] rfl rfl (any_of HT_.out (by kernel_rfl)) (fun _ _ _ h => h) (Or.inl ⟨by rfl, ?_⟩) ?_ ?_
           rotate_left
           ·intro w'
            go_simp
            with_reducible rfl
           rotate_left
           ·simp only [Act.put, List.setIfInBounds_toArray, List.set_cons_zero, List.set_cons_succ, i64_w, i32_w]
            rfl
           refine pure_ (i := 7) (N := some 55) (v := ?_) (a' := ?_) #[true, false, true, false, false, true, false, true, false, false, false, false] rfl rfl (any_of HT_.out (by kernel_rfl)) (fun _ _ _ h => h) (Or.inl ⟨by rfl, ?_⟩) ?_ ?_
           rotate_left
           ·intro w'
            go_simp
            with_reducible rfl
           rotate_left
           ·simp only [Act.put, List.setIfInBounds_toArray, List.set_cons_zero, List.set_cons_succ, i64_w, i32_w]
            rfl
           refine take_ (i := 1) (N := some 49) (v := ?_) (a' := ?_) #[true, true, true, false, false, true, false, true, false, false, false, false] rfl rfl (take_ofW HT_.out HW_.out (by kernel_rfl)) (fun _ _ _ h => h) (Or.inl ⟨by rfl, ?_⟩) hHeld ?_ ?_
           rotate_left
           ·rintro w' ⟨s0, s1, s2, s3, s4, s5, s6, s7, s8, s9, s10, s11, s12, s13, s14, s15, s16, s17, s18, s19⟩
            go_simp
            with_reducible rfl
           rotate_left
           ·simp only [Act.put, List.setIfInBounds_toArray, List.set_cons_zero, List.set_cons_succ, i64_w, i32_w]
            rfl
           refine pure_ (i := 3) (N := some 51) (v := ?_) (a' := ?_) #[true, true, true, true, false, true, false, true, false, false, false, false] rfl rfl (any_of HT_.out (by kernel_rfl)) (fun _ _ _ h => h) (Or.inl ⟨by rfl, ?_⟩) ?_ ?_
           rotate_left
           ·intro w'
            go_simp
            with_reducible rfl
           rotate_left
           ·simp only [Act.put, List.setIfInBounds_toArray, List.set_cons_zero, List.set_cons_succ, i64_w, i32_w]
            rfl
           refine take_ (i := 4) (N := some 52) (v := ?_) (a' := ?_) #[true, true, true, true, true, true, false, true, false, false, false, false] rfl rfl (take_ofW HT_.out HW_.out (by kernel_rfl)) (fun _ _ _ h => h) (Or.inl ⟨by rfl, ?_⟩) hHeld ?_ ?_
           rotate_left
           ·rintro w' ⟨s0, s1, s2, s3, s4, s5, s6, s7, s8, s9, s10, s11, s12, s13, s14, s15, s16, s17, s18, s19⟩
            go_simp
            with_reducible rfl
           rotate_left
           ·simp only [Act.put, List.setIfInBounds_toArray, List.set_cons_zero, List.set_cons_succ, i64_w, i32_w]
            rfl
           refine take_ (i := 6) (N := some 54) (v := ?_) (a' := ?_) #[true, true, true, true, true, true, true, true, false, false, false, false] rfl rfl (take_ofW HT_.out HW_.out (by kernel_rfl)) (fun _ _ _ h => h) (Or.inl ⟨by rfl, ?_⟩) hHeld ?_ ?_
           rotate_left
           ·rintro w' ⟨s0, s1, s2, s3, s4, s5, s6, s7, s8, s9, s10, s11, s12, s13, s14, s15, s16, s17, s18, s19⟩
            go_simp
            with_reducible rfl
           rotate_left
           ·simp only [Act.put, List.setIfInBounds_toArray, List.set_cons_zero, List.set_cons_succ, i64_w, i32_w]
            rfl
           refine pure_ (i := 8) (N := some 56) (v := ?_) (a' := ?_) #[true, true, true, true, true, true, true, true, true, false, false, false] rfl rfl (any_of HT_.out (by kernel_rfl)) (fun _ _ _ h => h) (Or.inl ⟨by rfl, ?_⟩) ?_ ?_
           rotate_left
           ·intro w'
            go_simp
            with_reducible rfl
           rotate_left
           ·simp only [Act.put, List.setIfInBounds_toArray, List.set_cons_zero, List.set_cons_succ, i64_w, i32_w]
            rfl
           refine take_ (i := 9) (N := some 57) (v := ?_) (a' := ?_) #[true, true, true, true, true, true, true, true, true, true, false, false] rfl rfl (take_ofW HT_.out HW_.out (by kernel_rfl)) (fun _ _ _ h => h) (Or.inl ⟨by rfl, ?_⟩) hHeld ?_ ?_
           rotate_left
           ·rintro w' ⟨s0, s1, s2, s3, s4, s5, s6, s7, s8, s9, s10, s11, s12, s13, s14, s15, s16, s17, s18, s19⟩
            go_simp
            with_reducible rfl
           rotate_left
           ·simp only [Act.put, List.setIfInBounds_toArray, List.set_cons_zero, List.set_cons_succ, i64_w, i32_w]
            rfl
           refine one_ (i := 10) (N := some 58) #[true, true, true, true, true, true, true, true, true, true, true, false] rfl rfl (one_of HT_.out (by kernel_rfl)) (by decide) (fun K hK => ?_)
           refine goes_ Tryz.func33 (by kernel_rfl) rfl #[.agg #[.int .u8 ((rd_T43 l0_3 x45_2).f0), .string ((rd_T43 l0_3 x45_2).f1), .int .i64 ((rd_T43 l0_3 x45_2).f2), .slice A280_3 ((rd_T43 l0_3 x45_2).f3).length c280_3, .slice A280_4 ((rd_T43 l0_3 x45_2).f4).length c280_4], .agg #[.int .u8 ((rd_T43 l1_3 x45_2).f0), .string ((rd_T43 l1_3 x45_2).f1), .int .i64 ((rd_T43 l1_3 x45_2).f2), .slice A281_3 ((rd_T43 l1_3 x45_2).f3).length c281_3, .slice A281_4 ((rd_T43 l1_3 x45_2).f4).length c281_4]] (by rfl) rfl rfl (by (try simp only [List.map_toArray, List.map_cons, List.map_nil]); first | done | rfl) ?_
           with_reducible refine (ih k2 (by have := HJ2.out; have := HK2.out; omega) ((rd_T43 l0_3 x45_2).f0) ((rd_T43 l0_3 x45_2).f1) ((rd_T43 l0_3 x45_2).f2) _ _ ((rd_T43 l0_3 x45_2).f3) _ _ ((rd_T43 l0_3 x45_2).f4) ((rd_T43 l1_3 x45_2).f0) ((rd_T43 l1_3 x45_2).f1) ((rd_T43 l1_3 x45_2).f2) _ _ ((rd_T43 l1_3 x45_2).f3) _ _ ((rd_T43 l1_3 x45_2).f4) false _ ?side1 ?side2 ?side3 ?side4 ?side5 ?side6 ?side7 ?side8 A33.out).mono ?_
           (case side1 => repeat (first | exact (Kd.C_below HR280_3.out HB.out) | (with_reducible refine Kd.C_alloc ?_ _) | (with_reducible refine Kd.C_drewN ?_ _) | (with_reducible refine Kd.C_drew ?_)))
           (case side2 => exact HC280_3.out)
           (case side3 => repeat (first | exact (Kd.C_below HR280_4.out HB.out) | (with_reducible refine Kd.C_alloc ?_ _) | (with_reducible refine Kd.C_drewN ?_ _) | (with_reducible refine Kd.C_drew ?_)))
           (case side4 => exact HC280_4.out)
           (case side5 => repeat (first | exact (Kd.C_below HR281_3.out HB.out) | (with_reducible refine Kd.C_alloc ?_ _) | (with_reducible refine Kd.C_drewN ?_ _) | (with_reducible refine Kd.C_drew ?_)))
           (case side6 => exact HC281_3.out)
           (case side7 => repeat (first | exact (Kd.C_below HR281_4.out HB.out) | (with_reducible refine Kd.C_alloc ?_ _) | (with_reducible refine Kd.C_drewN ?_ _) | (with_reducible refine Kd.C_drew ?_)))
           (case side8 => exact HC281_4.out)
           rintro e w38 ⟨rfl, hb⟩
           refine ⟨_, rfl, ?_⟩
           have n0_ := Aside0.mk (blk_below (g := gb277) (o := .cells #[.int .u8 a0_0, .string a0_1, .int .i64 a0_2, .slice (some ad280) l0_3.length c0_3, .slice A0_4 l0_4.length c0_4] 43 (0, 0)) (blkS BK277.out) hb)
           have n1_ := Aside0.mk (blk_below (g := gb278) (o := .cells #[.int .u8 a1_0, .string a1_1, .int .i64 a1_2, .slice (some ad281) l1_3.length c1_3, .slice A1_4 l1_4.length c1_4] 43 (0, 0)) (blkS BK278.out) hb)
           have n2_ := Aside0.mk (below_step (by repeat (first | (with_reducible first | exact HB.out | apply below_alloc | apply pw_below_drewN | apply below_drew1 | refine below_set ?_ GE277.out | refine below_set ?_ GE278.out) | exact HB.out)) hb)
           clear BK277
           clear BK278
           clear HB
           have BK277 := n0_
           have BK278 := n1_
           have HB := n2_
           clear n0_ n1_ n2_
           (try clear hb)
           (try clear hb2)
           (try clear hk)
           (try clear hi)
           refine hK.out _ _ ⟨(blk_cell BK277.out 0).trans rfl, (blk_cell BK277.out 1).trans rfl, (blk_cell BK277.out 2).trans rfl, (blk_cell BK277.out 3).trans rfl, (blk_cell BK277.out 4).trans rfl, (blk_cell BK278.out 0).trans rfl, (blk_cell BK278.out 1).trans rfl, (blk_cell BK278.out 2).trans rfl, (blk_cell BK278.out 3).trans rfl, (blk_cell BK278.out 4).trans rfl, ((HB.out.cell (World.block_lt_of_cell? w _ hw280_0)).trans hw280_0), ((HB.out.cell (World.block_lt_of_cell? w _ hw280_1)).trans hw280_1), ((HB.out.cell (World.block_lt_of_cell? w _ hw280_2)).trans hw280_2), ((HB.out.cell (World.block_lt_of_cell? w _ hw280_3)).trans hw280_3), ((HB.out.cell (World.block_lt_of_cell? w _ hw280_4)).trans hw280_4), ((HB.out.cell (World.block_lt_of_cell? w _ hw281_0)).trans hw281_0), ((HB.out.cell (World.block_lt_of_cell? w _ hw281_1)).trans hw281_1), ((HB.out.cell (World.block_lt_of_cell? w _ hw281_2)).trans hw281_2), ((HB.out.cell (World.block_lt_of_cell? w _ hw281_3)).trans hw281_3), ((HB.out.cell (World.block_lt_of_cell? w _ hw281_4)).trans hw281_4)⟩ (fun hHeld => ?_)
           clear hK K
           refine norm_ (a' := ?_) ?_ ?_
           rotate_left
           ·show Act.put _ (some 58) _ = _
            simp only [Act.put, List.setIfInBounds_toArray, List.set_cons_zero, List.set_cons_succ, i64_w, i32_w]
            rfl
           refine pure_ (i := 11) (N := some 59) (v := ?_) (a' := ?_) #[true, true, true, true, true, true, true, true, true, true, true, true] rfl rfl (any_of HT_.out (by kernel_rfl)) (fun _ _ _ h => h) (Or.inl ⟨by rfl, ?_⟩) ?_ ?_
           rotate_left
           ·intro w'
            go_simp
            with_reducible rfl
           rotate_left
           ·simp only [Act.put, List.setIfInBounds_toArray, List.set_cons_zero, List.set_cons_succ, i64_w, i32_w]
            rfl
           refine done_ (done_of HT_.out (by kernel_rfl)) ?_
           try go_wp2
           go_ret
           exact ⟨by first | rfl | (simp [errW_none, errW_some] <;> rfl) | (simp [*, errW_none, errW_some] <;> rfl), by repeat (first | (with_reducible first | exact HB.out | apply below_alloc | apply pw_below_drewN | apply below_drew1 | refine below_set ?_ GE277.out | refine below_set ?_ GE278.out) | exact HB.out)⟩
         ·rw [if_neg c32] at H
          exact absurd H (by simp)
        ·rw [if_neg c31] at H
         exact absurd H (by simp)
       ·rw [if_neg c30] at H
        exact absurd H (by simp)
      ·rw [if_neg c29] at H
       have c29b0 : decide (x45_2 < (l0_3.length : Int)) = false := decide_eq_false c29
       clear c29
       obtain rfl := Option.some.inj H
       go_wp2
       go_ret
       exact ⟨by first | rfl | (simp [errW_none, errW_some] <;> rfl) | (simp [*, errW_none, errW_some] <;> rfl), by repeat (first | (with_reducible first | exact HB.out | apply below_alloc | apply pw_below_drewN | apply below_drew1 | refine below_set ?_ GE277.out | refine below_set ?_ GE278.out) | exact HB.out)⟩
end Go.Proofs.YtniibpndgcndbaaGreatDoor.PB
namespace Go.Proofs.YtniibpndgcndbaaGreatDoor.PB
open Go.RowKit Go.Proofs.YtniibpndgcndbaaGreatDoorW.PrintWords Go.Proofs.YtniibpndgcndbaaGreatDoorW.PrintLast Go.Proofs.YtniibpndgcndbaaGreatDoorW.PrintMore Go.Proofs.YtniibpndgcndbaaGreatDoor.Short
attribute [local go_sem] max2_int min2_int max_two min_two max_three min_three max_four min_four   -- for this text's walks alone
set_option linter.unusedVariables false
set_option linter.unusedSimpArgs false
def tree_leaf.f (a0_0 : Int) (a0_1 : ByteArray) (l0_2 : List ByteArray) (l0_3 : List (S37)) (l0_4 : List (S37)) : Option (Bool) := if a0_0 = 1 then (some ((wrap64 ((wrap64 ((l0_2.length : Int) + (l0_3.length : Int))) + (l0_4.length : Int))) == 0)) else (if a0_0 = 2 then (if (l0_3.length : Int) > 0 then (some false) else (if (l0_4.length : Int) > 0 then (some false) else (some (a0_1.toList == ([] : List UInt8))))) else (if a0_0 = 5 then (if (l0_4.length : Int) > 0 then (some false) else (some (a0_1.toList == ([] : List UInt8)))) else (if a0_0 = 3 then (some (a0_1.toList == ([] : List UInt8))) else (some false))))
set_option maxHeartbeats 8000000 in
set_option maxRecDepth 100000 in
theorem tree_leaf.calls (a0_0 : Int) (a0_1 : ByteArray) (A0_2 : Option Addr) (c0_2 : Nat) (l0_2 : List ByteArray) (A0_3 : Option Addr) (c0_3 : Nat) (l0_3 : List (S37)) (A0_4 : Option Addr) (c0_4 : Nat) (l0_4 : List (S37)) (r : Bool) (w : World) (hr0_2 : Kd.C Kd.string w A0_2 l0_2.length l0_2) (hc0_2 : l0_2.length ≤ c0_2) (hr0_3 : Kd.C k37 w A0_3 l0_3.length l0_3) (hc0_3 : l0_3.length ≤ c0_3) (hr0_4 : Kd.C k37 w A0_4 l0_4.length l0_4) (hc0_4 : l0_4.length ≤ c0_4) (h : tree_leaf.f a0_0 a0_1 l0_2 l0_3 l0_4 = some r) :
  Calls Tryz.prog 167 #[.agg #[.int .u8 a0_0, .string a0_1, .slice A0_2 l0_2.length c0_2, .slice A0_3 l0_3.length c0_3, .slice A0_4 l0_4.length c0_4]] w fun e w' => e = .returned (.bool r) ∧ Below w.heap.size w w' := by
 have hu37 := Tryz.underlying37
 have HR0_2 := Aside0.mk hr0_2
 have HC0_2 := Aside0.mk hc0_2
 clear hr0_2 hc0_2
 have HR0_3 := Aside0.mk hr0_3
 have HC0_3 := Aside0.mk hc0_3
 clear hr0_3 hc0_3
 have HR0_4 := Aside0.mk hr0_4
 have HC0_4 := Aside0.mk hc0_4
 clear hr0_4 hc0_4
 have HB := Aside0.mk (Below.refl w.heap.size w)
 have H : (if a0_0 = 1 then (some ((wrap64 ((wrap64 ((l0_2.length : Int) + (l0_3.length : Int))) + (l0_4.length : Int))) == 0)) else (if a0_0 = 2 then (if (l0_3.length : Int) > 0 then (some false) else (if (l0_4.length : Int) > 0 then (some false) else (some (a0_1.toList == ([] : List UInt8))))) else (if a0_0 = 5 then (if (l0_4.length : Int) > 0 then (some false) else (some (a0_1.toList == ([] : List UInt8)))) else (if a0_0 = 3 then (some (a0_1.toList == ([] : List UInt8))) else (some false))))) = some r := h
 clear h
 by_cases c2 : a0_0 = 1
 ·rw [if_pos c2] at H
  have c2b0 : (a0_0 == 1) = true := beq_iff_eq.mpr c2
  have c2b1 : (a0_0 != 1) = false := bne_eq_false_iff_eq.mpr c2
  clear c2
  obtain rfl := Option.some.inj H
  go_enter Tryz.func167, Tryz.ntmps167
  go_wp2_with (first | ((with_reducible refine gate_dst (N := 1) rfl ?_); refine box_event ?hg (N := 1) ?hd (cs := #[.int .u8 a0_0, .string a0_1, .slice A0_2 l0_2.length c0_2, .slice A0_3 l0_3.length c0_3, .slice A0_4 l0_4.length c0_4]) (t := 37) ?hr ?_; (case hd => rfl); (case hg => rfl); (case hr => first | (go_simp; done) | (go_simp; rfl)); intro gb101 hg w3 hbox hb; have n0_ := Aside0.mk (below_step (belS HB.out) hb); have n1_ := Aside0.mk (hbox); have n2_ := Aside0.mk ((by rw [hg]; exact (below_size (belS HB.out)) : w.heap.size ≤ gb101)); have n3_ := Aside0.mk ((by rw [hg]; exact (below_size (belS HB.out)) : w.heap.size ≤ gb101)); clear HB; have HB := n0_; have BK101 := n1_; have GW101 := n2_; have GE101 := n3_; clear n0_ n1_ n2_ n3_; clear hb hbox hg; obtain ⟨hcz4_0, hcz4_1, hcz4_2, hcz4_3, hcz4_4, hfz4_0, hfz4_1, hfz4_2, hfz4_3, hfz4_4⟩ := cells_5 BK101.out))
  go_ret
  exact ⟨by first | rfl | (simp [errW_none, errW_some] <;> rfl) | (simp [*, errW_none, errW_some] <;> rfl), by repeat (first | (with_reducible first | exact HB.out | apply below_alloc | apply pw_below_drewN | apply below_drew1 | refine below_set ?_ GE101.out) | exact HB.out)⟩
 ·rw [if_neg c2] at H
  have c2b0 : (a0_0 == 1) = false := beq_eq_false_iff_ne.mpr c2
  have c2b1 : (a0_0 != 1) = true := bne_iff_ne.mpr c2
  by_cases c5 : a0_0 = 2
  ·rw [if_pos c5] at H
   have c5b0 : (a0_0 == 2) = true := beq_iff_eq.mpr c5
   have c5b1 : (a0_0 != 2) = false := bne_eq_false_iff_eq.mpr c5
   clear c5
   by_cases c6 : (l0_3.length : Int) > 0
   ·rw [if_pos c6] at H
    have c6b0 : decide (0 < (l0_3.length : Int)) = true := decide_eq_true c6
    have c6b1 : decide (0 < l0_3.length) = true := decide_eq_true (by omega)
    clear c6
    obtain rfl := Option.some.inj H
    go_enter Tryz.func167, Tryz.ntmps167
    go_wp2_with (first | ((with_reducible refine gate_dst (N := 1) rfl ?_); refine box_event ?hg (N := 1) ?hd (cs := #[.int .u8 a0_0, .string a0_1, .slice A0_2 l0_2.length c0_2, .slice A0_3 l0_3.length c0_3, .slice A0_4 l0_4.length c0_4]) (t := 37) ?hr ?_; (case hd => rfl); (case hg => rfl); (case hr => first | (go_simp; done) | (go_simp; rfl)); intro gb101 hg w7 hbox hb; have n0_ := Aside0.mk (below_step (belS HB.out) hb); have n1_ := Aside0.mk (hbox); have n2_ := Aside0.mk ((by rw [hg]; exact (below_size (belS HB.out)) : w.heap.size ≤ gb101)); have n3_ := Aside0.mk ((by rw [hg]; exact (below_size (belS HB.out)) : w.heap.size ≤ gb101)); clear HB; have HB := n0_; have BK101 := n1_; have GW101 := n2_; have GE101 := n3_; clear n0_ n1_ n2_ n3_; clear hb hbox hg; obtain ⟨hcz8_0, hcz8_1, hcz8_2, hcz8_3, hcz8_4, hfz8_0, hfz8_1, hfz8_2, hfz8_3, hfz8_4⟩ := cells_5 BK101.out))
    go_ret
    exact ⟨by first | rfl | (simp [errW_none, errW_some] <;> rfl) | (simp [*, errW_none, errW_some] <;> rfl), by repeat (first | (with_reducible first | exact HB.out | apply below_alloc | apply pw_below_drewN | apply below_drew1 | refine below_set ?_ GE101.out) | exact HB.out)⟩
   ·rw [if_neg c6] at H
    have c6b0 : decide (0 < (l0_3.length : Int)) = false := decide_eq_false c6
    have c6b1 : decide (0 < l0_3.length) = false := decide_eq_false (by omega)
    clear c6
    by_cases c9 : (l0_4.length : Int) > 0
    ·rw [if_pos c9] at H
     have c9b0 : decide (0 < (l0_4.length : Int)) = true := decide_eq_true c9
     have c9b1 : decide (0 < l0_4.length) = true := decide_eq_true (by omega)
     clear c9
     obtain rfl := Option.some.inj H
     go_enter Tryz.func167, Tryz.ntmps167
     go_wp2_with (first | ((with_reducible refine gate_dst (N := 1) rfl ?_); refine box_event ?hg (N := 1) ?hd (cs := #[.int .u8 a0_0, .string a0_1, .slice A0_2 l0_2.length c0_2, .slice A0_3 l0_3.length c0_3, .slice A0_4 l0_4.length c0_4]) (t := 37) ?hr ?_; (case hd => rfl); (case hg => rfl); (case hr => first | (go_simp; done) | (go_simp; rfl)); intro gb101 hg w10 hbox hb; have n0_ := Aside0.mk (below_step (belS HB.out) hb); have n1_ := Aside0.mk (hbox); have n2_ := Aside0.mk ((by rw [hg]; exact (below_size (belS HB.out)) : w.heap.size ≤ gb101)); have n3_ := Aside0.mk ((by rw [hg]; exact (below_size (belS HB.out)) : w.heap.size ≤ gb101)); clear HB; have HB := n0_; have BK101 := n1_; have GW101 := n2_; have GE101 := n3_; clear n0_ n1_ n2_ n3_; clear hb hbox hg; obtain ⟨hcz11_0, hcz11_1, hcz11_2, hcz11_3, hcz11_4, hfz11_0, hfz11_1, hfz11_2, hfz11_3, hfz11_4⟩ := cells_5 BK101.out))
     go_ret
     exact ⟨by first | rfl | (simp [errW_none, errW_some] <;> rfl) | (simp [*, errW_none, errW_some] <;> rfl), by repeat (first | (with_reducible first | exact HB.out | apply below_alloc | apply pw_below_drewN | apply below_drew1 | refine below_set ?_ GE101.out) | exact HB.out)⟩
    ·rw [if_neg c9] at H
     have c9b0 : decide (0 < (l0_4.length : Int)) = false := decide_eq_false c9
     have c9b1 : decide (0 < l0_4.length) = false := decide_eq_false (by omega)
     clear c9
     obtain rfl := Option.some.inj H
     go_enter Tryz.func167, Tryz.ntmps167
     go_wp2_with (first | ((with_reducible refine gate_dst (N := 1) rfl ?_); refine box_event ?hg (N := 1) ?hd (cs := #[.int .u8 a0_0, .string a0_1, .slice A0_2 l0_2.length c0_2, .slice A0_3 l0_3.length c0_3, .slice A0_4 l0_4.length c0_4]) (t := 37) ?hr ?_; (case hd => rfl); (case hg => rfl); (case hr => first | (go_simp; done) | (go_simp; rfl)); intro gb101 hg w12 hbox hb; have n0_ := Aside0.mk (below_step (belS HB.out) hb); have n1_ := Aside0.mk (hbox); have n2_ := Aside0.mk ((by rw [hg]; exact (below_size (belS HB.out)) : w.heap.size ≤ gb101)); have n3_ := Aside0.mk ((by rw [hg]; exact (below_size (belS HB.out)) : w.heap.size ≤ gb101)); clear HB; have HB := n0_; have BK101 := n1_; have GW101 := n2_; have GE101 := n3_; clear n0_ n1_ n2_ n3_; clear hb hbox hg; obtain ⟨hcz13_0, hcz13_1, hcz13_2, hcz13_3, hcz13_4, hfz13_0, hfz13_1, hfz13_2, hfz13_3, hfz13_4⟩ := cells_5 BK101.out))
     go_ret
     exact ⟨by first | rfl | (simp [errW_none, errW_some] <;> rfl) | (simp [*, errW_none, errW_some] <;> rfl), by repeat (first | (with_reducible first | exact HB.out | apply below_alloc | apply pw_below_drewN | apply below_drew1 | refine below_set ?_ GE101.out) | exact HB.out)⟩
  ·rw [if_neg c5] at H
   have c5b0 : (a0_0 == 2) = false := beq_eq_false_iff_ne.mpr c5
   have c5b1 : (a0_0 != 2) = true := bne_iff_ne.mpr c5
   by_cases c14 : a0_0 = 5
   ·rw [if_pos c14] at H
    have c14b0 : (a0_0 == 5) = true := beq_iff_eq.mpr c14
    have c14b1 : (a0_0 != 5) = false := bne_eq_false_iff_eq.mpr c14
    clear c14
    by_cases c15 : (l0_4.length : Int) > 0
    ·rw [if_pos c15] at H
     have c15b0 : decide (0 < (l0_4.length : Int)) = true := decide_eq_true c15
     have c15b1 : decide (0 < l0_4.length) = true := decide_eq_true (by omega)
     clear c15
     obtain rfl := Option.some.inj H
     go_enter Tryz.func167, Tryz.ntmps167
     go_wp2_with (first | ((with_reducible refine gate_dst (N := 1) rfl ?_); refine box_event ?hg (N := 1) ?hd (cs := #[.int .u8 a0_0, .string a0_1, .slice A0_2 l0_2.length c0_2, .slice A0_3 l0_3.length c0_3, .slice A0_4 l0_4.length c0_4]) (t := 37) ?hr ?_; (case hd => rfl); (case hg => rfl); (case hr => first | (go_simp; done) | (go_simp; rfl)); intro gb101 hg w16 hbox hb; have n0_ := Aside0.mk (below_step (belS HB.out) hb); have n1_ := Aside0.mk (hbox); have n2_ := Aside0.mk ((by rw [hg]; exact (below_size (belS HB.out)) : w.heap.size ≤ gb101)); have n3_ := Aside0.mk ((by rw [hg]; exact (below_size (belS HB.out)) : w.heap.size ≤ gb101)); clear HB; have HB := n0_; have BK101 := n1_; have GW101 := n2_; have GE101 := n3_; clear n0_ n1_ n2_ n3_; clear hb hbox hg; obtain ⟨hcz17_0, hcz17_1, hcz17_2, hcz17_3, hcz17_4, hfz17_0, hfz17_1, hfz17_2, hfz17_3, hfz17_4⟩ := cells_5 BK101.out))
     go_ret
     exact ⟨by first | rfl | (simp [errW_none, errW_some] <;> rfl) | (simp [*, errW_none, errW_some] <;> rfl), by repeat (first | (with_reducible first | exact HB.out | apply below_alloc | apply pw_below_drewN | apply below_drew1 | refine below_set ?_ GE101.out) | exact HB.out)⟩
    ·rw [if_neg c15] at H
     have c15b0 : decide (0 < (l0_4.length : Int)) = false := decide_eq_false c15
     have c15b1 : decide (0 < l0_4.length) = false := decide_eq_false (by omega)
     clear c15
     obtain rfl := Option.some.inj H
     go_enter Tryz.func167, Tryz.ntmps167
     go_wp2_with (first | ((with_reducible refine gate_dst (N := 1) rfl ?_); refine box_event ?hg (N := 1) ?hd (cs := #[.int .u8 a0_0, .string a0_1, .slice A0_2 l0_2.length c0_2, .slice A0_3 l0_3.length c0_3, .slice A0_4 l0_4.length c0_4]) (t := 37) ?hr ?_; (case hd => rfl); (case hg => rfl); (case hr => first | (go_simp; done) | (go_simp; rfl)); intro gb101 hg w18 hbox hb; have n0_ := Aside0.mk (below_step (belS HB.out) hb); have n1_ := Aside0.mk (hbox); have n2_ := Aside0.mk ((by rw [hg]; exact (below_size (belS HB.out)) : w.heap.size ≤ gb101)); have n3_ := Aside0.mk ((by rw [hg]; exact (below_size (belS HB.out)) : w.heap.size ≤ gb101)); clear HB; have HB := n0_; have BK101 := n1_; have GW101 := n2_; have GE101 := n3_; clear n0_ n1_ n2_ n3_; clear hb hbox hg; obtain ⟨hcz19_0, hcz19_1, hcz19_2, hcz19_3, hcz19_4, hfz19_0, hfz19_1, hfz19_2, hfz19_3, hfz19_4⟩ := cells_5 BK101.out))
     go_ret
     exact ⟨by first | rfl | (simp [errW_none, errW_some] <;> rfl) | (simp [*, errW_none, errW_some] <;> rfl), by repeat (first | (with_reducible first | exact HB.out | apply below_alloc | apply pw_below_drewN | apply below_drew1 | refine below_set ?_ GE101.out) | exact HB.out)⟩
   ·rw [if_neg c14] at H
    have c14b0 : (a0_0 == 5) = false := beq_eq_false_iff_ne.mpr c14
    have c14b1 : (a0_0 != 5) = true := bne_iff_ne.mpr c14
    by_cases c20 : a0_0 = 3
    ·rw [if_pos c20] at H
     have c20b0 : (a0_0 == 3) = true := beq_iff_eq.mpr c20
     have c20b1 : (a0_0 != 3) = false := bne_eq_false_iff_eq.mpr c20
     clear c20
     obtain rfl := Option.some.inj H
     go_enter Tryz.func167, Tryz.ntmps167
     go_wp2_with (first | ((with_reducible refine gate_dst (N := 1) rfl ?_); refine box_event ?hg (N := 1) ?hd (cs := #[.int .u8 a0_0, .string a0_1, .slice A0_2 l0_2.length c0_2, .slice A0_3 l0_3.length c0_3, .slice A0_4 l0_4.length c0_4]) (t := 37) ?hr ?_; (case hd => rfl); (case hg => rfl); (case hr => first | (go_simp; done) | (go_simp; rfl)); intro gb101 hg w21 hbox hb; have n0_ := Aside0.mk (below_step (belS HB.out) hb); have n1_ := Aside0.mk (hbox); have n2_ := Aside0.mk ((by rw [hg]; exact (below_size (belS HB.out)) : w.heap.size ≤ gb101)); have n3_ := Aside0.mk ((by rw [hg]; exact (below_size (belS HB.out)) : w.heap.size ≤ gb101)); clear HB; have HB := n0_; have BK101 := n1_; have GW101 := n2_; have GE101 := n3_; clear n0_ n1_ n2_ n3_; clear hb hbox hg; obtain ⟨hcz22_0, hcz22_1, hcz22_2, hcz22_3, hcz22_4, hfz22_0, hfz22_1, hfz22_2, hfz22_3, hfz22_4⟩ := cells_5 BK101.out))
     go_ret
     exact ⟨by first | rfl | (simp [errW_none, errW_some] <;> rfl) | (simp [*, errW_none, errW_some] <;> rfl), by repeat (first | (with_reducible first | exact HB.out | apply below_alloc | apply pw_below_drewN | apply below_drew1 | refine below_set ?_ GE101.out) | exact HB.out)⟩
    ·rw [if_neg c20] at H
     have c20b0 : (a0_0 == 3) = false := beq_eq_false_iff_ne.mpr c20
     have c20b1 : (a0_0 != 3) = true := bne_iff_ne.mpr c20
     obtain rfl := Option.some.inj H
     go_enter Tryz.func167, Tryz.ntmps167
     go_wp2_with (first | ((with_reducible refine gate_dst (N := 1) rfl ?_); refine box_event ?hg (N := 1) ?hd (cs := #[.int .u8 a0_0, .string a0_1, .slice A0_2 l0_2.length c0_2, .slice A0_3 l0_3.length c0_3, .slice A0_4 l0_4.length c0_4]) (t := 37) ?hr ?_; (case hd => rfl); (case hg => rfl); (case hr => first | (go_simp; done) | (go_simp; rfl)); intro gb101 hg w23 hbox hb; have n0_ := Aside0.mk (below_step (belS HB.out) hb); have n1_ := Aside0.mk (hbox); have n2_ := Aside0.mk ((by rw [hg]; exact (below_size (belS HB.out)) : w.heap.size ≤ gb101)); have n3_ := Aside0.mk ((by rw [hg]; exact (below_size (belS HB.out)) : w.heap.size ≤ gb101)); clear HB; have HB := n0_; have BK101 := n1_; have GW101 := n2_; have GE101 := n3_; clear n0_ n1_ n2_ n3_; clear hb hbox hg; obtain ⟨hcz24_0, hcz24_1, hcz24_2, hcz24_3, hcz24_4, hfz24_0, hfz24_1, hfz24_2, hfz24_3, hfz24_4⟩ := cells_5 BK101.out))
     go_ret
     exact ⟨by first | rfl | (simp [errW_none, errW_some] <;> rfl) | (simp [*, errW_none, errW_some] <;> rfl), by repeat (first | (with_reducible first | exact HB.out | apply below_alloc | apply pw_below_drewN | apply below_drew1 | refine below_set ?_ GE101.out) | exact HB.out)⟩
def scan_words.f (a0 : Int) : Option (ByteArray) := if a0 = 3 then (some (⟨#[105, 102]⟩ : ByteArray)) else (if a0 = 5 then (some (⟨#[101, 97, 99, 104]⟩ : ByteArray)) else (if a0 = 4 then (some (⟨#[101, 108, 115, 101]⟩ : ByteArray)) else (if a0 = 6 then (some (⟨#[101, 110, 100]⟩ : ByteArray)) else (some (⟨#[]⟩ : ByteArray)))))
set_option maxHeartbeats 8000000 in
set_option maxRecDepth 100000 in
theorem scan_words.calls (a0 : Int) (r : ByteArray) (w : World) (h : scan_words.f a0 = some r) :
  Calls Tryz.prog 173 #[.int .u8 a0] w fun e w' => e = .returned (.string r) ∧ Drawn0 w w' := by
 have H : (if a0 = 3 then (some (⟨#[105, 102]⟩ : ByteArray)) else (if a0 = 5 then (some (⟨#[101, 97, 99, 104]⟩ : ByteArray)) else (if a0 = 4 then (some (⟨#[101, 108, 115, 101]⟩ : ByteArray)) else (if a0 = 6 then (some (⟨#[101, 110, 100]⟩ : ByteArray)) else (some (⟨#[]⟩ : ByteArray)))))) = some r := h
 clear h
 by_cases c2 : a0 = 3
 ·rw [if_pos c2] at H
  have c2b0 : (a0 == 3) = true := beq_iff_eq.mpr c2
  have c2b1 : (a0 != 3) = false := bne_eq_false_iff_eq.mpr c2
  clear c2
  obtain rfl := Option.some.inj H
  go_enter Tryz.func173, Tryz.ntmps173
  go_wp2
  go_ret
  exact ⟨by first | rfl | (simp; done) | (simp [*]; done), by repeat (first | exact Drawn0.refl _ | apply Drawn0.step)⟩
 ·rw [if_neg c2] at H
  have c2b0 : (a0 == 3) = false := beq_eq_false_iff_ne.mpr c2
  have c2b1 : (a0 != 3) = true := bne_iff_ne.mpr c2
  by_cases c3 : a0 = 5
  ·rw [if_pos c3] at H
   have c3b0 : (a0 == 5) = true := beq_iff_eq.mpr c3
   have c3b1 : (a0 != 5) = false := bne_eq_false_iff_eq.mpr c3
   clear c3
   obtain rfl := Option.some.inj H
   go_enter Tryz.func173, Tryz.ntmps173
   go_wp2
   go_ret
   exact ⟨by first | rfl | (simp; done) | (simp [*]; done), by repeat (first | exact Drawn0.refl _ | apply Drawn0.step)⟩
  ·rw [if_neg c3] at H
   have c3b0 : (a0 == 5) = false := beq_eq_false_iff_ne.mpr c3
   have c3b1 : (a0 != 5) = true := bne_iff_ne.mpr c3
   by_cases c4 : a0 = 4
   ·rw [if_pos c4] at H
    have c4b0 : (a0 == 4) = true := beq_iff_eq.mpr c4
    have c4b1 : (a0 != 4) = false := bne_eq_false_iff_eq.mpr c4
    clear c4
    obtain rfl := Option.some.inj H
    go_enter Tryz.func173, Tryz.ntmps173
    go_wp2
    go_ret
    exact ⟨by first | rfl | (simp; done) | (simp [*]; done), by repeat (first | exact Drawn0.refl _ | apply Drawn0.step)⟩
   ·rw [if_neg c4] at H
    have c4b0 : (a0 == 4) = false := beq_eq_false_iff_ne.mpr c4
    have c4b1 : (a0 != 4) = true := bne_iff_ne.mpr c4
    by_cases c5 : a0 = 6
    ·rw [if_pos c5] at H
     have c5b0 : (a0 == 6) = true := beq_iff_eq.mpr c5
     have c5b1 : (a0 != 6) = false := bne_eq_false_iff_eq.mpr c5
     clear c5
     obtain rfl := Option.some.inj H
     go_enter Tryz.func173, Tryz.ntmps173
     go_wp2
     go_ret
     exact ⟨by first | rfl | (simp; done) | (simp [*]; done), by repeat (first | exact Drawn0.refl _ | apply Drawn0.step)⟩
    ·rw [if_neg c5] at H
     have c5b0 : (a0 == 6) = false := beq_eq_false_iff_ne.mpr c5
     have c5b1 : (a0 != 6) = true := bne_iff_ne.mpr c5
     obtain rfl := Option.some.inj H
     go_enter Tryz.func173, Tryz.ntmps173
     go_wp2
     go_ret
     exact ⟨by first | rfl | (simp; done) | (simp [*]; done), by repeat (first | exact Drawn0.refl _ | apply Drawn0.step)⟩
def scan_own.l0 : Nat → ByteArray → Int → Option (Int)
 | 0, _, _ => none
 | k + 1, x0, x3 => if x3 < 7 then ((scan_words.f x3).bind fun t102 => (if t102.toList = x0.toList then (some x3) else (scan_own.l0 k x0 ((x3 + 1) % 256)))) else (some 2)
def scan_own.f (k : Nat) (a0 : ByteArray) : Option (Int) := scan_own.l0 k a0 3
theorem scan_own.mono_l : ∀ k, (∀ y0 y1, LeO (scan_own.l0 k y0 y1) (scan_own.l0 (k + 1) y0 y1))
 | 0 => fun _ _ r h => by simp [scan_own.l0] at h
 | k + 1 => by
  have ih0 := scan_own.mono_l k
  ·intro y0 y1
   unfold scan_own.l0
   repeat' first
   | (with_reducible exact ih0 _ _)
   | (with_reducible exact LeO.refl _)
   | (with_reducible exact LeO.none _)
   | (with_reducible refine LeO.ite ?_ ?_)
   | (with_reducible refine LeO.bind ?_ (fun _ => ?_))
   | exact ih0 _ _
   | exact LeO.none _
   | refine LeO.ite ?_ ?_
   | refine LeO.bind ?_ (fun _ => ?_)
set_option maxHeartbeats 8000000 in
set_option maxRecDepth 100000 in
theorem scan_own.calls (k : Nat) (a0 : ByteArray) (r : Int) (w : World) (h : scan_own.f k a0 = some r) :
  Calls Tryz.prog 142 #[.string a0] w fun e w' => e = .returned (.int .u8 r) ∧ Drawn0 w w' := by
 have H : (scan_own.l0 k a0 3) = some r := h
 clear h
 have H' := Aside0.mk H
 clear H
 go_enter Tryz.func142, Tryz.ntmps142
 go_wp2
 go_loopg [3] k (fun kq v3 w' => ∃ (x3_1 : Int), v3 = .int .u8 x3_1 ∧ Aside0 (scan_own.l0 kq a0 x3_1 = some r) ∧ Aside0 (kq ≤ k) ∧ Drawn0 w w')
 case atStart => exact ⟨(3), (by first | rfl | (simp; done) | (simp [*]; done)), H', ⟨Nat.le_refl _⟩, by repeat (first | exact Drawn0.refl _ | apply Drawn0.step)⟩
 case round =>
  clear H'
  try clear c1
  obtain ⟨x3_1, rfl, HA, HK1, ⟨m1, rfl⟩⟩ := hrel
  cases gk with
  | zero => exact absurd HA.out (by simp [scan_own.l0])
  | succ k1 =>
   have H := HA.out
   clear HA
   simp only [scan_own.l0] at H
   by_cases c2 : x3_1 < 7
   ·rw [if_pos c2] at H
    have c2b0 : decide (x3_1 < 7) = true := decide_eq_true c2
    clear c2
    replace H := Option.bind_eq_some_iff.mp H
    obtain ⟨t102, A30, H⟩ := H
    replace H : (if t102.toList = a0.toList then (some x3_1) else (scan_own.l0 k1 a0 ((x3_1 + 1) % 256))) = some r := H
    have A3 := Aside0.mk A30
    clear A30
    by_cases c4 : t102.toList = a0.toList
    ·rw [if_pos c4] at H
     have c4b0 : (t102.toList == a0.toList) = true := beq_iff_eq.mpr c4
     have c4b1 : (t102.toList != a0.toList) = false := bne_eq_false_iff_eq.mpr c4
     clear c4
     obtain rfl := Option.some.inj H
     go_wp2_with (first | ((with_reducible refine gate_callee (f := 173) rfl ?_); refine goesL_ (some 9) rfl rfl Tryz.func173 (by kernel_rfl) rfl #[.int .u8 x3_1] rfl (by (try simp only [List.map_toArray, List.map_cons, List.map_nil]); first | done | rfl) ?_; (with_reducible refine (scan_words.calls x3_1 t102 _ A3.out).mono ?_); rintro e w' ⟨rfl, ⟨nd, rfl⟩⟩; refine ⟨_, rfl, ?_⟩))
     go_ret
     exact ⟨by first | rfl | (simp; done) | (simp [*]; done), by repeat (first | exact Drawn0.refl _ | apply Drawn0.step)⟩
    ·rw [if_neg c4] at H
     have c4b0 : (t102.toList == a0.toList) = false := beq_eq_false_iff_ne.mpr c4
     have c4b1 : (t102.toList != a0.toList) = true := bne_iff_ne.mpr c4
     have H' := Aside0.mk H
     clear H
     go_wp2_with (first | ((with_reducible refine gate_callee (f := 173) rfl ?_); refine goesL_ (some 9) rfl rfl Tryz.func173 (by kernel_rfl) rfl #[.int .u8 x3_1] rfl (by (try simp only [List.map_toArray, List.map_cons, List.map_nil]); first | done | rfl) ?_; (with_reducible refine (scan_words.calls x3_1 t102 _ A3.out).mono ?_); rintro e w' ⟨rfl, ⟨nd, rfl⟩⟩; refine ⟨_, rfl, ?_⟩))
     go_roundg k1
     case measure => have := HK1.out; omega
     case rel => exact ⟨((x3_1 + 1) % 256), (by first | rfl | (simp; done) | (simp [*]; done)), H', ⟨by have := HK1.out; omega⟩, by repeat (first | exact Drawn0.refl _ | apply Drawn0.step)⟩
   ·rw [if_neg c2] at H
    have c2b0 : decide (x3_1 < 7) = false := decide_eq_false c2
    clear c2
    obtain rfl := Option.some.inj H
    go_wp2
    go_ret
    exact ⟨by first | rfl | (simp; done) | (simp [*]; done), by repeat (first | exact Drawn0.refl _ | apply Drawn0.step)⟩
mutual
def value_Name.j0 : Nat → ByteArray → Bool → Option (Int)
 | 0, _, _ => none
 | k + 1, x0, x11 => if x11 = true then (some 13) else (value_Name.l0 k x0 (x0.size : Int) 0)
def value_Name.l0 : Nat → ByteArray → Int → Int → Option (Int)
 | 0, _, _, _ => none
 | k + 1, x0, x13, x14 => if x14 < x13 then (if 0 ≤ x14 then (if x14 < (x0.size : Int) then (if (bt x0 x14) ≥ 97 then (value_Name.j2 k x0 x14 (bt x0 x14) x13 x14 (decide ((bt x0 x14) ≤ 122))) else (value_Name.j2 k x0 x14 (bt x0 x14) x13 x14 false)) else (none)) else (none)) else (some 0)
def value_Name.j2 : Nat → ByteArray → Int → Int → Int → Int → Bool → Option (Int)
 | 0, _, _, _, _, _, _ => none
 | k + 1, x0, x3, x4, x13, x14, x20 => if x20 = true then (value_Name.l0 k x0 x13 (wrap64 (x14 + 1))) else (if x3 > 0 then (if x4 = 95 then (value_Name.l0 k x0 x13 (wrap64 (x14 + 1))) else (if x4 ≥ 48 then (if x4 ≤ 57 then (value_Name.l0 k x0 x13 (wrap64 (x14 + 1))) else (some 13)) else (some 13))) else (some 13))
end
def value_Name.f (k : Nat) (a0 : ByteArray) : Option (Int) := if a0.toList = ([] : List UInt8) then (value_Name.j0 k a0 true) else (value_Name.j0 k a0 (decide ((a0.size : Int) > 32)))
theorem value_Name.mono_l : ∀ k, (∀ y0 y1, LeO (value_Name.j0 k y0 y1) (value_Name.j0 (k + 1) y0 y1)) ∧ (∀ y0 y1 y2, LeO (value_Name.l0 k y0 y1 y2) (value_Name.l0 (k + 1) y0 y1 y2)) ∧ (∀ y0 y1 y2 y3 y4 y5, LeO (value_Name.j2 k y0 y1 y2 y3 y4 y5) (value_Name.j2 (k + 1) y0 y1 y2 y3 y4 y5))
 | 0 => ⟨fun _ _ r h => by simp [value_Name.j0] at h, fun _ _ _ r h => by simp [value_Name.l0] at h, fun _ _ _ _ _ _ r h => by simp [value_Name.j2] at h⟩
 | k + 1 => by
  obtain ⟨ih0, ih1, ih2⟩ := value_Name.mono_l k
  refine ⟨?_, ?_, ?_⟩
  ·intro y0 y1
   unfold value_Name.j0
   repeat' first
   | (with_reducible exact ih0 _ _)
   | (with_reducible exact ih1 _ _ _)
   | (with_reducible exact ih2 _ _ _ _ _ _)
   | (with_reducible exact LeO.refl _)
   | (with_reducible exact LeO.none _)
   | (with_reducible refine LeO.ite ?_ ?_)
   | (with_reducible refine LeO.bind ?_ (fun _ => ?_))
   | exact ih0 _ _
   | exact ih1 _ _ _
   | exact ih2 _ _ _ _ _ _
   | exact LeO.none _
   | refine LeO.ite ?_ ?_
   | refine LeO.bind ?_ (fun _ => ?_)
  ·intro y0 y1 y2
   unfold value_Name.l0
   repeat' first
   | (with_reducible exact ih0 _ _)
   | (with_reducible exact ih1 _ _ _)
   | (with_reducible exact ih2 _ _ _ _ _ _)
   | (with_reducible exact LeO.refl _)
   | (with_reducible exact LeO.none _)
   | (with_reducible refine LeO.ite ?_ ?_)
   | (with_reducible refine LeO.bind ?_ (fun _ => ?_))
   | exact ih0 _ _
   | exact ih1 _ _ _
   | exact ih2 _ _ _ _ _ _
   | exact LeO.none _
   | refine LeO.ite ?_ ?_
   | refine LeO.bind ?_ (fun _ => ?_)
  ·intro y0 y1 y2 y3 y4 y5
   unfold value_Name.j2
   repeat' first
   | (with_reducible exact ih0 _ _)
   | (with_reducible exact ih1 _ _ _)
   | (with_reducible exact ih2 _ _ _ _ _ _)
   | (with_reducible exact LeO.refl _)
   | (with_reducible exact LeO.none _)
   | (with_reducible refine LeO.ite ?_ ?_)
   | (with_reducible refine LeO.bind ?_ (fun _ => ?_))
   | exact ih0 _ _
   | exact ih1 _ _ _
   | exact ih2 _ _ _ _ _ _
   | exact LeO.none _
   | refine LeO.ite ?_ ?_
   | refine LeO.bind ?_ (fun _ => ?_)
theorem value_Name.mono : ∀ a0 k, LeO (value_Name.f k a0) (value_Name.f (k + 1) a0) := by
 intro a0 k
 obtain ⟨ih0, ih1, ih2⟩ := value_Name.mono_l k
 unfold value_Name.f
 repeat' first
   | (with_reducible exact ih0 _ _)
   | (with_reducible exact ih1 _ _ _)
   | (with_reducible exact ih2 _ _ _ _ _ _)
   | (with_reducible exact LeO.refl _)
   | (with_reducible exact LeO.none _)
   | (with_reducible refine LeO.ite ?_ ?_)
   | (with_reducible refine LeO.bind ?_ (fun _ => ?_))
   | exact ih0 _ _
   | exact ih1 _ _ _
   | exact ih2 _ _ _ _ _ _
   | exact LeO.none _
   | refine LeO.ite ?_ ?_
   | refine LeO.bind ?_ (fun _ => ?_)
set_option maxHeartbeats 8000000 in
set_option maxRecDepth 100000 in
theorem value_Name.calls (k : Nat) (a0 : ByteArray) (r : Int) (w : World) (h : value_Name.f k a0 = some r) :
  Calls Tryz.prog 179 #[.string a0] w fun e w' => e = .returned (.int .i64 r) ∧ Drawn0 w w' := by
 have H : (if a0.toList = ([] : List UInt8) then (value_Name.j0 k a0 true) else (value_Name.j0 k a0 (decide ((a0.size : Int) > 32)))) = some r := h
 clear h
 have HC2 := Aside0.mk H
 clear H
 go_enter Tryz.func179, Tryz.ntmps179
 go_upto_region 1 with (fail)
 go_cut [11] (fun v11 wc => ∃ (kq : Nat) (x11_1 : Bool), v11 = .bool x11_1 ∧ Aside0 (value_Name.j0 kq a0 x11_1 = some r) ∧ Aside0 (kq ≤ k) ∧ Drawn0 w wc)
 case first =>
  have H := HC2.out
  clear HC2
  by_cases c3 : a0.toList = ([] : List UInt8)
  ·rw [if_pos c3] at H
   have c3b0 : (a0.toList == ([] : List UInt8)) = true := beq_iff_eq.mpr c3
   have c3b1 : (a0.toList != ([] : List UInt8)) = false := bne_eq_false_iff_eq.mpr c3
   clear c3
   (first | rw [c3b0] | (simp only [i64_w, i32_w]; rw [c3b0]) | skip)
   have H' := Aside0.mk H
   clear H
   go_wp2
   go_meet
   case rel => exact ⟨_, (true), (by first | rfl | (simp; done) | (simp [*]; done)), H', ⟨by first | omega | exact Nat.le_refl _⟩, by repeat (first | exact Drawn0.refl _ | apply Drawn0.step)⟩
  ·rw [if_neg c3] at H
   have c3b0 : (a0.toList == ([] : List UInt8)) = false := beq_eq_false_iff_ne.mpr c3
   have c3b1 : (a0.toList != ([] : List UInt8)) = true := bne_iff_ne.mpr c3
   (first | rw [c3b0] | (simp only [i64_w, i32_w]; rw [c3b0]) | skip)
   have H' := Aside0.mk H
   clear H
   go_wp2
   go_meet
   case rel => exact ⟨_, (decide ((a0.size : Int) > 32)), (by first | rfl | (simp; done) | (simp [*]; done)), H', ⟨by first | omega | exact Nat.le_refl _⟩, by repeat (first | exact Drawn0.refl _ | apply Drawn0.step)⟩
 case rest =>
  clear HC2
  try clear c1
  try clear p2
  try clear c3
  try clear c3b0
  try clear c3b1
  obtain ⟨kq, x11_1, rfl, HA, HJ1, ⟨mc1, rfl⟩⟩ := hcut
  cases kq with
  | zero => exact absurd HA.out (by simp [value_Name.j0])
  | succ kj1 =>
   have H := HA.out
   clear HA
   simp only [value_Name.j0] at H
   by_cases c4 : x11_1 = true
   ·subst c4
    have H1 : (some 13) = some r := by rw [if_pos rfl] at H; exact H
    clear H
    have H := H1
    clear H1
    obtain rfl := Option.some.inj H
    go_wp2
    go_ret
    exact ⟨by first | rfl | (simp; done) | (simp [*]; done), by repeat (first | exact Drawn0.refl _ | apply Drawn0.step)⟩
   ·replace c4 := Bool.eq_false_iff.mpr c4
    subst c4
    have H1 : (value_Name.l0 kj1 a0 (a0.size : Int) 0) = some r := by rw [if_neg (show ¬ (false = true) by decide)] at H; exact H
    clear H
    have H := H1
    clear H1
    have H' := Aside0.mk H
    clear H
    go_wp2
    go_loopg [14] kj1 (fun kq v14 w' => ∃ (x14_2 : Int), v14 = .int .i64 x14_2 ∧ Aside0 (value_Name.l0 kq a0 (a0.size : Int) x14_2 = some r) ∧ Aside0 (kq ≤ kj1) ∧ Drawn0 w w')
    case atStart => exact ⟨(0), (by first | rfl | (simp; done) | (simp [*]; done)), H', ⟨Nat.le_refl _⟩, by repeat (first | exact Drawn0.refl _ | apply Drawn0.step)⟩
    case round =>
     clear H'
     try clear c1
     try clear p2
     try clear c3
     try clear c3b0
     try clear c3b1
     try clear c4
     try clear p2
     obtain ⟨x14_2, rfl, HA, HK2, ⟨m2, rfl⟩⟩ := hrel
     cases gk with
     | zero => exact absurd HA.out (by simp [value_Name.l0])
     | succ k2 =>
      have H := HA.out
      clear HA
      simp only [value_Name.l0] at H
      by_cases c5 : x14_2 < (a0.size : Int)
      ·rw [if_pos c5] at H
       have c5b0 : decide (x14_2 < (a0.size : Int)) = true := decide_eq_true c5
       clear c5
       by_cases c6 : 0 ≤ x14_2
       ·rw [if_pos c6] at H
        have c6b0 : decide (0 ≤ x14_2) = true := decide_eq_true c6
        clear c6
        by_cases c7 : x14_2 < (a0.size : Int)
        ·rw [if_pos c7] at H
         have c7b0 : decide (x14_2 < (a0.size : Int)) = true := decide_eq_true c7
         clear c7
         have HC9 := Aside0.mk H
         clear H
         have p8 : 0 ≤ (x14_2 : Int) := of_decide_eq_true (by first | (with_reducible assumption) | assumption)
         have q8 : x14_2 < (a0.size : Int) := of_decide_eq_true (by first | (with_reducible assumption) | assumption)
         have hx8 := bt_at a0 x14_2
         replace p8 := eq_true p8
         replace q8 := eq_true q8
         go_upto_region 8 with (fail)
         go_cut [20] (fun v20 wc => ∃ (kq : Nat) (x20_8 : Bool), v20 = .bool x20_8 ∧ Aside0 (value_Name.j2 kq a0 x14_2 (bt a0 x14_2) (a0.size : Int) x14_2 x20_8 = some r) ∧ Aside0 (kq ≤ k2) ∧ Drawn0 w wc)
         case first =>
          have H := HC9.out
          clear HC9
          by_cases c10 : (bt a0 x14_2) ≥ 97
          ·rw [if_pos c10] at H
           have c10b0 : decide (97 ≤ (bt a0 x14_2)) = true := decide_eq_true c10
           clear c10
           (first | rw [c10b0] | (simp only [i64_w, i32_w]; rw [c10b0]) | skip)
           have H' := Aside0.mk H
           clear H
           go_wp2
           go_meet
           case rel => exact ⟨_, (decide ((bt a0 x14_2) ≤ 122)), (by first | rfl | (simp; done) | (simp [*]; done)), H', ⟨by have := HJ1.out; have := HK2.out; first | omega | exact Nat.le_refl _⟩, by repeat (first | exact Drawn0.refl _ | apply Drawn0.step)⟩
          ·rw [if_neg c10] at H
           have c10b0 : decide (97 ≤ (bt a0 x14_2)) = false := decide_eq_false c10
           clear c10
           (first | rw [c10b0] | (simp only [i64_w, i32_w]; rw [c10b0]) | skip)
           have H' := Aside0.mk H
           clear H
           go_wp2
           go_meet
           case rel => exact ⟨_, (false), (by first | rfl | (simp; done) | (simp [*]; done)), H', ⟨by have := HJ1.out; have := HK2.out; first | omega | exact Nat.le_refl _⟩, by repeat (first | exact Drawn0.refl _ | apply Drawn0.step)⟩
         case rest =>
          clear HC9
          try clear c1
          try clear p2
          try clear c3
          try clear c3b0
          try clear c3b1
          try clear c4
          try clear c5
          try clear c5b0
          try clear c6
          try clear c6b0
          try clear c7
          try clear c7b0
          try clear p8
          try clear q8
          try clear hx8
          try clear c10
          try clear c10b0
          try clear p2
          try clear p8
          try clear q8
          obtain ⟨kq, x20_8, rfl, HA, HJ8, ⟨mc8, rfl⟩⟩ := hcut
          cases kq with
          | zero => exact absurd HA.out (by simp [value_Name.j2])
          | succ kj8 =>
           have H := HA.out
           clear HA
           simp only [value_Name.j2] at H
           by_cases c11 : x20_8 = true
           ·subst c11
            have H1 : (value_Name.l0 kj8 a0 (a0.size : Int) (wrap64 (x14_2 + 1))) = some r := by rw [if_pos rfl] at H; exact H
            clear H
            have H := H1
            clear H1
            have H' := Aside0.mk H
            clear H
            go_wp2
            go_roundg kj8
            case measure => have := HJ1.out; have := HK2.out; have := HJ8.out; omega
            case rel => exact ⟨(wrap64 (x14_2 + 1)), (by first | rfl | (simp; done) | (simp [*]; done)), H', ⟨by have := HJ1.out; have := HK2.out; have := HJ8.out; omega⟩, by repeat (first | exact Drawn0.refl _ | apply Drawn0.step)⟩
           ·replace c11 := Bool.eq_false_iff.mpr c11
            subst c11
            rw [if_neg (show ¬ (false = true) by decide)] at H
            by_cases c12 : x14_2 > 0
            ·rw [if_pos c12] at H
             have c12b0 : decide (0 < x14_2) = true := decide_eq_true c12
             clear c12
             by_cases c13 : (bt a0 x14_2) = 95
             ·rw [if_pos c13] at H
              have c13b0 : ((bt a0 x14_2) == 95) = true := beq_iff_eq.mpr c13
              have c13b1 : ((bt a0 x14_2) != 95) = false := bne_eq_false_iff_eq.mpr c13
              clear c13
              have H' := Aside0.mk H
              clear H
              go_wp2
              go_roundg kj8
              case measure => have := HJ1.out; have := HK2.out; have := HJ8.out; omega
              case rel => exact ⟨(wrap64 (x14_2 + 1)), (by first | rfl | (simp; done) | (simp [*]; done)), H', ⟨by have := HJ1.out; have := HK2.out; have := HJ8.out; omega⟩, by repeat (first | exact Drawn0.refl _ | apply Drawn0.step)⟩
             ·rw [if_neg c13] at H
              have c13b0 : ((bt a0 x14_2) == 95) = false := beq_eq_false_iff_ne.mpr c13
              have c13b1 : ((bt a0 x14_2) != 95) = true := bne_iff_ne.mpr c13
              by_cases c14 : (bt a0 x14_2) ≥ 48
              ·rw [if_pos c14] at H
               have c14b0 : decide (48 ≤ (bt a0 x14_2)) = true := decide_eq_true c14
               clear c14
               by_cases c15 : (bt a0 x14_2) ≤ 57
               ·rw [if_pos c15] at H
                have c15b0 : decide ((bt a0 x14_2) ≤ 57) = true := decide_eq_true c15
                clear c15
                have H' := Aside0.mk H
                clear H
                go_wp2
                go_roundg kj8
                case measure => have := HJ1.out; have := HK2.out; have := HJ8.out; omega
                case rel => exact ⟨(wrap64 (x14_2 + 1)), (by first | rfl | (simp; done) | (simp [*]; done)), H', ⟨by have := HJ1.out; have := HK2.out; have := HJ8.out; omega⟩, by repeat (first | exact Drawn0.refl _ | apply Drawn0.step)⟩
               ·rw [if_neg c15] at H
                have c15b0 : decide ((bt a0 x14_2) ≤ 57) = false := decide_eq_false c15
                clear c15
                obtain rfl := Option.some.inj H
                go_wp2
                go_ret
                exact ⟨by first | rfl | (simp; done) | (simp [*]; done), by repeat (first | exact Drawn0.refl _ | apply Drawn0.step)⟩
              ·rw [if_neg c14] at H
               have c14b0 : decide (48 ≤ (bt a0 x14_2)) = false := decide_eq_false c14
               clear c14
               obtain rfl := Option.some.inj H
               go_wp2
               go_ret
               exact ⟨by first | rfl | (simp; done) | (simp [*]; done), by repeat (first | exact Drawn0.refl _ | apply Drawn0.step)⟩
            ·rw [if_neg c12] at H
             have c12b0 : decide (0 < x14_2) = false := decide_eq_false c12
             clear c12
             obtain rfl := Option.some.inj H
             go_wp2
             go_ret
             exact ⟨by first | rfl | (simp; done) | (simp [*]; done), by repeat (first | exact Drawn0.refl _ | apply Drawn0.step)⟩
        ·rw [if_neg c7] at H
         exact absurd H (by simp)
       ·rw [if_neg c6] at H
        exact absurd H (by simp)
      ·rw [if_neg c5] at H
       have c5b0 : decide (x14_2 < (a0.size : Int)) = false := decide_eq_false c5
       clear c5
       obtain rfl := Option.some.inj H
       go_wp2
       go_ret
       exact ⟨by first | rfl | (simp; done) | (simp [*]; done), by repeat (first | exact Drawn0.refl _ | apply Drawn0.step)⟩
end Go.Proofs.YtniibpndgcndbaaGreatDoor.PB
namespace Go.Proofs.YtniibpndgcndbaaGreatDoor.PB
open Go.RowKit Go.Proofs.YtniibpndgcndbaaGreatDoorW.PrintWords Go.Proofs.YtniibpndgcndbaaGreatDoorW.PrintLast Go.Proofs.YtniibpndgcndbaaGreatDoorW.PrintMore Go.Proofs.YtniibpndgcndbaaGreatDoor.Short
attribute [local go_sem] leq_spell
attribute [local go_sem] max2_int min2_int max_two min_two max_three min_three max_four min_four   -- for this text's walks alone
set_option linter.unusedVariables false
set_option linter.unusedSimpArgs false
def value_rising.l0 : Nat → List ByteArray → List ByteArray → Int → Int → Option (Bool)
 | 0, _, _, _, _ => none
 | k + 1, x0, x5, x6, x7 => if x7 < x6 then (if 0 ≤ x7 then (if x7 < (x5.length : Int) then ((value_Name.f k (rdOf ByteArray.empty x5 x7)).bind fun t188 => (if t188 = 0 then (if x7 > 0 then (if 0 ≤ (wrap64 (x7 - 1)) then (if (wrap64 (x7 - 1)) < (x0.length : Int) then (if (Op.bytesLess ((rdOf ByteArray.empty x0 (wrap64 (x7 - 1))).toList) ((rdOf ByteArray.empty x5 x7).toList)) = true then (value_rising.l0 k x0 x5 x6 (wrap64 (x7 + 1))) else (some false)) else (none)) else (none)) else (value_rising.l0 k x0 x5 x6 (wrap64 (x7 + 1)))) else (some false))) else (none)) else (none)) else (some true)
def value_rising.f (k : Nat) (l0 : List ByteArray) : Option (Bool) := value_rising.l0 k l0 l0 (l0.length : Int) 0
set_option maxHeartbeats 8000000 in
set_option maxRecDepth 100000 in
theorem value_rising.calls (k : Nat) (A0 : Option Addr) (c0 : Nat) (l0 : List ByteArray) (r : Bool) (w : World) (hr0 : Kd.C Kd.string w A0 l0.length l0) (hc0 : l0.length ≤ c0) (h : value_rising.f k l0 = some r) :
  Calls Tryz.prog 147 #[.slice A0 l0.length c0] w fun e w' => e = .returned (.bool r) ∧ Drawn0 w w' := by
 have HR0 := Aside0.mk hr0
 have HC0 := Aside0.mk hc0
 clear hr0 hc0
 have H : (value_rising.l0 k l0 l0 (l0.length : Int) 0) = some r := h
 clear h
 have H' := Aside0.mk H
 clear H
 go_enter Tryz.func147, Tryz.ntmps147
 go_wp2
 go_loopg [7] k (fun kq v7 w' => ∃ (x7_1 : Int), v7 = .int .i64 x7_1 ∧ Aside0 (value_rising.l0 kq l0 l0 (l0.length : Int) x7_1 = some r) ∧ Aside0 (kq ≤ k) ∧ Drawn0 w w')
 case atStart => exact ⟨(0), (by first | rfl | (simp; done) | (simp [*]; done)), H', ⟨Nat.le_refl _⟩, by repeat (first | exact Drawn0.refl _ | apply Drawn0.step)⟩
 case round =>
  clear H'
  try clear c1
  obtain ⟨x7_1, rfl, HA, HK1, ⟨m1, rfl⟩⟩ := hrel
  cases gk with
  | zero => exact absurd HA.out (by simp [value_rising.l0])
  | succ k1 =>
   have H := HA.out
   clear HA
   simp only [value_rising.l0] at H
   by_cases c2 : x7_1 < (l0.length : Int)
   ·rw [if_pos c2] at H
    have c2b0 : decide (x7_1 < (l0.length : Int)) = true := decide_eq_true c2
    clear c2
    by_cases c3 : 0 ≤ x7_1
    ·rw [if_pos c3] at H
     have c3b0 : decide (0 ≤ x7_1) = true := decide_eq_true c3
     clear c3
     by_cases c4 : x7_1 < (l0.length : Int)
     ·rw [if_pos c4] at H
      have c4b0 : decide (x7_1 < (l0.length : Int)) = true := decide_eq_true c4
      clear c4
      replace H := Option.bind_eq_some_iff.mp H
      obtain ⟨t188, A50, H⟩ := H
      (try dsimp only at H)
      have A5 := Aside0.mk A50
      clear A50
      by_cases c6 : t188 = 0
      ·rw [if_pos c6] at H
       have c6b0 : (t188 == 0) = true := beq_iff_eq.mpr c6
       have c6b1 : (t188 != 0) = false := bne_eq_false_iff_eq.mpr c6
       clear c6
       by_cases c7 : x7_1 > 0
       ·rw [if_pos c7] at H
        have c7b0 : decide (0 < x7_1) = true := decide_eq_true c7
        clear c7
        obtain ⟨ji8, hji8⟩ : ∃ j_ : Int, (wrap64 (x7_1 - 1)) = j_ := ⟨_, rfl⟩
        replace H : (if 0 ≤ (ji8) then (if (ji8) < (l0.length : Int) then (if (Op.bytesLess ((rdOf ByteArray.empty l0 (ji8)).toList) ((rdOf ByteArray.empty l0 x7_1).toList)) = true then (value_rising.l0 k1 l0 l0 (l0.length : Int) (wrap64 (x7_1 + 1))) else (some false)) else (none)) else (none)) = some r := by first | (rw [hji8] at H; exact H) | (simp only [hji8] at H ⊢; exact H)
        (try rw [hji8] at A5)
        have hji8w : (IntKind.i64.wrap (x7_1 - 1)) = ji8 := (i64_w _).trans hji8
        by_cases c9 : 0 ≤ (ji8)
        ·rw [if_pos c9] at H
         have c9b0 : decide (0 ≤ (ji8)) = true := decide_eq_true c9
         clear c9
         by_cases c10 : (ji8) < (l0.length : Int)
         ·rw [if_pos c10] at H
          have c10b0 : decide ((ji8) < (l0.length : Int)) = true := decide_eq_true c10
          clear c10
          by_cases c11 : (Op.bytesLess ((rdOf ByteArray.empty l0 (ji8)).toList) ((rdOf ByteArray.empty l0 x7_1).toList)) = true
          ·rw [if_pos c11] at H
           have c11b0 : (Op.bytesLess ((rdOf ByteArray.empty l0 (ji8)).toList) ((rdOf ByteArray.empty l0 x7_1).toList)) = true := c11
           clear c11
           have H' := Aside0.mk H
           clear H
           have p187 : 0 ≤ (x7_1 : Int) := of_decide_eq_true (by first | (with_reducible assumption) | assumption)
           have q187 : x7_1 < (l0.length : Int) := of_decide_eq_true (by first | (with_reducible assumption) | assumption)
           obtain ⟨ad187, e187, hx187_0⟩ := Kd.at_string HR0.out x7_1 p187 q187
           cases e187
           replace p187 := eq_true p187
           replace q187 := eq_true q187
           go_wp2_with (first | ((with_reducible refine gate_callee (f := 179) rfl ?_); refine goesL_ (some 13) rfl rfl Tryz.func179 (by kernel_rfl) rfl #[.string (rdOf ByteArray.empty l0 x7_1)] rfl (by (try simp only [List.map_toArray, List.map_cons, List.map_nil]); first | done | rfl) ?_; (with_reducible refine (value_Name.calls k1 (rdOf ByteArray.empty l0 x7_1) t188 _ A5.out).mono ?_); rintro e w' ⟨rfl, ⟨nd, rfl⟩⟩; refine ⟨_, rfl, ?_⟩; have p189 : 0 ≤ ((ji8) : Int) := of_decide_eq_true (by first | (with_reducible assumption) | assumption); have q189 : (ji8) < (l0.length : Int) := of_decide_eq_true (by first | (with_reducible assumption) | assumption); obtain ⟨ad189, e189, hx189_0⟩ := Kd.at_string HR0.out (ji8) p189 q189; obtain rfl : ad187 = ad189 := (by injection e189); replace p189 := eq_true p189; replace q189 := eq_true q189))
           go_roundg k1
           case measure => have := HK1.out; omega
           case rel => exact ⟨(wrap64 (x7_1 + 1)), (by first | rfl | (simp; done) | (simp [*]; done)), H', ⟨by have := HK1.out; omega⟩, by repeat (first | exact Drawn0.refl _ | apply Drawn0.step)⟩
          ·rw [if_neg c11] at H
           have c11b0 : (Op.bytesLess ((rdOf ByteArray.empty l0 (ji8)).toList) ((rdOf ByteArray.empty l0 x7_1).toList)) = false := by simpa using c11
           clear c11
           obtain rfl := Option.some.inj H
           have p187 : 0 ≤ (x7_1 : Int) := of_decide_eq_true (by first | (with_reducible assumption) | assumption)
           have q187 : x7_1 < (l0.length : Int) := of_decide_eq_true (by first | (with_reducible assumption) | assumption)
           obtain ⟨ad187, e187, hx187_0⟩ := Kd.at_string HR0.out x7_1 p187 q187
           cases e187
           replace p187 := eq_true p187
           replace q187 := eq_true q187
           go_wp2_with (first | ((with_reducible refine gate_callee (f := 179) rfl ?_); refine goesL_ (some 13) rfl rfl Tryz.func179 (by kernel_rfl) rfl #[.string (rdOf ByteArray.empty l0 x7_1)] rfl (by (try simp only [List.map_toArray, List.map_cons, List.map_nil]); first | done | rfl) ?_; (with_reducible refine (value_Name.calls k1 (rdOf ByteArray.empty l0 x7_1) t188 _ A5.out).mono ?_); rintro e w' ⟨rfl, ⟨nd, rfl⟩⟩; refine ⟨_, rfl, ?_⟩; have p189 : 0 ≤ ((ji8) : Int) := of_decide_eq_true (by first | (with_reducible assumption) | assumption); have q189 : (ji8) < (l0.length : Int) := of_decide_eq_true (by first | (with_reducible assumption) | assumption); obtain ⟨ad189, e189, hx189_0⟩ := Kd.at_string HR0.out (ji8) p189 q189; obtain rfl : ad187 = ad189 := (by injection e189); replace p189 := eq_true p189; replace q189 := eq_true q189))
           go_ret
           exact ⟨by first | rfl | (simp; done) | (simp only [← hji8] <;> (first | rfl | simp)) | (simp [*]; done), by repeat (first | exact Drawn0.refl _ | apply Drawn0.step)⟩
         ·rw [if_neg c10] at H
          exact absurd H (by simp)
        ·rw [if_neg c9] at H
         exact absurd H (by simp)
       ·rw [if_neg c7] at H
        have c7b0 : decide (0 < x7_1) = false := decide_eq_false c7
        clear c7
        have H' := Aside0.mk H
        clear H
        have p187 : 0 ≤ (x7_1 : Int) := of_decide_eq_true (by first | (with_reducible assumption) | assumption)
        have q187 : x7_1 < (l0.length : Int) := of_decide_eq_true (by first | (with_reducible assumption) | assumption)
        obtain ⟨ad187, e187, hx187_0⟩ := Kd.at_string HR0.out x7_1 p187 q187
        cases e187
        replace p187 := eq_true p187
        replace q187 := eq_true q187
        go_wp2_with (first | ((with_reducible refine gate_callee (f := 179) rfl ?_); refine goesL_ (some 13) rfl rfl Tryz.func179 (by kernel_rfl) rfl #[.string (rdOf ByteArray.empty l0 x7_1)] rfl (by (try simp only [List.map_toArray, List.map_cons, List.map_nil]); first | done | rfl) ?_; (with_reducible refine (value_Name.calls k1 (rdOf ByteArray.empty l0 x7_1) t188 _ A5.out).mono ?_); rintro e w' ⟨rfl, ⟨nd, rfl⟩⟩; refine ⟨_, rfl, ?_⟩))
        go_roundg k1
        case measure => have := HK1.out; omega
        case rel => exact ⟨(wrap64 (x7_1 + 1)), (by first | rfl | (simp; done) | (simp [*]; done)), H', ⟨by have := HK1.out; omega⟩, by repeat (first | exact Drawn0.refl _ | apply Drawn0.step)⟩
      ·rw [if_neg c6] at H
       have c6b0 : (t188 == 0) = false := beq_eq_false_iff_ne.mpr c6
       have c6b1 : (t188 != 0) = true := bne_iff_ne.mpr c6
       obtain rfl := Option.some.inj H
       have p187 : 0 ≤ (x7_1 : Int) := of_decide_eq_true (by first | (with_reducible assumption) | assumption)
       have q187 : x7_1 < (l0.length : Int) := of_decide_eq_true (by first | (with_reducible assumption) | assumption)
       obtain ⟨ad187, e187, hx187_0⟩ := Kd.at_string HR0.out x7_1 p187 q187
       cases e187
       replace p187 := eq_true p187
       replace q187 := eq_true q187
       go_wp2_with (first | ((with_reducible refine gate_callee (f := 179) rfl ?_); refine goesL_ (some 13) rfl rfl Tryz.func179 (by kernel_rfl) rfl #[.string (rdOf ByteArray.empty l0 x7_1)] rfl (by (try simp only [List.map_toArray, List.map_cons, List.map_nil]); first | done | rfl) ?_; (with_reducible refine (value_Name.calls k1 (rdOf ByteArray.empty l0 x7_1) t188 _ A5.out).mono ?_); rintro e w' ⟨rfl, ⟨nd, rfl⟩⟩; refine ⟨_, rfl, ?_⟩))
       go_ret
       exact ⟨by first | rfl | (simp; done) | (simp [*]; done), by repeat (first | exact Drawn0.refl _ | apply Drawn0.step)⟩
     ·rw [if_neg c4] at H
      exact absurd H (by simp)
    ·rw [if_neg c3] at H
     exact absurd H (by simp)
   ·rw [if_neg c2] at H
    have c2b0 : decide (x7_1 < (l0.length : Int)) = false := decide_eq_false c2
    clear c2
    obtain rfl := Option.some.inj H
    go_wp2
    go_ret
    exact ⟨by first | rfl | (simp; done) | (simp [*]; done), by repeat (first | exact Drawn0.refl _ | apply Drawn0.step)⟩
def value_leaf.f (k : Nat) (a0_0 : Int) (a0_1 : ByteArray) (a0_2 : Int) (l0_3 : List (S43)) (l0_4 : List ByteArray) : Option (Bool) := if a0_0 = 1 then (if (a0_1.size : Int) ≤ 4096 then (if a0_2 = 0 then (some ((wrap64 ((l0_3.length : Int) + (l0_4.length : Int))) == 0)) else (some false)) else (some false)) else (if a0_0 = 3 then (if (Go.bits .andNot .i64 a0_2 1) = 0 then (if a0_1.toList = ([] : List UInt8) then (some ((wrap64 ((l0_3.length : Int) + (l0_4.length : Int))) == 0)) else (some false)) else (some false)) else (if a0_0 = 2 then (if a0_1.toList = ([] : List UInt8) then (some ((wrap64 ((l0_3.length : Int) + (l0_4.length : Int))) == 0)) else (some false)) else (if a0_0 = 5 then (if a0_1.toList = ([] : List UInt8) then (if a0_2 = 0 then (if (l0_4.length : Int) = (l0_3.length : Int) then ((value_rising.f k l0_4).bind fun t191 => (some t191)) else (some false)) else (some false)) else (some false)) else (if a0_0 = 4 then (if a0_1.toList = ([] : List UInt8) then (if a0_2 = 0 then (some ((l0_4.length : Int) == 0)) else (some false)) else (some false)) else (some false)))))
set_option maxHeartbeats 8000000 in
set_option maxRecDepth 100000 in
theorem value_leaf.calls (k : Nat) (a0_0 : Int) (a0_1 : ByteArray) (a0_2 : Int) (A0_3 : Option Addr) (c0_3 : Nat) (l0_3 : List (S43)) (A0_4 : Option Addr) (c0_4 : Nat) (l0_4 : List ByteArray) (r : Bool) (w : World) (hr0_3 : Kd.C k43 w A0_3 l0_3.length l0_3) (hc0_3 : l0_3.length ≤ c0_3) (hr0_4 : Kd.C Kd.string w A0_4 l0_4.length l0_4) (hc0_4 : l0_4.length ≤ c0_4) (h : value_leaf.f k a0_0 a0_1 a0_2 l0_3 l0_4 = some r) :
  Calls Tryz.prog 99 #[.agg #[.int .u8 a0_0, .string a0_1, .int .i64 a0_2, .slice A0_3 l0_3.length c0_3, .slice A0_4 l0_4.length c0_4]] w fun e w' => e = .returned (.bool r) ∧ Below w.heap.size w w' := by
 have hu43 := Tryz.underlying43
 have HR0_3 := Aside0.mk hr0_3
 have HC0_3 := Aside0.mk hc0_3
 clear hr0_3 hc0_3
 have HR0_4 := Aside0.mk hr0_4
 have HC0_4 := Aside0.mk hc0_4
 clear hr0_4 hc0_4
 have HB := Aside0.mk (Below.refl w.heap.size w)
 have H : (if a0_0 = 1 then (if (a0_1.size : Int) ≤ 4096 then (if a0_2 = 0 then (some ((wrap64 ((l0_3.length : Int) + (l0_4.length : Int))) == 0)) else (some false)) else (some false)) else (if a0_0 = 3 then (if (Go.bits .andNot .i64 a0_2 1) = 0 then (if a0_1.toList = ([] : List UInt8) then (some ((wrap64 ((l0_3.length : Int) + (l0_4.length : Int))) == 0)) else (some false)) else (some false)) else (if a0_0 = 2 then (if a0_1.toList = ([] : List UInt8) then (some ((wrap64 ((l0_3.length : Int) + (l0_4.length : Int))) == 0)) else (some false)) else (if a0_0 = 5 then (if a0_1.toList = ([] : List UInt8) then (if a0_2 = 0 then (if (l0_4.length : Int) = (l0_3.length : Int) then ((value_rising.f k l0_4).bind fun t191 => (some t191)) else (some false)) else (some false)) else (some false)) else (if a0_0 = 4 then (if a0_1.toList = ([] : List UInt8) then (if a0_2 = 0 then (some ((l0_4.length : Int) == 0)) else (some false)) else (some false)) else (some false)))))) = some r := h
 clear h
 by_cases c2 : a0_0 = 1
 ·rw [if_pos c2] at H
  have c2b0 : (a0_0 == 1) = true := beq_iff_eq.mpr c2
  have c2b1 : (a0_0 != 1) = false := bne_eq_false_iff_eq.mpr c2
  clear c2
  by_cases c3 : (a0_1.size : Int) ≤ 4096
  ·rw [if_pos c3] at H
   have c3b0 : decide ((a0_1.size : Int) ≤ 4096) = true := decide_eq_true c3
   have c3b1 : decide (a0_1.size ≤ 4096) = true := decide_eq_true (by omega)
   clear c3
   by_cases c4 : a0_2 = 0
   ·rw [if_pos c4] at H
    have c4b0 : (a0_2 == 0) = true := beq_iff_eq.mpr c4
    have c4b1 : (a0_2 != 0) = false := bne_eq_false_iff_eq.mpr c4
    clear c4
    obtain rfl := Option.some.inj H
    go_enter Tryz.func99, Tryz.ntmps99
    go_wp2_with (first | ((with_reducible refine gate_dst (N := 1) rfl ?_); (try (refine gate_guard (by rfl) ?_; dsimp only)); refine box_event ?hg (N := 1) ?hd (cs := #[.int .u8 a0_0, .string a0_1, .int .i64 a0_2, .slice A0_3 l0_3.length c0_3, .slice A0_4 l0_4.length c0_4]) (t := 43) ?hr ?_; (case hd => rfl); (case hg => rfl); (case hr => first | (go_simp; done) | (go_simp; rfl)); intro gb190 hg w5 hbox hb; have n0_ := Aside0.mk (below_step (belS HB.out) hb); have n1_ := Aside0.mk (hbox); have n2_ := Aside0.mk ((by rw [hg]; exact (below_size (belS HB.out)) : w.heap.size ≤ gb190)); have n3_ := Aside0.mk ((by rw [hg]; exact (below_size (belS HB.out)) : w.heap.size ≤ gb190)); clear HB; have HB := n0_; have BK190 := n1_; have GW190 := n2_; have GE190 := n3_; clear n0_ n1_ n2_ n3_; clear hb hbox hg; obtain ⟨hcz6_0, hcz6_1, hcz6_2, hcz6_3, hcz6_4, hfz6_0, hfz6_1, hfz6_2, hfz6_3, hfz6_4⟩ := cells_5 BK190.out))
    go_ret
    exact ⟨by first | rfl | (simp [errW_none, errW_some] <;> rfl) | (simp [*, errW_none, errW_some] <;> rfl), by repeat (first | (with_reducible first | exact HB.out | apply below_alloc | apply pw_below_drewN | apply below_drew1 | refine below_set ?_ GE190.out) | exact HB.out)⟩
   ·rw [if_neg c4] at H
    have c4b0 : (a0_2 == 0) = false := beq_eq_false_iff_ne.mpr c4
    have c4b1 : (a0_2 != 0) = true := bne_iff_ne.mpr c4
    obtain rfl := Option.some.inj H
    go_enter Tryz.func99, Tryz.ntmps99
    go_wp2_with (first | ((with_reducible refine gate_dst (N := 1) rfl ?_); (try (refine gate_guard (by rfl) ?_; dsimp only)); refine box_event ?hg (N := 1) ?hd (cs := #[.int .u8 a0_0, .string a0_1, .int .i64 a0_2, .slice A0_3 l0_3.length c0_3, .slice A0_4 l0_4.length c0_4]) (t := 43) ?hr ?_; (case hd => rfl); (case hg => rfl); (case hr => first | (go_simp; done) | (go_simp; rfl)); intro gb190 hg w7 hbox hb; have n0_ := Aside0.mk (below_step (belS HB.out) hb); have n1_ := Aside0.mk (hbox); have n2_ := Aside0.mk ((by rw [hg]; exact (below_size (belS HB.out)) : w.heap.size ≤ gb190)); have n3_ := Aside0.mk ((by rw [hg]; exact (below_size (belS HB.out)) : w.heap.size ≤ gb190)); clear HB; have HB := n0_; have BK190 := n1_; have GW190 := n2_; have GE190 := n3_; clear n0_ n1_ n2_ n3_; clear hb hbox hg; obtain ⟨hcz8_0, hcz8_1, hcz8_2, hcz8_3, hcz8_4, hfz8_0, hfz8_1, hfz8_2, hfz8_3, hfz8_4⟩ := cells_5 BK190.out))
    go_ret
    exact ⟨by first | rfl | (simp [errW_none, errW_some] <;> rfl) | (simp [*, errW_none, errW_some] <;> rfl), by repeat (first | (with_reducible first | exact HB.out | apply below_alloc | apply pw_below_drewN | apply below_drew1 | refine below_set ?_ GE190.out) | exact HB.out)⟩
  ·rw [if_neg c3] at H
   have c3b0 : decide ((a0_1.size : Int) ≤ 4096) = false := decide_eq_false c3
   have c3b1 : decide (a0_1.size ≤ 4096) = false := decide_eq_false (by omega)
   clear c3
   obtain rfl := Option.some.inj H
   go_enter Tryz.func99, Tryz.ntmps99
   go_wp2_with (first | ((with_reducible refine gate_dst (N := 1) rfl ?_); (try (refine gate_guard (by rfl) ?_; dsimp only)); refine box_event ?hg (N := 1) ?hd (cs := #[.int .u8 a0_0, .string a0_1, .int .i64 a0_2, .slice A0_3 l0_3.length c0_3, .slice A0_4 l0_4.length c0_4]) (t := 43) ?hr ?_; (case hd => rfl); (case hg => rfl); (case hr => first | (go_simp; done) | (go_simp; rfl)); intro gb190 hg w9 hbox hb; have n0_ := Aside0.mk (below_step (belS HB.out) hb); have n1_ := Aside0.mk (hbox); have n2_ := Aside0.mk ((by rw [hg]; exact (below_size (belS HB.out)) : w.heap.size ≤ gb190)); have n3_ := Aside0.mk ((by rw [hg]; exact (below_size (belS HB.out)) : w.heap.size ≤ gb190)); clear HB; have HB := n0_; have BK190 := n1_; have GW190 := n2_; have GE190 := n3_; clear n0_ n1_ n2_ n3_; clear hb hbox hg; obtain ⟨hcz10_0, hcz10_1, hcz10_2, hcz10_3, hcz10_4, hfz10_0, hfz10_1, hfz10_2, hfz10_3, hfz10_4⟩ := cells_5 BK190.out))
   go_ret
   exact ⟨by first | rfl | (simp [errW_none, errW_some] <;> rfl) | (simp [*, errW_none, errW_some] <;> rfl), by repeat (first | (with_reducible first | exact HB.out | apply below_alloc | apply pw_below_drewN | apply below_drew1 | refine below_set ?_ GE190.out) | exact HB.out)⟩
 ·rw [if_neg c2] at H
  have c2b0 : (a0_0 == 1) = false := beq_eq_false_iff_ne.mpr c2
  have c2b1 : (a0_0 != 1) = true := bne_iff_ne.mpr c2
  by_cases c11 : a0_0 = 3
  ·rw [if_pos c11] at H
   have c11b0 : (a0_0 == 3) = true := beq_iff_eq.mpr c11
   have c11b1 : (a0_0 != 3) = false := bne_eq_false_iff_eq.mpr c11
   clear c11
   by_cases c12 : (Go.bits .andNot .i64 a0_2 1) = 0
   ·rw [if_pos c12] at H
    have c12b0 : ((Go.bits .andNot .i64 a0_2 1) == 0) = true := beq_iff_eq.mpr c12
    have c12b1 : ((Go.bits .andNot .i64 a0_2 1) != 0) = false := bne_eq_false_iff_eq.mpr c12
    clear c12
    by_cases c13 : a0_1.toList = ([] : List UInt8)
    ·rw [if_pos c13] at H
     have c13b0 : (a0_1.toList == ([] : List UInt8)) = true := beq_iff_eq.mpr c13
     have c13b1 : (a0_1.toList != ([] : List UInt8)) = false := bne_eq_false_iff_eq.mpr c13
     clear c13
     obtain rfl := Option.some.inj H
     go_enter Tryz.func99, Tryz.ntmps99
     go_wp2_with (first | ((with_reducible refine gate_dst (N := 1) rfl ?_); (try (refine gate_guard (by rfl) ?_; dsimp only)); refine box_event ?hg (N := 1) ?hd (cs := #[.int .u8 a0_0, .string a0_1, .int .i64 a0_2, .slice A0_3 l0_3.length c0_3, .slice A0_4 l0_4.length c0_4]) (t := 43) ?hr ?_; (case hd => rfl); (case hg => rfl); (case hr => first | (go_simp; done) | (go_simp; rfl)); intro gb190 hg w14 hbox hb; have n0_ := Aside0.mk (below_step (belS HB.out) hb); have n1_ := Aside0.mk (hbox); have n2_ := Aside0.mk ((by rw [hg]; exact (below_size (belS HB.out)) : w.heap.size ≤ gb190)); have n3_ := Aside0.mk ((by rw [hg]; exact (below_size (belS HB.out)) : w.heap.size ≤ gb190)); clear HB; have HB := n0_; have BK190 := n1_; have GW190 := n2_; have GE190 := n3_; clear n0_ n1_ n2_ n3_; clear hb hbox hg; obtain ⟨hcz15_0, hcz15_1, hcz15_2, hcz15_3, hcz15_4, hfz15_0, hfz15_1, hfz15_2, hfz15_3, hfz15_4⟩ := cells_5 BK190.out))
     go_ret
     exact ⟨by first | rfl | (simp [errW_none, errW_some] <;> rfl) | (simp [*, errW_none, errW_some] <;> rfl), by repeat (first | (with_reducible first | exact HB.out | apply below_alloc | apply pw_below_drewN | apply below_drew1 | refine below_set ?_ GE190.out) | exact HB.out)⟩
    ·rw [if_neg c13] at H
     have c13b0 : (a0_1.toList == ([] : List UInt8)) = false := beq_eq_false_iff_ne.mpr c13
     have c13b1 : (a0_1.toList != ([] : List UInt8)) = true := bne_iff_ne.mpr c13
     obtain rfl := Option.some.inj H
     go_enter Tryz.func99, Tryz.ntmps99
     go_wp2_with (first | ((with_reducible refine gate_dst (N := 1) rfl ?_); (try (refine gate_guard (by rfl) ?_; dsimp only)); refine box_event ?hg (N := 1) ?hd (cs := #[.int .u8 a0_0, .string a0_1, .int .i64 a0_2, .slice A0_3 l0_3.length c0_3, .slice A0_4 l0_4.length c0_4]) (t := 43) ?hr ?_; (case hd => rfl); (case hg => rfl); (case hr => first | (go_simp; done) | (go_simp; rfl)); intro gb190 hg w16 hbox hb; have n0_ := Aside0.mk (below_step (belS HB.out) hb); have n1_ := Aside0.mk (hbox); have n2_ := Aside0.mk ((by rw [hg]; exact (below_size (belS HB.out)) : w.heap.size ≤ gb190)); have n3_ := Aside0.mk ((by rw [hg]; exact (below_size (belS HB.out)) : w.heap.size ≤ gb190)); clear HB; have HB := n0_; have BK190 := n1_; have GW190 := n2_; have GE190 := n3_; clear n0_ n1_ n2_ n3_; clear hb hbox hg; obtain ⟨hcz17_0, hcz17_1, hcz17_2, hcz17_3, hcz17_4, hfz17_0, hfz17_1, hfz17_2, hfz17_3, hfz17_4⟩ := cells_5 BK190.out))
     go_ret
     exact ⟨by first | rfl | (simp [errW_none, errW_some] <;> rfl) | (simp [*, errW_none, errW_some] <;> rfl), by repeat (first | (with_reducible first | exact HB.out | apply below_alloc | apply pw_below_drewN | apply below_drew1 | refine below_set ?_ GE190.out) | exact HB.out)⟩
   ·rw [if_neg c12] at H
    have c12b0 : ((Go.bits .andNot .i64 a0_2 1) == 0) = false := beq_eq_false_iff_ne.mpr c12
    have c12b1 : ((Go.bits .andNot .i64 a0_2 1) != 0) = true := bne_iff_ne.mpr c12
    obtain rfl := Option.some.inj H
    go_enter Tryz.func99, Tryz.ntmps99
    go_wp2_with (first | ((with_reducible refine gate_dst (N := 1) rfl ?_); (try (refine gate_guard (by rfl) ?_; dsimp only)); refine box_event ?hg (N := 1) ?hd (cs := #[.int .u8 a0_0, .string a0_1, .int .i64 a0_2, .slice A0_3 l0_3.length c0_3, .slice A0_4 l0_4.length c0_4]) (t := 43) ?hr ?_; (case hd => rfl); (case hg => rfl); (case hr => first | (go_simp; done) | (go_simp; rfl)); intro gb190 hg w18 hbox hb; have n0_ := Aside0.mk (below_step (belS HB.out) hb); have n1_ := Aside0.mk (hbox); have n2_ := Aside0.mk ((by rw [hg]; exact (below_size (belS HB.out)) : w.heap.size ≤ gb190)); have n3_ := Aside0.mk ((by rw [hg]; exact (below_size (belS HB.out)) : w.heap.size ≤ gb190)); clear HB; have HB := n0_; have BK190 := n1_; have GW190 := n2_; have GE190 := n3_; clear n0_ n1_ n2_ n3_; clear hb hbox hg; obtain ⟨hcz19_0, hcz19_1, hcz19_2, hcz19_3, hcz19_4, hfz19_0, hfz19_1, hfz19_2, hfz19_3, hfz19_4⟩ := cells_5 BK190.out))
    go_ret
    exact ⟨by first | rfl | (simp [errW_none, errW_some] <;> rfl) | (simp [*, errW_none, errW_some] <;> rfl), by repeat (first | (with_reducible first | exact HB.out | apply below_alloc | apply pw_below_drewN | apply below_drew1 | refine below_set ?_ GE190.out) | exact HB.out)⟩
  ·rw [if_neg c11] at H
   have c11b0 : (a0_0 == 3) = false := beq_eq_false_iff_ne.mpr c11
   have c11b1 : (a0_0 != 3) = true := bne_iff_ne.mpr c11
   by_cases c20 : a0_0 = 2
   ·rw [if_pos c20] at H
    have c20b0 : (a0_0 == 2) = true := beq_iff_eq.mpr c20
    have c20b1 : (a0_0 != 2) = false := bne_eq_false_iff_eq.mpr c20
    clear c20
    by_cases c21 : a0_1.toList = ([] : List UInt8)
    ·rw [if_pos c21] at H
     have c21b0 : (a0_1.toList == ([] : List UInt8)) = true := beq_iff_eq.mpr c21
     have c21b1 : (a0_1.toList != ([] : List UInt8)) = false := bne_eq_false_iff_eq.mpr c21
     clear c21
     obtain rfl := Option.some.inj H
     go_enter Tryz.func99, Tryz.ntmps99
     go_wp2_with (first | ((with_reducible refine gate_dst (N := 1) rfl ?_); (try (refine gate_guard (by rfl) ?_; dsimp only)); refine box_event ?hg (N := 1) ?hd (cs := #[.int .u8 a0_0, .string a0_1, .int .i64 a0_2, .slice A0_3 l0_3.length c0_3, .slice A0_4 l0_4.length c0_4]) (t := 43) ?hr ?_; (case hd => rfl); (case hg => rfl); (case hr => first | (go_simp; done) | (go_simp; rfl)); intro gb190 hg w22 hbox hb; have n0_ := Aside0.mk (below_step (belS HB.out) hb); have n1_ := Aside0.mk (hbox); have n2_ := Aside0.mk ((by rw [hg]; exact (below_size (belS HB.out)) : w.heap.size ≤ gb190)); have n3_ := Aside0.mk ((by rw [hg]; exact (below_size (belS HB.out)) : w.heap.size ≤ gb190)); clear HB; have HB := n0_; have BK190 := n1_; have GW190 := n2_; have GE190 := n3_; clear n0_ n1_ n2_ n3_; clear hb hbox hg; obtain ⟨hcz23_0, hcz23_1, hcz23_2, hcz23_3, hcz23_4, hfz23_0, hfz23_1, hfz23_2, hfz23_3, hfz23_4⟩ := cells_5 BK190.out))
     go_ret
     exact ⟨by first | rfl | (simp [errW_none, errW_some] <;> rfl) | (simp [*, errW_none, errW_some] <;> rfl), by repeat (first | (with_reducible first | exact HB.out | apply below_alloc | apply pw_below_drewN | apply below_drew1 | refine below_set ?_ GE190.out) | exact HB.out)⟩
    ·rw [if_neg c21] at H
     have c21b0 : (a0_1.toList == ([] : List UInt8)) = false := beq_eq_false_iff_ne.mpr c21
     have c21b1 : (a0_1.toList != ([] : List UInt8)) = true := bne_iff_ne.mpr c21
     obtain rfl := Option.some.inj H
     go_enter Tryz.func99, Tryz.ntmps99
     go_wp2_with (first | ((with_reducible refine gate_dst (N := 1) rfl ?_); (try (refine gate_guard (by rfl) ?_; dsimp only)); refine box_event ?hg (N := 1) ?hd (cs := #[.int .u8 a0_0, .string a0_1, .int .i64 a0_2, .slice A0_3 l0_3.length c0_3, .slice A0_4 l0_4.length c0_4]) (t := 43) ?hr ?_; (case hd => rfl); (case hg => rfl); (case hr => first | (go_simp; done) | (go_simp; rfl)); intro gb190 hg w24 hbox hb; have n0_ := Aside0.mk (below_step (belS HB.out) hb); have n1_ := Aside0.mk (hbox); have n2_ := Aside0.mk ((by rw [hg]; exact (below_size (belS HB.out)) : w.heap.size ≤ gb190)); have n3_ := Aside0.mk ((by rw [hg]; exact (below_size (belS HB.out)) : w.heap.size ≤ gb190)); clear HB; have HB := n0_; have BK190 := n1_; have GW190 := n2_; have GE190 := n3_; clear n0_ n1_ n2_ n3_; clear hb hbox hg; obtain ⟨hcz25_0, hcz25_1, hcz25_2, hcz25_3, hcz25_4, hfz25_0, hfz25_1, hfz25_2, hfz25_3, hfz25_4⟩ := cells_5 BK190.out))
     go_ret
     exact ⟨by first | rfl | (simp [errW_none, errW_some] <;> rfl) | (simp [*, errW_none, errW_some] <;> rfl), by repeat (first | (with_reducible first | exact HB.out | apply below_alloc | apply pw_below_drewN | apply below_drew1 | refine below_set ?_ GE190.out) | exact HB.out)⟩
   ·rw [if_neg c20] at H
    have c20b0 : (a0_0 == 2) = false := beq_eq_false_iff_ne.mpr c20
    have c20b1 : (a0_0 != 2) = true := bne_iff_ne.mpr c20
    by_cases c26 : a0_0 = 5
    ·rw [if_pos c26] at H
     have c26b0 : (a0_0 == 5) = true := beq_iff_eq.mpr c26
     have c26b1 : (a0_0 != 5) = false := bne_eq_false_iff_eq.mpr c26
     clear c26
     by_cases c27 : a0_1.toList = ([] : List UInt8)
     ·rw [if_pos c27] at H
      have c27b0 : (a0_1.toList == ([] : List UInt8)) = true := beq_iff_eq.mpr c27
      have c27b1 : (a0_1.toList != ([] : List UInt8)) = false := bne_eq_false_iff_eq.mpr c27
      clear c27
      by_cases c28 : a0_2 = 0
      ·rw [if_pos c28] at H
       have c28b0 : (a0_2 == 0) = true := beq_iff_eq.mpr c28
       have c28b1 : (a0_2 != 0) = false := bne_eq_false_iff_eq.mpr c28
       clear c28
       by_cases c29 : (l0_4.length : Int) = (l0_3.length : Int)
       ·rw [if_pos c29] at H
        have c29b0 : ((l0_4.length : Int) == (l0_3.length : Int)) = true := beq_iff_eq.mpr c29
        have c29b1 : ((l0_4.length : Int) != (l0_3.length : Int)) = false := bne_eq_false_iff_eq.mpr c29
        have c29b2 : (l0_4.length == l0_3.length) = true := by first | simpa using c29 | (simp at c29 ⊢; omega)
        clear c29
        replace H := Option.bind_eq_some_iff.mp H
        obtain ⟨t191, A300, H⟩ := H
        replace H : (some t191) = some r := H
        have A30 := Aside0.mk A300
        clear A300
        obtain rfl := Option.some.inj H
        go_enter Tryz.func99, Tryz.ntmps99
        go_wp2_with (first | ((with_reducible refine gate_dst (N := 1) rfl ?_); (try (refine gate_guard (by rfl) ?_; dsimp only)); refine box_event ?hg (N := 1) ?hd (cs := #[.int .u8 a0_0, .string a0_1, .int .i64 a0_2, .slice A0_3 l0_3.length c0_3, .slice A0_4 l0_4.length c0_4]) (t := 43) ?hr ?_; (case hd => rfl); (case hg => rfl); (case hr => first | (go_simp; done) | (go_simp; rfl)); intro gb190 hg w31 hbox hb; have n0_ := Aside0.mk (below_step (belS HB.out) hb); have n1_ := Aside0.mk (hbox); have n2_ := Aside0.mk ((by rw [hg]; exact (below_size (belS HB.out)) : w.heap.size ≤ gb190)); have n3_ := Aside0.mk ((by rw [hg]; exact (below_size (belS HB.out)) : w.heap.size ≤ gb190)); clear HB; have HB := n0_; have BK190 := n1_; have GW190 := n2_; have GE190 := n3_; clear n0_ n1_ n2_ n3_; clear hb hbox hg; obtain ⟨hcz32_0, hcz32_1, hcz32_2, hcz32_3, hcz32_4, hfz32_0, hfz32_1, hfz32_2, hfz32_3, hfz32_4⟩ := cells_5 BK190.out) | (go_at_call 147; (with_reducible refine (value_rising.calls k _ _ l0_4 t191 _ ?side1 ?side2 A30.out).mono ?_); (case side1 => repeat (first | exact (Kd.C_below HR0_4.out HB.out) | (with_reducible refine Kd.C_alloc ?_ _) | (with_reducible refine Kd.C_drewN ?_ _) | (with_reducible refine Kd.C_drew ?_))); (case side2 => exact HC0_4.out); rintro e w' ⟨rfl, ⟨nd, rfl⟩⟩))
        go_ret
        exact ⟨by first | rfl | (simp [errW_none, errW_some] <;> rfl) | (simp [*, errW_none, errW_some] <;> rfl), by repeat (first | (with_reducible first | exact HB.out | apply below_alloc | apply pw_below_drewN | apply below_drew1 | refine below_set ?_ GE190.out) | exact HB.out)⟩
       ·rw [if_neg c29] at H
        have c29b0 : ((l0_4.length : Int) == (l0_3.length : Int)) = false := beq_eq_false_iff_ne.mpr c29
        have c29b1 : ((l0_4.length : Int) != (l0_3.length : Int)) = true := bne_iff_ne.mpr c29
        have c29b2 : (l0_4.length == l0_3.length) = false := by first | simpa using c29 | (simp at c29 ⊢; omega)
        obtain rfl := Option.some.inj H
        go_enter Tryz.func99, Tryz.ntmps99
        go_wp2_with (first | ((with_reducible refine gate_dst (N := 1) rfl ?_); (try (refine gate_guard (by rfl) ?_; dsimp only)); refine box_event ?hg (N := 1) ?hd (cs := #[.int .u8 a0_0, .string a0_1, .int .i64 a0_2, .slice A0_3 l0_3.length c0_3, .slice A0_4 l0_4.length c0_4]) (t := 43) ?hr ?_; (case hd => rfl); (case hg => rfl); (case hr => first | (go_simp; done) | (go_simp; rfl)); intro gb190 hg w33 hbox hb; have n0_ := Aside0.mk (below_step (belS HB.out) hb); have n1_ := Aside0.mk (hbox); have n2_ := Aside0.mk ((by rw [hg]; exact (below_size (belS HB.out)) : w.heap.size ≤ gb190)); have n3_ := Aside0.mk ((by rw [hg]; exact (below_size (belS HB.out)) : w.heap.size ≤ gb190)); clear HB; have HB := n0_; have BK190 := n1_; have GW190 := n2_; have GE190 := n3_; clear n0_ n1_ n2_ n3_; clear hb hbox hg; obtain ⟨hcz34_0, hcz34_1, hcz34_2, hcz34_3, hcz34_4, hfz34_0, hfz34_1, hfz34_2, hfz34_3, hfz34_4⟩ := cells_5 BK190.out))
        go_ret
        exact ⟨by first | rfl | (simp [errW_none, errW_some] <;> rfl) | (simp [*, errW_none, errW_some] <;> rfl), by repeat (first | (with_reducible first | exact HB.out | apply below_alloc | apply pw_below_drewN | apply below_drew1 | refine below_set ?_ GE190.out) | exact HB.out)⟩
      ·rw [if_neg c28] at H
       have c28b0 : (a0_2 == 0) = false := beq_eq_false_iff_ne.mpr c28
       have c28b1 : (a0_2 != 0) = true := bne_iff_ne.mpr c28
       obtain rfl := Option.some.inj H
       go_enter Tryz.func99, Tryz.ntmps99
       go_wp2_with (first | ((with_reducible refine gate_dst (N := 1) rfl ?_); (try (refine gate_guard (by rfl) ?_; dsimp only)); refine box_event ?hg (N := 1) ?hd (cs := #[.int .u8 a0_0, .string a0_1, .int .i64 a0_2, .slice A0_3 l0_3.length c0_3, .slice A0_4 l0_4.length c0_4]) (t := 43) ?hr ?_; (case hd => rfl); (case hg => rfl); (case hr => first | (go_simp; done) | (go_simp; rfl)); intro gb190 hg w35 hbox hb; have n0_ := Aside0.mk (below_step (belS HB.out) hb); have n1_ := Aside0.mk (hbox); have n2_ := Aside0.mk ((by rw [hg]; exact (below_size (belS HB.out)) : w.heap.size ≤ gb190)); have n3_ := Aside0.mk ((by rw [hg]; exact (below_size (belS HB.out)) : w.heap.size ≤ gb190)); clear HB; have HB := n0_; have BK190 := n1_; have GW190 := n2_; have GE190 := n3_; clear n0_ n1_ n2_ n3_; clear hb hbox hg; obtain ⟨hcz36_0, hcz36_1, hcz36_2, hcz36_3, hcz36_4, hfz36_0, hfz36_1, hfz36_2, hfz36_3, hfz36_4⟩ := cells_5 BK190.out))
       go_ret
       exact ⟨by first | rfl | (simp [errW_none, errW_some] <;> rfl) | (simp [*, errW_none, errW_some] <;> rfl), by repeat (first | (with_reducible first | exact HB.out | apply below_alloc | apply pw_below_drewN | apply below_drew1 | refine below_set ?_ GE190.out) | exact HB.out)⟩
     ·rw [if_neg c27] at H
      have c27b0 : (a0_1.toList == ([] : List UInt8)) = false := beq_eq_false_iff_ne.mpr c27
      have c27b1 : (a0_1.toList != ([] : List UInt8)) = true := bne_iff_ne.mpr c27
      obtain rfl := Option.some.inj H
      go_enter Tryz.func99, Tryz.ntmps99
      go_wp2_with (first | ((with_reducible refine gate_dst (N := 1) rfl ?_); (try (refine gate_guard (by rfl) ?_; dsimp only)); refine box_event ?hg (N := 1) ?hd (cs := #[.int .u8 a0_0, .string a0_1, .int .i64 a0_2, .slice A0_3 l0_3.length c0_3, .slice A0_4 l0_4.length c0_4]) (t := 43) ?hr ?_; (case hd => rfl); (case hg => rfl); (case hr => first | (go_simp; done) | (go_simp; rfl)); intro gb190 hg w37 hbox hb; have n0_ := Aside0.mk (below_step (belS HB.out) hb); have n1_ := Aside0.mk (hbox); have n2_ := Aside0.mk ((by rw [hg]; exact (below_size (belS HB.out)) : w.heap.size ≤ gb190)); have n3_ := Aside0.mk ((by rw [hg]; exact (below_size (belS HB.out)) : w.heap.size ≤ gb190)); clear HB; have HB := n0_; have BK190 := n1_; have GW190 := n2_; have GE190 := n3_; clear n0_ n1_ n2_ n3_; clear hb hbox hg; obtain ⟨hcz38_0, hcz38_1, hcz38_2, hcz38_3, hcz38_4, hfz38_0, hfz38_1, hfz38_2, hfz38_3, hfz38_4⟩ := cells_5 BK190.out))
      go_ret
      exact ⟨by first | rfl | (simp [errW_none, errW_some] <;> rfl) | (simp [*, errW_none, errW_some] <;> rfl), by repeat (first | (with_reducible first | exact HB.out | apply below_alloc | apply pw_below_drewN | apply below_drew1 | refine below_set ?_ GE190.out) | exact HB.out)⟩
    ·rw [if_neg c26] at H
     have c26b0 : (a0_0 == 5) = false := beq_eq_false_iff_ne.mpr c26
     have c26b1 : (a0_0 != 5) = true := bne_iff_ne.mpr c26
     by_cases c39 : a0_0 = 4
     ·rw [if_pos c39] at H
      have c39b0 : (a0_0 == 4) = true := beq_iff_eq.mpr c39
      have c39b1 : (a0_0 != 4) = false := bne_eq_false_iff_eq.mpr c39
      clear c39
      by_cases c40 : a0_1.toList = ([] : List UInt8)
      ·rw [if_pos c40] at H
       have c40b0 : (a0_1.toList == ([] : List UInt8)) = true := beq_iff_eq.mpr c40
       have c40b1 : (a0_1.toList != ([] : List UInt8)) = false := bne_eq_false_iff_eq.mpr c40
       clear c40
       by_cases c41 : a0_2 = 0
       ·rw [if_pos c41] at H
        have c41b0 : (a0_2 == 0) = true := beq_iff_eq.mpr c41
        have c41b1 : (a0_2 != 0) = false := bne_eq_false_iff_eq.mpr c41
        clear c41
        obtain rfl := Option.some.inj H
        go_enter Tryz.func99, Tryz.ntmps99
        go_wp2_with (first | ((with_reducible refine gate_dst (N := 1) rfl ?_); (try (refine gate_guard (by rfl) ?_; dsimp only)); refine box_event ?hg (N := 1) ?hd (cs := #[.int .u8 a0_0, .string a0_1, .int .i64 a0_2, .slice A0_3 l0_3.length c0_3, .slice A0_4 l0_4.length c0_4]) (t := 43) ?hr ?_; (case hd => rfl); (case hg => rfl); (case hr => first | (go_simp; done) | (go_simp; rfl)); intro gb190 hg w42 hbox hb; have n0_ := Aside0.mk (below_step (belS HB.out) hb); have n1_ := Aside0.mk (hbox); have n2_ := Aside0.mk ((by rw [hg]; exact (below_size (belS HB.out)) : w.heap.size ≤ gb190)); have n3_ := Aside0.mk ((by rw [hg]; exact (below_size (belS HB.out)) : w.heap.size ≤ gb190)); clear HB; have HB := n0_; have BK190 := n1_; have GW190 := n2_; have GE190 := n3_; clear n0_ n1_ n2_ n3_; clear hb hbox hg; obtain ⟨hcz43_0, hcz43_1, hcz43_2, hcz43_3, hcz43_4, hfz43_0, hfz43_1, hfz43_2, hfz43_3, hfz43_4⟩ := cells_5 BK190.out))
        go_ret
        exact ⟨by first | rfl | (simp [errW_none, errW_some] <;> rfl) | (simp [*, errW_none, errW_some] <;> rfl), by repeat (first | (with_reducible first | exact HB.out | apply below_alloc | apply pw_below_drewN | apply below_drew1 | refine below_set ?_ GE190.out) | exact HB.out)⟩
       ·rw [if_neg c41] at H
        have c41b0 : (a0_2 == 0) = false := beq_eq_false_iff_ne.mpr c41
        have c41b1 : (a0_2 != 0) = true := bne_iff_ne.mpr c41
        obtain rfl := Option.some.inj H
        go_enter Tryz.func99, Tryz.ntmps99
        go_wp2_with (first | ((with_reducible refine gate_dst (N := 1) rfl ?_); (try (refine gate_guard (by rfl) ?_; dsimp only)); refine box_event ?hg (N := 1) ?hd (cs := #[.int .u8 a0_0, .string a0_1, .int .i64 a0_2, .slice A0_3 l0_3.length c0_3, .slice A0_4 l0_4.length c0_4]) (t := 43) ?hr ?_; (case hd => rfl); (case hg => rfl); (case hr => first | (go_simp; done) | (go_simp; rfl)); intro gb190 hg w44 hbox hb; have n0_ := Aside0.mk (below_step (belS HB.out) hb); have n1_ := Aside0.mk (hbox); have n2_ := Aside0.mk ((by rw [hg]; exact (below_size (belS HB.out)) : w.heap.size ≤ gb190)); have n3_ := Aside0.mk ((by rw [hg]; exact (below_size (belS HB.out)) : w.heap.size ≤ gb190)); clear HB; have HB := n0_; have BK190 := n1_; have GW190 := n2_; have GE190 := n3_; clear n0_ n1_ n2_ n3_; clear hb hbox hg; obtain ⟨hcz45_0, hcz45_1, hcz45_2, hcz45_3, hcz45_4, hfz45_0, hfz45_1, hfz45_2, hfz45_3, hfz45_4⟩ := cells_5 BK190.out))
        go_ret
        exact ⟨by first | rfl | (simp [errW_none, errW_some] <;> rfl) | (simp [*, errW_none, errW_some] <;> rfl), by repeat (first | (with_reducible first | exact HB.out | apply below_alloc | apply pw_below_drewN | apply below_drew1 | refine below_set ?_ GE190.out) | exact HB.out)⟩
      ·rw [if_neg c40] at H
       have c40b0 : (a0_1.toList == ([] : List UInt8)) = false := beq_eq_false_iff_ne.mpr c40
       have c40b1 : (a0_1.toList != ([] : List UInt8)) = true := bne_iff_ne.mpr c40
       obtain rfl := Option.some.inj H
       go_enter Tryz.func99, Tryz.ntmps99
       go_wp2_with (first | ((with_reducible refine gate_dst (N := 1) rfl ?_); (try (refine gate_guard (by rfl) ?_; dsimp only)); refine box_event ?hg (N := 1) ?hd (cs := #[.int .u8 a0_0, .string a0_1, .int .i64 a0_2, .slice A0_3 l0_3.length c0_3, .slice A0_4 l0_4.length c0_4]) (t := 43) ?hr ?_; (case hd => rfl); (case hg => rfl); (case hr => first | (go_simp; done) | (go_simp; rfl)); intro gb190 hg w46 hbox hb; have n0_ := Aside0.mk (below_step (belS HB.out) hb); have n1_ := Aside0.mk (hbox); have n2_ := Aside0.mk ((by rw [hg]; exact (below_size (belS HB.out)) : w.heap.size ≤ gb190)); have n3_ := Aside0.mk ((by rw [hg]; exact (below_size (belS HB.out)) : w.heap.size ≤ gb190)); clear HB; have HB := n0_; have BK190 := n1_; have GW190 := n2_; have GE190 := n3_; clear n0_ n1_ n2_ n3_; clear hb hbox hg; obtain ⟨hcz47_0, hcz47_1, hcz47_2, hcz47_3, hcz47_4, hfz47_0, hfz47_1, hfz47_2, hfz47_3, hfz47_4⟩ := cells_5 BK190.out))
       go_ret
       exact ⟨by first | rfl | (simp [errW_none, errW_some] <;> rfl) | (simp [*, errW_none, errW_some] <;> rfl), by repeat (first | (with_reducible first | exact HB.out | apply below_alloc | apply pw_below_drewN | apply below_drew1 | refine below_set ?_ GE190.out) | exact HB.out)⟩
     ·rw [if_neg c39] at H
      have c39b0 : (a0_0 == 4) = false := beq_eq_false_iff_ne.mpr c39
      have c39b1 : (a0_0 != 4) = true := bne_iff_ne.mpr c39
      obtain rfl := Option.some.inj H
      go_enter Tryz.func99, Tryz.ntmps99
      go_wp2_with (first | ((with_reducible refine gate_dst (N := 1) rfl ?_); (try (refine gate_guard (by rfl) ?_; dsimp only)); refine box_event ?hg (N := 1) ?hd (cs := #[.int .u8 a0_0, .string a0_1, .int .i64 a0_2, .slice A0_3 l0_3.length c0_3, .slice A0_4 l0_4.length c0_4]) (t := 43) ?hr ?_; (case hd => rfl); (case hg => rfl); (case hr => first | (go_simp; done) | (go_simp; rfl)); intro gb190 hg w48 hbox hb; have n0_ := Aside0.mk (below_step (belS HB.out) hb); have n1_ := Aside0.mk (hbox); have n2_ := Aside0.mk ((by rw [hg]; exact (below_size (belS HB.out)) : w.heap.size ≤ gb190)); have n3_ := Aside0.mk ((by rw [hg]; exact (below_size (belS HB.out)) : w.heap.size ≤ gb190)); clear HB; have HB := n0_; have BK190 := n1_; have GW190 := n2_; have GE190 := n3_; clear n0_ n1_ n2_ n3_; clear hb hbox hg; obtain ⟨hcz49_0, hcz49_1, hcz49_2, hcz49_3, hcz49_4, hfz49_0, hfz49_1, hfz49_2, hfz49_3, hfz49_4⟩ := cells_5 BK190.out))
      go_ret
      exact ⟨by first | rfl | (simp [errW_none, errW_some] <;> rfl) | (simp [*, errW_none, errW_some] <;> rfl), by repeat (first | (with_reducible first | exact HB.out | apply below_alloc | apply pw_below_drewN | apply below_drew1 | refine below_set ?_ GE190.out) | exact HB.out)⟩
end Go.Proofs.YtniibpndgcndbaaGreatDoor.PB
namespace Go.Proofs.YtniibpndgcndbaaGreatDoor.Tpl
inductive Vals where
  | nil
  | cons (k : Nat) (t : S) (n : Int) (i : Vals) (m : List S) (r : Vals)
namespace Vals
def len : Vals → Nat | nil => 0 | cons _ _ _ _ _ r => r.len + 1
def cnt : Vals → Nat | nil => 0 | cons _ _ _ i _ r => 1 + i.cnt + r.cnt
def app : Vals → Vals → Vals | nil, y => y | cons k t n i m r, y => cons k t n i m (r.app y)
def drop : Vals → Nat → Vals
  | l, 0 => l
  | nil, _ + 1 => nil
  | cons _ _ _ _ _ r, i + 1 => r.drop i
def risingQ : Option S → List S → Bool
  | _, [] => true
  | p, s :: r => nameP s && (match p with | none => true | some q => decide (q < s)) && risingQ (some s) r
def risingP (l : List S) : Bool := risingQ none l
def leafV (k : Nat) (t : S) (n : Int) (items : Nat) (m : List S) : Bool :=
  if k = 1 then decide (t.length ≤ 4096) && n == 0 && items + m.length == 0
  else if k = 3 then (n == 0 || n == 1) && t.isEmpty && items + m.length == 0
  else if k = 2 then t.isEmpty && items + m.length == 0
  else if k = 5 then t.isEmpty && n == 0 && m.length == items && risingP m
  else if k = 4 then t.isEmpty && n == 0 && m.length == 0
  else false
def inV : Vals → Nat → Int × Bool → Int × Bool
  | nil, _, c => c
  | cons k t n i m r, lv, c => if c.2 then c else
      let c1 := if lv == 0 || decide (c.1 - 1 < 0) || !leafV k t n i.len m then (c.1 - 1, true) else inV i (lv - 1) (c.1 - 1, false)
      inV r lv c1
def okV : Vals → Nat → Bool
  | nil, _ => true
  | cons k t n i m r, lv => lv != 0 && leafV k t n i.len m && okV i (lv - 1) && okV r lv
theorem inV_bad (l : Vals) : ∀ lv c, c.2 = true → inV l lv c = c := by
  cases l with
  | nil => intro lv c _; rfl
  | cons k t n i m r => intro lv c h; unfold inV; rw [if_pos h]
theorem inV_ok (l : Vals) : ∀ lv x, (0 ≤ x) → (okV l lv = true ∧ (l.cnt : Int) ≤ x → inV l lv (x, false) = (x - l.cnt, false)) ∧ (¬ (okV l lv = true ∧ (l.cnt : Int) ≤ x) → (inV l lv (x, false)).2 = true) := by
  induction l with
  | nil => intro lv x hx; simp [inV, okV, cnt, hx]
  | cons k t n i m r ihi ihr =>
    intro lv x hx
    by_cases c1 : (lv == 0 || decide (x - 1 < 0) || !leafV k t n i.len m) = true
    · have e : inV (cons k t n i m r) lv (x, false) = (x - 1, true) := by
        unfold inV
        simp only [Bool.false_eq_true, if_false, c1, if_true]
        exact inV_bad r lv _ rfl
      rw [e]
      refine ⟨fun h => ?_, fun _ => rfl⟩
      simp only [okV, cnt, Bool.and_eq_true, bne_iff_ne] at h
      simp only [Bool.or_eq_true, beq_iff_eq, decide_eq_true_eq, Bool.not_eq_true'] at c1
      obtain ⟨⟨⟨⟨h1, h2⟩, h3⟩, h4⟩, h5⟩ := h
      rcases c1 with (c1 | c1) | c1
      · exact absurd c1 h1
      · omega
      · rw [h2] at c1; cases c1
    · have c1' : (lv == 0 || decide (x - 1 < 0) || !leafV k t n i.len m) = false := by simpa using c1
      have e : inV (cons k t n i m r) lv (x, false) = inV r lv (inV i (lv - 1) (x - 1, false)) := by
        conv => lhs; unfold inV
        simp only [Bool.false_eq_true, if_false, c1']
      simp only [Bool.or_eq_false_iff, beq_eq_false_iff_ne, decide_eq_false_iff_not, Bool.not_eq_false'] at c1'
      obtain ⟨⟨h1, h2⟩, h3⟩ := c1'
      rw [e]
      obtain ⟨a1, a2⟩ := ihi (lv - 1) (x - 1) (by omega)
      have h0 : (lv != 0) = true := by simpa using h1
      have hok : okV (cons k t n i m r) lv = (okV i (lv - 1) && okV r lv) := by simp only [okV, h0, h3, Bool.true_and]
      by_cases ca : okV i (lv - 1) = true ∧ (i.cnt : Int) ≤ x - 1
      · rw [a1 ca]
        obtain ⟨b1, b2⟩ := ihr lv (x - 1 - i.cnt) (by omega)
        rw [hok, ca.1, Bool.true_and]
        simp only [cnt]
        refine ⟨fun h => ?_, fun h => b2 (fun hb => h ⟨hb.1, by omega⟩)⟩
        rw [b1 ⟨h.1, by omega⟩]
        congr 1
        omega
      · have hb := a2 ca
        rw [inV_bad r lv _ hb]
        refine ⟨fun h => ?_, fun _ => hb⟩
        rw [hok] at h
        simp only [Bool.and_eq_true, cnt] at h
        exact absurd ⟨h.1.1, by omega⟩ ca
def fitsV (l : Vals) : Bool := okV l 8 && decide (l.cnt ≤ 256)
theorem inV_fits (l : Vals) : (inV l 8 (256, false)).2 = !fitsV l := by
  obtain ⟨h1, h2⟩ := inV_ok l 8 256 (by decide)
  unfold fitsV
  by_cases h : okV l 8 = true ∧ (l.cnt : Int) ≤ 256
  · rw [h1 h, h.1, decide_eq_true (by omega)]; rfl
  · rw [h2 h]
    have : (okV l 8 && decide (l.cnt ≤ 256)) = false := by
      rw [← Bool.not_eq_true, Bool.and_eq_true, decide_eq_true_eq]
      rintro ⟨g1, g2⟩
      exact h ⟨g1, by omega⟩
    rw [this]; rfl
def sm : Vals → Prop
  | nil => True
  | cons k t n i m r => k < 256 ∧ t.length ≤ 1048576 ∧ (-9223372036854775808 ≤ n ∧ n ≤ 9223372036854775807) ∧ i.len ≤ 1048576 ∧ m.length ≤ 1048576 ∧ (∀ s, s ∈ m → s.length ≤ 1048576) ∧ i.sm ∧ r.sm
end Vals
end Go.Proofs.YtniibpndgcndbaaGreatDoor.Tpl
namespace Go.Proofs.YtniibpndgcndbaaGreatDoor.Tpl
open Go.RowKit Go.Proofs.YtniibpndgcndbaaGreatDoor.PB Go.Proofs.YtniibpndgcndbaaGreatDoor.Short Go.Proofs.YtniibpndgcndbaaGreatDoorW.PrintWords Go.Proofs.YtniibpndgcndbaaGreatDoorW.PrintLast Go.Proofs.YtniibpndgcndbaaGreatDoorW.PrintMore
abbrev SN := S37
abbrev ST := S101
abbrev kN : Kd SN := k37
abbrev kT : Kd ST := k101
def bs (s : S) : ByteArray := ⟨s.toArray⟩
def sv (s : S) : Value := .string (bs s)
theorem bs_size (s : S) : (bs s).size = s.length := by simp [bs, ByteArray.size]
theorem bs_list (s : S) : (bs s).toList = s := by unfold bs; exact ByteArray.toList_mk s
namespace Nodes
def of : Nodes → List SN
  | nil => []
  | cons k t p a b r => ⟨k, bs t, p.map bs, a.of, b.of⟩ :: r.of
def drop : Nodes → Nat → Nodes
  | l, 0 => l
  | nil, _ + 1 => nil
  | cons _ _ _ _ _ r, i + 1 => r.drop i
theorem of_len (l : Nodes) : l.of.length = l.len := by
  induction l with
  | nil => rfl
  | cons k t p a b r _ _ ih => simp [of, len, ih]
theorem drop_zero (l : Nodes) : l.drop 0 = l := by cases l <;> rfl
theorem drop_len (l : Nodes) : ∀ i, (l.drop i).len = l.len - i := by
  induction l with
  | nil => intro i; cases i <;> simp [drop, len]
  | cons k t p a b r _ _ ih => intro i; cases i <;> simp [drop, len, ih]
theorem drop_step {l : Nodes} : ∀ {i k t p a b r}, l.drop i = cons k t p a b r → i < l.len ∧ l.drop (i + 1) = r ∧ rd_T37 l.of i = ⟨k, bs t, p.map bs, a.of, b.of⟩ := by
  induction l with
  | nil => intro i k t p a b r h; cases i <;> simp [drop] at h
  | cons k' t' p' a' b' r' _ _ ih =>
    intro i k t p a b r h
    cases i with
    | zero =>
      simp only [drop, cons.injEq] at h
      obtain ⟨rfl, rfl, rfl, rfl, rfl, rfl⟩ := h
      exact ⟨by simp [len], by simp [drop], rfl⟩
    | succ i =>
      obtain ⟨h1, h2, h3⟩ := ih h
      refine ⟨by simp [len]; exact h1, h2, ?_⟩
      rw [← h3]
      unfold rd_T37
      have e : ((i : Int) + 1).toNat = (i : Int).toNat + 1 := by omega
      simp [of, e]
theorem drop_nil {l : Nodes} {i : Nat} (h : l.drop i = nil) : l.len ≤ i := by
  have := drop_len l i
  rw [h] at this
  simp only [len] at this
  omega
theorem isNil_len (l : Nodes) : l.isNil = decide (l.len = 0) := by cases l <;> simp [isNil, len]
def sm : Nodes → Prop
  | nil => True
  | cons k t p a b r => k < 256 ∧ t.length ≤ 1048576 ∧ p.length ≤ 1048576 ∧ (∀ s, s ∈ p → s.length ≤ 1048576) ∧ a.len ≤ 1048576 ∧ b.len ≤ 1048576 ∧ a.sm ∧ b.sm ∧ r.sm
theorem sm_drop {l : Nodes} (h : l.sm) : ∀ i, (l.drop i).sm := by
  induction l with
  | nil => intro i; cases i <;> exact trivial
  | cons k t p a b r _ _ ih =>
    intro i
    cases i with
    | zero => exact h
    | succ i => exact ih h.2.2.2.2.2.2.2.2 i
theorem cnt_drop (l : Nodes) : ∀ i, (l.drop i).cnt ≤ l.cnt := by
  induction l with
  | nil => intro i; cases i <;> simp [drop]
  | cons k t p a b r _ _ ih =>
    intro i
    cases i with
    | zero => exact Nat.le_refl _
    | succ i => have := ih i; simp only [drop, cnt]; omega
def Rd (w : World) (A : Option Addr) (c : Nat) (l : Nodes) : Prop := kN.C w A l.len l.of ∧ l.len ≤ c
theorem Rd.below {w w1 : World} {A : Option Addr} {c : Nat} {l : Nodes} (h : Rd w A c l) (hb : Below w.heap.size w w1) : Rd w1 A c l := ⟨Kd.C_below h.1 hb, h.2⟩
theorem Rd.at {w : World} {A : Option Addr} {c : Nat} {l : Nodes} (h : Rd w A c l) {i : Nat} {k t p a b r} (hd : l.drop i = cons k t p a b r) :
    ∃ ad A2 c2 A3 c3 A4 c4, A = some ad ∧ w.cell? (ad.add (i * 5)) = some (.int .u8 k) ∧ w.cell? ⟨(ad.add (i * 5)).block, (ad.add (i * 5)).off + 1, none⟩ = some (.string (bs t)) ∧ w.cell? ⟨(ad.add (i * 5)).block, (ad.add (i * 5)).off + 2, none⟩ = some (.slice A2 p.length c2) ∧
      w.cell? ⟨(ad.add (i * 5)).block, (ad.add (i * 5)).off + 3, none⟩ = some (.slice A3 a.len c3) ∧ w.cell? ⟨(ad.add (i * 5)).block, (ad.add (i * 5)).off + 4, none⟩ = some (.slice A4 b.len c4) ∧
      Kd.string.C w A2 p.length (p.map bs) ∧ p.length ≤ c2 ∧ Rd w A3 c3 a ∧ Rd w A4 c4 b := by
  obtain ⟨h1, _, h3⟩ := drop_step hd
  have hq : ((i : Int) < l.len) := by omega
  obtain ⟨ad, A2, c2, A3, c3, A4, c4, e, x0, x1, x2, x3, x4, l2, i2, l3, i3, l4, i4⟩ := at_T37 h.1 (i : Int) (by omega) hq
  rw [h3] at x0 x1 x2 x3 x4 l2 i2 l3 i3 l4 i4
  simp only [Int.toNat_natCast, List.length_map, of_len] at x0 x1 x2 x3 x4 l2 i2 l3 i3 l4 i4
  exact ⟨ad, A2, c2, A3, c3, A4, c4, e, x0, x1, x2, x3, x4, i2, l2, ⟨i3, l3⟩, ⟨i4, l4⟩⟩
end Nodes
end Go.Proofs.YtniibpndgcndbaaGreatDoor.Tpl
namespace Go.Proofs.YtniibpndgcndbaaGreatDoor.Tpl
set_option linter.unusedSimpArgs false
open Go.RowKit Go.Proofs.YtniibpndgcndbaaGreatDoor.PB Go.Proofs.YtniibpndgcndbaaGreatDoor.Short Go.Proofs.YtniibpndgcndbaaGreatDoorW.PrintWords Go.Proofs.YtniibpndgcndbaaGreatDoorW.PrintLast Go.Proofs.YtniibpndgcndbaaGreatDoorW.PrintMore Nodes
theorem bt_bs (s : S) (i : Nat) (h : i < s.length) : bt (bs s) (i : Int) = ((s.getD i 0).toNat : Int) := by
  have h2 : i < (bs s).size := by rw [bs_size]; exact h
  unfold bt
  rw [dif_pos (by simpa using h2)]
  simp only [Int.toNat_natCast]
  congr 2
  show (bs s).data[i] = _
  simp [bs, List.getD, h]
theorem w64 (i : Nat) (h : i ≤ 1048577) : wrap64 ((i : Int) + 1) = ((i + 1 : Nat) : Int) := by unfold wrap64; omega
theorem drop_get (s : S) (i : Nat) (h : i < s.length) : s.drop i = s.getD i 0 :: s.drop (i + 1) := by
  rw [List.drop_eq_getElem_cons h]; simp [List.getD, h]
theorem nameC_t (n : UInt8) (f : Bool) : nameC f n = (decide ((97 : Int) ≤ n.toNat) && decide ((n.toNat : Int) ≤ 122) || (!f && (decide ((n.toNat : Int) = 95) || (decide ((48 : Int) ≤ n.toNat) && decide ((n.toNat : Int) ≤ 57))))) := by
  unfold nameC
  congr 1
  · congr 1 <;> (rw [decide_eq_decide]; omega)
  · congr 2
    · rw [Bool.eq_iff_iff]; simp; omega
    · congr 1 <;> (rw [decide_eq_decide]; omega)
theorem named_l0 (s : S) (hs : s.length ≤ 1048576) : ∀ d i, s.length - i = d → i ≤ s.length → bellmanref09_Named.l0 (d + 1) (bs s) (i : Int) = some (nameL (i == 0) (s.drop i) && (!s.isEmpty && decide (s.length ≤ 32))) := by
  intro d
  induction d with
  | zero =>
    intro i h1 h2
    obtain rfl : i = s.length := by omega
    unfold bellmanref09_Named.l0
    rw [if_neg (by rw [bs_size]; omega), List.drop_length]
    simp only [nameL, Bool.true_and, bs_list, bs_size]
    cases s with
    | nil => rfl
    | cons c r => rw [if_neg (by simp)]; simp only [List.isEmpty_cons, Bool.not_false, Bool.true_and]; congr 1; rw [decide_eq_decide]; omega
  | succ d ih =>
    intro i h1 h2
    have hi : i < s.length := by omega
    unfold bellmanref09_Named.l0
    rw [if_pos (by rw [bs_size]; omega), if_pos (by omega), bt_bs s i hi, w64 i (by omega), ih (i + 1) (by omega) (by omega), drop_get s i hi]
    simp only [nameL, show ((i + 1 == 0) : Bool) = false from by simp, nameC_t]
    generalize s.getD i 0 = n
    by_cases c0 : i = 0
    · subst c0
      by_cases c1 : (97 : Int) ≤ n.toNat
      · by_cases c2 : (n.toNat : Int) ≤ 122
        · simp [c1, c2]
        · simp [c1, c2]
      · simp [c1]
    · have c0' : ¬ ((i : Int) = 0) := by omega
      have c0'' : (i == 0) = false := by simp [c0]
      by_cases c1 : (97 : Int) ≤ n.toNat
      · by_cases c2 : (n.toNat : Int) ≤ 122
        · simp [c1, c2]
        · rcases (by omega : (n.toNat : Int) < 48 ∨ (48 : Int) ≤ n.toNat) with c6 | c6
          · have c6' : ¬ (48 : Int) ≤ n.toNat := by omega
            by_cases c5 : (n.toNat : Int) = 95
            · omega
            · simp [c0, c1, c2, c0', c0'', c5, c6, c6']
          · have c6' : ¬ (n.toNat : Int) < 48 := by omega
            have c6'' : (48 : Int) ≤ n.toNat := c6
            rcases (by omega : (57 : Int) < n.toNat ∨ (n.toNat : Int) ≤ 57) with c7 | c7
            · have c7' : ¬ (n.toNat : Int) ≤ 57 := by omega
              by_cases c5 : (n.toNat : Int) = 95
              · simp [c0, c1, c2, c0', c0'', c5]
              · simp [c0, c1, c2, c0', c0'', c5, c6', c6'', c7, c7']
            · have c7' : ¬ (57 : Int) < n.toNat := by omega
              have c7'' : (n.toNat : Int) ≤ 57 := c7
              by_cases c5 : (n.toNat : Int) = 95
              · omega
              · simp [c0, c1, c2, c0', c0'', c5, c6', c6'', c7', c7'']
      · rcases (by omega : (n.toNat : Int) < 48 ∨ (48 : Int) ≤ n.toNat) with c6 | c6
        · have c6' : ¬ (48 : Int) ≤ n.toNat := by omega
          by_cases c5 : (n.toNat : Int) = 95
          · omega
          · simp [c0, c1, c0', c0'', c5, c6, c6']
        · have c6' : ¬ (n.toNat : Int) < 48 := by omega
          have c6'' : (48 : Int) ≤ n.toNat := c6
          rcases (by omega : (57 : Int) < n.toNat ∨ (n.toNat : Int) ≤ 57) with c7 | c7
          · have c7' : ¬ (n.toNat : Int) ≤ 57 := by omega
            by_cases c5 : (n.toNat : Int) = 95
            · simp [c0, c1, c0', c0'', c5]
            · simp [c0, c1, c0', c0'', c5, c6', c6'', c7, c7']
          · have c7' : ¬ (57 : Int) < n.toNat := by omega
            have c7'' : (n.toNat : Int) ≤ 57 := c7
            by_cases c5 : (n.toNat : Int) = 95
            · omega
            · simp [c0, c1, c0', c0'', c5, c6', c6'', c7', c7'']
theorem named_f (s : S) (hs : s.length ≤ 1048576) : ∃ k, bellmanref09_Named.f k (bs s) = some (nameP s) := by
  refine ⟨s.length + 1, ?_⟩
  unfold bellmanref09_Named.f
  have := named_l0 s hs s.length 0 (by omega) (by omega)
  rw [show ((0 : Nat) : Int) = 0 from rfl] at this
  rw [this]
  unfold nameP
  simp only [beq_self_eq_true, List.drop_zero]
  congr 1
  cases nameL true s <;> simp
theorem name_l0 (s : S) (hs : s.length ≤ 1048576) : ∀ d i, s.length - i = d → i ≤ s.length → value_Name.l0 (2 * d + 1) (bs s) (s.length : Int) (i : Int) = some (if nameL (i == 0) (s.drop i) = true then 0 else 13) := by
  intro d
  induction d with
  | zero =>
    intro i h1 h2
    obtain rfl : i = s.length := by omega
    unfold value_Name.l0
    rw [if_neg (by omega), List.drop_length]
    simp [nameL]
  | succ d ih =>
    intro i h1 h2
    have hi : i < s.length := by omega
    have ih' := ih (i + 1) (by omega) (by omega)
    rw [show 2 * (d + 1) + 1 = (2 * d + 1 + 1) + 1 from by omega]
    unfold value_Name.l0
    rw [if_pos (by omega), if_pos (by omega), if_pos (by rw [bs_size]; omega), bt_bs s i hi, drop_get s i hi]
    simp only [value_Name.j2, w64 i (by omega), ih', nameL, show ((i + 1 == 0) : Bool) = false from by simp, nameC_t]
    generalize s.getD i 0 = n
    by_cases c0 : i = 0
    · subst c0
      by_cases c1 : (97 : Int) ≤ n.toNat
      · by_cases c2 : (n.toNat : Int) ≤ 122
        · simp [c1, c2]
        · simp [c1, c2]
      · simp [c1]
    · have c0' : (i : Int) > 0 := by omega
      have c0'' : (i == 0) = false := by simp [c0]
      have c3 : ¬ (i = 0) := c0
      by_cases c1 : (97 : Int) ≤ n.toNat
      · by_cases c2 : (n.toNat : Int) ≤ 122
        · simp [c1, c2]
        · have c4 : 0 < i := by omega
          rcases (by omega : (n.toNat : Int) < 48 ∨ (48 : Int) ≤ n.toNat) with c6 | c6
          · have c6' : ¬ (48 : Int) ≤ n.toNat := by omega
            by_cases c5 : (n.toNat : Int) = 95
            · omega
            · simp [c1, c2, c0', c0'', c4, c5, c6, c6']
          · have c6' : ¬ (n.toNat : Int) < 48 := by omega
            have c6'' : (48 : Int) ≤ n.toNat := c6
            rcases (by omega : (57 : Int) < n.toNat ∨ (n.toNat : Int) ≤ 57) with c7 | c7
            · have c7' : ¬ (n.toNat : Int) ≤ 57 := by omega
              by_cases c5 : (n.toNat : Int) = 95
              · simp [c1, c2, c0', c0'', c4, c5]
              · simp [c1, c2, c0', c0'', c4, c5, c6', c6'', c7, c7']
            · have c7' : ¬ (57 : Int) < n.toNat := by omega
              have c7'' : (n.toNat : Int) ≤ 57 := c7
              by_cases c5 : (n.toNat : Int) = 95
              · omega
              · simp [c1, c2, c0', c0'', c4, c5, c6', c6'', c7', c7'']
      · have c4 : 0 < i := by omega
        rcases (by omega : (n.toNat : Int) < 48 ∨ (48 : Int) ≤ n.toNat) with c6 | c6
        · have c6' : ¬ (48 : Int) ≤ n.toNat := by omega
          by_cases c5 : (n.toNat : Int) = 95
          · omega
          · simp [c1, c0', c0'', c4, c5, c6, c6']
        · have c6' : ¬ (n.toNat : Int) < 48 := by omega
          have c6'' : (48 : Int) ≤ n.toNat := c6
          rcases (by omega : (57 : Int) < n.toNat ∨ (n.toNat : Int) ≤ 57) with c7 | c7
          · have c7' : ¬ (n.toNat : Int) ≤ 57 := by omega
            by_cases c5 : (n.toNat : Int) = 95
            · simp [c1, c0', c0'', c4, c5]
            · simp [c1, c0', c0'', c4, c5, c6', c6'', c7, c7']
          · have c7' : ¬ (57 : Int) < n.toNat := by omega
            have c7'' : (n.toNat : Int) ≤ 57 := c7
            by_cases c5 : (n.toNat : Int) = 95
            · omega
            · simp [c1, c0', c0'', c4, c5, c6', c6'', c7', c7'']
theorem name_f (s : S) (hs : s.length ≤ 1048576) : ∃ k, value_Name.f k (bs s) = some (if nameP s = true then 0 else 13) := by
  refine ⟨2 * s.length + 2, ?_⟩
  unfold value_Name.f nameP
  simp only [bs_list, bs_size]
  have := name_l0 s hs s.length 0 (by omega) (by omega)
  rw [show ((0 : Nat) : Int) = 0 from rfl] at this
  cases s with
  | nil => simp [value_Name.j0]
  | cons c r =>
    rw [if_neg (by simp)]
    by_cases h : (c :: r).length ≤ 32
    · have h' : decide (((c :: r).length : Int) > 32) = false := by simp; simp at h; omega
      rw [h']
      simp only [value_Name.j0, Bool.false_eq_true, if_false, bs_size, this, beq_self_eq_true, List.drop_zero, List.isEmpty_cons, Bool.not_false, Bool.true_and, decide_eq_true h]
    · have h' : decide (((c :: r).length : Int) > 32) = true := by simp; simp at h; omega
      rw [h']
      simp only [value_Name.j0, if_true, List.isEmpty_cons, Bool.not_false, Bool.true_and, decide_eq_false h, Bool.false_and, Bool.false_eq_true, if_false]
def ownP (s : S) : Nat := if s = ifS then 3 else if s = elseS then 4 else if s = eachS then 5 else if s = endS then 6 else 2
theorem own_f (s : S) : scan_own.f 5 (bs s) = some (ownP s : Int) := by
  by_cases h1 : s = [105, 102]
  · subst h1; kernel_rfl
  by_cases h2 : s = [101, 108, 115, 101]
  · subst h2; kernel_rfl
  by_cases h3 : s = [101, 97, 99, 104]
  · subst h3; kernel_rfl
  by_cases h4 : s = [101, 110, 100]
  · subst h4; kernel_rfl
  unfold scan_own.f
  have e1 : ¬ (([105, 102] : S) = s) := fun h => h1 h.symm
  have e2 : ¬ (([101, 108, 115, 101] : S) = s) := fun h => h2 h.symm
  have e3 : ¬ (([101, 97, 99, 104] : S) = s) := fun h => h3 h.symm
  have e4 : ¬ (([101, 110, 100] : S) = s) := fun h => h4 h.symm
  have m1 : (⟨#[105, 102]⟩ : ByteArray).toList = [105, 102] := bs_list [105, 102]
  have m2 : (⟨#[101, 108, 115, 101]⟩ : ByteArray).toList = [101, 108, 115, 101] := bs_list _
  have m3 : (⟨#[101, 97, 99, 104]⟩ : ByteArray).toList = [101, 97, 99, 104] := bs_list _
  have m4 : (⟨#[101, 110, 100]⟩ : ByteArray).toList = [101, 110, 100] := bs_list _
  unfold scan_own.l0
  rw [if_pos (by decide)]
  simp only [scan_words.f, if_true, Option.bind_some, m1, bs_list, if_neg e1, show ((3 : Int) + 1) % 256 = 4 from by decide]
  unfold scan_own.l0
  rw [if_pos (by decide)]
  simp only [scan_words.f, show ((4 : Int) = 3) = False from by simp, show ((4 : Int) = 5) = False from by simp, if_false, if_true, Option.bind_some, m2, bs_list, if_neg e2, show ((4 : Int) + 1) % 256 = 5 from by decide]
  unfold scan_own.l0
  rw [if_pos (by decide)]
  simp only [scan_words.f, show ((5 : Int) = 3) = False from by simp, if_false, if_true, Option.bind_some, m3, bs_list, if_neg e3, show ((5 : Int) + 1) % 256 = 6 from by decide]
  unfold scan_own.l0
  rw [if_pos (by decide)]
  simp only [scan_words.f, show ((6 : Int) = 3) = False from by simp, show ((6 : Int) = 5) = False from by simp, show ((6 : Int) = 4) = False from by simp, if_false, if_true, Option.bind_some, m4, bs_list, if_neg e4, show ((6 : Int) + 1) % 256 = 7 from by decide]
  unfold scan_own.l0
  rw [if_neg (by decide)]
  unfold ownP ifS elseS eachS endS
  rw [if_neg h1, if_neg h2, if_neg h3, if_neg h4]
  rfl
theorem own_special (s : S) : special s = (ownP s != 2) := by
  unfold special ownP
  by_cases h1 : s = ifS
  · simp [h1]
  by_cases h2 : s = elseS
  · simp [h1, h2]; subst h2; decide
  by_cases h3 : s = eachS
  · subst h3; decide
  by_cases h4 : s = endS
  · subst h4; decide
  simp [h1, h2, h3, h4]
theorem rd_map (p : List S) (i : Nat) (h : i < p.length) : rdOf ByteArray.empty (p.map bs) (i : Int) = bs (p.getD i []) := by
  unfold rdOf
  simp [List.getD, h]
end Go.Proofs.YtniibpndgcndbaaGreatDoor.Tpl
